/- Orders, by the document. -/
import Derived.Test.YtkjloeefcaadlaaP32
set_option linter.unusedSimpArgs false
set_option linter.unusedVariables false
namespace Go.Proofs.Ytkjloeefcaadlaa
open Go.RowKit Go.Shelf Go.Cs
attribute [local go_sem] Oper.semAt_some
theorem info103 : (Try.prog.info? 103).map (·.size) = some 8 := by kernel_rfl
theorem run_neq_answer {o : Oper} {a : Act} {w : World} (x y : Operand) (ho : o.op = .binOp .neq 89 x y 89) (s s' : Int) (b b' : Bool) (hx : a.eval x = .agg (aCs s b).toArray) (hy : a.eval y = .agg (aCs s' b').toArray) :
    (execOp a.eval o).run Try.prog w = .ok (.value (.bool (!(s == s' && b == b')))) w := by
  have he := eq_answer 9998 s s' b b' w
  unfold execOp
  simp only [ho, hx, hy, Sem.run_bind, run_eqGuard_agg w .neq 89 x y _ _ guard89, Result.andThen_ok, run_neq_struct w 89 _ _]
  rw [show (10000 : Nat) = 9998 + 2 from rfl, he]
  simp
theorem dV_ones (n left : Nat) : ∀ u ∈ dV n left, u.oneCell' = true := by
  intro u hu
  unfold dV at hu
  obtain ⟨k, _, rfl⟩ := List.mem_map.1 hu
  rfl
theorem dV_set {n left i : Nat} (h8 : n ≤ 8) (hi : i < n) (hl : left < 256) (hb : bit left i = true) : (dV n left).set i (.bool true) = dV n (left - 2 ^ i) := by
  apply List.ext_getElem (by simp [dV])
  intro k h1 h2
  have hk : k < 8 := by simpa [dV] using h2
  rw [List.getElem_set]
  have hbf := bit_fin ⟨left, hl⟩ ⟨i, by omega⟩ ⟨k, hk⟩ hb
  dsimp only at hbf
  simp only [dV, List.getElem_map, List.getElem_range, hbf]
  by_cases e : i = k
  · subst e
    simp [hi]
  · rw [if_neg e]
    have : k ≠ i := fun h => e h.symm
    simp [this]
def overTo (H : List Mo) (left q : Nat) : Bool := (List.range q).all fun k => !(bit left k && decide ((H.getD k .no).en ≠ -1))
theorem overTo_succ (H : List Mo) (left q : Nat) : overTo H left (q + 1) = (overTo H left q && !(bit left q && decide ((H.getD q .no).en ≠ -1))) := by
  unfold overTo
  rw [List.range_succ, List.all_append]
  simp
def FromAtR (hh : Value) (H : List Mo) (tw f : Nat) : Prop := ∀ (x left : Nat) (w : World), ReadsF w hh H.length 8 (mosF H) → rightB x = true → left < 256 → cnt left < f →
  Calls Try.prog 103 #[.int .u64 x, hh, .agg (dV H.length left).toArray, .int .u64 tw] w fun e w' => e = .returned (.bool (fromM DS H tw f x left)) ∧ New w w'
set_option maxRecDepth 100000 in
set_option maxHeartbeats 16000000 in
theorem orders_step (hh : Value) (H : List Mo) (tw f : Nat) (h8 : H.length ≤ 8) (hI : FromAtR hh H tw f) : FromAtR hh H tw (f + 1) := by
  intro x left w hv hx hl hcnt
  have HI := Lib.hid hI
  have HV := Lib.hid hv
  have Hx := Lib.hid hx
  have HR := Lib.hid (fun i W (hi : i < H.length) (hW : New w W) => ready_ref hh H i left W (hv.new hW) h8 hi)
  have HDo := Lib.hid (fun (p : Dn) W => does_refR x hx p W)
  obtain ⟨_, ao, hc, rfl, hcc⟩ := hv
  obtain ⟨r, hr⟩ : ∃ r, fromM DS H tw (f + 1) x left = r := ⟨_, rfl⟩
  have Hr := Lib.hid hr
  rw [hr]
  have HC := Lib.hid (fun k (hk : k < H.length) => hcc k hk)
  have HoverM : Hid (overTo H left H.length = overM H left) := Lib.hid rfl
  obtain ⟨n, hn⟩ : ∃ n, H.length = n := ⟨_, rfl⟩
  have Hn := Lib.hid hn
  rw [hn] at HC HR h8 HV HoverM ⊢
  have Hcnt := Lib.hid hcnt
  clear hcc hr hI hx hcnt
  have hD0 := World.alloc_heap_new w (.cells (dV n left).toArray 103)
  have hN0 : New w (w.alloc (.cells (dV n left).toArray 103)) := (Mods.refl _ _).alloc _
  obtain ⟨W0, hW0⟩ : ∃ W, w.alloc (.cells (dV n left).toArray 103) = W := ⟨_, rfl⟩
  rw [hW0] at hD0 hN0
  have HN0 := Lib.hid hN0
  have HD0 := Lib.hid hD0
  obtain ⟨DL, hDL⟩ : ∃ L, dV n left = L := ⟨_, rfl⟩
  have HDL := Lib.hid hDL
  rw [hDL] at hW0 ⊢
  clear hDL hD0 hN0
  go_enter Try.func103, Try.ntmps103
  go_wp2_with fail
  try rw [hW0]
  clear hW0
  go_loopw [9, 10] (fun c9 c10 wr => ∃ k : Nat, k ≤ n ∧ c9 = .bool (overTo H left k) ∧ c10 = .int .i64 (k : Nat) ∧ New W0 wr) (fun _ c _ => n - (intOf c).toNat)
  case atStart => exact ⟨0, Nat.zero_le _, rfl, rfl, Mods.refl _ _⟩
  case round =>
    obtain ⟨k, hk, rfl, rfl, hNr⟩ := hrel
    by_cases hkn : k < n
    · have hkd : decide ((k : Int) < (n : Int)) = true := decide_eq_true (by omega)
      have k0 : (0 : Int) ≤ (k : Int) := by omega
      have k1 : (k : Int) < (n : Int) := by omega
      have k8 : (k : Int) < 8 := by omega
      have cd := dV_at (hNr.heap HD0.out id) (k := k) (by omega)
      rw [decide_eq_true hkn, Bool.true_and] at cd
      obtain ⟨hb, ho, hae, hrd⟩ := HC.out k hkn
      have ce : wr.cell? ⟨hb, ho + k * 8 + 5, none⟩ = some (.int .i64 (H.getD k .no).en) := (HN0.out.trans hNr).cell (hrd 5 _ rfl) id
      have hos := overTo_succ H left k
      obtain ⟨en, hen⟩ : ∃ z, (H.getD k .no).en = z := ⟨_, rfl⟩
      obtain ⟨db, hdb⟩ : ∃ z, bit left k = z := ⟨_, rfl⟩
      obtain ⟨ov, hov⟩ : ∃ z, overTo H left k = z := ⟨_, rfl⟩
      rw [hen, hdb, hov] at hos
      rw [hen] at ce
      rw [hdb] at cd
      rw [hov]
      have Hos := Lib.hid hos
      subst hae
      clear hos hen hdb hov hrd
      cases ov with
      | false =>
        have hnx : overTo H left (k + 1) = false := by rw [Hos.out]; rfl
        go_wp2_with fail
        go_roundw
        case rel => exact ⟨k + 1, by omega, by rw [hnx], by go_num, hNr⟩
        case measure => simp [intOf]; omega
      | true =>
        cases db with
        | false =>
          have hnx : overTo H left (k + 1) = true := by rw [Hos.out]; rfl
          go_wp2_with fail
          go_roundw
          case rel => exact ⟨k + 1, by omega, by rw [hnx], by go_num, hNr⟩
          case measure => simp [intOf]; omega
        | true =>
          by_cases hee : en = -1
          · have e2 : (en == -1) = true := by rw [hee]; rfl
            have hnx : overTo H left (k + 1) = true := by rw [Hos.out]; simp [hee]
            clear hee
            go_wp2_with fail
            go_roundw
            case rel => exact ⟨k + 1, by omega, by rw [hnx], by go_num, hNr⟩
            case measure => simp [intOf]; omega
          · have e2 : (en == -1) = false := by rw [beq_eq_false_iff_ne]; exact hee
            have hnx : overTo H left (k + 1) = false := by rw [Hos.out]; simp [hee]
            go_wp2_with fail
            go_roundw
            case rel => exact ⟨k + 1, by omega, by rw [hnx], by go_num, hNr⟩
            case measure => simp [intOf]; omega
    · obtain rfl : n = k := by omega
      have hkd : decide ((n : Int) < (n : Int)) = false := decide_eq_false (by omega)
      rw [HoverM.out]
      obtain ⟨ov, hov⟩ : ∃ z, overM H left = z := ⟨_, rfl⟩
      rw [hov]
      have Hov := Lib.hid hov
      clear hov
      have HNr := Lib.hid (HN0.out.trans hNr)
      have hret : ov = true → (x : Int) = (tw : Int) → r = true := fun h1 h2 => by
        rw [← Hr.out, fromM_succ, Hov.out, h1, decide_eq_true (by omega)]
        rfl
      have Hret := Lib.hid hret
      have Hgo : Hid (¬ (ov = true ∧ (x : Int) = (tw : Int)) → r = ((List.range n).any fun i => cand H tw f x left i)) := Lib.hid (fun h => by
        rw [← Hr.out, fromM_succ, Hov.out, Hn.out]
        have : (decide (x = tw) && ov) = false := by
          cases ov with
          | false => simp
          | true =>
            have : x ≠ tw := fun e => h ⟨rfl, by rw [e]⟩
            simp [this]
        rw [this, Bool.false_or])
      clear hret
      have Hrest : Hid True := Lib.hid trivial
      go_upto_region 6 with fail
      by_cases hboth : ov = true ∧ (x : Int) = (tw : Int)
      · have hrt := Lib.hid (Hret.out hboth.1 hboth.2)
        obtain ⟨rfl, h2⟩ := hboth
        have e1 : ((x : Int) == (tw : Int)) = true := by rw [h2]; simp
        clear h2
        go_wp2_with fail
        go_ret
        exact ⟨by rw [hrt.out]; rfl, HNr.out⟩
      · have Hgo2 := Lib.hid (Hgo.out hboth)
        refine piece (fun a a' Wq => Hid (∃ u37 u38 u39 : Value, a' = (a.put (some 35) (.bool ov) |>.put (some 36) (.bool ov) |>.put (some 37) u37 |>.put (some 38) u38 |>.put (some 39) u39 |>.put (some 40) (.bool false)) ∧ Wq = wr)) ?_ ?_
        · cases ov with
          | false =>
            go_wp2_with fail
            first | exact Lib.hid ⟨_, _, _, rfl, rfl⟩ | exact Lib.hid ⟨⟨_, _, _, rfl⟩, rfl⟩ | exact Lib.hid ⟨_, ⟨_, ⟨_, rfl⟩, rfl⟩⟩
          | true =>
            have e1 : ((x : Int) == (tw : Int)) = false := by
              rw [beq_eq_false_iff_ne]
              exact fun h => hboth ⟨rfl, h⟩
            clear hboth
            go_wp2_with fail
            first | exact Lib.hid ⟨_, _, _, rfl, rfl⟩ | exact Lib.hid ⟨⟨_, _, _, rfl⟩, rfl⟩ | exact Lib.hid ⟨_, ⟨_, ⟨_, rfl⟩, rfl⟩⟩
        rintro a' Wq hhid
        obtain ⟨u37, u38, u39, rfl, rfl⟩ := hhid.out
        clear hhid
        simp only [Act.put, List.setIfInBounds_toArray, List.set_cons_succ, List.set_cons_zero]
        have hNq := hNr
        clear hboth
        go_wp2_with fail
        clear hNr
        go_loopw [11] (fun c11 wr => ∃ i : Nat, i ≤ n ∧ c11 = .int .i64 (i : Nat) ∧ Hid (∀ q, q < i → cand H tw f x left q = false) ∧ Hid (New W0 wr)) (fun c _ => n - (intOf c).toNat)
        case atStart => exact ⟨0, Nat.zero_le _, rfl, Lib.hid (fun q hq => by omega), Lib.hid hNq⟩
        case round =>
          obtain ⟨i, hi, rfl, hbef, hNr⟩ := hrel
          by_cases hin' : i < n
          · have hid : decide ((i : Int) < (n : Int)) = true := decide_eq_true (by omega)
            have i0 : (0 : Int) ≤ (i : Int) := by omega
            have i1 : (i : Int) < (n : Int) := by omega
            have i8 : (i : Int) < 8 := by omega
            obtain ⟨hb, ho, hae, hrd0⟩ := HC.out i hin'
            have hRi := HR.out i wr hin' (HN0.out.trans hNr.out)
            rw [HDL.out] at hRi
            subst hae
            have hD6 : wr.heap[w.heap.size]? = some (.cells DL.toArray 103 (0, 0)) := by
              have := hNr.out.heap HD0.out id
              rw [HDL.out] at this
              exact this
            have hi103 : (Try.prog.info? 103).map (·.size) = some DL.toArray.size := by rw [← HDL.out]; exact info103
            obtain ⟨rb, hrb⟩ : ∃ z, (bit left i && !(waitsM H i left)) = z := ⟨_, rfl⟩
            have Hrb := Lib.hid hrb
            rw [hrb] at hRi
            have HRi := Lib.hid hRi
            have Hrd := Lib.hid hrd0
            obtain ⟨p, hp⟩ : ∃ p, H.getD i .no = p := ⟨_, rfl⟩
            have Hp := Lib.hid hp
            have Hcand : Hid (cand H tw f x left i = (rb && (ansM (DS x p.deed) p && fromM DS H tw f (DS x p.deed).1 (left - 2 ^ i)))) := Lib.hid (by rw [← hrb, ← hp]; rfl)
            clear hrb hRi hrd0 hp
            go_upto_region 11 with fail
            go_wp2_with (refine op_value rfl (run_load_row 103 (.tmp 6) rfl w.heap.size rfl 103 DL.toArray (0, 0) _ hD6 Try.underlying103 rfl hi103) ?_)
            refine HRi.out.mono ?_
            rintro e w2 ⟨rfl, hN2⟩
            have HN2 := Lib.hid (hNr.out.trans hN2)
            clear hN2 HRi hNr hD6
            cases rb with
            | false =>
              have Hc : Hid (cand H tw f x left i = false) := Lib.hid (by rw [Hcand.out, Bool.false_and])
              have HNx := HN2
              have hnx : Hid (∀ q, q < i + 1 → cand H tw f x left q = false) := Lib.hid (fun q hq => by
                by_cases hqi : q < i
                · exact hbef.out q hqi
                · obtain rfl : q = i := by omega
                  exact Hc.out)
              go_wp2_with fail
              go_roundw
              case rel => exact ⟨i + 1, by omega, by go_num, hnx, HNx⟩
              case measure => simp [intOf]; omega
            | true =>
              have HD := Lib.hid (HDo.out p.deed)
              obtain ⟨⟨y, sl, ok⟩, hds⟩ : ∃ r, DS x p.deed = r := ⟨_, rfl⟩
              have Hds := Lib.hid hds
              rw [hds] at HD Hcand
              have hyr : Hid (rightB y = true) := Lib.hid (by
                have := DS_right x p.deed Hx.out
                rw [hds] at this
                exact this)
              clear hds
              rw [Bool.true_and] at Hcand
              have hrd : w2.rangeAt hb (ho + i * 8 + 1) p.deed.cs := fun j v hj => (HN0.out.trans HN2.out).cell (by
                have h1 := Hrd.out (1 + j) v (by
                  show (H.getD i .no).cs[1 + j]? = some v
                  rw [Hp.out]
                  unfold Dn.cs at hj
                  match j, hj with
                  | 0, hj => exact hj
                  | 1, hj => exact hj
                  | 2, hj => exact hj)
                rw [show ho + i * 8 + 1 + j = ho + i * 8 + (1 + j) by omega]
                exact h1) id
              unfold ansV at HD
              go_upto_region 12 with fail
              go_wp2_with (refine op_value rfl (run_load_mid 93 (.tmp 57) rfl hb (ho + i * 8 + 1) rfl p.deed.cs _ hrd Try.underlying93 rfl info93) ?_)
              refine (HD.out _).mono ?_
              rintro e wd ⟨rfl, hNd⟩
              have hA9 : (wd.alloc (.cells #[.int .i64 0, .bool false] 89)).heap[wd.heap.size]? = some (.cells #[.int .i64 0, .bool false] 89 (0, 0)) := World.alloc_heap_new wd _
              have hone9 : ∀ u ∈ (aCs (sl : Nat) ok : List Value), u.oneCell' = true := by
                intro u hu
                simp only [aCs, List.mem_cons, List.not_mem_nil, or_false] at hu
                rcases hu with rfl | rfl <;> rfl
              have hNl : New wd ((wd.alloc (.cells #[.int .i64 0, .bool false] 89)).setRow wd.heap.size (aCs (sl : Nat) ok).toArray) := ((Mods.refl _ wd).alloc _).setRow (Nat.le_refl _) _
              have hL9 := setRow_heap _ wd.heap.size _ (aCs (sl : Nat) ok).toArray 89 (0, 0) hA9
              have hNw5 := HN2.out.trans (hNd.trans hNl)
              go_upto_region 13 with (refine op_skip rfl (run_store_row 89 (.tmp 13) (.tmp 61) rfl wd.heap.size rfl 89 [.int .i64 0, .bool false] (aCs (sl : Nat) ok) rfl hA9 info89 rfl hone9) ?_)
              obtain ⟨W5, hW5⟩ : ∃ W, (wd.alloc (.cells #[.int .i64 0, .bool false] 89)).setRow wd.heap.size (aCs (sl : Nat) ok).toArray = W := ⟨_, rfl⟩
              obtain ⟨D, hD9⟩ : ∃ D, wd.heap.size = D := ⟨_, rfl⟩
              clear hA9 hone9 hNl hNd HD hrd
              rw [hW5] at hNw5 hL9 ⊢
              rw [hD9] at hL9 ⊢
              clear hW5 hD9
              have ce : W5.cell? ⟨hb, ho + i * 8 + 5, none⟩ = some (.int .i64 p.en) := (HN0.out.trans hNw5).cell (by have := Hrd.out 5 _ rfl; rw [Hp.out] at this; exact this) id
              have hans : W5.rangeAt hb (ho + i * 8 + 6) (aCs p.slot p.ok) := fun j v hj => (HN0.out.trans hNw5).cell (by
                have h1 := Hrd.out (6 + j) v (by
                  show (H.getD i .no).cs[6 + j]? = some v
                  rw [Hp.out]
                  match j, hj with
                  | 0, hj => exact hj
                  | 1, hj => exact hj)
                rw [show ho + i * 8 + 6 + j = ho + i * 8 + (6 + j) by omega]
                exact h1) id
              have HREC : Hid (∀ W, New w W → Calls Try.prog 103 #[.int .u64 y, .slice (some ⟨hb, ho, none⟩) n hc, .agg (dV n (left - 2 ^ i)).toArray, .int .u64 tw] W fun e w' => e = .returned (.bool (fromM DS H tw f y (left - 2 ^ i))) ∧ New W w') := Lib.hid (fun W hW => by
                have hbit : bit left i = true := by have := Hrb.out; simp at this; exact this.1
                have hcl := cnt_fin ⟨left, hl⟩ ⟨i, by omega⟩ hbit
                dsimp only at hcl
                have := Hcnt.out
                have h := HI.out y (left - 2 ^ i) W (by rw [Hn.out]; exact HV.out.new hW) hyr.out (Nat.lt_of_le_of_lt (Nat.sub_le _ _) hl) (by omega)
                rw [Hn.out] at h
                exact h)
              obtain ⟨rc, hrc⟩ : ∃ z, fromM DS H tw f y (left - 2 ^ i) = z := ⟨_, rfl⟩
              rw [hrc] at HREC Hcand
              clear hrc
              by_cases hee : p.en = -1
              · have e1 : (p.en != -1) = false := by rw [hee]; rfl
                have Hcd : Hid (cand H tw f x left i = rc) := Lib.hid (by rw [Hcand.out]; unfold ansM; rw [decide_eq_true hee]; rfl)
                clear hee
                refine piece (fun a a' Wq => a' = (a.put (some 62) (.slice (some ⟨hb, ho, none⟩) n hc) |>.put (some 63) (.int .i64 (i : Nat)) |>.put (some 64) (.pointer (some ⟨hb, ho + i * 8, none⟩)) |>.put (some 65) (.pointer (some ⟨hb, ho + i * 8 + 5, none⟩)) |>.put (some 66) (.int .i64 p.en) |>.put (some 67) (.bool false) |>.put (some 68) (.bool false) |>.put (some 69) (undef) |>.put (some 70) (undef) |>.put (some 71) (undef) |>.put (some 72) (undef) |>.put (some 73) (undef) |>.put (some 74) (undef) |>.put (some 75) (undef) |>.put (some 76) (.bool false)) ∧ Wq = W5.drew) ?_ ?_
                · refine wp_region_held (by kernel_rfl) (S := fun W => W = W5.drew) ?_
                  show wpAnyH _ _ _ _ _ _ _ _ W5.drew
                  replace ce := (Mods.refl (fun _ => False) W5).drew.cell ce id
                  obtain ⟨Wd, hWd⟩ : ∃ Wd, W5.drew = Wd := ⟨_, rfl⟩
                  rw [hWd] at ce ⊢
                  have hS : Wd = Wd := rfl
                  clear hWd
                  refine anyH_take 0 (some 62) (.slice (some ⟨hb, ho, none⟩) n hc) rfl rfl (by kernel_rfl) (by kernel_rfl) (by kernel_rfl) (fun _ _ _ h => h.elim) (.inl ⟨by rfl, fun W hW => by have e : W = Wd := hW; subst e; go_simp⟩) hS ?_
                  simp only [Act.put, List.setIfInBounds_toArray, List.set_cons_succ, List.set_cons_zero]
                  refine anyH_take 1 (some 63) (.int .i64 (i : Nat)) rfl rfl (by kernel_rfl) (by kernel_rfl) (by kernel_rfl) (fun _ _ _ h => h.elim) (.inl ⟨by rfl, fun W hW => by have e : W = Wd := hW; subst e; go_simp⟩) hS ?_
                  simp only [Act.put, List.setIfInBounds_toArray, List.set_cons_succ, List.set_cons_zero]
                  refine anyH_take 2 (some 64) (.pointer (some ⟨hb, ho + i * 8, none⟩)) rfl rfl (by kernel_rfl) (by kernel_rfl) (by kernel_rfl) (fun _ _ _ h => h.elim) (.inl ⟨by rfl, fun W hW => by have e : W = Wd := hW; subst e; go_simp⟩) hS ?_
                  simp only [Act.put, List.setIfInBounds_toArray, List.set_cons_succ, List.set_cons_zero]
                  refine anyH_take 3 (some 65) (.pointer (some ⟨hb, ho + i * 8 + 5, none⟩)) rfl rfl (by kernel_rfl) (by kernel_rfl) (by kernel_rfl) (fun _ _ _ h => h.elim) (.inl ⟨by rfl, fun W hW => by have e : W = Wd := hW; subst e; go_simp⟩) hS ?_
                  simp only [Act.put, List.setIfInBounds_toArray, List.set_cons_succ, List.set_cons_zero]
                  refine anyH_take 4 (some 66) (.int .i64 p.en) rfl rfl (by kernel_rfl) (by kernel_rfl) (by kernel_rfl) (fun _ _ _ h => h.elim) (.inl ⟨by rfl, fun W hW => by have e : W = Wd := hW; subst e; go_simp⟩) hS ?_
                  simp only [Act.put, List.setIfInBounds_toArray, List.set_cons_succ, List.set_cons_zero]
                  refine anyH_take 5 (some 67) (.bool false) rfl rfl (by kernel_rfl) (by kernel_rfl) (by kernel_rfl) (fun _ _ _ h => h.elim) (.inl ⟨by rfl, fun W hW => by have e : W = Wd := hW; subst e; go_simp⟩) hS ?_
                  simp only [Act.put, List.setIfInBounds_toArray, List.set_cons_succ, List.set_cons_zero]
                  refine anyH_take 6 (some 68) (.bool false) rfl rfl (by kernel_rfl) (by kernel_rfl) (by kernel_rfl) (fun _ _ _ h => h.elim) (.inl ⟨by rfl, fun W hW => by have e : W = Wd := hW; subst e; go_simp⟩) hS ?_
                  simp only [Act.put, List.setIfInBounds_toArray, List.set_cons_succ, List.set_cons_zero]
                  refine anyH_take 7 (some 69) undef rfl rfl (by kernel_rfl) (by kernel_rfl) (by kernel_rfl) (fun _ _ _ h => h.elim) (.inr ⟨by rfl, rfl⟩) hS ?_
                  simp only [Act.put, List.setIfInBounds_toArray, List.set_cons_succ, List.set_cons_zero]
                  refine anyH_take 8 (some 70) undef rfl rfl (by kernel_rfl) (by kernel_rfl) (by kernel_rfl) (fun _ _ _ h => h.elim) (.inr ⟨by rfl, rfl⟩) hS ?_
                  simp only [Act.put, List.setIfInBounds_toArray, List.set_cons_succ, List.set_cons_zero]
                  refine anyH_take 9 (some 71) undef rfl rfl (by kernel_rfl) (by kernel_rfl) (by kernel_rfl) (fun _ _ _ h => h.elim) (.inr ⟨by rfl, rfl⟩) hS ?_
                  simp only [Act.put, List.setIfInBounds_toArray, List.set_cons_succ, List.set_cons_zero]
                  refine anyH_take 10 (some 72) undef rfl rfl (by kernel_rfl) (by kernel_rfl) (by kernel_rfl) (fun _ _ _ h => h.elim) (.inr ⟨by rfl, rfl⟩) hS ?_
                  simp only [Act.put, List.setIfInBounds_toArray, List.set_cons_succ, List.set_cons_zero]
                  refine anyH_take 11 (some 73) undef rfl rfl (by kernel_rfl) (by kernel_rfl) (by kernel_rfl) (fun _ _ _ h => h.elim) (.inr ⟨by rfl, rfl⟩) hS ?_
                  simp only [Act.put, List.setIfInBounds_toArray, List.set_cons_succ, List.set_cons_zero]
                  refine anyH_take 12 (some 74) undef rfl rfl (by kernel_rfl) (by kernel_rfl) (by kernel_rfl) (fun _ _ _ h => h.elim) (.inr ⟨by rfl, rfl⟩) hS ?_
                  simp only [Act.put, List.setIfInBounds_toArray, List.set_cons_succ, List.set_cons_zero]
                  refine anyH_take 13 (some 75) undef rfl rfl (by kernel_rfl) (by kernel_rfl) (by kernel_rfl) (fun _ _ _ h => h.elim) (.inr ⟨by rfl, rfl⟩) hS ?_
                  simp only [Act.put, List.setIfInBounds_toArray, List.set_cons_succ, List.set_cons_zero]
                  refine anyH_take 14 (some 76) (.bool false) rfl rfl (by kernel_rfl) (by kernel_rfl) (by kernel_rfl) (fun _ _ _ h => h.elim) (.inl ⟨by rfl, fun W hW => by have e : W = Wd := hW; subst e; go_simp⟩) hS ?_
                  simp only [Act.put, List.setIfInBounds_toArray, List.set_cons_succ, List.set_cons_zero]
                  refine wpAnyH_done (by kernel_rfl) ?_ _
                  exact ⟨rfl, rfl⟩
                · rintro a' Wz ⟨rfl, rfl⟩
                  simp only [Act.put, List.setIfInBounds_toArray, List.set_cons_succ, List.set_cons_zero]
                  clear ce hans hL9
                  have HNe : Hid (New W0 W5.drew) := Lib.hid hNw5.drew
                  clear hNw5
                  obtain ⟨W6, hW6⟩ : ∃ W, W5.drew = W := ⟨_, rfl⟩
                  rw [hW6] at HNe ⊢
                  clear hW6
                  have hD6 : W6.heap[w.heap.size]? = some (.cells DL.toArray 103 (0, 0)) := by
                    have := HNe.out.heap HD0.out id
                    rw [HDL.out] at this
                    exact this
                  have hz0 := World.alloc_heap_new W6 (.cells #[.bool false, .bool false, .bool false, .bool false, .bool false, .bool false, .bool false, .bool false] 103)
                  have hN6 : New W6 ((W6.alloc (.cells #[.bool false, .bool false, .bool false, .bool false, .bool false, .bool false, .bool false, .bool false] 103)).setRow W6.heap.size DL.toArray) := ((Mods.refl _ W6).alloc _).setRow (Nat.le_refl _) _
                  have hz1 := setRow_heap _ W6.heap.size _ DL.toArray 103 (0, 0) hz0
                  have hones : ∀ u ∈ DL, u.oneCell' = true := by rw [← HDL.out]; exact dV_ones n left
                  have hlen8 : DL.length = 8 := by rw [← HDL.out]; exact dV_len n left
                  go_upto_region 15 with (first | (refine op_value rfl (run_load_row 103 (.tmp 6) rfl w.heap.size rfl 103 DL.toArray (0, 0) _ hD6 Try.underlying103 rfl hi103) ?_) | (refine op_skip rfl (run_store_row 103 (.tmp 14) (.tmp 77) rfl W6.heap.size rfl 103 [.bool false, .bool false, .bool false, .bool false, .bool false, .bool false, .bool false, .bool false] DL rfl hz0 hi103 (by rw [hlen8]; rfl) hones) ?_))
                  have HN7 := Lib.hid (HNe.out.trans hN6)
                  obtain ⟨W7, hW7⟩ : ∃ W, (W6.alloc (.cells #[.bool false, .bool false, .bool false, .bool false, .bool false, .bool false, .bool false, .bool false] 103)).setRow W6.heap.size DL.toArray = W := ⟨_, rfl⟩
                  obtain ⟨E, hE⟩ : ∃ E, W6.heap.size = E := ⟨_, rfl⟩
                  have hEl : W0.heap.size ≤ E := by rw [← hE]; exact HNe.out.size
                  clear hz0 hN6 hD6
                  rw [hW7] at hz1 HN7 ⊢
                  rw [hE] at hz1 ⊢
                  clear hW7 hE
                  have hcell : W7.cell? ⟨E, i, none⟩ = some (DL.getD i undef) := by
                    rw [cell_of_row _ _ _ _ _ _ hz1]
                    simp [List.getD, hlen8, show i < 8 by omega]
                  have hfr : W7.frozen? ⟨E, i, none⟩ = false := frozen_of_row _ _ _ _ _ hz1
                  have hz2 : (W7.setCell ⟨E, i, none⟩ (.bool true)).heap[E]? = some (.cells (dV n (left - 2 ^ i)).toArray 103 (0, 0)) := by
                    rw [heap_setCell_same W7 E i _ 103 (.bool true) hz1]
                    have hbit : bit left i = true := by have := Hrb.out; simp at this; exact this.1
                    have := dV_set h8 hin' hl hbit
                    rw [HDL.out] at this
                    rw [← this]
                    simp
                  have HN8 : Hid (New W0 (W7.setCell ⟨E, i, none⟩ (.bool true))) := Lib.hid (HN7.out.setCell (p := ⟨E, i, none⟩) (.inl hEl) _)
                  have hiE : (Try.prog.info? 103).map (·.size) = some (dV n (left - 2 ^ i)).toArray.size := info103
                  clear hz1 hones
                  go_upto_region 16 with fail
                  have HCALL := HREC.out _ (HN0.out.trans HN8.out)
                  clear HREC hcell hfr
                  obtain ⟨W8, hW8⟩ : ∃ W, W7.setCell ⟨E, i, none⟩ (.bool true) = W := ⟨_, rfl⟩
                  rw [hW8] at hz2 HN8 HCALL ⊢
                  clear hW8 HN7
                  obtain ⟨DM, hDM⟩ : ∃ L, dV n (left - 2 ^ i) = L := ⟨_, rfl⟩
                  rw [hDM] at hz2 hiE HCALL
                  clear hDM
                  go_wp2_with (refine op_value rfl (run_load_row 103 (.tmp 14) rfl E rfl 103 DM.toArray (0, 0) _ hz2 Try.underlying103 rfl hiE) ?_)
                  refine HCALL.mono ?_
                  rintro e w9 ⟨rfl, hN9⟩
                  have HNx := Lib.hid (HN8.out.trans hN9)
                  clear hN9 HN8 hz2 hiE HCALL
                  cases rc with
                  | true =>
                    have hrt : Hid (r = true) := Lib.hid (by
                      rw [Hgo2.out, List.any_eq_true]
                      exact ⟨i, List.mem_range.2 hin', Hcd.out⟩)
                    have HNz := Lib.hid (HN0.out.trans HNx.out)
                    go_wp2_with fail
                    go_ret
                    exact ⟨by rw [hrt.out]; rfl, HNz.out⟩
                  | false =>
                    have Hc := Hcd
                    have hnx : Hid (∀ q, q < i + 1 → cand H tw f x left q = false) := Lib.hid (fun q hq => by
                      by_cases hqi : q < i
                      · exact hbef.out q hqi
                      · obtain rfl : q = i := by omega
                        exact Hc.out)
                    go_wp2_with fail
                    go_roundw
                    case rel => exact ⟨i + 1, by omega, by go_num, hnx, HNx⟩
                    case measure => simp [intOf]; omega
              · have e1 : (p.en != -1) = true := by rw [bne_iff_ne]; exact hee
                obtain ⟨eqb, heq⟩ : ∃ z, (((sl : Nat) : Int) == p.slot && ok == p.ok) = z := ⟨_, rfl⟩
                have Hcd0 : Hid (cand H tw f x left i = (eqb && rc)) := Lib.hid (by
                  rw [Hcand.out, ← heq]
                  unfold ansM
                  rw [decide_eq_false hee, Bool.false_or]
                  congr 1)
                clear hee
                refine piece (fun a a' Wq => a' = (a.put (some 62) (.slice (some ⟨hb, ho, none⟩) n hc) |>.put (some 63) (.int .i64 (i : Nat)) |>.put (some 64) (.pointer (some ⟨hb, ho + i * 8, none⟩)) |>.put (some 65) (.pointer (some ⟨hb, ho + i * 8 + 5, none⟩)) |>.put (some 66) (.int .i64 p.en) |>.put (some 67) (.bool true) |>.put (some 68) (.bool true) |>.put (some 69) (.agg (aCs (sl : Nat) ok).toArray) |>.put (some 70) (.slice (some ⟨hb, ho, none⟩) n hc) |>.put (some 71) (.int .i64 (i : Nat)) |>.put (some 72) (.pointer (some ⟨hb, ho + i * 8, none⟩)) |>.put (some 73) (.pointer (some ⟨hb, ho + i * 8 + 6, none⟩)) |>.put (some 74) (.agg (aCs p.slot p.ok).toArray) |>.put (some 75) (.bool (!(((sl : Nat) : Int) == p.slot && ok == p.ok))) |>.put (some 76) (.bool (!(((sl : Nat) : Int) == p.slot && ok == p.ok)))) ∧ Wq = W5.drew) ?_ ?_
                · refine wp_region_held (by kernel_rfl) (S := fun W => W = W5.drew) ?_
                  show wpAnyH _ _ _ _ _ _ _ _ W5.drew
                  replace ce := (Mods.refl (fun _ => False) W5).drew.cell ce id
                  replace hans : W5.drew.rangeAt hb (ho + i * 8 + 6) (aCs p.slot p.ok) := fun j v hj => (Mods.refl (fun _ => False) W5).drew.cell (hans j v hj) id
                  have hA9 := (Mods.refl (fun _ => False) W5).drew.heap hL9 id
                  obtain ⟨Wd, hWd⟩ : ∃ Wd, W5.drew = Wd := ⟨_, rfl⟩
                  rw [hWd] at ce hans hA9 ⊢
                  have hS : Wd = Wd := rfl
                  clear hWd
                  refine anyH_take 0 (some 62) (.slice (some ⟨hb, ho, none⟩) n hc) rfl rfl (by kernel_rfl) (by kernel_rfl) (by kernel_rfl) (fun _ _ _ h => h.elim) (.inl ⟨by rfl, fun W hW => by have e : W = Wd := hW; subst e; go_simp⟩) hS ?_
                  simp only [Act.put, List.setIfInBounds_toArray, List.set_cons_succ, List.set_cons_zero]
                  refine anyH_take 1 (some 63) (.int .i64 (i : Nat)) rfl rfl (by kernel_rfl) (by kernel_rfl) (by kernel_rfl) (fun _ _ _ h => h.elim) (.inl ⟨by rfl, fun W hW => by have e : W = Wd := hW; subst e; go_simp⟩) hS ?_
                  simp only [Act.put, List.setIfInBounds_toArray, List.set_cons_succ, List.set_cons_zero]
                  refine anyH_take 2 (some 64) (.pointer (some ⟨hb, ho + i * 8, none⟩)) rfl rfl (by kernel_rfl) (by kernel_rfl) (by kernel_rfl) (fun _ _ _ h => h.elim) (.inl ⟨by rfl, fun W hW => by have e : W = Wd := hW; subst e; go_simp⟩) hS ?_
                  simp only [Act.put, List.setIfInBounds_toArray, List.set_cons_succ, List.set_cons_zero]
                  refine anyH_take 3 (some 65) (.pointer (some ⟨hb, ho + i * 8 + 5, none⟩)) rfl rfl (by kernel_rfl) (by kernel_rfl) (by kernel_rfl) (fun _ _ _ h => h.elim) (.inl ⟨by rfl, fun W hW => by have e : W = Wd := hW; subst e; go_simp⟩) hS ?_
                  simp only [Act.put, List.setIfInBounds_toArray, List.set_cons_succ, List.set_cons_zero]
                  refine anyH_take 4 (some 66) (.int .i64 p.en) rfl rfl (by kernel_rfl) (by kernel_rfl) (by kernel_rfl) (fun _ _ _ h => h.elim) (.inl ⟨by rfl, fun W hW => by have e : W = Wd := hW; subst e; go_simp⟩) hS ?_
                  simp only [Act.put, List.setIfInBounds_toArray, List.set_cons_succ, List.set_cons_zero]
                  refine anyH_take 5 (some 67) (.bool true) rfl rfl (by kernel_rfl) (by kernel_rfl) (by kernel_rfl) (fun _ _ _ h => h.elim) (.inl ⟨by rfl, fun W hW => by have e : W = Wd := hW; subst e; go_simp⟩) hS ?_
                  simp only [Act.put, List.setIfInBounds_toArray, List.set_cons_succ, List.set_cons_zero]
                  refine anyH_take 6 (some 68) (.bool true) rfl rfl (by kernel_rfl) (by kernel_rfl) (by kernel_rfl) (fun _ _ _ h => h.elim) (.inl ⟨by rfl, fun W hW => by have e : W = Wd := hW; subst e; go_simp⟩) hS ?_
                  simp only [Act.put, List.setIfInBounds_toArray, List.set_cons_succ, List.set_cons_zero]
                  refine anyH_take 7 (some 69) (.agg (aCs (sl : Nat) ok).toArray) rfl rfl (by kernel_rfl) (by kernel_rfl) (by kernel_rfl) (fun _ _ _ h => h.elim) (.inl ⟨by rfl, fun W hW => by have e : W = Wd := hW; subst e; exact run_load_row 89 (.tmp 13) rfl D rfl 89 (aCs (sl : Nat) ok).toArray (0, 0) _ hA9 Try.underlying89 rfl info89⟩) hS ?_
                  simp only [Act.put, List.setIfInBounds_toArray, List.set_cons_succ, List.set_cons_zero]
                  refine anyH_take 8 (some 70) (.slice (some ⟨hb, ho, none⟩) n hc) rfl rfl (by kernel_rfl) (by kernel_rfl) (by kernel_rfl) (fun _ _ _ h => h.elim) (.inl ⟨by rfl, fun W hW => by have e : W = Wd := hW; subst e; go_simp⟩) hS ?_
                  simp only [Act.put, List.setIfInBounds_toArray, List.set_cons_succ, List.set_cons_zero]
                  refine anyH_take 9 (some 71) (.int .i64 (i : Nat)) rfl rfl (by kernel_rfl) (by kernel_rfl) (by kernel_rfl) (fun _ _ _ h => h.elim) (.inl ⟨by rfl, fun W hW => by have e : W = Wd := hW; subst e; go_simp⟩) hS ?_
                  simp only [Act.put, List.setIfInBounds_toArray, List.set_cons_succ, List.set_cons_zero]
                  refine anyH_take 10 (some 72) (.pointer (some ⟨hb, ho + i * 8, none⟩)) rfl rfl (by kernel_rfl) (by kernel_rfl) (by kernel_rfl) (fun _ _ _ h => h.elim) (.inl ⟨by rfl, fun W hW => by have e : W = Wd := hW; subst e; go_simp⟩) hS ?_
                  simp only [Act.put, List.setIfInBounds_toArray, List.set_cons_succ, List.set_cons_zero]
                  refine anyH_take 11 (some 73) (.pointer (some ⟨hb, ho + i * 8 + 6, none⟩)) rfl rfl (by kernel_rfl) (by kernel_rfl) (by kernel_rfl) (fun _ _ _ h => h.elim) (.inl ⟨by rfl, fun W hW => by have e : W = Wd := hW; subst e; go_simp⟩) hS ?_
                  simp only [Act.put, List.setIfInBounds_toArray, List.set_cons_succ, List.set_cons_zero]
                  refine anyH_take 12 (some 74) (.agg (aCs p.slot p.ok).toArray) rfl rfl (by kernel_rfl) (by kernel_rfl) (by kernel_rfl) (fun _ _ _ h => h.elim) (.inl ⟨by rfl, fun W hW => by have e : W = Wd := hW; subst e; exact run_load_mid 89 (.tmp 73) rfl hb (ho + i * 8 + 6) rfl (aCs p.slot p.ok) _ hans Try.underlying89 rfl info89⟩) hS ?_
                  simp only [Act.put, List.setIfInBounds_toArray, List.set_cons_succ, List.set_cons_zero]
                  refine anyH_take 13 (some 75) (.bool (!(((sl : Nat) : Int) == p.slot && ok == p.ok))) rfl rfl (by kernel_rfl) (by kernel_rfl) (by kernel_rfl) (fun _ _ _ h => h.elim) (.inl ⟨by rfl, fun W hW => by have e : W = Wd := hW; subst e; exact run_neq_answer (.tmp 69) (.tmp 74) rfl _ _ _ _ rfl rfl⟩) hS ?_
                  simp only [Act.put, List.setIfInBounds_toArray, List.set_cons_succ, List.set_cons_zero]
                  refine anyH_take 14 (some 76) (.bool (!(((sl : Nat) : Int) == p.slot && ok == p.ok))) rfl rfl (by kernel_rfl) (by kernel_rfl) (by kernel_rfl) (fun _ _ _ h => h.elim) (.inl ⟨by rfl, fun W hW => by have e : W = Wd := hW; subst e; go_simp⟩) hS ?_
                  simp only [Act.put, List.setIfInBounds_toArray, List.set_cons_succ, List.set_cons_zero]
                  refine wpAnyH_done (by kernel_rfl) ?_ _
                  exact ⟨rfl, rfl⟩
                · rintro a' Wz ⟨rfl, rfl⟩
                  simp only [Act.put, List.setIfInBounds_toArray, List.set_cons_succ, List.set_cons_zero]
                  rw [heq]
                  clear heq
                  cases eqb with
                  | false =>
                    have Hc : Hid (cand H tw f x left i = false) := Lib.hid (by rw [Hcd0.out, Bool.false_and])
                    have HNx : Hid (New W0 W5.drew) := Lib.hid hNw5.drew
                    clear ce hans hL9 hNw5 HREC
                    have hnx : Hid (∀ q, q < i + 1 → cand H tw f x left q = false) := Lib.hid (fun q hq => by
                      by_cases hqi : q < i
                      · exact hbef.out q hqi
                      · obtain rfl : q = i := by omega
                        exact Hc.out)
                    go_wp2_with fail
                    go_roundw
                    case rel => exact ⟨i + 1, by omega, by go_num, hnx, HNx⟩
                    case measure => simp [intOf]; omega
                  | true =>
                    have Hcd : Hid (cand H tw f x left i = rc) := Lib.hid (by rw [Hcd0.out, Bool.true_and])
                    clear ce hans hL9
                    have HNe : Hid (New W0 W5.drew) := Lib.hid hNw5.drew
                    clear hNw5
                    obtain ⟨W6, hW6⟩ : ∃ W, W5.drew = W := ⟨_, rfl⟩
                    rw [hW6] at HNe ⊢
                    clear hW6
                    have hD6 : W6.heap[w.heap.size]? = some (.cells DL.toArray 103 (0, 0)) := by
                      have := HNe.out.heap HD0.out id
                      rw [HDL.out] at this
                      exact this
                    have hz0 := World.alloc_heap_new W6 (.cells #[.bool false, .bool false, .bool false, .bool false, .bool false, .bool false, .bool false, .bool false] 103)
                    have hN6 : New W6 ((W6.alloc (.cells #[.bool false, .bool false, .bool false, .bool false, .bool false, .bool false, .bool false, .bool false] 103)).setRow W6.heap.size DL.toArray) := ((Mods.refl _ W6).alloc _).setRow (Nat.le_refl _) _
                    have hz1 := setRow_heap _ W6.heap.size _ DL.toArray 103 (0, 0) hz0
                    have hones : ∀ u ∈ DL, u.oneCell' = true := by rw [← HDL.out]; exact dV_ones n left
                    have hlen8 : DL.length = 8 := by rw [← HDL.out]; exact dV_len n left
                    go_upto_region 15 with (first | (refine op_value rfl (run_load_row 103 (.tmp 6) rfl w.heap.size rfl 103 DL.toArray (0, 0) _ hD6 Try.underlying103 rfl hi103) ?_) | (refine op_skip rfl (run_store_row 103 (.tmp 14) (.tmp 77) rfl W6.heap.size rfl 103 [.bool false, .bool false, .bool false, .bool false, .bool false, .bool false, .bool false, .bool false] DL rfl hz0 hi103 (by rw [hlen8]; rfl) hones) ?_))
                    have HN7 := Lib.hid (HNe.out.trans hN6)
                    obtain ⟨W7, hW7⟩ : ∃ W, (W6.alloc (.cells #[.bool false, .bool false, .bool false, .bool false, .bool false, .bool false, .bool false, .bool false] 103)).setRow W6.heap.size DL.toArray = W := ⟨_, rfl⟩
                    obtain ⟨E, hE⟩ : ∃ E, W6.heap.size = E := ⟨_, rfl⟩
                    have hEl : W0.heap.size ≤ E := by rw [← hE]; exact HNe.out.size
                    clear hz0 hN6 hD6
                    rw [hW7] at hz1 HN7 ⊢
                    rw [hE] at hz1 ⊢
                    clear hW7 hE
                    have hcell : W7.cell? ⟨E, i, none⟩ = some (DL.getD i undef) := by
                      rw [cell_of_row _ _ _ _ _ _ hz1]
                      simp [List.getD, hlen8, show i < 8 by omega]
                    have hfr : W7.frozen? ⟨E, i, none⟩ = false := frozen_of_row _ _ _ _ _ hz1
                    have hz2 : (W7.setCell ⟨E, i, none⟩ (.bool true)).heap[E]? = some (.cells (dV n (left - 2 ^ i)).toArray 103 (0, 0)) := by
                      rw [heap_setCell_same W7 E i _ 103 (.bool true) hz1]
                      have hbit : bit left i = true := by have := Hrb.out; simp at this; exact this.1
                      have := dV_set h8 hin' hl hbit
                      rw [HDL.out] at this
                      rw [← this]
                      simp
                    have HN8 : Hid (New W0 (W7.setCell ⟨E, i, none⟩ (.bool true))) := Lib.hid (HN7.out.setCell (p := ⟨E, i, none⟩) (.inl hEl) _)
                    have hiE : (Try.prog.info? 103).map (·.size) = some (dV n (left - 2 ^ i)).toArray.size := info103
                    clear hz1 hones
                    go_upto_region 16 with fail
                    have HCALL := HREC.out _ (HN0.out.trans HN8.out)
                    clear HREC hcell hfr
                    obtain ⟨W8, hW8⟩ : ∃ W, W7.setCell ⟨E, i, none⟩ (.bool true) = W := ⟨_, rfl⟩
                    rw [hW8] at hz2 HN8 HCALL ⊢
                    clear hW8 HN7
                    obtain ⟨DM, hDM⟩ : ∃ L, dV n (left - 2 ^ i) = L := ⟨_, rfl⟩
                    rw [hDM] at hz2 hiE HCALL
                    clear hDM
                    go_wp2_with (refine op_value rfl (run_load_row 103 (.tmp 14) rfl E rfl 103 DM.toArray (0, 0) _ hz2 Try.underlying103 rfl hiE) ?_)
                    refine HCALL.mono ?_
                    rintro e w9 ⟨rfl, hN9⟩
                    have HNx := Lib.hid (HN8.out.trans hN9)
                    clear hN9 HN8 hz2 hiE HCALL
                    cases rc with
                    | true =>
                      have hrt : Hid (r = true) := Lib.hid (by
                        rw [Hgo2.out, List.any_eq_true]
                        exact ⟨i, List.mem_range.2 hin', Hcd.out⟩)
                      have HNz := Lib.hid (HN0.out.trans HNx.out)
                      go_wp2_with fail
                      go_ret
                      exact ⟨by rw [hrt.out]; rfl, HNz.out⟩
                    | false =>
                      have Hc := Hcd
                      have hnx : Hid (∀ q, q < i + 1 → cand H tw f x left q = false) := Lib.hid (fun q hq => by
                        by_cases hqi : q < i
                        · exact hbef.out q hqi
                        · obtain rfl : q = i := by omega
                          exact Hc.out)
                      go_wp2_with fail
                      go_roundw
                      case rel => exact ⟨i + 1, by omega, by go_num, hnx, HNx⟩
                      case measure => simp [intOf]; omega
          · obtain rfl : n = i := by omega
            have hid : decide ((n : Int) < (n : Int)) = false := decide_eq_false (by omega)
            have hrf : Hid (r = false) := Lib.hid (by
              rw [Hgo2.out, List.any_eq_false]
              intro q hq
              rw [hbef.out q (List.mem_range.1 hq)]
              simp)
            have HNe := Lib.hid (HN0.out.trans hNr.out)
            go_wp2_with fail
            go_ret
            exact ⟨by rw [hrf.out]; rfl, HNe.out⟩
end Go.Proofs.Ytkjloeefcaadlaa
