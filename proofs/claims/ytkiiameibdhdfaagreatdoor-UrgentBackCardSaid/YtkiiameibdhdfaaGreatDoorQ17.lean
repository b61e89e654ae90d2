/- Texts joined. -/
import Derived.Test.YtkiiameibdhdfaaGreatDoorQ16
import Derived.Deep.CutBlock
import Derived.Deep.DeepCutAuto
import Derived.Test.YtkiiameibdhdfaaGreatDoorQ09
import Derived.OrdersHeld
import Derived.Test.YtkiiameibdhdfaaGreatDoorQ15
import Derived.Test.YtkiiameibdhdfaaGreatDoorQ12
import Derived.Test.YtkiiameibdhdfaaGreatDoorQ07
import Derived.Test.YtkiiameibdhdfaaGreatDoorQ06
import Derived.Test.YtkiiameibdhdfaaGreatDoorQ00
import Derived.ChangeKeysEq
set_option linter.unusedSimpArgs false
set_option linter.unusedVariables false
namespace Go.Proofs.YtkiiameibdhdfaaGreatDoor
open Go.RowKit Go.Shelf Go.Cs
attribute [local go_sem] Oper.semAt_some


theorem readD_bad1 {d : List Bare.Mem} {c : UInt8} {l : Bare.Bs} (h : Bare.readMem (c :: l) = none) : Bare.readD d (c :: l) = none := by
 rw [Bare.readD.eq_def]
 simp only
 split
 ·rfl
 ·rename_i m r h1
  rw [h] at h1; cases h1
theorem readD_mem {d : List Bare.Mem} {c : UInt8} {l r : Bare.Bs} {m : Bare.Mem} (h : Bare.readMem (c :: l) = some (m, r)) : Bare.readD d (c :: l) = if r.isEmpty then some (Bare.setM d m) else match Bare.skipB [32, 9] r with
  | 44 :: r2 => if (Bare.skipB [32, 9] r2).isEmpty then none else Bare.readD (Bare.setM d m) (Bare.skipB [32, 9] r2)
  | _ => none := by
 rw [Bare.readD.eq_def]
 simp only
 split
 ·rename_i h1
  rw [h] at h1; cases h1
 ·rename_i m1 r1 h1
  rw [h] at h1; cases h1
  by_cases he : r.isEmpty = true
  ·rw [if_pos he, if_pos he]
  ·rw [if_neg he, if_neg he]
   split
   ·rename_i r2 h2
    rw [h2]
    rfl
   ·rename_i h2
    split
    ·rename_i r2 h3
     exact absurd h3 (h2 r2)
    ·rfl
def PostR (R : Option (List Bare.Mem)) (n : Nat) (w : World) (e : Ending) (w' : World) : Prop := ∃ v z, e = .returned (.tuple #[v, .int .i64 z]) ∧ New w w' ∧ match R with
 | some d => z = 0 ∧ RdD true w' v d ∧ d.length ≤ n
 | none => z = 130 ∧ v = .slice none 0 0
set_option maxHeartbeats 8000000 in
set_option maxRecDepth 100000 in
theorem parse_r13 (s : ByteArray) (w : World) (hs : s.size ≤ 1000000) : Calls Tryz.prog 39 #[.string s] w (PostD (bl s) w) := by
 obtain ⟨R, hR⟩ : ∃ R, Bare.parseD (bl s) = R := ⟨_, rfl⟩
 obtain ⟨S, hS⟩ : ∃ T, Bare.skipB [32] (bl s) = T := ⟨_, rfl⟩
 obtain ⟨T, hT⟩ : ∃ T, Bare.trimR 32 S = T := ⟨_, rfl⟩
 have hSl : S.length ≤ s.size := by rw [← hS, ← bl_len]; exact Bare.skip_len [32] (bl s)
 have hTl : T.length ≤ S.length := by rw [← hT]; exact trimR_len 32 S
 have HR0 : Hid (Bare.readD [] T = R) := Lib.hid (by rw [← hR, ← hT, ← hS]; rfl)
 obtain ⟨Post, hPost⟩ : ∃ Post : Ending → World → Prop, PostD (bl s) w = Post := ⟨_, rfl⟩
 have HPost : Hid (∀ e w', PostR R s.size w e w' → Post e w') := Lib.hid fun e w' h => by
  rw [← hPost]
  unfold PostD
  rw [hR, bl_len]
  exact h
 rw [hPost]
 have hbl0 := fun W => blanks_r s false W hs
 rw [show blkL false = [32] from rfl, hS] at hbl0
 have HBl := Lib.hid (fun q h W => blanks_r q true W h)
 rw [show blkL true = [32, 9] from rfl] at HBl
 have HBg := Lib.hid (fun q d h hd W => begins_r q d W h hd)
 have HMe := Lib.hid (fun q h W => readMember_r q W h)
 have HT := Lib.hid hT
 obtain ⟨Sx, hSx⟩ : ∃ x, tx S = x := ⟨_, rfl⟩
 have hSxl : Sx.size = S.length := by rw [← hSx, tx_size]
 have HSb : Hid (bl Sx = S) := Lib.hid (by rw [← hSx, bl_tx])
 rw [hSx] at hbl0
 have hbl0 := Lib.hid hbl0
 obtain ⟨Tx, hTx⟩ : ∃ x, tx T = x := ⟨_, rfl⟩
 have hTxl : Tx.size = T.length := by rw [← hTx, tx_size]
 have HTb : Hid (bl Tx = T) := Lib.hid (by rw [← hTx, bl_tx])
 have HTx := Lib.hid hTx
 clear hR hS hT hPost hSx hTx
 go_enter Tryz.func39, Tryz.ntmps39
 go_upto_block 0 with (go_at_call 83; refine (hbl0.out _).mono ?_; rintro e w' ⟨rfl, hw'⟩; rw [hw']; clear hw')
 clear hbl0
 go_cut [0] from 10 (fun s0 wx => s0 = .string Tx ∧ New w wx)
 case first =>
  go_wp2_with fail
  go_loopw [0] (fun t wr => ∃ q : ByteArray, q.size ≤ s.size ∧ t = .string q ∧ Hid (Bare.trimR 32 (bl q) = T) ∧ New w wr) (fun t _ => match t with | .string q => q.size | _ => 0)
  case atStart => exact ⟨Sx, by omega, rfl, Lib.hid (by rw [HSb.out]; exact HT.out), Mods.refl _ _⟩
  case round =>
   clear HSb HT hSxl hSl
   obtain ⟨q, hq, rfl, HQ, hN⟩ := hrel
   by_cases h0 : q.size = 0
   ·have hg : decide ((0 : Int) < (q.size : Int)) = false := decide_eq_false (by omega)
    have hqT : Hid (q = Tx) := Lib.hid <| by
     have hnil : bl q = [] := List.length_eq_zero_iff.1 (by rw [bl_len]; exact h0)
     rw [← HTx.out, ← HQ.out, hnil]
     show q = tx []
     rw [← hnil, tx_bl]
    clear HQ
    go_wp2_with fail
    go_meet
    exact ⟨by rw [hqT.out], hN⟩
   ·have hg : decide ((0 : Int) < (q.size : Int)) = true := decide_eq_true (by omega)
    obtain ⟨n, hn⟩ : ∃ n, q.size = n + 1 := ⟨q.size - 1, by omega⟩
    have hne : (bl q) = (bl q).take n ++ [gb q n] := by
     have h1 : (bl q).length = n + 1 := by rw [bl_len, hn]
     have h2 : (bl q)[n]? = some (gb q n) := gb_get q n (by omega)
     conv => lhs; rw [← List.take_append_drop n (bl q)]
     congr 1
     have h3 := List.getElem?_eq_some_iff.1 h2
     rw [List.drop_eq_getElem_cons h3.1, h3.2, List.drop_eq_nil_of_le (by omega)]
    have hix : ∀ W, (Instr.index 9 (.string q) (.int .i64 (n : Int))).run Tryz.prog W = .ok (.int .u8 ((gb q n).toNat : Nat)) W := run_idx q n (by omega)
    have hsb : ((q.size : Int) - 1) = (n : Int) := by omega
    have hsl : ∀ W, (Instr.slice 9 (.string q) none (some (.int .i64 (n : Int))) none).run Tryz.prog W = .ok (.string (tx ((bl q).take n))) W := run_sl_h q n (by omega)
    have htr := Bare.trimR_snoc 32 (gb q n) ((bl q).take n)
    rw [← hne] at htr
    obtain ⟨x, hx⟩ : ∃ x, tx ((bl q).take n) = x := ⟨_, rfl⟩
    have hxs : x.size ≤ n := by rw [← hx, tx_size, List.length_take]; omega
    have hxb : bl x = (bl q).take n := by rw [← hx, bl_tx]
    rw [hx] at hsl
    rw [← hxb] at htr
    obtain ⟨y, hy⟩ : ∃ y, (gb q n).toNat = y := ⟨_, rfl⟩
    have hw : IntKind.i64.wrap ((q.size : Int) - 1) = (n : Int) := by rw [hsb]; exact IntWalk.i64_in _ ⟨by omega, by omega⟩
    by_cases h32 : gb q n = 32
    ·have hyd : ((y : Int) == 32) = true := by rw [← hy, h32]; rfl
     rw [if_pos h32] at htr
     have HX : Hid (Bare.trimR 32 (bl x) = T) := Lib.hid (by rw [← htr]; exact HQ.out)
     rw [hy] at hix
     have hnq : n < q.size := by omega
     clear htr hne hx hxb hy h32 h0 HQ hn
     go_wp2_with fail
     go_roundw
     case rel => exact ⟨x, by omega, rfl, HX, hN⟩
     case measure => simp; omega
    ·have hyd : ((y : Int) == 32) = false := by
      rw [← hy, beq_eq_false_iff_ne]
      intro h
      refine h32 (UInt8.toNat_inj.1 ?_)
      have : (gb q n).toNat = 32 := by omega
      rw [this]; rfl
     rw [if_neg h32] at htr
     have hqT : Hid (q = Tx) := Lib.hid (by rw [← HTx.out, ← HQ.out, htr, tx_bl])
     rw [hy] at hix
     clear htr hne hx hxb hy h32 h0 HQ hn
     go_wp2_with fail
     go_meet
     exact ⟨by rw [hqT.out], hN⟩
 case rest =>
  obtain ⟨rfl, hN0⟩ := hcut
  have hwl := hN0.size
  have HTb0 := HTb
  have hTm : Tx.size ≤ s.size := by omega
  have HR1 : Hid (Bare.readD [] (bl Tx) = R) := Lib.hid (by rw [HTb.out]; exact HR0.out)
  clear HTx HTb HTb0 HR0 hSxl HSb HT hTxl hSl hTl
  go_upto_region 5 with fail
  go_loopw [0, 4] (fun t v wr => ∃ (q : ByteArray) (d : List Bare.Mem), t = .string q ∧ q.size ≤ s.size ∧ OwD w.heap.size wr v d ∧ Hid ((d.map (·.key)).Nodup) ∧ d.length + q.size ≤ s.size ∧ Hid (Bare.readD d (bl q) = R) ∧ New w wr) (fun t _ _ => match t with | .string q => q.size | _ => 0)
  case atStart => exact ⟨Tx, [], rfl, hTm, OwD.nil _ _, Lib.hid List.nodup_nil, by simpa using hTm, HR1, hN0⟩
  case round =>
   clear HR1 hN0 hwl hTm
   obtain ⟨q, d, rfl, hq, ho, HND, hlen, HR, hN⟩ := hrel
   obtain ⟨va, vc, rfl⟩ := ho.slice
   have hdl : d.length ≤ 1000000 := by omega
   have hws := hN.size
   have HO := Lib.hid ho
   by_cases h0 : q.size = 0
   ·have hg : decide ((0 : Int) < (q.size : Int)) = false := decide_eq_false (by omega)
    have hnil : bl q = [] := List.length_eq_zero_iff.1 (by rw [bl_len]; exact h0)
    have hRR : Hid (R = some d) := Lib.hid (by rw [← HR.out, hnil, Bare.readD.eq_def])
    obtain ⟨n, hn⟩ : ∃ n, d.length = n := ⟨_, rfl⟩
    have HNn := Lib.hid hn
    rw [hn] at HO ⊢
    clear HBl HBg HMe hnil HR ho hn
    go_wp2_with fail
    refine HPost.out _ _ ⟨_, _, rfl, hN, ?_⟩
    rw [hRR.out]
    exact ⟨rfl, HO.out.reads (by omega), by omega⟩
   ·have hg : decide ((0 : Int) < (q.size : Int)) = true := decide_eq_true (by omega)
    obtain ⟨c0, l0, hcl⟩ : ∃ c l, bl q = c :: l := by
     cases h : bl q with
     | nil => exact absurd (by rw [← bl_len, h]; rfl) h0
     | cons c l => exact ⟨c, l, rfl⟩
    have hM := HMe.out q (by omega)
    obtain ⟨n, hn⟩ : ∃ n, d.length = n := ⟨_, rfl⟩
    have HNn := Lib.hid hn
    cases hme : Bare.readMem (bl q) with
    | none =>
     have hRR : Hid (R = none) := Lib.hid (by
      rw [← HR.out, hcl]
      rw [hcl] at hme
      exact readD_bad1 hme)
     rw [hme] at hM
     have HM := Lib.hid hM
     rw [hn]
     clear HBl HBg HMe hM hme hcl HR ho hn
     have h0p : 0 < q.size := by omega
     clear h0
     go_upto_region 7 with (go_at_call 84; refine (HM.out _).mono ?_; rintro e w4 ⟨⟨kx, yb, ia, pa, il, ic, pl, pc, t, ok, rfl, hk⟩, hN4⟩; obtain rfl : ok = false := hk)
     have hA4 : New w4 (w4.alloc (.cells #[.string kx, .bool yb, .slice ia il ic, .slice pa pl pc] 64)) := (Mods.refl _ _).alloc _
     go_wp2_with fail
     refine HPost.out _ _ ⟨_, _, rfl, (hN.trans hN4).trans hA4, ?_⟩
     rw [hRR.out]
     exact ⟨rfl, rfl⟩
    | some mr =>
     obtain ⟨m, r⟩ := mr
     have hrl : r.length < q.size := by rw [← bl_len]; exact Bare.readMem_len hme
     have hRD : R = if r.isEmpty then some (Bare.setM d m) else match Bare.skipB [32, 9] r with
  | 44 :: r2 => if (Bare.skipB [32, 9] r2).isEmpty then none else Bare.readD (Bare.setM d m) (Bare.skipB [32, 9] r2)
  | _ => none := by
      rw [← HR.out, hcl]
      rw [hcl] at hme
      exact readD_mem hme
     have HRD := Lib.hid hRD
     rw [hme] at hM
     have HM := Lib.hid hM
     obtain ⟨y, hy⟩ : ∃ y, Bare.skipB [32, 9] r = y := ⟨_, rfl⟩
     have hyl : y.length ≤ r.length := by rw [← hy]; exact Bare.skip_len _ _
     rw [hy] at HRD
     obtain ⟨rx, hrx⟩ : ∃ x, tx r = x := ⟨_, rfl⟩
     have hrs : rx.size = r.length := by rw [← hrx, tx_size]
     have hrb : bl rx = r := by rw [← hrx, bl_tx]
     have hb1 := HBl.out rx (by omega)
     rw [hrb, hy] at hb1
     obtain ⟨yx, hyx⟩ : ∃ x, tx y = x := ⟨_, rfl⟩
     have hys : yx.size = y.length := by rw [← hyx, tx_size]
     have hyb : bl yx = y := by rw [← hyx, bl_tx]
     have hyr : yx.size ≤ rx.size := by omega
     have hrq : rx.size < q.size := by omega
     have hrn0 : r = [] ∨ 0 < rx.size := by
      cases r with
      | nil => exact .inl rfl
      | cons a b => exact .inr (by rw [hrs]; simp)
     have hrn1 : r = [] → rx.size = 0 := fun h => by rw [hrs, h]; rfl
     have hyc0 : y = [] → yx.size = 0 := fun h => by rw [hys, h]; rfl
     have hyc1 : ∀ c l, y = c :: l → l.length + 1 ≤ yx.size := fun c l h => by rw [hys, h]; simp
     have HRN0 := Lib.hid hrn0
     have HRN1 := Lib.hid hrn1
     have HYC0 := Lib.hid hyc0
     have HYC1 := Lib.hid hyc1
     clear hrn0 hrn1 hyc0 hyc1
     rw [hyx] at hb1
     have HB1 := Lib.hid hb1
     have HRX := Lib.hid hrx
     have hsl1 := setM_len d m
     have hnd := Lib.hid (setM_nodup (p := m) HND.out)
     clear hRD hM hme hcl HR ho hb1 hrx hyx hrb HMe h0 hrs hys hrl hyl
     go_upto_region 9 with (go_at_call 84; refine (HM.out _).mono ?_; rintro e w4 ⟨⟨kx, yb, ia, pa, il, ic, pl, pc, t, ok, rfl, hk⟩, hN4⟩; obtain ⟨rfl, rfl, rfl, rfl, hI, hP⟩ := hk; rw [HRX.out])
     obtain ⟨w5, M, hW5, hM, rM, hN5, hMs⟩ : ∃ V M, w4.alloc (.cells #[.string (tx m.key), .bool m.inner, .slice ia il ic, .slice pa pl pc] 64) = V ∧ w4.heap.size = M ∧ V.heap[M]? = some (.cells #[.string (tx m.key), .bool m.inner, .slice ia il ic, .slice pa pl pc] 64 (0, 0)) ∧ New w4 V ∧ M + 1 = V.heap.size := ⟨_, _, rfl, rfl, World.alloc_heap_new _ _, (Mods.refl _ _).alloc _, by simp⟩
     rw [hW5, hM]
     have k0 := cell_of_row _ _ 0 _ _ _ rM
     have k1 := cell_of_row _ _ 1 _ _ _ rM
     have k2 := cell_of_row _ _ 2 _ _ _ rM
     have k3 := cell_of_row _ _ 3 _ _ _ rM
     simp only [List.getElem?_toArray, List.getElem?_cons_succ, List.getElem?_cons_zero] at k0 k1 k2 k3
     have hN5w := (hN.trans hN4).trans hN5
     have HPut : Hid (Calls Tryz.prog 85 #[.slice va d.length vc, .agg #[.string (tx m.key), .bool m.inner, .slice ia il ic, .slice pa pl pc]] w5 fun e w' => ∃ v', e = .returned v' ∧ OwD w.heap.size w' v' (Bare.setM d m) ∧ Mods (fun g => Value.ownBlock (.slice va d.length vc) = some g) w5 w') := Lib.hid (putMember_r _ d m w5 (HO.out.new (hN4.trans hN5)) HND.out hdl hN5w.size (hI.new hN5) (hP.new hN5))
     have HLt := Lib.hid (fun g h => (HO.out.lt (g := g) h).1)
     rw [hn] at HPut HLt
     clear hW5 hM HO HM hN4 hN5 hI hP hn rM hMs
     go_upto_region 10 with (go_at_call 85; refine HPut.out.mono ?_; rintro e w6 ⟨v6, rfl, ho6, hm6⟩)
     have hN6 : New w w6 := ((Mods.ofNew hN5w).trans hm6).new (fun g hg => HLt.out g hg)
     clear HPut HLt k0 k1 k2 k3 hm6
     go_upto_region 11 with (go_at_call 83; refine (HB1.out _).mono ?_; rintro e w7 ⟨rfl, rfl⟩)
     clear HB1
     cases hyc : y with
     | nil =>
      have hy0 : yx.size = 0 := HYC0.out hyc
      have e1 : ((yx.size : Int) == 0) = true := by rw [hy0]; rfl
      have g1 : decide ((0 : Int) < (yx.size : Int)) = false := decide_eq_false (by omega)
      by_cases hr0 : rx.size = 0
      ·have g2 : decide ((0 : Int) < (rx.size : Int)) = false := decide_eq_false (by omega)
       have hrn : r = [] := by
        rcases HRN0.out with h | h
        ·exact h
        ·omega
       have hRf : Hid (Bare.readD (Bare.setM d m) (bl yx) = R) := Lib.hid (by
        rw [HRD.out, if_pos (by rw [hrn]; rfl), hyb, hyc, Bare.readD.eq_def])
       clear HRD hyc hy hrn
       go_wp2_with fail
       go_roundw
       case rel => exact ⟨yx, Bare.setM d m, rfl, by omega, ho6, hnd, by omega, hRf, hN6⟩
       case measure => simp; omega
      ·have g2 : decide ((0 : Int) < (rx.size : Int)) = true := decide_eq_true (by omega)
       have hrn : ¬ r.isEmpty = true := fun h => hr0 (HRN1.out (List.isEmpty_iff.1 h))
       have hRf : Hid (R = none) := Lib.hid (by rw [HRD.out, if_neg hrn, hyc])
       clear HRD hyc hy hrn
       go_wp2_with fail
       refine HPost.out _ _ ⟨_, _, rfl, hN6, ?_⟩
       rw [hRf.out]
       exact ⟨rfl, rfl⟩
     | cons c l =>
      have hyl1 := HYC1.out c l hyc
      have e1 : ((yx.size : Int) == 0) = false := by rw [beq_eq_false_iff_ne]; omega
      have g1 : decide ((0 : Int) < (yx.size : Int)) = true := decide_eq_true (by omega)
      have g2 : decide ((0 : Int) < (rx.size : Int)) = true := decide_eq_true (by omega)
      have hrn : ¬ r.isEmpty = true := fun h => by
       have := HRN1.out (List.isEmpty_iff.1 h)
       omega
      have hb := HBg.out yx 44 (by omega) (by decide)
      rw [hyb, hyc, show begN (c :: l) 44 = decide (c.toNat = 44) from rfl] at hb
      by_cases h44 : c.toNat = 44
      ·rw [decide_eq_true h44] at hb
       have HB := Lib.hid hb
       obtain rfl : c = 44 := UInt8.toNat_inj.1 h44
       have hsl : ∀ W, (Instr.slice 9 (.string yx) (some (.int .i64 1)) none none).run Tryz.prog W = .ok (.string (tx ((bl yx).drop 1))) W := run_sl_l yx 1 (by omega)
       rw [hyb, hyc, show (44 :: l : Bare.Bs).drop 1 = l from rfl] at hsl
       obtain ⟨lx, hlx⟩ : ∃ x, tx l = x := ⟨_, rfl⟩
       have hls : lx.size = l.length := by rw [← hlx, tx_size]
       have hlb : bl lx = l := by rw [← hlx, bl_tx]
       rw [hlx] at hsl
       have hb2 := HBl.out lx (by omega)
       rw [hlb] at hb2
       obtain ⟨z, hz⟩ : ∃ z, Bare.skipB [32, 9] l = z := ⟨_, rfl⟩
       have hzl : z.length ≤ l.length := by rw [← hz]; exact Bare.skip_len _ _
       rw [hz] at hb2
       obtain ⟨zx, hzx⟩ : ∃ x, tx z = x := ⟨_, rfl⟩
       have hzs : zx.size = z.length := by rw [← hzx, tx_size]
       have hzb : bl zx = z := by rw [← hzx, bl_tx]
       have hzx1 : zx.size < q.size := by omega
       rw [hzx] at hb2
       have HB2 := Lib.hid hb2
       have hRf : Hid (R = if z.isEmpty then none else Bare.readD (Bare.setM d m) z) := Lib.hid (by rw [HRD.out, if_neg hrn, hyc, ← hz]; rfl)
       clear HRD hyc hy hrn hb hb2 hlx hzx hz HBg HBl hlb h44
       by_cases hz0 : zx.size = 0
       ·have e2 : ((zx.size : Int) == 0) = true := by rw [hz0]; rfl
        have hRn : Hid (R = none) := Lib.hid (by rw [hRf.out, if_pos (List.isEmpty_iff.2 (List.length_eq_zero_iff.1 (by omega)))])
        clear hRf hzb hyb hzs hls
        go_upto_region 13 with (go_at_call 86; refine (HB.out _).mono ?_; rintro e w8 ⟨rfl, rfl⟩)
        go_wp2_with (go_at_call 83; refine (HB2.out _).mono ?_; rintro e w8 ⟨rfl, rfl⟩)
        refine HPost.out _ _ ⟨_, _, rfl, hN6, ?_⟩
        rw [hRn.out]
        exact ⟨rfl, rfl⟩
       ·have e2 : ((zx.size : Int) == 0) = false := by rw [beq_eq_false_iff_ne]; omega
        have hRn : Hid (Bare.readD (Bare.setM d m) (bl zx) = R) := Lib.hid (by
         rw [hRf.out, if_neg (fun h => hz0 (by rw [hzs, List.isEmpty_iff.1 h]; rfl)), hzb])
        clear hRf hzb hyb hzs hls
        go_upto_region 13 with (go_at_call 86; refine (HB.out _).mono ?_; rintro e w8 ⟨rfl, rfl⟩)
        go_wp2_with (go_at_call 83; refine (HB2.out _).mono ?_; rintro e w8 ⟨rfl, rfl⟩)
        go_roundw
        case rel => exact ⟨zx, Bare.setM d m, rfl, by omega, ho6, hnd, by omega, hRn, hN6⟩
        case measure => simp; omega
      ·rw [decide_eq_false h44] at hb
       have HB := Lib.hid hb
       have hRf : Hid (R = none) := Lib.hid (by
        rw [HRD.out, if_neg hrn, hyc]
        split
        ·rename_i r2 h2
         cases h2
         exact absurd rfl h44
        ·rfl)
       clear HRD hyc hy hrn hb h44 HBl HBg hyb
       go_wp2_with (go_at_call 86; refine (HB.out _).mono ?_; rintro e w8 ⟨rfl, rfl⟩)
       refine HPost.out _ _ ⟨_, _, rfl, hN6, ?_⟩
       rw [hRf.out]
       exact ⟨rfl, rfl⟩
end Go.Proofs.YtkiiameibdhdfaaGreatDoor
namespace Go.Proofs.YtkiiameibdhdfaaGreatDoor
open Go.RowKit Go.Shelf Go.Cs
attribute [local go_sem] Oper.semAt_some


theorem lit82 (t : Array Value) (h : t.size = 82) : ∃ u : Nat → Value, t = (u 0 :: u 1 :: u 2 :: u 3 :: u 4 :: u 5 :: u 6 :: u 7 :: u 8 :: u 9 :: u 10 :: u 11 :: u 12 :: u 13 :: u 14 :: u 15 :: u 16 :: u 17 :: u 18 :: u 19 :: u 20 :: u 21 :: u 22 :: u 23 :: u 24 :: u 25 :: u 26 :: u 27 :: u 28 :: u 29 :: u 30 :: u 31 :: u 32 :: u 33 :: u 34 :: u 35 :: u 36 :: u 37 :: u 38 :: u 39 :: u 40 :: u 41 :: u 42 :: u 43 :: u 44 :: u 45 :: u 46 :: u 47 :: u 48 :: u 49 :: u 50 :: u 51 :: u 52 :: u 53 :: u 54 :: u 55 :: u 56 :: u 57 :: u 58 :: u 59 :: u 60 :: u 61 :: u 62 :: u 63 :: u 64 :: u 65 :: u 66 :: u 67 :: u 68 :: u 69 :: u 70 :: u 71 :: u 72 :: u 73 :: u 74 :: u 75 :: u 76 :: u 77 :: u 78 :: u 79 :: u 80 :: u 81 :: ([] : List Value)).toArray := ⟨fun i => t.getD i undef, range_lit t 82 h⟩
noncomputable def reg_dict_Print_8 : Code := ((Tryz.f26.body.bind (regionOf 8)).getD .skip)
set_option maxHeartbeats 4000000 in
set_option maxRecDepth 100000 in
theorem print8 (t : Array Value) (hs : t.size = 82) (w : World) {base B ib io ic xl xc : Nat} {xa : Option Addr} {v x0 x1 x2 x3 x5 x8 x12 x13 x14 x15 x16 x17 x80 x81 : Value} {q s vl td : ByteArray} {yy : Bool} {k n : Int} {L : List Bare.Bs} {l : Bare.Bs}
  (hq4 : t.getD 4 undef = v)
  (hq6 : t.getD 6 undef = .pointer (some ⟨B, 0, none⟩))
  (hq0 : t.getD 0 undef = x0)
  (hq1 : t.getD 1 undef = x1)
  (hq2 : t.getD 2 undef = x2)
  (hq3 : t.getD 3 undef = x3)
  (hq5 : t.getD 5 undef = x5)
  (hq8 : t.getD 8 undef = x8)
  (hq12 : t.getD 12 undef = x12)
  (hq13 : t.getD 13 undef = x13)
  (hq14 : t.getD 14 undef = x14)
  (hq15 : t.getD 15 undef = x15)
  (hq16 : t.getD 16 undef = x16)
  (hq17 : t.getD 17 undef = x17)
  (hq80 : t.getD 80 undef = x80)
  (hq81 : t.getD 81 undef = x81)
  (k0 : w.cell? ⟨B, 0, none⟩ = some (.string q)) (k2 : w.cell? ⟨B, 2, none⟩ = some (.slice (some ⟨ib, io, none⟩) 1 ic))
  (i0 : w.cell? ⟨ib, io, none⟩ = some (.int .u8 k)) (i1 : w.cell? ⟨ib, io + 1, none⟩ = some (.int .i64 n)) (i2 : w.cell? ⟨ib, io + 2, none⟩ = some (.string s)) (i3 : w.cell? ⟨ib, io + 3, none⟩ = some (.bool yy)) (i4 : w.cell? ⟨ib, io + 4, none⟩ = some (.slice xa xl xc))
  (hBv : v.ownBlock ≠ some B) (hIv : v.ownBlock ≠ some ib)
  (HVal : Hid (∀ W, New w W → Calls Tryz.prog 59 #[.agg #[.int .u8 k, .int .i64 n, .string s, .bool yy]] W fun e w' => e = .returned (.string vl) ∧ New W w'))
  (HTold : Hid (∀ W, New w W → Calls Tryz.prog 60 #[.slice xa xl xc] W fun e w' => e = .returned (.string td) ∧ New W w'))
  (Hx : Hid (q ++ vl ++ td = tx l)) (hown : OwS base w v L) (hln : L.length ≤ 2000000) (hbase : base ≤ w.heap.size)
  (hqs : q.size ≤ 100000) (hvs : vl.size ≤ 50000) (hts : td.size ≤ 400000000000) :
  reg_dict_Print_8.wp Tryz.prog (Only fun a' W' => ∃ v', (a'.tmps.size = 82 ∧ a'.defers = [] ∧ a'.tmps.getD 4 undef = v' ∧ a'.tmps.getD 6 undef = .pointer (some ⟨B, 0, none⟩) ∧ a'.tmps.getD 0 undef = x0 ∧ a'.tmps.getD 1 undef = x1 ∧ a'.tmps.getD 2 undef = x2 ∧ a'.tmps.getD 3 undef = x3 ∧ a'.tmps.getD 5 undef = x5 ∧ a'.tmps.getD 8 undef = x8 ∧ a'.tmps.getD 12 undef = x12 ∧ a'.tmps.getD 13 undef = x13 ∧ a'.tmps.getD 14 undef = x14 ∧ a'.tmps.getD 15 undef = x15 ∧ a'.tmps.getD 16 undef = x16 ∧ a'.tmps.getD 17 undef = x17 ∧ a'.tmps.getD 80 undef = x80 ∧ a'.tmps.getD 81 undef = x81) ∧ OwS base W' v' (L ++ [l]) ∧ ∀ w0 : World, New w0 w → w0.heap.size ≤ base → New w0 W') ⟨t, []⟩ w := by
 conv => arg 2; whnf
 obtain ⟨u, rfl⟩ := lit82 t hs
 have hq4 : u 4 = v := hq4
 have hq6 : u 6 = .pointer (some ⟨B, 0, none⟩) := hq6
 have hq0 : u 0 = x0 := hq0
 have hq1 : u 1 = x1 := hq1
 have hq2 : u 2 = x2 := hq2
 have hq3 : u 3 = x3 := hq3
 have hq5 : u 5 = x5 := hq5
 have hq8 : u 8 = x8 := hq8
 have hq12 : u 12 = x12 := hq12
 have hq13 : u 13 = x13 := hq13
 have hq14 : u 14 = x14 := hq14
 have hq15 : u 15 = x15 := hq15
 have hq16 : u 16 = x16 := hq16
 have hq17 : u 17 = x17 := hq17
 have hq80 : u 80 = x80 := hq80
 have hq81 : u 81 = x81 := hq81
 rw [hq4, hq6, hq0, hq1, hq2, hq3, hq5, hq8, hq12, hq13, hq14, hq15, hq16, hq17, hq80, hq81]
 clear hq4 hq6 hq0 hq1 hq2 hq3 hq5 hq8 hq12 hq13 hq14 hq15 hq16 hq17 hq80 hq81 hs
 have z1 : ¬ 9223372036854775807 < q.size + vl.size := by omega
 have z2 : ¬ 9223372036854775807 < q.size + vl.size + td.size := by omega
 refine wp_region_held (S := fun W => Mods (fun b => v.ownBlock = some b) w W) (by kernel_rfl) ?_
 show wpAnyH _ _ _ _ _ 20 _ _ w.drew
 have hN : New w w.drew := (Mods.refl _ _).drew
 have hS : Mods (fun b => v.ownBlock = some b) w w.drew := (Mods.refl _ _).drew
 refine anyH_take 0 (some 24) (v) rfl rfl (by kernel_rfl) (by kernel_rfl) (by kernel_rfl) (fun _ _ _ h => h.elim) (.inl ⟨by rfl, fun W hW => by go_simp⟩) hS ?_
 simp only [Act.put, List.setIfInBounds_toArray, List.set_cons_succ, List.set_cons_zero]
 refine anyH_take 1 (some 25) (.pointer (some ⟨B, 0, none⟩)) rfl rfl (by kernel_rfl) (by kernel_rfl) (by kernel_rfl) (fun _ _ _ h => h.elim) (.inl ⟨by rfl, fun W hW => by go_simp⟩) hS ?_
 simp only [Act.put, List.setIfInBounds_toArray, List.set_cons_succ, List.set_cons_zero]
 refine anyH_take 2 (some 26) (.string q) rfl rfl (by kernel_rfl) (by kernel_rfl) (by kernel_rfl) (fun _ _ _ h => h.elim) (.inl ⟨by rfl, fun W hW => by have hh : Mods (fun b => v.ownBlock = some b) w W := hW; have q := hh.cell k0 hBv; go_simp⟩) hS ?_
 simp only [Act.put, List.setIfInBounds_toArray, List.set_cons_succ, List.set_cons_zero]
 refine anyH_take 3 (some 27) (.pointer (some ⟨B, 2, none⟩)) rfl rfl (by kernel_rfl) (by kernel_rfl) (by kernel_rfl) (fun _ _ _ h => h.elim) (.inl ⟨by rfl, fun W hW => by go_simp⟩) hS ?_
 simp only [Act.put, List.setIfInBounds_toArray, List.set_cons_succ, List.set_cons_zero]
 refine anyH_take 4 (some 28) (.slice (some ⟨ib, io, none⟩) 1 ic) rfl rfl (by kernel_rfl) (by kernel_rfl) (by kernel_rfl) (fun _ _ _ h => h.elim) (.inl ⟨by rfl, fun W hW => by have hh : Mods (fun b => v.ownBlock = some b) w W := hW; have q := hh.cell k2 hBv; go_simp⟩) hS ?_
 simp only [Act.put, List.setIfInBounds_toArray, List.set_cons_succ, List.set_cons_zero]
 refine anyH_take 5 (some 29) (.pointer (some ⟨ib, io, none⟩)) rfl rfl (by kernel_rfl) (by kernel_rfl) (by kernel_rfl) (fun _ _ _ h => h.elim) (.inl ⟨by rfl, fun W hW => by go_simp⟩) hS ?_
 simp only [Act.put, List.setIfInBounds_toArray, List.set_cons_succ, List.set_cons_zero]
 refine anyH_take 6 (some 30) (.pointer (some ⟨ib, io, none⟩)) rfl rfl (by kernel_rfl) (by kernel_rfl) (by kernel_rfl) (fun _ _ _ h => h.elim) (.inl ⟨by rfl, fun W hW => by go_simp⟩) hS ?_
 simp only [Act.put, List.setIfInBounds_toArray, List.set_cons_succ, List.set_cons_zero]
 refine anyH_take 7 (some 31) (.agg #[.int .u8 k, .int .i64 n, .string s, .bool yy]) rfl rfl (by kernel_rfl) (by kernel_rfl) (by kernel_rfl) (fun _ _ _ h => h.elim) (.inl ⟨by rfl, fun W hW => by have hh : Mods (fun b => v.ownBlock = some b) w W := hW; have q0 := hh.cell i0 hIv; have q1 := hh.cell i1 hIv; have q2 := hh.cell i2 hIv; have q3 := hh.cell i3 hIv; go_simp⟩) hS ?_
 simp only [Act.put, List.setIfInBounds_toArray, List.set_cons_succ, List.set_cons_zero]
 refine anyH_take 10 (some 34) (.pointer (some ⟨B, 2, none⟩)) rfl rfl (by kernel_rfl) (by kernel_rfl) (by kernel_rfl) (fun _ _ _ h => h.elim) (.inl ⟨by rfl, fun W hW => by go_simp⟩) hS ?_
 simp only [Act.put, List.setIfInBounds_toArray, List.set_cons_succ, List.set_cons_zero]
 refine anyH_take 11 (some 35) (.slice (some ⟨ib, io, none⟩) 1 ic) rfl rfl (by kernel_rfl) (by kernel_rfl) (by kernel_rfl) (fun _ _ _ h => h.elim) (.inl ⟨by rfl, fun W hW => by have hh : Mods (fun b => v.ownBlock = some b) w W := hW; have q := hh.cell k2 hBv; go_simp⟩) hS ?_
 simp only [Act.put, List.setIfInBounds_toArray, List.set_cons_succ, List.set_cons_zero]
 refine anyH_take 12 (some 36) (.pointer (some ⟨ib, io, none⟩)) rfl rfl (by kernel_rfl) (by kernel_rfl) (by kernel_rfl) (fun _ _ _ h => h.elim) (.inl ⟨by rfl, fun W hW => by go_simp⟩) hS ?_
 simp only [Act.put, List.setIfInBounds_toArray, List.set_cons_succ, List.set_cons_zero]
 refine anyH_take 13 (some 37) (.pointer (some ⟨ib, io + 4, none⟩)) rfl rfl (by kernel_rfl) (by kernel_rfl) (by kernel_rfl) (fun _ _ _ h => h.elim) (.inl ⟨by rfl, fun W hW => by go_simp⟩) hS ?_
 simp only [Act.put, List.setIfInBounds_toArray, List.set_cons_succ, List.set_cons_zero]
 refine anyH_take 14 (some 38) (.slice xa xl xc) rfl rfl (by kernel_rfl) (by kernel_rfl) (by kernel_rfl) (fun _ _ _ h => h.elim) (.inl ⟨by rfl, fun W hW => by have hh : Mods (fun b => v.ownBlock = some b) w W := hW; have q := hh.cell i4 hIv; go_simp⟩) hS ?_
 simp only [Act.put, List.setIfInBounds_toArray, List.set_cons_succ, List.set_cons_zero]
 refine wpAnyH_all (rs := [8]) (by kernel_rfl) (by simp) ?_
 simp only [List.mem_cons, List.not_mem_nil, or_false, forall_eq]
 refine opH_call (some 32) rfl (by rfl) rfl 59 #[.agg #[.int .u8 k, .int .i64 n, .string s, .bool yy]] (by go_simp) ((HVal.out _ hN).mono ?_)
 rintro e w1 ⟨rfl, hk⟩
 have hS := hS.trans (Mods.ofNew hk)
 have hN := hN.trans hk
 clear hk
 refine ⟨_, rfl, hS, ?_⟩
 simp only [Act.put, List.setIfInBounds_toArray, List.set_cons_succ, List.set_cons_zero]
 refine anyH_take 9 (some 33) (.string (q ++ vl)) rfl rfl (by kernel_rfl) (by kernel_rfl) (by kernel_rfl) (fun _ _ _ h => h.elim) (.inl ⟨by rfl, fun W hW => by go_simp⟩) hS ?_
 simp only [Act.put, List.setIfInBounds_toArray, List.set_cons_succ, List.set_cons_zero]
 refine wpAnyH_all (rs := [15]) (by kernel_rfl) (by simp) ?_
 simp only [List.mem_cons, List.not_mem_nil, or_false, forall_eq]
 refine opH_call (some 39) rfl (by rfl) rfl 60 #[.slice xa xl xc] (by go_simp) ((HTold.out _ hN).mono ?_)
 rintro e w2 ⟨rfl, hk⟩
 have hS := hS.trans (Mods.ofNew hk)
 have hN := hN.trans hk
 clear hk
 refine ⟨_, rfl, hS, ?_⟩
 simp only [Act.put, List.setIfInBounds_toArray, List.set_cons_succ, List.set_cons_zero]
 refine anyH_take 16 (some 40) (.string ((q ++ vl) ++ td)) rfl rfl (by kernel_rfl) (by kernel_rfl) (by kernel_rfl) (fun _ _ _ h => h.elim) (.inl ⟨by rfl, fun W hW => by go_simp⟩) hS ?_
 simp only [Act.put, List.setIfInBounds_toArray, List.set_cons_succ, List.set_cons_zero]
 refine wpAnyH_all (rs := [17]) (by kernel_rfl) (by simp) ?_
 simp only [List.mem_cons, List.not_mem_nil, or_false, forall_eq]
 refine opH_value (some 41) (v := .slice (some ⟨w2.heap.size, 0, none⟩) 1 1) (w' := w2.alloc (.cells #[.string (q ++ vl ++ td)] 9)) rfl rfl rfl (by go_simp) ?_
 refine ⟨hS.alloc _, ?_⟩
 simp only [Act.put, List.setIfInBounds_toArray, List.set_cons_succ, List.set_cons_zero]
 refine wpAnyH_all (rs := [18]) (by kernel_rfl) (by simp) ?_
 simp only [List.mem_cons, List.not_mem_nil, or_false, forall_eq]
 refine wpOp_append_S (l := l) (some 42) rfl rfl rfl (.tmp 24) (.tmp 41) rfl rfl rfl (by rw [← Hx.out]) (hown.new hN) hln (Nat.le_trans hbase hN.size) ?_
 intro v' W' hown' hnew
 have hS := hnew _ _ hS (fun g hg => .inr hg)
 refine ⟨hS, ?_⟩
 simp only [Act.put, List.setIfInBounds_toArray, List.set_cons_succ, List.set_cons_zero]
 refine anyH_take 19 (some 4) (v') rfl rfl (by kernel_rfl) (by kernel_rfl) (by kernel_rfl) (fun _ _ _ h => h.elim) (.inl ⟨by rfl, fun W hW => by go_simp⟩) hS ?_
 simp only [Act.put, List.setIfInBounds_toArray, List.set_cons_succ, List.set_cons_zero]
 refine wpAnyH_done (by kernel_rfl) ?_ _
 exact ⟨v', ⟨rfl, rfl, rfl, rfl, rfl, rfl, rfl, rfl, rfl, rfl, rfl, rfl, rfl, rfl, rfl, rfl, rfl, rfl⟩, hown', fun w0 h1 h2 => hnew w0 _ (h1.trans hN) (fun g hg => .inl (Nat.le_trans h2 (hown.lt g hg).1))⟩
theorem joinW_join (sep : Bare.Bs) : ∀ L : List Bare.Bs, Bare.joinW sep L = Lib.join L sep
 | [] => rfl
 | [a] => (Lib.join_one a sep).symm
 | a :: b :: r => by
  have ih := joinW_join sep (b :: r)
  rw [Lib.join_cons] at ih ⊢
  simp only [Bare.joinW]
  rw [ih]
  simp [Lib.joinTail]
theorem joinW_len (sep : Bare.Bs) (c : Nat) : ∀ L : List Bare.Bs, (∀ l ∈ L, l.length + sep.length ≤ c) → (Bare.joinW sep L).length ≤ L.length * c
 | [], _ => by simp [Bare.joinW]
 | [a], h => by have := h a (by simp); simp [Bare.joinW]; omega
 | a :: b :: r, h => by
  have ih := joinW_len sep c (b :: r) (fun l hl => h l (List.mem_cons_of_mem _ hl))
  have := h a (by simp)
  simp only [Bare.joinW, List.length_append, List.length_cons] at ih ⊢
  rw [Nat.add_mul, Nat.one_mul]
  omega
theorem join_any {base : Nat} (v : Value) (L : List Bare.Bs) (sep : Bare.Bs) (w : World) (h : OwS base w v L) (hn : L.length ≤ 2000000) (hl : (Bare.joinW sep L).length ≤ 140737488355328) :
    Calls Tryz.prog 62 #[v, .string (tx sep)] w fun e w' => e = .returned (.string (tx (Bare.joinW sep L))) ∧ New w w' := by
  rcases h.2 with ⟨rfl, h0⟩ | ⟨g, cap, cur, rfl, hb, hg, h1, h2, h3, h4⟩
  · obtain rfl : L = [] := List.length_eq_zero_iff.1 h0
    refine (Tryz.strings_Join_none none 0 (tx sep) w).mono ?_
    rintro e w' ⟨rfl, rfl⟩
    exact ⟨rfl, Mods.refl _ _⟩
  · have hx : (L.map tx).map (·.data.toList) = L := by rw [List.map_map]; conv => rhs; rw [← List.map_id L]
                                                       exact List.map_congr_left fun l _ => rfl
    have := Tryz.strings_Join g 0 cap (L.map tx) (tx sep) w (fun j x hj => by
      rw [Nat.zero_add, cell_of_row _ _ _ _ _ _ hg]
      have e : (strs L)[j]? = some (.string x) := by
        unfold strs
        rw [List.getElem?_map] at hj ⊢
        obtain ⟨l, hl, rfl⟩ := Option.map_eq_some_iff.1 hj
        rw [hl]; rfl
      rw [← h4, List.getElem?_take] at e
      split at e
      · rw [← Array.getElem?_toList]; exact e
      · cases e) (Array.getElem?_eq_some_iff.1 hg).1 (by rw [List.length_map]; omega) (by rw [List.length_map]; omega) (by rw [hx]; show (Lib.join L sep).length ≤ _; rw [← joinW_join]; exact hl)
    rw [hx, List.length_map] at this
    rw [joinW_join]
    exact this.mono fun e w' ⟨he, hB⟩ => ⟨he, Mods.below hB (Nat.le_refl _)⟩
noncomputable def reg_dict_Print_16 : Code := ((Tryz.f26.body.bind (regionOf 16)).getD .skip)
set_option maxHeartbeats 4000000 in
set_option maxRecDepth 100000 in
theorem print16 (t : Array Value) (hs : t.size = 82) (w : World) {base B pl pc : Nat} {pa : Option Addr} {v uv x0 x1 x2 x3 x5 x8 x12 x13 x14 x15 x16 x17 x80 x81 : Value} {q jn td : ByteArray} {L : List Bare.Bs} {l : Bare.Bs}
  (hq4 : t.getD 4 undef = v)
  (hq6 : t.getD 6 undef = .pointer (some ⟨B, 0, none⟩))
  (hq0 : t.getD 0 undef = x0)
  (hq1 : t.getD 1 undef = x1)
  (hq2 : t.getD 2 undef = x2)
  (hq3 : t.getD 3 undef = x3)
  (hq5 : t.getD 5 undef = x5)
  (hq8 : t.getD 8 undef = x8)
  (hq12 : t.getD 12 undef = x12)
  (hq13 : t.getD 13 undef = x13)
  (hq14 : t.getD 14 undef = x14)
  (hq15 : t.getD 15 undef = x15)
  (hq16 : t.getD 16 undef = x16)
  (hq17 : t.getD 17 undef = x17)
  (hq80 : t.getD 80 undef = x80)
  (hq81 : t.getD 81 undef = x81)
  (hq7 : t.getD 7 undef = uv)
  (k0 : w.cell? ⟨B, 0, none⟩ = some (.string q)) (k3 : w.cell? ⟨B, 3, none⟩ = some (.slice pa pl pc))
  (hBv : v.ownBlock ≠ some B)
  (HJoin : Hid (∀ W, New w W → Calls Tryz.prog 62 #[uv, .string ⟨#[32]⟩] W fun e w' => e = .returned (.string jn) ∧ New W w'))
  (HTold : Hid (∀ W, New w W → Calls Tryz.prog 60 #[.slice pa pl pc] W fun e w' => e = .returned (.string td) ∧ New W w'))
  (Hx : Hid (q ++ ⟨#[61, 40]⟩ ++ jn ++ ⟨#[41]⟩ ++ td = tx l)) (hown : OwS base w v L) (hln : L.length ≤ 2000000) (hbase : base ≤ w.heap.size)
  (hqs : q.size ≤ 100000) (hjs : jn.size ≤ 140737488355328) (hts : td.size ≤ 400000000000) :
  reg_dict_Print_16.wp Tryz.prog (Only fun a' W' => ∃ v', (a'.tmps.size = 82 ∧ a'.defers = [] ∧ a'.tmps.getD 4 undef = v' ∧ a'.tmps.getD 6 undef = .pointer (some ⟨B, 0, none⟩) ∧ a'.tmps.getD 0 undef = x0 ∧ a'.tmps.getD 1 undef = x1 ∧ a'.tmps.getD 2 undef = x2 ∧ a'.tmps.getD 3 undef = x3 ∧ a'.tmps.getD 5 undef = x5 ∧ a'.tmps.getD 8 undef = x8 ∧ a'.tmps.getD 12 undef = x12 ∧ a'.tmps.getD 13 undef = x13 ∧ a'.tmps.getD 14 undef = x14 ∧ a'.tmps.getD 15 undef = x15 ∧ a'.tmps.getD 16 undef = x16 ∧ a'.tmps.getD 17 undef = x17 ∧ a'.tmps.getD 80 undef = x80 ∧ a'.tmps.getD 81 undef = x81) ∧ OwS base W' v' (L ++ [l]) ∧ ∀ w0 : World, New w0 w → w0.heap.size ≤ base → New w0 W') ⟨t, []⟩ w := by
 conv => arg 2; whnf
 obtain ⟨u, rfl⟩ := lit82 t hs
 have hq4 : u 4 = v := hq4
 have hq6 : u 6 = .pointer (some ⟨B, 0, none⟩) := hq6
 have hq0 : u 0 = x0 := hq0
 have hq1 : u 1 = x1 := hq1
 have hq2 : u 2 = x2 := hq2
 have hq3 : u 3 = x3 := hq3
 have hq5 : u 5 = x5 := hq5
 have hq8 : u 8 = x8 := hq8
 have hq12 : u 12 = x12 := hq12
 have hq13 : u 13 = x13 := hq13
 have hq14 : u 14 = x14 := hq14
 have hq15 : u 15 = x15 := hq15
 have hq16 : u 16 = x16 := hq16
 have hq17 : u 17 = x17 := hq17
 have hq80 : u 80 = x80 := hq80
 have hq81 : u 81 = x81 := hq81
 have hq7 : u 7 = uv := hq7
 rw [hq4, hq6, hq0, hq1, hq2, hq3, hq5, hq8, hq12, hq13, hq14, hq15, hq16, hq17, hq80, hq81, hq7]
 clear hq4 hq6 hq0 hq1 hq2 hq3 hq5 hq8 hq12 hq13 hq14 hq15 hq16 hq17 hq80 hq81 hq7 hs
 have z1 : ¬ 9223372036854775807 < q.size + 2 := by omega
 have z2 : ¬ 9223372036854775807 < q.size + 2 + jn.size := by omega
 have z3 : ¬ 9223372036854775807 < q.size + 2 + jn.size + 1 := by omega
 have z4 : ¬ 9223372036854775807 < q.size + 2 + jn.size + 1 + td.size := by omega
 refine wp_region_held (S := fun W => Mods (fun b => v.ownBlock = some b) w W) (by kernel_rfl) ?_
 show wpAnyH _ _ _ _ _ 15 _ _ w.drew
 have hN : New w w.drew := (Mods.refl _ _).drew
 have hS : Mods (fun b => v.ownBlock = some b) w w.drew := (Mods.refl _ _).drew
 refine anyH_take 0 (some 65) (v) rfl rfl (by kernel_rfl) (by kernel_rfl) (by kernel_rfl) (fun _ _ _ h => h.elim) (.inl ⟨by rfl, fun W hW => by go_simp⟩) hS ?_
 simp only [Act.put, List.setIfInBounds_toArray, List.set_cons_succ, List.set_cons_zero]
 refine anyH_take 1 (some 66) (.pointer (some ⟨B, 0, none⟩)) rfl rfl (by kernel_rfl) (by kernel_rfl) (by kernel_rfl) (fun _ _ _ h => h.elim) (.inl ⟨by rfl, fun W hW => by go_simp⟩) hS ?_
 simp only [Act.put, List.setIfInBounds_toArray, List.set_cons_succ, List.set_cons_zero]
 refine anyH_take 2 (some 67) (.string q) rfl rfl (by kernel_rfl) (by kernel_rfl) (by kernel_rfl) (fun _ _ _ h => h.elim) (.inl ⟨by rfl, fun W hW => by have hh : Mods (fun b => v.ownBlock = some b) w W := hW; have q := hh.cell k0 hBv; go_simp⟩) hS ?_
 simp only [Act.put, List.setIfInBounds_toArray, List.set_cons_succ, List.set_cons_zero]
 refine anyH_take 3 (some 68) (.string (q ++ ⟨#[61, 40]⟩)) rfl rfl (by kernel_rfl) (by kernel_rfl) (by kernel_rfl) (fun _ _ _ h => h.elim) (.inl ⟨by rfl, fun W hW => by go_simp⟩) hS ?_
 simp only [Act.put, List.setIfInBounds_toArray, List.set_cons_succ, List.set_cons_zero]
 refine anyH_take 4 (some 69) (uv) rfl rfl (by kernel_rfl) (by kernel_rfl) (by kernel_rfl) (fun _ _ _ h => h.elim) (.inl ⟨by rfl, fun W hW => by go_simp⟩) hS ?_
 simp only [Act.put, List.setIfInBounds_toArray, List.set_cons_succ, List.set_cons_zero]
 refine anyH_take 8 (some 73) (.pointer (some ⟨B, 3, none⟩)) rfl rfl (by kernel_rfl) (by kernel_rfl) (by kernel_rfl) (fun _ _ _ h => h.elim) (.inl ⟨by rfl, fun W hW => by go_simp⟩) hS ?_
 simp only [Act.put, List.setIfInBounds_toArray, List.set_cons_succ, List.set_cons_zero]
 refine anyH_take 9 (some 74) (.slice pa pl pc) rfl rfl (by kernel_rfl) (by kernel_rfl) (by kernel_rfl) (fun _ _ _ h => h.elim) (.inl ⟨by rfl, fun W hW => by have hh : Mods (fun b => v.ownBlock = some b) w W := hW; have q := hh.cell k3 hBv; go_simp⟩) hS ?_
 simp only [Act.put, List.setIfInBounds_toArray, List.set_cons_succ, List.set_cons_zero]
 refine wpAnyH_all (rs := [5]) (by kernel_rfl) (by simp) ?_
 simp only [List.mem_cons, List.not_mem_nil, or_false, forall_eq]
 refine opH_call (some 70) rfl (by rfl) rfl 62 #[uv, .string ⟨#[32]⟩] (by go_simp) ((HJoin.out _ hN).mono ?_)
 rintro e w1 ⟨rfl, hk⟩
 have hS := hS.trans (Mods.ofNew hk)
 have hN := hN.trans hk
 clear hk
 refine ⟨_, rfl, hS, ?_⟩
 simp only [Act.put, List.setIfInBounds_toArray, List.set_cons_succ, List.set_cons_zero]
 refine anyH_take 6 (some 71) (.string ((q ++ ⟨#[61, 40]⟩) ++ jn)) rfl rfl (by kernel_rfl) (by kernel_rfl) (by kernel_rfl) (fun _ _ _ h => h.elim) (.inl ⟨by rfl, fun W hW => by go_simp⟩) hS ?_
 simp only [Act.put, List.setIfInBounds_toArray, List.set_cons_succ, List.set_cons_zero]
 refine anyH_take 7 (some 72) (.string (((q ++ ⟨#[61, 40]⟩) ++ jn) ++ ⟨#[41]⟩)) rfl rfl (by kernel_rfl) (by kernel_rfl) (by kernel_rfl) (fun _ _ _ h => h.elim) (.inl ⟨by rfl, fun W hW => by go_simp⟩) hS ?_
 simp only [Act.put, List.setIfInBounds_toArray, List.set_cons_succ, List.set_cons_zero]
 refine wpAnyH_all (rs := [10]) (by kernel_rfl) (by simp) ?_
 simp only [List.mem_cons, List.not_mem_nil, or_false, forall_eq]
 refine opH_call (some 75) rfl (by rfl) rfl 60 #[.slice pa pl pc] (by go_simp) ((HTold.out _ hN).mono ?_)
 rintro e w2 ⟨rfl, hk⟩
 have hS := hS.trans (Mods.ofNew hk)
 have hN := hN.trans hk
 clear hk
 refine ⟨_, rfl, hS, ?_⟩
 simp only [Act.put, List.setIfInBounds_toArray, List.set_cons_succ, List.set_cons_zero]
 refine anyH_take 11 (some 76) (.string ((((q ++ ⟨#[61, 40]⟩) ++ jn) ++ ⟨#[41]⟩) ++ td)) rfl rfl (by kernel_rfl) (by kernel_rfl) (by kernel_rfl) (fun _ _ _ h => h.elim) (.inl ⟨by rfl, fun W hW => by go_simp⟩) hS ?_
 simp only [Act.put, List.setIfInBounds_toArray, List.set_cons_succ, List.set_cons_zero]
 refine wpAnyH_all (rs := [12]) (by kernel_rfl) (by simp) ?_
 simp only [List.mem_cons, List.not_mem_nil, or_false, forall_eq]
 refine opH_value (some 77) (v := .slice (some ⟨w2.heap.size, 0, none⟩) 1 1) (w' := w2.alloc (.cells #[.string (q ++ ⟨#[61, 40]⟩ ++ jn ++ ⟨#[41]⟩ ++ td)] 9)) rfl rfl rfl (by go_simp) ?_
 refine ⟨hS.alloc _, ?_⟩
 simp only [Act.put, List.setIfInBounds_toArray, List.set_cons_succ, List.set_cons_zero]
 refine wpAnyH_all (rs := [13]) (by kernel_rfl) (by simp) ?_
 simp only [List.mem_cons, List.not_mem_nil, or_false, forall_eq]
 refine wpOp_append_S (l := l) (some 78) rfl rfl rfl (.tmp 65) (.tmp 77) rfl rfl rfl (by rw [← Hx.out]) (hown.new hN) hln (Nat.le_trans hbase hN.size) ?_
 intro v' W' hown' hnew
 have hS := hnew _ _ hS (fun g hg => .inr hg)
 refine ⟨hS, ?_⟩
 simp only [Act.put, List.setIfInBounds_toArray, List.set_cons_succ, List.set_cons_zero]
 refine anyH_take 14 (some 4) (v') rfl rfl (by kernel_rfl) (by kernel_rfl) (by kernel_rfl) (fun _ _ _ h => h.elim) (.inl ⟨by rfl, fun W hW => by go_simp⟩) hS ?_
 simp only [Act.put, List.setIfInBounds_toArray, List.set_cons_succ, List.set_cons_zero]
 refine wpAnyH_done (by kernel_rfl) ?_ _
 exact ⟨v', ⟨rfl, rfl, rfl, rfl, rfl, rfl, rfl, rfl, rfl, rfl, rfl, rfl, rfl, rfl, rfl, rfl, rfl, rfl⟩, hown', fun w0 h1 h2 => hnew w0 _ (h1.trans hN) (fun g hg => .inl (Nat.le_trans h2 (hown.lt g hg).1))⟩
end Go.Proofs.YtkiiameibdhdfaaGreatDoor
namespace Go.Proofs.YtkiiameibdhdfaaGreatDoor
open Go.RowKit Go.Shelf Go.Cs
attribute [local go_sem] Oper.semAt_some


def PrX (x : Bare.Itm) : Prop := SmX x ∧ x.params.length ≤ 500
def PrM (m : Bare.Mem) : Prop := SmM m ∧ m.items.length ≤ 500 ∧ m.params.length ≤ 500 ∧ ∀ x ∈ m.items, PrX x
def PrD (d : List Bare.Mem) : Prop := d.length ≤ 500 ∧ ∀ m ∈ d, PrM m
theorem toldP_len {L : List Bare.Par} (h : L.length ≤ 500) (hs : ∀ p ∈ L, SmP p) : (Bare.told L).length ≤ 100000000 := by
 have := told_len L hs
 have := Nat.mul_le_mul_right 200000 h
 omega
theorem toldI_len {x : Bare.Itm} (h : PrX x) : (Bare.toldI x).length ≤ 100050000 := by
 have h1 := toldP_len h.2 h.1.2.2.2
 have h2 := text_len x.bare
 have h3 := h.1.2.1
 unfold Bare.toldI
 rw [List.length_append]
 omega
theorem joinI_len {L : List Bare.Itm} (h : L.length ≤ 500) (hs : ∀ x ∈ L, PrX x) : (Bare.joinW [32] (L.map Bare.toldI)).length ≤ 50030000000 := by
 have := joinW_len [32] 100050001 (L.map Bare.toldI) (fun l hl => by
  obtain ⟨x, hx, rfl⟩ := List.mem_map.1 hl
  have := toldI_len (hs x hx)
  simp; omega)
 rw [List.length_map] at this
 have := Nat.mul_le_mul_right 100050001 h
 omega
theorem toldM_len {m : Bare.Mem} (h : PrM m) (hm : m.inner = true ∨ m.items.length = 1) : (Bare.toldM m).length ≤ 50200000000 := by
 obtain ⟨h1, h2, h3, h4⟩ := h
 have hk := h1.1
 unfold Bare.toldM
 split
 ·have := joinI_len h2 h4
  have := toldP_len h3 h1.2.2.2.2
  simp; omega
 ·rename_i hi
  have hl : m.items.length = 1 := hm.resolve_left hi
  obtain ⟨x, hx⟩ : ∃ x, m.items = [x] := List.length_eq_one_iff.1 hl
  have hx' := h4 x (by rw [hx]; simp)
  have e : m.items.headD Bare.noI = x := by rw [hx]; rfl
  rw [e]
  have := toldP_len hx'.2 hx'.1.2.2.2
  have := valued_len x.bare
  have := hx'.1.2.1
  simp; omega
theorem joinD_len {d : List Bare.Mem} (h : d.length ≤ 500) (hs : ∀ m ∈ d, (Bare.toldM m).length ≤ 50200000000) : (Bare.joinW [44, 32] (d.map Bare.toldM)).length ≤ 140737488355328 := by
 have := joinW_len [44, 32] 50200000002 (d.map Bare.toldM) (fun l hl => by
  obtain ⟨x, hx, rfl⟩ := List.mem_map.1 hl
  have := hs x hx
  simp; omega)
 rw [List.length_map] at this
 have := Nat.mul_le_mul_right 50200000002 h
 omega
theorem take_map_snoc {α : Type} (d : List α) (z : α) (f : α → Bare.Bs) (k : Nat) (hk : k < d.length) : (d.map f).take (k + 1) = (d.map f).take k ++ [f (d.getD k z)] := by
 have e : d.getD k z = d[k] := by simp [List.getD, hk]
 rw [List.take_add_one, List.getElem?_map, List.getElem?_eq_getElem hk, e]
 rfl
set_option maxHeartbeats 8000000 in
set_option maxRecDepth 100000 in
theorem print_d {τ : Bool} (v : Value) (d : List Bare.Mem) (w : World) (h : RdD τ w v d) (hs : PrD d) (hT : Tab w) :
  Calls Tryz.prog 26 #[v] w fun e w' => e = .returned (printV (Bare.printD d)) ∧ New w w' := by
 have HR := Lib.hid (right_d v d w h (fun m hm => (hs.2 m hm).1))
 have HV := Lib.hid h
 have HS := Lib.hid hs.2
 have HT := Lib.hid hT
 have hl := hs.1
 obtain ⟨ao, cap, rfl⟩ := h.slice
 obtain ⟨n, hn⟩ : ∃ n, d.length = n := ⟨_, rfl⟩
 have Hn := Lib.hid hn
 rw [hn] at hl HV HR ⊢
 have hN0 : New w w := Mods.refl _ _
 cases hr : Bare.rightD d with
 | false =>
  rw [hr] at HR
  have e : Bare.printD d = none := by unfold Bare.printD; rw [hr]; rfl
  rw [e]
  unfold printV
  clear h hs hT hn hr e
  go_enter Tryz.func26, Tryz.ntmps26
  go_wp2_with fail
  refine HR.out.mono ?_
  rintro e w1 ⟨rfl, hN1⟩
  go_wp2_with fail
  go_ret2
  exact ⟨rfl, hN1⟩
 | true =>
  rw [hr] at HR
  have e : Bare.printD d = some (Bare.joinW [44, 32] (d.map Bare.toldM)) := by unfold Bare.printD; rw [hr]; rfl
  have HM : Hid (∀ i, i < n → Bare.memB (d.getD i noM) = true) := Lib.hid (by
   have : d.all Bare.memB = true := by unfold Bare.rightD at hr; rw [Bool.and_eq_true] at hr; exact hr.2
   rw [← hn]; exact (all_upto d noM _).1 this)
  have hlen : ∀ m ∈ d, (Bare.toldM m).length ≤ 50200000000 := fun m hm => toldM_len (hs.2 m hm) (by
   have : d.all Bare.memB = true := by unfold Bare.rightD at hr; rw [Bool.and_eq_true] at hr; exact hr.2
   have := List.all_eq_true.1 this m hm
   rcases (Bare.mem_parts this).1 with h | h
   ·exact .inl h
   ·exact .inr h.1)
  have HJ : Hid ((Bare.joinW [44, 32] (d.map Bare.toldM)).length ≤ 140737488355328) := Lib.hid (joinD_len hs.1 hlen)
  rw [e]
  unfold printV
  simp only
  clear h hs hT hn hr e hlen
  go_enter Tryz.func26, Tryz.ntmps26
  go_wp2_with fail
  refine HR.out.mono ?_
  rintro e w1 ⟨rfl, hN1⟩
  clear HR
  go_wp2_with fail
  go_loopw [4, 17] (fun a t wr => ∃ k : Nat, k ≤ n ∧ t = .int .i64 k ∧ OwS w.heap.size wr a ((d.map Bare.toldM).take k) ∧ New w wr) (fun _ t _ => n - (intOf t).toNat)
  case atStart => exact ⟨0, Nat.zero_le _, rfl, .nil _ _, hN1⟩
  case round =>
   clear hN1 hN0
   obtain ⟨k, hk, rfl, hown, hN⟩ := hrel
   by_cases hlt : k < n
   ·have hkd : decide ((k : Int) < (n : Int)) = true := decide_eq_true (by omega)
    have hlt' : k < d.length := by rw [Hn.out]; exact hlt
    obtain ⟨iv, pv, h1, -, h3⟩ := HV.out
    obtain ⟨b, o, rfl, hrow⟩ := (h1.new hN).at.2.2 k hlt
    obtain ⟨hi, hp⟩ := h3 k hlt'
    have hsm := HS.out _ (getD_mem (d := noM) hlt')
    have hmB := HM.out k hlt
    have Hnx := Lib.hid (take_map_snoc d noM Bare.toldM k hlt')
    have hln : ((d.map Bare.toldM).take k).length ≤ 2000000 := by rw [List.length_take]; omega
    obtain ⟨⟨key, y, its, ps⟩, hme⟩ : ∃ m, d.getD k noM = m := ⟨_, rfl⟩
    rw [hme] at hrow hi hp hsm hmB Hnx
    obtain ⟨c0, c1, c2, c3⟩ := cells4 hrow
    have HTd := Lib.hid (fun W (hW : New wr W) => told_any (pv k) ps W (hp.new (hN.trans hW)) hsm.1.2.2.2.2 (by have := hsm.2.2.1; simp only at this; omega) (HT.out.new (hN.trans hW)))
    have htl : (Bare.told ps).length ≤ 100000000 := toldP_len hsm.2.2.1 hsm.1.2.2.2.2
    obtain ⟨ia, ic, hie⟩ := hi.slice
    obtain ⟨pa, pc, hpe⟩ := hp.slice
    simp only at c0 c1 c2 c3 hie hpe hsm
    rw [hie] at c2
    rw [hpe] at c3 HTd
    have HI := Lib.hid hi
    rw [hie] at HI
    obtain ⟨pl, hpl⟩ : ∃ x, ps.length = x := ⟨_, rfl⟩
    obtain ⟨td, htd⟩ : ∃ x, tx (Bare.told ps) = x := ⟨_, rfl⟩
    have Htd := Lib.hid htd
    have hts : td.size ≤ 400000000000 := by rw [← htd, tx_size]; omega
    obtain ⟨q, hq⟩ : ∃ x, tx key = x := ⟨_, rfl⟩
    have Hq := Lib.hid hq
    have hqs : q.size ≤ 100000 := by rw [← hq, tx_size]; exact hsm.1.1
    rw [hpl] at HTd c3
    rw [htd] at HTd
    rw [hq] at c0
    have HSM := Lib.hid hsm
    have HMB := Lib.hid hmB
    clear hrow hi hp h1 h3 hie hpe iv pv hme hpl htd hq htl hsm hmB HM HS HV HJ
    obtain ⟨il, hil⟩ : ∃ x, its.length = x := ⟨_, rfl⟩
    have Hil := Lib.hid hil
    rw [hil] at c2 HI
    clear hil
    go_upto_region 7 with fail
    obtain ⟨W1, hW1⟩ : ∃ W1, wr.alloc (.cells #[.string q, .bool y, .slice ia il ic, .slice pa pl pc] 64) = W1 := ⟨_, rfl⟩
    have hr1 : W1.heap[wr.heap.size]? = some (.cells #[.string q, .bool y, .slice ia il ic, .slice pa pl pc] 64 (0, 0)) := by rw [← hW1]; exact World.alloc_heap_new _ _
    have hA : New wr W1 := by rw [← hW1]; exact (Mods.refl _ _).alloc _
    have hsz : W1.heap.size = wr.heap.size + 1 := by rw [← hW1]; simp
    rw [hW1]
    obtain ⟨avl, hav⟩ : ∃ z, (u4 : Value) = z := ⟨_, rfl⟩
    rw [hav] at hown ⊢
    have hBv : avl.ownBlock ≠ some wr.heap.size := fun e => by have := (World.ownsRow.lt hown _ e).2; omega
    have hbase : w.heap.size ≤ wr.heap.size := hN.size
    have hown1 := OwS.new hown hA
    obtain ⟨B, hB⟩ : ∃ B, wr.heap.size = B := ⟨_, rfl⟩
    rw [hB] at hr1 hBv hsz hbase ⊢
    have k0 := cell_of_row _ _ 0 _ _ _ hr1
    have k1 := cell_of_row _ _ 1 _ _ _ hr1
    have k2 := cell_of_row _ _ 2 _ _ _ hr1
    have k3 := cell_of_row _ _ 3 _ _ _ hr1
    simp only [List.getElem?_toArray, List.getElem?_cons_succ, List.getElem?_cons_zero] at k0 k1 k2 k3
    clear hW1 c0 c1 c2 c3 hav hown
    cases y with
    | false =>
     have hl1 : its.length = 1 := by
      rcases (Bare.mem_parts HMB.out).1 with h | h
      ·cases h
      ·exact h.1
     obtain ⟨x, rfl⟩ : ∃ x, its = [x] := List.length_eq_one_iff.1 hl1
     obtain rfl : il = 1 := by rw [← Hil.out]; rfl
     obtain ⟨xv, r1, -, r3⟩ := HI.out
     obtain ⟨ib, io, rfl, hxr0⟩ := r1.at.2.2 0 (by decide)
     have hibl : ib < w.heap.size := by
      obtain ⟨ob, ho, _⟩ := cells_of_cell (hxr0 0 _ rfl)
      exact (Array.getElem?_eq_some_iff.1 ho).1
     have hxr : W1.rangeAt ib (io + 0 * 5) (ics ([x].getD 0 Bare.noI) (xv 0)) := fun j u hj => (hN.trans hA).cell (hxr0 j u hj) id
     have hxp := (r3 0 (Nat.zero_lt_one)).new (hN.trans hA)
     have hxs := HSM.out.2.2.2 x (by simp)
     simp only [List.getD_cons_zero, Nat.zero_mul, Nat.add_zero] at hxr hxp
     have HVal := Lib.hid (fun W (hW : New W1 W) => valued_any x.bare ⟨hxs.1.1, hxs.1.2.1⟩ W (HT.out.new ((hN.trans hA).trans hW)))
     have HTx := Lib.hid (fun W (hW : New W1 W) => told_any (xv 0) x.params W (hxp.new hW) hxs.1.2.2.2 (by have := hxs.2; omega) (HT.out.new ((hN.trans hA).trans hW)))
     have htl : (Bare.told x.params).length ≤ 100000000 := toldP_len hxs.2 hxs.1.2.2.2
     have hvl := valued_len x.bare
     have hxt := hxs.1.2.1
     obtain ⟨xa, xc, hxe⟩ := hxp.slice
     rw [hxe] at hxr HTx
     have hmt : Bare.toldM ⟨key, false, [x], ps⟩ = key ++ (Bare.valued x.bare ++ Bare.told x.params) := rfl
     rw [hmt] at Hnx
     obtain ⟨⟨kk, nn, tt, yy⟩, xps⟩ := x
     obtain ⟨i0, i1, i2, i3, i4⟩ := cells5 hxr
     unfold bv bcs at HVal
     simp only at i0 i1 i2 i3 i4 HVal HTx htl hvl hxt Hnx
     obtain ⟨s, hse⟩ : ∃ x, tx tt = x := ⟨_, rfl⟩
     obtain ⟨vl, hve⟩ : ∃ x, tx (Bare.valued ⟨kk, nn, tt, yy⟩) = x := ⟨_, rfl⟩
     obtain ⟨tx', hte⟩ : ∃ x, tx (Bare.told xps) = x := ⟨_, rfl⟩
     have hvs : vl.size ≤ 50000 := by rw [← hve, tx_size]; omega
     have hxs' : tx'.size ≤ 400000000000 := by rw [← hte, tx_size]; omega
     have Hx : Hid (q ++ vl ++ tx' = tx (key ++ (Bare.valued ⟨kk, nn, tt, yy⟩ ++ Bare.told xps))) := Lib.hid (by rw [← Hq.out, ← hve, ← hte, cat_bl, cat_bl, bl_tx, bl_tx, bl_tx, bl_tx, List.append_assoc])
     rw [hse] at i2 HVal
     rw [hve] at HVal
     rw [hte] at HTx
     have hIv : avl.ownBlock ≠ some ib := fun e => by
      have h1 := (World.ownsRow.lt hown1 _ e).1
      omega
     clear hse hve hte htl hvl hxt hxr hxr0 hxp hxs r1 r3 hxe hmt hl1
     go_upto_region 8 with fail
     refine piece (fun _ => _) (print8 _ rfl W1 rfl rfl rfl rfl rfl rfl rfl rfl rfl rfl rfl rfl rfl rfl rfl rfl k0 k2 i0 i1 i2 i3 i4 hBv hIv HVal HTx Hx hown1 hln (by rw [hsz]; omega) hqs hvs hxs') ?_
     rintro ⟨z, dfs⟩ W2 ⟨v2, ⟨hs, hd, hq4, hq6, hq0, hq1, hq2, hq3, hq5, hq8, hq12, hq13, hq14, hq15, hq16, hq17, hq80, hq81⟩, hown2, hnew⟩
     simp only at hs hd hq4 hq6 hq0 hq1 hq2 hq3 hq5 hq8 hq12 hq13 hq14 hq15 hq16 hq17 hq80 hq81
     subst hd
     obtain ⟨u, rfl⟩ := lit82 z hs
     have hp4 : u 4 = v2 := hq4
     have hp6 : u 6 = .pointer (some ⟨B, 0, none⟩) := hq6
     have hp0 : u 0 = .slice (some ⟨b, o, none⟩) n cap := hq0
     have hp1 : u 1 = undef := hq1
     have hp2 : u 2 = .string ⟨#[]⟩ := hq2
     have hp3 : u 3 = .int .i64 0 := hq3
     have hp5 : u 5 = undef := hq5
     have hp8 : u 8 = undef := hq8
     have hp12 : u 12 = .slice (some ⟨b, o, none⟩) n cap := hq12
     have hp13 : u 13 = .bool true := hq13
     have hp14 : u 14 = .bool false := hq14
     have hp15 : u 15 = .slice (some ⟨b, o, none⟩) n cap := hq15
     have hp16 : u 16 = .int .i64 n := hq16
     have hp17 : u 17 = .int .i64 k := hq17
     have hp80 : u 80 = undef := hq80
     have hp81 : u 81 = undef := hq81
     rw [hp4, hp6, hp0, hp1, hp2, hp3, hp5, hp8, hp12, hp13, hp14, hp15, hp16, hp17, hp80, hp81]
     clear hp4 hq4 hp6 hq6 hp0 hq0 hp1 hq1 hp2 hq2 hp3 hq3 hp5 hq5 hp8 hq8 hp12 hq12 hp13 hq13 hp14 hq14 hp15 hq15 hp16 hq16 hp17 hq17 hp80 hq80 hp81 hq81 hs
     have hown3 : OwS w.heap.size W2 v2 ((d.map Bare.toldM).take (k + 1)) := by rw [Hnx.out]; exact hown2
     have hN3 := hnew w (hN.trans hA) (Nat.le_refl _)
     go_wp2_with fail
     go_roundw
     case rel => exact ⟨k + 1, by omega, by go_num, hown3, hN3⟩
     case measure => simp [intOf]; omega
    | true =>
     have hNA : New w W1 := hN.trans hA
     have HTd' : Hid (∀ W, New W1 W → Calls Tryz.prog 60 #[.slice pa pl pc] W fun e w' => e = .returned (.string td) ∧ New W w') := Lib.hid fun W hW => HTd.out W (hA.trans hW)
     have HIx : Hid (∀ x ∈ its, PrX x) := Lib.hid HSM.out.2.2.2
     have hil : il ≤ 500 := by have := HSM.out.2.1; simp only at this; rw [← Hil.out]; exact this
     have HTW := Lib.hid (HT.out.new hNA)
     have hmt : Bare.toldM ⟨key, true, its, ps⟩ = key ++ (61 :: 40 :: (Bare.joinW [32] (its.map Bare.toldI) ++ (41 :: Bare.told ps))) := rfl
     rw [hmt] at Hnx
     have hbW : w.heap.size ≤ W1.heap.size := hNA.size
     clear HTd HSM HMB hmt hN hA hbase HT hB hsz
     go_wp2_with fail
     go_loopw [7, 46] (fun a t wi => ∃ j : Nat, j ≤ il ∧ t = .int .i64 j ∧ OwS W1.heap.size wi a ((its.map Bare.toldI).take j) ∧ New W1 wi) (fun _ t _ => il - (intOf t).toNat)
     case atStart => exact ⟨0, Nat.zero_le _, rfl, .nil _ _, Mods.refl _ _⟩
     case round =>
      obtain ⟨j, hj, rfl, hui, hNi⟩ := hrel
      by_cases hjl : j < il
      ·have hjd : decide ((j : Int) < (il : Int)) = true := decide_eq_true (by omega)
       have hjl' : j < its.length := by rw [Hil.out]; exact hjl
       obtain ⟨xv, r1, -, r3⟩ := HI.out
       obtain ⟨ib, io, rfl, hxr0⟩ := r1.at.2.2 j hjl
       have hxr : wr.rangeAt ib (io + j * 5) (ics (its.getD j Bare.noI) (xv j)) := fun i u hj => (hNA.trans hNi).cell (hxr0 i u hj) id
       have hxp := (r3 j hjl').new (hNA.trans hNi)
       have hxs := HIx.out _ (getD_mem (d := Bare.noI) hjl')
       have Hnj := Lib.hid (take_map_snoc its Bare.noI Bare.toldI j hjl')
       have hlj : ((its.map Bare.toldI).take j).length ≤ 2000000 := by rw [List.length_take]; omega
       obtain ⟨x, hxx⟩ : ∃ x, its.getD j Bare.noI = x := ⟨_, rfl⟩
       rw [hxx] at hxr hxp hxs Hnj
       have HPr := Lib.hid (fun W (hW : New wr W) => print_any x.bare hxs.1.1 hxs.1.2.1 W (HTW.out.new (hNi.trans hW)))
       have HTx := Lib.hid (fun W (hW : New wr W) => told_any (xv j) x.params W (hxp.new hW) hxs.1.2.2.2 (by have := hxs.2; omega) (HTW.out.new (hNi.trans hW)))
       obtain ⟨zc, hpv⟩ := printV_text x.bare
       rw [hpv] at HPr
       have htl : (Bare.told x.params).length ≤ 100000000 := toldP_len hxs.2 hxs.1.2.2.2
       have hvl := text_len x.bare
       have hxt := hxs.1.2.1
       obtain ⟨xa, xc, hxe⟩ := hxp.slice
       rw [hxe] at hxr HTx
       obtain ⟨⟨kk, nn, tt, yy⟩, xps⟩ := x
       obtain ⟨i0, i1, i2, i3, i4⟩ := cells5 hxr
       unfold bv bcs at HPr
       simp only at i0 i1 i2 i3 i4 HPr HTx htl hvl hxt Hnj
       obtain ⟨s, hse⟩ : ∃ x, tx tt = x := ⟨_, rfl⟩
       obtain ⟨vl, hve⟩ : ∃ x, tx (Bare.textI ⟨kk, nn, tt, yy⟩) = x := ⟨_, rfl⟩
       obtain ⟨tx', hte⟩ : ∃ x, tx (Bare.told xps) = x := ⟨_, rfl⟩
       have hvs : vl.size ≤ 50000 := by rw [← hve, tx_size]; omega
       have hxs' : tx'.size ≤ 400000000000 := by rw [← hte, tx_size]; omega
       have Hx : Hid (vl ++ tx' = tx (Bare.toldI ⟨⟨kk, nn, tt, yy⟩, xps⟩)) := Lib.hid (by rw [← hve, ← hte, cat_bl, bl_tx, bl_tx]; rfl)
       obtain ⟨xpl, hxpl⟩ : ∃ x, xps.length = x := ⟨_, rfl⟩
       rw [hse] at i2 HPr
       rw [hve] at HPr
       rw [hte] at HTx
       rw [hxpl] at i4 HTx
       clear hse hve hte htl hvl hxt hxr hxr0 hxp hxs r1 r3 hxe hpv hxpl hxx
       go_upto_region 13 with fail
       obtain ⟨W3, hW3⟩ : ∃ W3, wr.alloc (.cells #[.int .u8 kk, .int .i64 nn, .string s, .bool yy, .slice xa xpl xc] 71) = W3 := ⟨_, rfl⟩
       have hr3 : W3.heap[wr.heap.size]? = some (.cells #[.int .u8 kk, .int .i64 nn, .string s, .bool yy, .slice xa xpl xc] 71 (0, 0)) := by rw [← hW3]; exact World.alloc_heap_new _ _
       have hA3 : New wr W3 := by rw [← hW3]; exact (Mods.refl _ _).alloc _
       rw [hW3]
       obtain ⟨B3, hB3⟩ : ∃ B3, wr.heap.size = B3 := ⟨_, rfl⟩
       rw [hB3] at hr3 ⊢
       have m0 := cell_of_row _ _ 0 _ _ _ hr3
       have m1 := cell_of_row _ _ 1 _ _ _ hr3
       have m2 := cell_of_row _ _ 2 _ _ _ hr3
       have m3 := cell_of_row _ _ 3 _ _ _ hr3
       have m4 := cell_of_row _ _ 4 _ _ _ hr3
       simp only [List.getElem?_toArray, List.getElem?_cons_succ, List.getElem?_cons_zero] at m0 m1 m2 m3 m4
       clear hW3 hr3 hB3 i0 i1 i2 i3 i4
       go_wp2_with fail
       refine (HPr.out _ hA3).mono ?_
       rintro e W4 ⟨rfl, hN4⟩
       have m5 := hN4.cell m4 id
       clear m0 m1 m2 m3 m4
       go_wp2_with fail
       refine (HTx.out _ (hA3.trans hN4)).mono ?_
       rintro e W5 ⟨rfl, hN5⟩
       have hN5' := (hA3.trans hN4).trans hN5
       have hu5 := hui.new hN5'
       have hb5 : W1.heap.size ≤ W5.heap.size := (hNi.trans hN5').size
       have z1 : ¬ 9223372036854775807 < vl.size + tx'.size := by omega
       go_wp2_with (at_builtin; refine wpList_append_S (w := W5) (l := Bare.toldI ⟨⟨kk, nn, tt, yy⟩, xps⟩) _ _ rfl rfl rfl rfl (by rw [← Hx.out]) hu5 hlj hb5 ?_)
       intro v' W6 hu6 hnew
       have hN6 := hnew W1 _ (hNi.trans hN5') (fun g hg => .inl (World.ownsRow.lt hu5 g hg).1)
       have hu7 : OwS W1.heap.size W6 v' ((its.map Bare.toldI).take (j + 1)) := by rw [Hnj.out]; exact hu6
       clear hu5 hu6 hui hnew m5
       go_wp2_with fail
       go_roundw
       case rel => exact ⟨j + 1, by omega, by go_num, hu7, hN6⟩
       case measure => simp [intOf]; omega
      ·obtain rfl : j = il := by omega
       have hjd : decide ((j : Int) < (j : Int)) = false := decide_eq_false (by omega)
       have hall : (its.map Bare.toldI).take j = its.map Bare.toldI := by rw [List.take_of_length_le (by rw [List.length_map, Hil.out]; exact Nat.le_refl _)]
       rw [hall] at hui
       have hji := joinI_len (L := its) (by rw [Hil.out]; exact hil) HIx.out
       have HJn := Lib.hid (fun W (hW : New wr W) => join_any _ _ [32] W (hui.new hW) (by rw [List.length_map, Hil.out]; omega) (by omega))
       obtain ⟨jn, hjn⟩ : ∃ x, tx (Bare.joinW [32] (its.map Bare.toldI)) = x := ⟨_, rfl⟩
       have hjs : jn.size ≤ 140737488355328 := by rw [← hjn, tx_size]; omega
       have Hx : Hid (q ++ ⟨#[61, 40]⟩ ++ jn ++ ⟨#[41]⟩ ++ td = tx (key ++ (61 :: 40 :: (Bare.joinW [32] (its.map Bare.toldI) ++ (41 :: Bare.told ps))))) := Lib.hid (by
        rw [← Hq.out, ← hjn, ← Htd.out, cat_bl, cat_bl, cat_bl, cat_bl]
        show tx (((key ++ [61, 40]) ++ Bare.joinW [32] (its.map Bare.toldI) ++ [41]) ++ Bare.told ps) = _
        simp)
       rw [hjn] at HJn
       have HTd2 : Hid (∀ W, New wr W → Calls Tryz.prog 60 #[.slice pa pl pc] W fun e w' => e = .returned (.string td) ∧ New W w') := Lib.hid fun W hW => HTd'.out W (hNi.trans hW)
       have q0 := hNi.cell k0 id
       have q3 := hNi.cell k3 id
       have hown2 := hown1.new hNi
       clear hall hui hji hjn k0 k1 k2 k3
       go_upto_region 16 with fail
       refine piece (fun _ => _) (print16 _ rfl wr rfl rfl rfl rfl rfl rfl rfl rfl rfl rfl rfl rfl rfl rfl rfl rfl rfl q0 q3 hBv HJn HTd2 Hx hown2 hln (Nat.le_trans hbW hNi.size) hqs hjs hts) ?_
       rintro ⟨z, dfs⟩ W2 ⟨v2, ⟨hs, hd, hq4, hq6, hq0, hq1, hq2, hq3, hq5, hq8, hq12, hq13, hq14, hq15, hq16, hq17, hq80, hq81⟩, hown3, hnew⟩
       simp only at hs hd hq4 hq6 hq0 hq1 hq2 hq3 hq5 hq8 hq12 hq13 hq14 hq15 hq16 hq17 hq80 hq81
       subst hd
       obtain ⟨u, rfl⟩ := lit82 z hs
       have hp4 : u 4 = v2 := hq4
       have hp6 : u 6 = .pointer (some ⟨B, 0, none⟩) := hq6
       have hp0 : u 0 = .slice (some ⟨b, o, none⟩) n cap := hq0
       have hp1 : u 1 = undef := hq1
       have hp2 : u 2 = .string ⟨#[]⟩ := hq2
       have hp3 : u 3 = .int .i64 0 := hq3
       have hp5 : u 5 = undef := hq5
       have hp8 : u 8 = undef := hq8
       have hp12 : u 12 = .slice (some ⟨b, o, none⟩) n cap := hq12
       have hp13 : u 13 = .bool true := hq13
       have hp14 : u 14 = .bool false := hq14
       have hp15 : u 15 = .slice (some ⟨b, o, none⟩) n cap := hq15
       have hp16 : u 16 = .int .i64 n := hq16
       have hp17 : u 17 = .int .i64 k := hq17
       have hp80 : u 80 = undef := hq80
       have hp81 : u 81 = undef := hq81
       rw [hp4, hp6, hp0, hp1, hp2, hp3, hp5, hp8, hp12, hp13, hp14, hp15, hp16, hp17, hp80, hp81]
       clear hp4 hq4 hp6 hq6 hp0 hq0 hp1 hq1 hp2 hq2 hp3 hq3 hp5 hq5 hp8 hq8 hp12 hq12 hp13 hq13 hp14 hq14 hp15 hq15 hp16 hq16 hp17 hq17 hp80 hq80 hp81 hq81 hs
       have hown4 : OwS w.heap.size W2 v2 ((d.map Bare.toldM).take (k + 1)) := by rw [Hnx.out]; exact hown3
       have hN3 := hnew w (hNA.trans hNi) (Nat.le_refl _)
       go_wp2_with fail
       go_roundw
       case rel => exact ⟨k + 1, by omega, by go_num, hown4, hN3⟩
       case measure => simp [intOf]; omega
   ·obtain rfl : k = n := by omega
    have hkd : decide ((k : Int) < (k : Int)) = false := decide_eq_false (by omega)
    have hall : (d.map Bare.toldM).take k = d.map Bare.toldM := by rw [List.take_of_length_le (by rw [List.length_map, Hn.out]; exact Nat.le_refl _)]
    rw [hall] at hown
    have HJn := Lib.hid (join_any _ _ [44, 32] wr hown (by rw [List.length_map, Hn.out]; omega) HJ.out)
    clear HM HS HV HT Hn hown hall
    go_wp2_with fail
    refine HJn.out.mono ?_
    rintro e w2 ⟨rfl, hN2⟩
    go_wp2_with fail
    go_ret2
    exact ⟨rfl, hN.trans hN2⟩
end Go.Proofs.YtkiiameibdhdfaaGreatDoor
namespace Go.Proofs.YtkiiameibdhdfaaGreatDoor
open Go.RowKit Go.Shelf Go.Cs
attribute [local go_sem] Oper.semAt_some


theorem fits_of_sz {n : Nat} {d : List Bare.Mem} (hn : n ≤ 1000000) (h : SzD n d) : ∀ m ∈ d, Fits m := fun m hm => by
 obtain ⟨-, h2, h3, h4⟩ := h.2 m hm
 refine ⟨by omega, by have := h3.1; omega, fun i hi => ?_⟩
 have := (h4 _ (getD_mem (d := Bare.noI) hi)).2.1
 omega
theorem prioD_print {u : Nat} {i : Bool} (hu : u ≤ 7) : PrD (Bare.prioD u i) := by
 have hx : ∀ (k : Bare.Bs) (b : Bare.It), k.length = 1 → 0 ≤ b.kind → b.text = [] → PrM ⟨k, false, [⟨b, []⟩], []⟩ := fun k b hk hb ht => by
  refine ⟨⟨by show k.length ≤ _; omega, by simp, by simp, fun x hx => ?_, fun p hp => by cases hp⟩, by simp, by simp, fun x hx => ?_⟩
  ·rw [List.mem_singleton] at hx
   subst hx
   exact ⟨hb, by simp [ht], by simp, fun p hp => by cases hp⟩
  ·rw [List.mem_singleton] at hx
   subst hx
   exact ⟨⟨hb, by simp [ht], by simp, fun p hp => by cases hp⟩, by simp⟩
 unfold Bare.prioD
 refine ⟨by split <;> split <;> simp, fun m hm => ?_⟩
 rw [List.mem_append] at hm
 rcases hm with hm | hm
 ·split at hm
  ·cases hm
  ·rw [List.mem_singleton] at hm
   subst hm
   exact hx _ _ rfl (by show (0:Int) ≤ 1; decide) rfl
 ·split at hm
  ·rw [List.mem_singleton] at hm
   subst hm
   exact hx _ _ rfl (by show (0:Int) ≤ 6; decide) rfl
  ·cases hm
end Go.Proofs.YtkiiameibdhdfaaGreatDoor
namespace Go.Proofs.YtkiiameibdhdfaaGreatDoor
open Go.RowKit Go.Cs
def k1 (k : IntKind) (n : Int) : Value := .agg #[.int k n]
theorem k1_inj (k : IntKind) (m n : Int) (h : k1 k m = k1 k n) : m = n := by simpa [k1] using h
theorem key_one {t e : TypeId} {k : IntKind} {i : TypeInfo} (hu : Tryz.prog.underlying t = some (.array 1 e)) (he : Tryz.prog.underlying e = some (.int k)) (hi : Tryz.prog.info? e = some i) (hc : Tryz.prog.cellsOf e = 1) : KeyLike Tryz.prog t (k1 k) :=
 .asked hu (fun a es i => by cases es <;> rfl) (k1_inj k)
  (fun w em a => by
   have h0 := fun w => partAt e _ he rfl #[.int k a] 0 (.int k a) w rfl
   have hc' := fun w => MapKept.run_checkKey (P := Tryz.prog) (w := w) (k := .int k a) he rfl em 9998
   unfold Instr.checkKey k1
   simp [Sem.run_bind, run_underlying hu, run_sizeOf _ hi, hc, h0, hc', Std.Legacy.Range.forIn_eq_forIn_range', Std.Legacy.Range.size])
  (fun w a b => by
   have h0 := fun (a : Int) w => partAt e _ he rfl #[.int k a] 0 (.int k a) w rfl
   have ei := fun w (a b : Int) => run_equalIn_int w 9998 e k k a b he
   show (Op.equalIn (9999 + 1) t (k1 k a) (k1 k b)).run Tryz.prog w = _
   unfold k1
   rw [run_equalIn_array w 9999 _ _ hu hi, hc]
   simp only [List.range_succ, List.range_zero, List.nil_append, Op.eqItems, Nat.zero_mul, Sem.run_bind, h0, ei, Result.andThen_ok]
   by_cases h : a = b <;> simp [h, Sem.run_bind])
  (fun a => by simp [k1, Instr.sameBits])
end Go.Proofs.YtkiiameibdhdfaaGreatDoor
namespace Go.Cs
open Go.RowKit
variable {P : Program} {ops : Array Oper} {Q : Exit → Act → World → Prop} {md : Region.Mode} {r : Option Nat}
def subs : List Nat → List (List Nat)
 | [] => [[]]
 | i :: l => subs l ++ (subs l).map (i :: ·)
theorem filter_subs (p : Nat → Bool) : ∀ l, l.filter p ∈ subs l
 | [] => by simp [subs]
 | i :: l => by
  have ih := filter_subs p l
  unfold subs
  rw [List.mem_append, List.filter_cons]
  split
  ·exact .inr (List.mem_map.2 ⟨_, ih, rfl⟩)
  ·exact .inl ih
def mark (base : Array Bool) (D : List Nat) : Array Bool := base.mapIdx fun i b => b || D.contains i
theorem mark_congr (base : Array Bool) {D S : List Nat} (h : ∀ i, i ∈ D ↔ i ∈ S) : mark base D = mark base S := by
 unfold mark
 congr 1
 funext i b
 have : D.contains i = S.contains i := by
  rw [Bool.eq_iff_iff]; simp [h]
 rw [this]
theorem mark_set (base : Array Bool) (D : List Nat) (i : Nat) : (mark base D).setIfInBounds i true = mark base (i :: D) := by
 apply Array.ext
 ·simp [mark]
 ·intro j h1 h2
  simp only [mark, Array.size_setIfInBounds, Array.size_mapIdx] at h1
  rw [Array.getElem_setIfInBounds (by simpa [mark] using h1)]
  by_cases e : i = j
  ·subst e; simp [mark]
  ·simp [mark, e, Ne.symm e]
theorem nodup_le : ∀ {l m : List Nat}, l.Nodup → (∀ x ∈ l, x ∈ m) → l.length ≤ m.length
 | [], m, _, _ => by simp
 | x :: l, m, hn, hs => by
  have hx := hs x (by simp)
  have hn' := List.nodup_cons.1 hn
  have ih := nodup_le (m := m.erase x) hn'.2 fun y hy => (List.mem_erase_of_ne (by rintro rfl; exact hn'.1 hy)).2 (hs y (by simp [hy]))
  rw [List.length_erase_of_mem hx] at ih
  have : 0 < m.length := List.length_pos_of_mem hx
  simp
  omega
theorem any_set (idx : List Nat) (base : Array Bool) (fuel : Nat) (J : List Nat → World → Prop) (a : Act)
  (hready : ((subs idx).all fun S => decide (S.length = idx.length) || decide (Region.ready md ops (mark base S) = idx.filter fun i => !S.contains i)) = true)
  (hnd : idx.Nodup)
  (hstep : ∀ D i W, (∀ j ∈ D, j ∈ idx) → i ∈ idx → i ∉ D → J D W → ∀ K : Act → World → Prop, (∀ W', J (i :: D) W' → K a W') → wpOpIn (Fr r) 0 P ops Q i K a W)
  (hend : ∀ D W, (∀ j, j ∈ D ↔ j ∈ idx) → D.length = idx.length → J D W → wpAnyIn (Fr r) 0 P md ops Q fuel (mark base idx) a W) :
  ∀ (n : Nat) (D : List Nat) (W : World), (∀ j ∈ D, j ∈ idx) → D.Nodup → n + D.length = idx.length → J D W → wpAnyIn (Fr r) 0 P md ops Q (fuel + n) (mark base D) a W := by
 intro n
 induction n with
 | zero =>
  intro D W hD hn hl hJ
  have hiff : ∀ j, j ∈ D ↔ j ∈ idx := by
   intro j
   refine ⟨hD j, fun hj => ?_⟩
   by_cases hjD : j ∈ D
   ·exact hjD
   ·have := nodup_le (l := j :: D) (m := idx) (List.nodup_cons.2 ⟨hjD, hn⟩) (fun x hx => by
     rcases List.mem_cons.1 hx with rfl | hx
     ·exact hj
     ·exact hD x hx)
    simp at this
    omega
  rw [mark_congr base hiff]
  exact hend D W hiff (by omega) hJ
 | succ n ih =>
  intro D W hD hn hl hJ
  have hS : ∀ j, j ∈ idx.filter (fun i => D.contains i) ↔ j ∈ D := fun j => by
   rw [List.mem_filter]
   simp
   exact fun h => hD j h
  have hsub := filter_subs (fun i => D.contains i) idx
  have hr := List.all_eq_true.1 hready _ hsub
  have hlen : (idx.filter fun i => D.contains i).length = D.length := by
   have h1 : (idx.filter fun i => D.contains i).Perm D := (List.perm_ext_iff_of_nodup (hnd.filter _) hn).2 hS
   exact h1.length_eq
  rw [Bool.or_eq_true, decide_eq_true_eq, decide_eq_true_eq] at hr
  rcases hr with hr | hr
  ·omega
  ·rw [mark_congr base hS] at hr
   have hc : ∀ i, (idx.filter fun i => D.contains i).contains i = D.contains i := fun i => by
    rw [Bool.eq_iff_iff]
    simp only [List.contains_iff_mem]
    exact hS i
   simp only [hc] at hr
   refine wpAnyIn_all hr ?_ ?_
   ·intro h0
    rw [List.filter_eq_nil_iff] at h0
    have : idx.length ≤ D.length := by
     refine nodup_le hnd fun j hj => ?_
     have := h0 j hj
     simpa using this
    omega
   ·intro i hi
    rw [List.mem_filter] at hi
    have hiD : i ∉ D := by simpa using hi.2
    refine hstep D i W hD hi.1 hiD hJ _ fun W' hJ' => ?_
    rw [mark_set]
    exact ih (i :: D) W' (fun j hj => by
     rcases List.mem_cons.1 hj with rfl | hj
     ·exact hi.1
     ·exact hD j hj) (List.nodup_cons.2 ⟨hiD, hn⟩) (by simp; omega) hJ'
theorem any_inserts {k : TypeId} {α : Type} [DecidableEq α] {enc : α → Value} (K : KeyLike P k enc) {t e : TypeId} (ht : P.underlying t = some (.map k e)) (idx : List Nat) (base : Array Bool) (fuel : Nat) (key : Nat → α) (val : Nat → Value) (a : Act) (B : Nat) (J : World → Prop) {nn : Nat} {listed : Array Bool}
  (hready : ((subs idx).all fun S => decide (S.length = idx.length) || decide (Region.ready md ops (mark base S) = idx.filter fun i => !S.contains i)) = true)
  (hnd : idx.Nodup) (hinj : ∀ i ∈ idx, ∀ j ∈ idx, key i = key j → i = j) (hf : nn = fuel + idx.length) (hl : listed = mark base [])
  (hop : ∀ i ∈ idx, ∃ (o : Oper) (m x v : Operand), ops[i]? = some o ∧ o.op = .insert t m x v ∧ o.dst = none ∧ o.guard = none ∧ a.eval m = .map (some B) ∧ a.eval x = enc (key i) ∧ a.eval v = val i)
  (hJ : ∀ W o, o.isCells = false → J W → J (W.putObj B o))
  {W : World} (hW : J W) (hm : W.heap[B]? = some (.map #[] 0))
  (hend : ∀ W, J W → MapFn enc W B idx.length (fun q => (idx.find? fun i => decide (key i = q)).map val) → wpAnyIn (Fr r) 0 P md ops Q fuel (mark base idx) a W) :
  wpAnyIn (Fr r) 0 P md ops Q nn listed a W := by
 subst hf hl
 have hfind : ∀ (D : List Nat) (q : α) (i : Nat), (∀ j ∈ D, j ∈ idx) → i ∈ idx → key i = q → (D.find? fun i => decide (key i = q)) = if i ∈ D then some i else none := by
  intro D q i hD hi hq
  induction D with
  | nil => simp
  | cons j D ih =>
   have ih := ih fun x hx => hD x (by simp [hx])
   rw [List.find?_cons]
   by_cases e : key j = q
   ·have : j = i := hinj j (hD j (by simp)) i hi (e.trans hq.symm)
    subst this
    simp [e]
   ·have hne : i ≠ j := by rintro rfl; exact e hq
    simp [e, ih, hne]
 refine any_set idx base fuel (fun D W => J W ∧ MapFn enc W B D.length (fun q => (D.find? fun i => decide (key i = q)).map val)) a hready hnd ?_ ?_ idx.length [] W (fun _ h => by cases h) List.nodup_nil rfl ⟨hW, ?_⟩
 ·rintro D i W hD hi hiD ⟨hJW, hM⟩ K' hK
  obtain ⟨o, m, x, v, h1, h2, h3, h4, h5, h6, h7⟩ := hop i hi
  have hnone : (D.find? fun j => decide (key j = key i)).map val = none := by
   rw [hfind D (key i) i hD hi rfl, if_neg hiD]
   rfl
  obtain ⟨ob, hrun, hob, hM'⟩ := hM.put K ht (key i) (val i) hnone
  refine opIn_skip none (by simp [plainOp, h2]) h1 h4 h3 (w' := W.putObj B ob) ?_ ?_
  ·unfold execOp
   simp only [h2, h5, h6, h7, Sem.run_bind, hrun]
   rfl
  ·refine hK _ ⟨hJ _ _ hob hJW, hM'.congr fun q => ?_⟩
   by_cases e : q = key i
   ·subst e
    rw [if_pos rfl, List.find?_cons]
    simp
   ·rw [if_neg e, List.find?_cons]
    have : ¬ key i = q := fun h => e h.symm
    simp [this]
 ·rintro D W hiff hlen ⟨hJW, hM⟩
  refine hend W hJW ?_
  obtain ⟨es, c, g1, g2, g3, g4⟩ := hM
  have hfe : ∀ q, ((D.find? fun i => decide (key i = q)).map val) = ((idx.find? fun i => decide (key i = q)).map val) := by
   intro q
   by_cases hex : ∃ i ∈ idx, key i = q
   ·obtain ⟨i, hi, hq⟩ := hex
    rw [hfind D q i (fun j hj => (hiff j).1 hj) hi hq, hfind idx q i (fun _ h => h) hi hq, if_pos ((hiff i).2 hi), if_pos hi]
   ·have h1 : (D.find? fun i => decide (key i = q)) = none := by
     rw [List.find?_eq_none]
     intro i hi
     simpa using fun h => hex ⟨i, (hiff i).1 hi, h⟩
    have h2 : (idx.find? fun i => decide (key i = q)) = none := by
     rw [List.find?_eq_none]
     intro i hi
     simpa using fun h => hex ⟨i, hi, h⟩
    rw [h1, h2]
  exact ⟨es, c, g1, by omega, fun e he => by
   obtain ⟨b, hb, hv⟩ := g3 e he
   exact ⟨b, hb, (hfe b).symm.trans hv⟩, fun b v hv => g4 b v ((hfe b).trans hv)⟩
 ·exact MapFn.made hm
end Go.Cs
namespace Go.Proofs.YtkiiameibdhdfaaGreatDoor
open Go.RowKit Go.Shelf Go.Cs
attribute [local go_sem] Oper.semAt_some


theorem info5 : ∃ i, Tryz.prog.info? 5 = some i := info_of_underlying Tryz.underlying5
theorem keyB1 : KeyLike Tryz.prog 128 (k1 .u8) := by
 obtain ⟨i, hi⟩ := info5
 exact key_one Tryz.underlying128 Tryz.underlying5 hi (by kernel_rfl)
def cKey (i : Nat) : Int := if i = 2 then 117 else 105
def cVal (i : Nat) : Value := if i = 2 then .func (.func 136) #[] #[] else .func (.func 137) #[] #[]
def cntF (q : Int) : Option Value := ([2, 4].find? fun i => decide (cKey i = q)).map cVal
theorem cntF_u : cntF 117 = some (.func (.func 136) #[] #[]) := by simp [cntF, cKey, cVal]
theorem cntF_i : cntF 105 = some (.func (.func 137) #[] #[]) := by simp [cntF, cKey, cVal]
set_option maxHeartbeats 2000000 in
theorem counts_any (w : World) : Calls Tryz.prog 88 #[] w fun e w' => ∃ M, e = .returned (.map (some M)) ∧ MapFn (k1 .u8) w' M 2 cntF ∧ New w w' := by
 go_enter Tryz.func88, Tryz.ntmps88
 go_wp2_with fail
 refine piece (fun a' a'' Wq => ∃ M, a'' = (a'.put (some 2) (k1 .u8 117) |>.put (some 3) (k1 .u8 105) |>.put (some 1) (.map (some M)) |>.put (some 4) (.map (some M)) |>.put (some 0) (.map (some M))) ∧ MapFn (k1 .u8) Wq M 2 cntF ∧ New w Wq) ?_ ?_
 ·refine (wpIn_wide (n := 0)).1 ?_
  refine wpIn_region_any (by kernel_rfl) ?_
  show wpAnyIn _ _ _ _ _ _ 7 _ _ w.drew
  refine any_take 1 (some 2) (k1 .u8 117) rfl rfl (by kernel_rfl) (by kernel_rfl) (by kernel_rfl) (fun _ _ _ h => h.elim) (.value rfl fun w => by go_simp; rfl) ?_
  refine any_take 3 (some 3) (k1 .u8 105) rfl rfl (by kernel_rfl) (by kernel_rfl) (by kernel_rfl) (fun _ _ _ h => h.elim) (.value rfl fun w => by go_simp; rfl) ?_
  simp only [Act.put, List.setIfInBounds_toArray, List.set_cons_succ, List.set_cons_zero]
  refine wpAnyIn_all (rs := [0]) (by kernel_rfl) (by simp) ?_
  simp only [List.mem_cons, List.not_mem_nil, or_false, forall_eq]
  refine opIn_value (some 1) (v := .map (some w.drew.heap.size)) (w' := w.drew.alloc (.map #[] 0)) rfl rfl rfl rfl (by have hmm := @run_makeMap Tryz.prog; go_simp) ?_
  have hm := World.alloc_heap_new w.drew (.map #[] 0)
  have hN1 : New w (w.drew.alloc (.map #[] 0)) := (Mods.refl _ _).drew.alloc _
  have hM1 : w.heap.size ≤ w.drew.heap.size := Nat.le_refl _
  obtain ⟨M, hM⟩ : ∃ M, w.drew.heap.size = M := ⟨_, rfl⟩
  obtain ⟨W1, hW1⟩ : ∃ W, w.drew.alloc (.map #[] 0) = W := ⟨_, rfl⟩
  rw [hW1] at hm hN1 ⊢
  rw [hM] at hm hM1 ⊢
  clear hM hW1
  simp only [Act.put, List.setIfInBounds_toArray, List.set_cons_succ, List.set_cons_zero]
  refine any_inserts keyB1 Tryz.underlying130 [2, 4] #[true, true, false, true, false, false, false] 2 cKey cVal _ M (fun W => New w W) (by kernel_rfl) (by decide) (by decide +kernel) rfl (by kernel_rfl) ?_ ?_ hN1 hm ?_
  ·intro i hi
   simp only [List.mem_cons, List.not_mem_nil, or_false] at hi
   rcases hi with rfl | rfl
   ·exact ⟨_, _, _, _, rfl, rfl, rfl, rfl, rfl, rfl, rfl⟩
   ·exact ⟨_, _, _, _, rfl, rfl, rfl, rfl, rfl, rfl, rfl⟩
  ·intro W o _ hW
   exact hW.putObj hM1 o
  ·intro W hW hMap
   refine wpAnyIn_all (rs := [5]) (by kernel_rfl) (by simp) ?_
   simp only [List.mem_cons, List.not_mem_nil, or_false, forall_eq]
   refine opIn_value (some 4) (v := .map (some M)) (w' := W) rfl rfl rfl rfl (by go_simp) ?_
   refine wpAnyIn_all (rs := [6]) (by kernel_rfl) (by simp) ?_
   simp only [List.mem_cons, List.not_mem_nil, or_false, forall_eq]
   refine opIn_value (some 0) (v := .map (some M)) (w' := W) rfl rfl rfl rfl (by go_simp) ?_
   refine wpAnyIn_done (by kernel_rfl) ?_ _
   exact ⟨M, rfl, hMap, hW⟩
 ·rintro a' Wz ⟨M, rfl, hMap, hN⟩
  simp only [Act.put, List.setIfInBounds_toArray, List.set_cons_succ, List.set_cons_zero]
  go_wp2_with fail
  go_ret
  exact ⟨M, rfl, hMap, hN⟩
end Go.Proofs.YtkiiameibdhdfaaGreatDoor
namespace Go.Cs
open Go.RowKit
variable {P : Program} {ops : Array Oper} {Q : Exit → Act → World → Prop}
theorem opIn_yield {i : Nat} {o : Oper} (d : Option Tmp) {l : Nat} {fn : FuncId} {tmps : Array Value} {assign body : Code} {a : Act} {w w' : World} {K R : _} (hp : plainOp o = true) (hi : ops[i]? = some o) (hg : o.guard = none) (hd : o.dst = d)
  (h : (execOp a.eval o).run P w = .ok (.round l fn tmps assign body) w') (hR : RoundIn Fence.wide 0 P l fn tmps assign body w' R) (hK : ∀ e w'', R e w'' → ∃ v, e = .returned v ∧ K (a.put d v) w'') : wpOpIn (Fr none) 0 P ops Q i K a w := by
 subst hd
 unfold Go.wpOpIn
 simp only [hi, Region.wanted, hg, if_true, Oper.wpIn, semAt_plain hp, h, Oper.uponIn_round]
 refine ⟨fun _ _ => trivial, (fun h => by simp [Fence.wide] at h), hR.mono ?_⟩
 rintro e w'' hh
 obtain ⟨v, rfl, hk⟩ := hK e w'' hh
 exact hk
end Go.Cs
