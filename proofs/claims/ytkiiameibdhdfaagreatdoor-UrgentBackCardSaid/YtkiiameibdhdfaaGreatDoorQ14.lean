/- Texts joined. -/
import Derived.Test.YtkiiameibdhdfaaGreatDoorQ13
import Derived.Test.YtkiiameibdhdfaaGreatDoorQ09
import Derived.Test.YtkiiameibdhdfaaGreatDoorQ06
import Derived.Test.YtkiiameibdhdfaaGreatDoorQ03
import Derived.Test.YtkiiameibdhdfaaGreatDoorQ07
set_option linter.unusedSimpArgs false
set_option linter.unusedVariables false
namespace Go.Proofs.YtkiiameibdhdfaaGreatDoor
open Go.RowKit Go.Shelf Go.Cs
attribute [local go_sem] Oper.semAt_some


theorem run_sx (k : Nat) (h : k < 64) (W : World) : (Instr.index 9 (.string ⟨#[65, 66, 67, 68, 69, 70, 71, 72, 73, 74, 75, 76, 77, 78, 79, 80, 81, 82, 83, 84, 85, 86, 87, 88, 89, 90, 97, 98, 99, 100, 101, 102, 103, 104, 105, 106, 107, 108, 109, 110, 111, 112, 113, 114, 115, 116, 117, 118, 119, 120, 121, 122, 48, 49, 50, 51, 52, 53, 54, 55, 56, 57, 43, 47]⟩) (.int .i64 (k : Nat))).run Tryz.prog W = .ok (.int .u8 ((Bare.s6 k).toNat : Nat)) W := by
 have := run_idx (tx Bare.sx) k h W
 rw [gb_six k h] at this
 exact this
theorem lit67 (t : Array Value) (h : t.size = 67) : ∃ u : Nat → Value, t = (u 0 :: u 1 :: u 2 :: u 3 :: u 4 :: u 5 :: u 6 :: u 7 :: u 8 :: u 9 :: u 10 :: u 11 :: u 12 :: u 13 :: u 14 :: u 15 :: u 16 :: u 17 :: u 18 :: u 19 :: u 20 :: u 21 :: u 22 :: u 23 :: u 24 :: u 25 :: u 26 :: u 27 :: u 28 :: u 29 :: u 30 :: u 31 :: u 32 :: u 33 :: u 34 :: u 35 :: u 36 :: u 37 :: u 38 :: u 39 :: u 40 :: u 41 :: u 42 :: u 43 :: u 44 :: u 45 :: u 46 :: u 47 :: u 48 :: u 49 :: u 50 :: u 51 :: u 52 :: u 53 :: u 54 :: u 55 :: u 56 :: u 57 :: u 58 :: u 59 :: u 60 :: u 61 :: u 62 :: u 63 :: u 64 :: u 65 :: u 66 :: ([] : List Value)).toArray := ⟨fun i => t.getD i undef, range_lit t 67 h⟩
noncomputable def reg_causeyref12_Sixes_13 : Code := ((Tryz.f79.body.bind (regionOf 13)).getD .skip)
set_option maxHeartbeats 4000000 in
set_option maxRecDepth 100000 in
theorem sixes13 (t : Array Value) (hs : t.size = 67) (w : World) {N a0 a1 a2 a3 : Nat}
  (hq5 : t.getD 5 undef = .int .i64 N)
  (e0 : (N : Int) / 262144 = (a0 : Int)) (e1 : (N : Int) / 4096 % 64 = (a1 : Int)) (e2 : (N : Int) / 64 % 64 = (a2 : Int)) (e3 : (N : Int) % 64 = (a3 : Int)) (h0 : a0 < 64) (h1 : a1 < 64) (h2 : a2 < 64) (h3 : a3 < 64) (w0 : IntKind.i64.wrap (a0 : Int) = (a0 : Int)) (w1 : IntKind.i64.wrap ((N : Int) / 4096) = (N : Int) / 4096) (w2 : IntKind.i64.wrap ((N : Int) / 64) = (N : Int) / 64) :
  reg_causeyref12_Sixes_13.wp Tryz.prog (Only fun a' W' => ∃ z : Nat → Value, ∃ X, a' = ⟨((((((((((((((((t).setIfInBounds 38 (z 38)).setIfInBounds 39 (z 39)).setIfInBounds 40 (z 40)).setIfInBounds 41 (z 41)).setIfInBounds 42 (z 42)).setIfInBounds 43 (z 43)).setIfInBounds 44 (z 44)).setIfInBounds 45 (z 45)).setIfInBounds 46 (z 46)).setIfInBounds 47 (z 47)).setIfInBounds 48 (z 48)).setIfInBounds 49 (z 49)).setIfInBounds 50 (z 50)).setIfInBounds 51 (z 51)).setIfInBounds 52 (z 52)).setIfInBounds 8 (.slice (some ⟨X, 0, none⟩) 4 4), []⟩ ∧ W'.heap[X]? = some (.cells #[.int .u8 ((Bare.s6 a0).toNat : Nat), .int .u8 ((Bare.s6 a1).toNat : Nat), .int .u8 ((Bare.s6 a2).toNat : Nat), .int .u8 ((Bare.s6 a3).toNat : Nat)] 5 (0, 0)) ∧ w.heap.size ≤ X ∧ New w W') ⟨t, []⟩ w := by
 conv => arg 2; whnf
 obtain ⟨u, rfl⟩ := lit67 t hs
 have hq5 : u 5 = .int .i64 N := hq5
 rw [hq5]
 clear hq5 hs
 refine wp_region_held (S := fun W => New w W) (by kernel_rfl) ?_
 show wpAnyH _ _ _ _ _ 16 _ _ w.drew
 have hN : New w w.drew := (Mods.refl _ _).drew
 have hS : New w w.drew := (Mods.refl _ _).drew
 refine anyH_take 0 (some 38) (.int .i64 N) rfl rfl (by kernel_rfl) (by kernel_rfl) (by kernel_rfl) (fun _ _ _ h => h.elim) (.inl ⟨by rfl, fun W hW => by go_simp⟩) hS ?_
 simp only [Act.put, List.setIfInBounds_toArray, List.set_cons_succ, List.set_cons_zero]
 refine anyH_take 1 (some 39) (.int .i64 a0) rfl rfl (by kernel_rfl) (by kernel_rfl) (by kernel_rfl) (fun _ _ _ h => h.elim) (.inl ⟨by rfl, fun W hW => by go_simp; first | done | exact w0 | exact e0⟩) hS ?_
 simp only [Act.put, List.setIfInBounds_toArray, List.set_cons_succ, List.set_cons_zero]
 refine anyH_take 2 (some 40) (.int .u8 ((Bare.s6 a0).toNat : Nat)) rfl rfl (by kernel_rfl) (by kernel_rfl) (by kernel_rfl) (fun _ _ _ h => h.elim) (.inl ⟨by rfl, fun W hW => by have hz := run_sx a0 h0 W; go_simp⟩) hS ?_
 simp only [Act.put, List.setIfInBounds_toArray, List.set_cons_succ, List.set_cons_zero]
 refine anyH_take 3 (some 41) (.int .i64 N) rfl rfl (by kernel_rfl) (by kernel_rfl) (by kernel_rfl) (fun _ _ _ h => h.elim) (.inl ⟨by rfl, fun W hW => by go_simp⟩) hS ?_
 simp only [Act.put, List.setIfInBounds_toArray, List.set_cons_succ, List.set_cons_zero]
 refine anyH_take 4 (some 42) (.int .i64 ((N : Int) / 4096)) rfl rfl (by kernel_rfl) (by kernel_rfl) (by kernel_rfl) (fun _ _ _ h => h.elim) (.inl ⟨by rfl, fun W hW => by go_simp; first | done | exact w1⟩) hS ?_
 simp only [Act.put, List.setIfInBounds_toArray, List.set_cons_succ, List.set_cons_zero]
 refine anyH_take 5 (some 43) (.int .i64 a1) rfl rfl (by kernel_rfl) (by kernel_rfl) (by kernel_rfl) (fun _ _ _ h => h.elim) (.inl ⟨by rfl, fun W hW => by go_simp; first | done | exact e1⟩) hS ?_
 simp only [Act.put, List.setIfInBounds_toArray, List.set_cons_succ, List.set_cons_zero]
 refine anyH_take 6 (some 44) (.int .u8 ((Bare.s6 a1).toNat : Nat)) rfl rfl (by kernel_rfl) (by kernel_rfl) (by kernel_rfl) (fun _ _ _ h => h.elim) (.inl ⟨by rfl, fun W hW => by have hz := run_sx a1 h1 W; go_simp⟩) hS ?_
 simp only [Act.put, List.setIfInBounds_toArray, List.set_cons_succ, List.set_cons_zero]
 refine anyH_take 7 (some 45) (.int .i64 N) rfl rfl (by kernel_rfl) (by kernel_rfl) (by kernel_rfl) (fun _ _ _ h => h.elim) (.inl ⟨by rfl, fun W hW => by go_simp⟩) hS ?_
 simp only [Act.put, List.setIfInBounds_toArray, List.set_cons_succ, List.set_cons_zero]
 refine anyH_take 8 (some 46) (.int .i64 ((N : Int) / 64)) rfl rfl (by kernel_rfl) (by kernel_rfl) (by kernel_rfl) (fun _ _ _ h => h.elim) (.inl ⟨by rfl, fun W hW => by go_simp; first | done | exact w2⟩) hS ?_
 simp only [Act.put, List.setIfInBounds_toArray, List.set_cons_succ, List.set_cons_zero]
 refine anyH_take 9 (some 47) (.int .i64 a2) rfl rfl (by kernel_rfl) (by kernel_rfl) (by kernel_rfl) (fun _ _ _ h => h.elim) (.inl ⟨by rfl, fun W hW => by go_simp; first | done | exact e2⟩) hS ?_
 simp only [Act.put, List.setIfInBounds_toArray, List.set_cons_succ, List.set_cons_zero]
 refine anyH_take 10 (some 48) (.int .u8 ((Bare.s6 a2).toNat : Nat)) rfl rfl (by kernel_rfl) (by kernel_rfl) (by kernel_rfl) (fun _ _ _ h => h.elim) (.inl ⟨by rfl, fun W hW => by have hz := run_sx a2 h2 W; go_simp⟩) hS ?_
 simp only [Act.put, List.setIfInBounds_toArray, List.set_cons_succ, List.set_cons_zero]
 refine anyH_take 11 (some 49) (.int .i64 N) rfl rfl (by kernel_rfl) (by kernel_rfl) (by kernel_rfl) (fun _ _ _ h => h.elim) (.inl ⟨by rfl, fun W hW => by go_simp⟩) hS ?_
 simp only [Act.put, List.setIfInBounds_toArray, List.set_cons_succ, List.set_cons_zero]
 refine anyH_take 12 (some 50) (.int .i64 a3) rfl rfl (by kernel_rfl) (by kernel_rfl) (by kernel_rfl) (fun _ _ _ h => h.elim) (.inl ⟨by rfl, fun W hW => by go_simp; first | done | exact e3⟩) hS ?_
 simp only [Act.put, List.setIfInBounds_toArray, List.set_cons_succ, List.set_cons_zero]
 refine anyH_take 13 (some 51) (.int .u8 ((Bare.s6 a3).toNat : Nat)) rfl rfl (by kernel_rfl) (by kernel_rfl) (by kernel_rfl) (fun _ _ _ h => h.elim) (.inl ⟨by rfl, fun W hW => by have hz := run_sx a3 h3 W; go_simp⟩) hS ?_
 simp only [Act.put, List.setIfInBounds_toArray, List.set_cons_succ, List.set_cons_zero]
 refine wpAnyH_all (rs := [14]) (by kernel_rfl) (by simp) ?_
 simp only [List.mem_cons, List.not_mem_nil, or_false, forall_eq]
 refine opH_value (some 52) rfl (by rfl) rfl (v := .slice (some ⟨w.drew.heap.size, 0, none⟩) 4 4) (w' := w.drew.alloc (.cells #[.int .u8 ((Bare.s6 a0).toNat : Nat), .int .u8 ((Bare.s6 a1).toNat : Nat), .int .u8 ((Bare.s6 a2).toNat : Nat), .int .u8 ((Bare.s6 a3).toNat : Nat)] 5)) (by go_simp) ?_
 have hA : New w.drew (w.drew.alloc (.cells #[.int .u8 ((Bare.s6 a0).toNat : Nat), .int .u8 ((Bare.s6 a1).toNat : Nat), .int .u8 ((Bare.s6 a2).toNat : Nat), .int .u8 ((Bare.s6 a3).toNat : Nat)] 5)) := (Mods.refl _ _).alloc _
 have rX := World.alloc_heap_new w.drew (.cells #[.int .u8 ((Bare.s6 a0).toNat : Nat), .int .u8 ((Bare.s6 a1).toNat : Nat), .int .u8 ((Bare.s6 a2).toNat : Nat), .int .u8 ((Bare.s6 a3).toNat : Nat)] 5)
 have hS := hS.trans hA
 refine ⟨hS, ?_⟩
 simp only [Act.put, List.setIfInBounds_toArray, List.set_cons_succ, List.set_cons_zero]
 refine anyH_take 15 (some 8) (.slice (some ⟨w.drew.heap.size, 0, none⟩) 4 4) rfl rfl (by kernel_rfl) (by kernel_rfl) (by kernel_rfl) (fun _ _ _ h => h.elim) (.inl ⟨by rfl, fun W hW => by go_simp⟩) hS ?_
 simp only [Act.put, List.setIfInBounds_toArray, List.set_cons_succ, List.set_cons_zero]
 refine wpAnyH_done (by kernel_rfl) ?_ _
 exact ⟨(fun zz => ([.int .i64 N, .int .i64 a0, .int .u8 ((Bare.s6 a0).toNat : Nat), .int .i64 N, .int .i64 ((N : Int) / 4096), .int .i64 a1, .int .u8 ((Bare.s6 a1).toNat : Nat), .int .i64 N, .int .i64 ((N : Int) / 64), .int .i64 a2, .int .u8 ((Bare.s6 a2).toNat : Nat), .int .i64 N, .int .i64 a3, .int .u8 ((Bare.s6 a3).toNat : Nat), .slice (some ⟨w.drew.heap.size, 0, none⟩) 4 4] : List Value).getD (cond (Nat.beq zz 38) 0 (cond (Nat.beq zz 39) 1 (cond (Nat.beq zz 40) 2 (cond (Nat.beq zz 41) 3 (cond (Nat.beq zz 42) 4 (cond (Nat.beq zz 43) 5 (cond (Nat.beq zz 44) 6 (cond (Nat.beq zz 45) 7 (cond (Nat.beq zz 46) 8 (cond (Nat.beq zz 47) 9 (cond (Nat.beq zz 48) 10 (cond (Nat.beq zz 49) 11 (cond (Nat.beq zz 50) 12 (cond (Nat.beq zz 51) 13 (cond (Nat.beq zz 52) 14 (0)))))))))))))))) undef), _, rfl, rX, hN.size, hS⟩
def nv (l : Bare.Bs) : Nat → Nat
 | 0 => 0
 | m + 1 => nv l m * 256 + (l.getD m 0).toNat
theorem nv_chunk (l : Bare.Bs) : (Bare.chunk l).1 = nv l 3 := by
 unfold Bare.chunk nv nv nv nv
 simp only
 omega
theorem nv_lt (l : Bare.Bs) : nv l 2 ≤ 65535 ∧ nv l 1 ≤ 255 ∧ nv l 0 = 0 := by
 unfold nv nv nv
 have h0 := UInt8.toNat_lt (l.getD 0 0)
 have h1 := UInt8.toNat_lt (l.getD 1 0)
 omega
theorem nv_small (l : Bare.Bs) {m : Nat} (h : m < 3) : nv l m ≤ 65535 := by
 have := nv_lt l
 rcases (by omega : m = 0 ∨ m = 1 ∨ m = 2) with rfl | rfl | rfl <;> omega
theorem sixes_step {l : Bare.Bs} (h : l ≠ []) : Bare.sixes l = Bare.four (Bare.chunk l) ++ Bare.sixes (l.drop 3) := by
 rw [Bare.sixes_four, Bare.chunks_cons h, List.flatMap_cons, ← Bare.sixes_four]
theorem four_cells {N h a0 a1 a2 a3 : Nat} (e0 : (N : Int) / 262144 = (a0 : Int)) (e1 : (N : Int) / 4096 % 64 = (a1 : Int)) (e2 : (N : Int) / 64 % 64 = (a2 : Int)) (e3 : (N : Int) % 64 = (a3 : Int)) (h0 : a0 < 64) (hh : 1 ≤ h) :
  u8s (Bare.four (N, h)) = [.int .u8 ((Bare.s6 a0).toNat : Nat), .int .u8 ((Bare.s6 a1).toNat : Nat), .int .u8 ((if h < 2 then 61 else Bare.s6 a2).toNat : Nat), .int .u8 ((if h < 3 then 61 else Bare.s6 a3).toNat : Nat)] := by
 have f0 : N / 2 ^ (18 - 6 * 0) % 64 = a0 := by simp; omega
 have f1 : N / 2 ^ (18 - 6 * 1) % 64 = a1 := by simp; omega
 have f2 : N / 2 ^ (18 - 6 * 2) % 64 = a2 := by simp; omega
 have f3 : N / 2 ^ (18 - 6 * 3) % 64 = a3 := by simp; omega
 unfold Bare.four Bare.letterOf
 simp only [f0, f1, f2, f3]
 rw [if_neg (by omega : ¬ h < 0), if_neg (by omega : ¬ h < 1)]
 rfl
set_option maxHeartbeats 4000000 in
set_option maxRecDepth 100000 in
theorem sixes_r (s : ByteArray) (w : World) (hs : s.size ≤ 1000000) :
  Calls Tryz.prog 79 #[.string s] w fun e w' => e = .returned (.string (tx (Bare.sixes (bl s)))) ∧ New w w' := by
 obtain ⟨i0, hi, hz0, hz1, hz2⟩ := info_parts infoB'
 obtain ⟨R, hR⟩ : ∃ R, Bare.sixes (bl s) = R := ⟨_, rfl⟩
 have HR : Hid (([] : Bare.Bs) ++ Bare.sixes ((bl s).drop 0) = R) := Lib.hid (by simpa using hR)
 rw [hR]
 clear hR
 have hN0 : New w w := Mods.refl _ _
 obtain ⟨B, hB⟩ : ∃ B, w.heap.size = B := ⟨_, rfl⟩
 have hown0 := World.ownsRow_nil w B 5 1
 have hNs : ∀ W, New w W → B ≤ W.heap.size := fun W h => by have := h.size; omega
 go_enter Tryz.func79, Tryz.ntmps79
 go_upto_region 3 with fail
 go_loopw [3, 4] (fun v i W => ∃ (j : Nat) (acc : Bare.Bs), j ≤ s.size + 2 ∧ i = .int .i64 j ∧ acc.length ≤ 2 * j ∧ W.ownsRow B 5 1 v acc.length (u8s acc) ∧ New w W ∧ Hid (acc ++ Bare.sixes ((bl s).drop j) = R)) (fun _ i _ => s.size + 3 - (intOf i).toNat)
 case atStart => exact ⟨0, [], by omega, rfl, by simp, hown0, hN0, HR⟩
 case round =>
  clear HR hN0 hown0
  obtain ⟨wo, hwo⟩ : ∃ x, x = wr := ⟨_, rfl⟩
  subst hwo
  obtain ⟨j, acc, hj, rfl, hal, hown, hN, HR⟩ := hrel
  by_cases hlt : j < s.size
  ·obtain ⟨l, hl⟩ : ∃ l, (bl s).drop j = l := ⟨_, rfl⟩
   have hll : l.length = s.size - j := by rw [← hl, List.length_drop, bl_len]
   have hlg : ∀ m, j + m < s.size → l.getD m 0 = gb s (j + m) := fun m hm => by
    rw [← hl, List.getD_eq_getElem?_getD, List.getElem?_drop, gb_get s (j + m) hm]; rfl
   have hl0 : ∀ m, ¬ j + m < s.size → l.getD m 0 = 0 := fun m hm => by
    rw [List.getD_eq_getElem?_getD, List.getElem?_eq_none (by omega)]; rfl
   have hst := sixes_step (l := l) (by intro e; rw [e] at hll; simp at hll; omega)
   have hR2 : acc ++ (Bare.four (Bare.chunk l) ++ Bare.sixes ((bl s).drop (j + 3))) = R := by
    rw [← HR.out, hl, hst, ← hl, List.drop_drop]
   have HR2 := Lib.hid hR2
   obtain ⟨hv, hhv⟩ : ∃ h, s.size - j = h := ⟨_, rfl⟩
   have hv1 : 1 ≤ hv := by omega
   have hjv : s.size = j + hv := by omega
   have HL := Lib.hid (And.intro hlg hl0)
   have HOW := Lib.hid hown
   have hch : Bare.chunk l = (nv l 3, min 3 hv) := by
    rw [← nv_chunk]
    unfold Bare.chunk
    rw [hll, hhv]
   have HCH := Lib.hid hch
   have HJV := Lib.hid hjv
   have hsj : (s.size : Int) = (j : Int) + (hv : Int) := by omega
   have hjb : (j : Int) + (hv : Int) ≤ 1000000 := by omega
   clear hst hR2 hlg hl0 hown HR hl hll hhv hch hjv
   go_upto_region 7 with fail
   go_loop [5, 6, 7] (fun a b c => ∃ m : Nat, m ≤ 3 ∧ a = .int .i64 (nv l m : Nat) ∧ b = .int .i64 (min m hv : Nat) ∧ c = .int .i64 m) (fun _ _ c => 3 - (intOf c).toNat)
   case atStart => exact ⟨0, by omega, rfl, by simp, rfl⟩
   case round =>
    obtain ⟨m, hm, rfl, rfl, rfl⟩ := hrel
    by_cases hm3 : m < 3
    ·have hb := nv_small l hm3
     obtain ⟨x, hx⟩ : ∃ x, nv l m = x := ⟨_, rfl⟩
     have hx1 : nv l (m + 1) = x * 256 + (l.getD m 0).toNat := by rw [← hx]; rfl
     rw [hx] at hb ⊢
     by_cases hin : m < hv
     ·have hmi : min m hv = m := by omega
      have hmi2 : min (m + 1) hv = m + 1 := by omega
      have hsz := HJV.out
      have hix := run_idx s (j + m) (by omega)
      have hg := HL.out.1 m (by omega)
      have hix2 : ∀ W, (Instr.index 9 (.string s) (.int .i64 ((j : Int) + (m : Int)))).run Tryz.prog W = .ok (.int .u8 ((l.getD m 0).toNat : Nat)) W := fun W => by rw [hg]; exact hix W
      obtain ⟨b, hbb⟩ : ∃ b, (l.getD m 0).toNat = b := ⟨_, rfl⟩
      have hb256 : b < 256 := by rw [← hbb]; exact UInt8.toNat_lt _
      rw [hbb] at hix2 hx1
      rw [hmi]
      have hlj : (j : Int) + (m : Int) < (j : Int) + (hv : Int) := by omega
      clear hmi hix hg hbb hx hsz
      go_wp2_with fail
      go_round
      case rel => exact ⟨m + 1, by omega, by rw [hx1]; go_num, by rw [hmi2]; go_num, by go_num⟩
      case measure => simp [intOf]; omega
     ·have hmi : min m hv = hv := by omega
      have hmi2 : min (m + 1) hv = hv := by omega
      have hg := HL.out.2 m (by have := HJV.out; omega)
      rw [hg] at hx1
      rw [hmi]
      have hlj : ¬ (j : Int) + (m : Int) < (j : Int) + (hv : Int) := by omega
      clear hmi hg hx
      go_wp2_with fail
      go_round
      case rel => exact ⟨m + 1, by omega, by rw [hx1]; simp, by rw [hmi2], by go_num⟩
      case measure => simp [intOf]; omega
    ·obtain rfl : m = 3 := by omega
     have hNlt : nv l 3 < 16777216 := by rw [← nv_chunk]; exact Bare.chunk_lt l
     have HCH2 := HCH.out
     obtain ⟨N, hNN⟩ : ∃ N, nv l 3 = N := ⟨_, rfl⟩
     obtain ⟨h, hh⟩ : ∃ h, min 3 hv = h := ⟨_, rfl⟩
     have hh13 : 1 ≤ h ∧ h ≤ 3 := by omega
     obtain ⟨hh1, hh3⟩ := hh13
     rw [hNN] at hNlt HCH2 ⊢
     rw [hh] at HCH2 ⊢
     replace HCH2 := Lib.hid HCH2
     clear hNN hh hm hm3
     obtain ⟨a0, e0, h0⟩ : ∃ a : Nat, (N : Int) / 262144 = (a : Int) ∧ a < 64 := ⟨N / 262144, by omega, by omega⟩
     obtain ⟨a1, e1, h1⟩ : ∃ a : Nat, (N : Int) / 4096 % 64 = (a : Int) ∧ a < 64 := ⟨N / 4096 % 64, by omega, by omega⟩
     obtain ⟨a2, e2, h2⟩ : ∃ a : Nat, (N : Int) / 64 % 64 = (a : Int) ∧ a < 64 := ⟨N / 64 % 64, by omega, by omega⟩
     obtain ⟨a3, e3, h3⟩ : ∃ a : Nat, (N : Int) % 64 = (a : Int) ∧ a < 64 := ⟨N % 64, by omega, by omega⟩
     have HF := Lib.hid (four_cells e0 e1 e2 e3 h0 hh1)
     go_upto_region 13 with fail
     refine piece (fun _ => _) (sixes13 _ rfl wo rfl e0 e1 e2 e3 h0 h1 h2 h3 (IntWalk.i64_in _ ⟨by omega, by omega⟩) (IntWalk.i64_in _ ⟨by omega, by omega⟩) (IntWalk.i64_in _ ⟨by omega, by omega⟩)) ?_
     rintro a' W1 ⟨z, X, rfl, rX, hXw, hN1⟩
     simp only [List.setIfInBounds_toArray, List.set_cons_succ, List.set_cons_zero]
     have ho1 := Mods.ownsRow hN1 HOW.out (fun _ _ h => h)
     have HOlt := Lib.hid HOW.out.lt
     have HO1 := Lib.hid ho1
     clear e0 e1 e2 e3 h0 h1 h2 h3 hNlt ho1
     go_upto_region 15 with fail
     go_loopw [9] (fun t W => ∃ m : Nat, h + 1 ≤ m ∧ m ≤ 4 ∧ t = .int .i64 m ∧ W.heap[X]? = some (.cells #[.int .u8 ((Bare.s6 a0).toNat : Nat), .int .u8 ((Bare.s6 a1).toNat : Nat), .int .u8 ((if h < 2 ∧ 2 < m then 61 else Bare.s6 a2).toNat : Nat), .int .u8 ((if h < 3 ∧ 3 < m then 61 else Bare.s6 a3).toNat : Nat)] 5 (0, 0)) ∧ Mods (fun b => b = X) W1 W) (fun t _ => 4 - (intOf t).toNat)
     case atStart => exact ⟨h + 1, by omega, by omega, by go_num, by rw [if_neg (by omega), if_neg (by omega)]; exact rX, Mods.refl _ _⟩
     case round =>
      obtain ⟨m, hm1, hm4, rfl, rX2, hM⟩ := hrel
      clear rX
      have hXl := (Array.getElem?_eq_some_iff.1 rX2).1
      by_cases hlt4 : m < 4
      ·have hmd : decide ((m : Int) < 4) = true := decide_eq_true (by omega)
       rcases (by omega : m = 2 ∨ m = 3) with rfl | rfl
       ·have c2 := cell_of_row _ _ 2 _ _ _ rX2
        have f2 := frozen_row (i := 2) rX2
        have s2 := setCell_heap (i := 2) rX2 (.int .u8 61)
        simp only [List.getElem?_toArray, List.getElem?_cons_zero, List.getElem?_cons_succ] at c2
        simp only [List.setIfInBounds_toArray, List.set_cons_succ, List.set_cons_zero] at s2
        have hM2 := hM.trans (setMods wr X 2 (.int .u8 61))
        clear rX2
        go_wp2_with fail
        go_roundw
        case rel => exact ⟨3, by omega, by omega, by go_num, by rw [s2, if_pos (show h < 2 ∧ 2 < 3 by omega), if_neg (show ¬ (h < 3 ∧ 3 < 3) by omega), if_neg (show ¬ (h < 3 ∧ 3 < 2) by omega)]; rfl, hM2⟩
        case measure => simp [intOf]
       ·have c2 := cell_of_row _ _ 3 _ _ _ rX2
        have f2 := frozen_row (i := 3) rX2
        have s2 := setCell_heap (i := 3) rX2 (.int .u8 61)
        simp only [List.getElem?_toArray, List.getElem?_cons_zero, List.getElem?_cons_succ] at c2
        simp only [List.setIfInBounds_toArray, List.set_cons_succ, List.set_cons_zero] at s2
        have hM2 := hM.trans (setMods wr X 3 (.int .u8 61))
        clear rX2
        go_wp2_with fail
        go_roundw
        case rel => exact ⟨4, by omega, by omega, by go_num, by rw [s2, if_pos (show h < 3 ∧ 3 < 4 by omega)]; congr 6; simp, hM2⟩
        case measure => simp [intOf]
      ·obtain rfl : m = 4 := by omega
       have ho2 := Mods.ownsRow hM HO1.out (fun g hg e => by have := (HOlt.out g hg).2; omega)
       have hN2 : New w wr := ((Mods.ofNew (hN.trans hN1)).trans hM).new (fun g hg => by have := hNs _ hN; omega)
       have hf := HF.out
       have e2 : (if h < 2 ∧ 2 < 4 then (61 : UInt8) else Bare.s6 a2) = if h < 2 then 61 else Bare.s6 a2 := by congr 1; simp
       have e3 : (if h < 3 ∧ 3 < 4 then (61 : UInt8) else Bare.s6 a3) = if h < 3 then 61 else Bare.s6 a3 := by congr 1; simp
       rw [e2, e3] at rX2
       have rX3 : wr.heap[X]? = some (.cells (u8s (Bare.four (N, h))).toArray 5 (0, 0)) := by rw [hf]; exact rX2
       obtain ⟨F, hF⟩ : ∃ F, Bare.four (N, h) = F := ⟨_, rfl⟩
       have hFl : F.length = 4 := by rw [← hF]; rfl
       rw [hF] at rX3
       have HFF := Lib.hid hF
       have hlu : (u8s F).length = 4 := by rw [u8s_len]; exact hFl
       have hou : ∀ u ∈ u8s F, u.oneCell' = true := fun u hu => by
        obtain ⟨c, -, rfl⟩ := List.mem_map.1 hu
        rfl
       have HRX := Lib.hid rX3
       have HO2 := Lib.hid ho2
       have hBW := hNs _ hN2
       clear rX2 e2 e3 hf hF HF hm1 hm4 hlt4 rX3 ho2
       go_wp2_with (at_builtin; refine wpList_append_own _ rfl _ _ 113 rfl B 5 i0 _ 1 1 Tryz.underlying113 hi hz0 hz1 hz2 rfl (by decide) _ _ _ rfl HO2.out ⟨X, 0, none⟩ 4 4 (u8s F) rfl (by rw [hlu]) (fun k u hk => by rw [add_at, cell_of_row _ _ _ _ _ _ HRX.out]; simpa using hk) hou (by unfold maxLen; omega) (by have := HO2.out.1; omega) (by omega) ?_)
       intro v' W3 hown' hgrow _
       have hN3 : New w W3 := hN2.grown hgrow (fun g hg => .inl (by have := (HO2.out.lt g hg).1; omega))
       have hown3 : W3.ownsRow B 5 1 v' (acc ++ F).length (u8s (acc ++ F)) := by
        have : u8s (acc ++ F) = u8s acc ++ u8s F := by simp [u8s]
        rw [this, List.length_append, hFl]
        exact hown'
       clear hown' hgrow
       go_wp2_with fail
       go_roundw
       case rel => exact ⟨j + 3, acc ++ F, by omega, by go_num, by rw [List.length_append, hFl]; omega, hown3, hN3, Lib.hid (by
        have := HR2.out
        rw [HCH2.out, HFF.out] at this
        rw [List.append_assoc]
        exact this)⟩
       case measure => simp [intOf]; omega
  ·have hlj : ¬ (j : Int) < (s.size : Int) := by omega
   have hnil : (bl s).drop j = [] := List.drop_eq_nil_of_le (by rw [bl_len]; omega)
   have hac : acc = R := by rw [← HR.out, hnil]; simp [Bare.sixes]
   subst hac
   have hcv := conv_own (w := wo) hown
   clear HR hnil
   go_wp2_with fail
   go_ret
   exact ⟨rfl, hN⟩
end Go.Proofs.YtkiiameibdhdfaaGreatDoor
namespace Go.Proofs.YtkiiameibdhdfaaGreatDoor
open Go.RowKit Go.Shelf Go.Cs
attribute [local go_sem] Oper.semAt_some


theorem drop_one (s : ByteArray) (k : Nat) (h : k < s.size) : (bl s).drop k = gb s k :: (bl s).drop (k + 1) := by
 have hl : k < (bl s).length := by rw [bl_len]; exact h
 rw [List.drop_eq_getElem_cons hl]
 have := gb_get s k h
 rw [List.getElem?_eq_getElem hl] at this
 rw [Option.some.inj this]
def un (c : Nat → UInt8) : Nat → Nat
 | 0 => 0
 | m + 1 => un c m * 64 + (Bare.v6 (c m)).getD 0
def uh (c : Nat → UInt8) : Nat → Nat
 | 0 => 0
 | m + 1 => uh c m + if (Bare.v6 (c m)).isSome then 1 else 0
theorem v6_lt (c : UInt8) : (Bare.v6 c).getD 0 < 64 := by
 cases h : Bare.v6 c with
 | none => decide
 | some v => exact (Bare.v6_facts h).1
theorem un_lt (c : Nat → UInt8) : ∀ m, un c m < 64 ^ m
 | 0 => by show 0 < 1; decide
 | m + 1 => by
  have := un_lt c m
  have := v6_lt (c m)
  unfold un
  rw [Nat.pow_succ]
  omega
theorem uh_le (c : Nat → UInt8) : ∀ m, uh c m ≤ m
 | 0 => Nat.le_refl _
 | m + 1 => by
  have := uh_le c m
  unfold uh
  split <;> omega
theorem refOut_short : ∀ {l : Bare.Bs}, l.length < 4 → Bare.refOut l = some []
 | [], _ => rfl
 | [_], _ => rfl
 | [_, _], _ => rfl
 | [_, _, _], _ => rfl
 | _ :: _ :: _ :: _ :: _, h => by simp at h; omega
theorem refOut_four (c : Nat → UInt8) (r : Bare.Bs) : Bare.refOut (c 0 :: c 1 :: c 2 :: c 3 :: r) = if uh c 4 < 2 then none else (Bare.refOut r).map (([UInt8.ofNat (un c 4 / 65536), UInt8.ofNat (un c 4 / 256 % 256), UInt8.ofNat (un c 4 % 256)].take (uh c 4 - 1)) ++ ·) := by
 have e1 : Bare.val4 (c 0) (c 1) (c 2) (c 3) = un c 4 := by unfold Bare.val4 un un un un un; simp
 have e2 : Bare.have4 (c 0) (c 1) (c 2) (c 3) = uh c 4 := by unfold Bare.have4 uh uh uh uh uh; simp
 rw [Bare.refOut, e1, e2]
set_option maxHeartbeats 4000000 in
set_option maxRecDepth 100000 in
theorem unsix_r (s : ByteArray) (w : World) (hs : s.size ≤ 1000000) :
  Calls Tryz.prog 187 #[.string s] w fun e w' => e = .returned (unsixV (Bare.unsix (bl s))) ∧ New w w' := by
 obtain ⟨i0, hi, hz0, hz1, hz2⟩ := info_parts infoB'
 obtain ⟨R, hR⟩ : ∃ R, Bare.unsix (bl s) = R := ⟨_, rfl⟩
 have HN : Hid (Bare.refOut (bl s) = none → R = none) := Lib.hid fun h => by
  rw [← hR, ← Bare.refUnsix_eq]
  unfold Bare.refUnsix
  rw [h]
 have HS : Hid (∀ acc, Bare.refOut (bl s) = some acc → R = if Bare.sixes acc = bl s then some acc else none) := Lib.hid fun acc h => by
  rw [← hR, ← Bare.refUnsix_eq]
  unfold Bare.refUnsix
  rw [h]
 have HR : Hid (Bare.refOut (bl s) = (Bare.refOut ((bl s).drop 0)).map (([] : Bare.Bs) ++ ·)) := Lib.hid (by
  rw [List.drop_zero]
  cases Bare.refOut (bl s) <;> rfl)
 rw [hR]
 clear hR
 have hN0 : New w w := Mods.refl _ _
 obtain ⟨B, hB⟩ : ∃ B, w.heap.size = B := ⟨_, rfl⟩
 have hown0 := World.ownsRow_nil w B 5 1
 have hNs : ∀ W, New w W → B ≤ W.heap.size := fun W h => by have := h.size; omega
 go_enter Tryz.func187, Tryz.ntmps187
 go_upto_region 3 with fail
 go_loopw [4, 5] (fun v i W => ∃ (j : Nat) (acc : Bare.Bs), j ≤ s.size ∧ i = .int .i64 j ∧ acc.length ≤ j ∧ W.ownsRow B 5 1 v acc.length (u8s acc) ∧ New w W ∧ Hid (Bare.refOut (bl s) = (Bare.refOut ((bl s).drop j)).map (acc ++ ·))) (fun _ i _ => s.size + 3 - (intOf i).toNat)
 case atStart => exact ⟨0, [], by omega, rfl, by simp, hown0, hN0, HR⟩
 case round =>
  clear HR hN0 hown0
  obtain ⟨wo, hwo⟩ : ∃ x, x = wr := ⟨_, rfl⟩
  subst hwo
  obtain ⟨j, acc, hj, rfl, hal, hown, hN, HR⟩ := hrel
  by_cases hlt : j + 3 < s.size
  ·have hd : (j : Int) + 3 < (s.size : Int) := by omega
   obtain ⟨c, hc⟩ : ∃ c : Nat → UInt8, (fun m => gb s (j + m)) = c := ⟨_, rfl⟩
   have hci : ∀ m : Nat, m < 4 → ∀ W, (Instr.index 9 (.string s) (.int .i64 ((j : Int) + (m : Int)))).run Tryz.prog W = .ok (.int .u8 ((c m).toNat : Nat)) W := fun m hm W => by rw [← hc]; exact run_idx s (j + m) (by omega) W
   have hR2 : Bare.refOut (bl s) = (if uh c 4 < 2 then none else (Bare.refOut ((bl s).drop (j + 4))).map (([UInt8.ofNat (un c 4 / 65536), UInt8.ofNat (un c 4 / 256 % 256), UInt8.ofNat (un c 4 % 256)].take (uh c 4 - 1)) ++ ·)).map (acc ++ ·) := by
    rw [HR.out, drop_one s j (by omega), drop_one s (j + 1) (by omega), drop_one s (j + 1 + 1) (by omega), drop_one s (j + 1 + 1 + 1) (by omega)]
    have := refOut_four c ((bl s).drop (j + 4))
    rw [← this, ← hc]
    rfl
   have HR2 := Lib.hid hR2
   have HCI := Lib.hid hci
   have HOW := Lib.hid hown
   clear hR2 hci hown HR hc
   go_upto_region 7 with fail
   go_loop [6, 7, 8] (fun a b t => ∃ m : Nat, m ≤ 4 ∧ a = .int .i64 (un c m : Nat) ∧ b = .int .i64 (uh c m : Nat) ∧ t = .int .i64 m) (fun _ _ t => 4 - (intOf t).toNat)
   case atStart => exact ⟨0, by omega, rfl, rfl, rfl⟩
   case round =>
    obtain ⟨m, hm, rfl, rfl, rfl⟩ := hrel
    by_cases hm4 : m < 4
    ·have hb : un c m ≤ 262143 := by
      have := un_lt c m
      have h2 : 64 ^ m ≤ 64 ^ 3 := Nat.pow_le_pow_right (by decide) (by omega)
      omega
     have hb2 : uh c m ≤ 4 := by have := uh_le c m; omega
     have hix := HCI.out m hm4
     have HP := Lib.hid (six_r (c m))
     have hx1 : un c (m + 1) = un c m * 64 + (Bare.v6 (c m)).getD 0 := rfl
     have hy1 : uh c (m + 1) = uh c m + if (Bare.v6 (c m)).isSome then 1 else 0 := rfl
     obtain ⟨x, hx⟩ : ∃ x, un c m = x := ⟨_, rfl⟩
     obtain ⟨y, hy⟩ : ∃ x, uh c m = x := ⟨_, rfl⟩
     rw [hx] at hb hx1 ⊢
     rw [hy] at hb2 hy1 ⊢
     obtain ⟨b, hbb⟩ : ∃ b, (c m).toNat = b := ⟨_, rfl⟩
     rw [hbb] at hix HP
     unfold sixV at HP
     cases hv : Bare.v6 (c m) with
     | none =>
      rw [hv] at HP hx1 hy1
      simp only [Option.getD_none, Nat.add_zero, Option.isSome_none, if_false, Bool.false_eq_true] at hx1 hy1 HP
      clear hv hbb hx hy
      go_wp2_with (go_at_call 202; refine (HP.out _).mono ?_; rintro e w' ⟨rfl, rfl⟩)
      go_round
      case rel => exact ⟨m + 1, by omega, by rw [hx1]; go_num, by rw [hy1], by go_num⟩
      case measure => simp [intOf]; omega
     | some v =>
      have hv64 := (Bare.v6_facts hv).1
      rw [hv] at HP hx1 hy1
      simp only [Option.getD_some, Option.isSome_some, if_true] at hx1 hy1 HP
      clear hv hbb hx hy
      go_wp2_with (go_at_call 202; refine (HP.out _).mono ?_; rintro e w' ⟨rfl, rfl⟩)
      go_round
      case rel => exact ⟨m + 1, by omega, by rw [hx1]; go_num, by rw [hy1]; go_num, by go_num⟩
      case measure => simp [intOf]; omega
    ·obtain rfl : m = 4 := by omega
     have hnl : un c 4 < 16777216 := un_lt c 4
     have hhl : uh c 4 ≤ 4 := uh_le c 4
     have HR3 := HR2.out
     obtain ⟨n, hn⟩ : ∃ n, un c 4 = n := ⟨_, rfl⟩
     obtain ⟨h, hh⟩ : ∃ n, uh c 4 = n := ⟨_, rfl⟩
     rw [hn] at hnl HR3 ⊢
     rw [hh] at hhl HR3 ⊢
     clear hn hh hm hm4 HR2
     by_cases h2 : h < 2
     ·have hd2 : decide ((h : Int) < 2) = true := decide_eq_true (by omega)
      rw [if_pos h2] at HR3
      obtain rfl : R = none := HN.out (by rw [HR3]; rfl)
      clear h2 HR3
      go_wp2_with fail
      go_ret2
      exact ⟨rfl, hN⟩
     ·have hd2 : decide ((h : Int) < 2) = false := decide_eq_false (by omega)
      rw [if_neg h2] at HR3
      obtain ⟨x0, e0, l0⟩ : ∃ a : Nat, (n : Int) / 65536 = (a : Int) ∧ a < 256 := ⟨n / 65536, by omega, by omega⟩
      obtain ⟨x1, e1, l1⟩ : ∃ a : Nat, (n : Int) / 256 % 256 = (a : Int) ∧ a < 256 := ⟨n / 256 % 256, by omega, by omega⟩
      obtain ⟨x2, e2, l2⟩ : ∃ a : Nat, (n : Int) % 256 = (a : Int) ∧ a < 256 := ⟨n % 256, by omega, by omega⟩
      have f0 : n / 65536 = x0 := by omega
      have f1 : n / 256 % 256 = x1 := by omega
      have f2 : n % 256 = x2 := by omega
      rw [f0, f1, f2] at HR3
      obtain ⟨g, hg⟩ : ∃ g : Nat, h = g + 1 := ⟨h - 1, by omega⟩
      have hgs : (h : Int) - 1 = (g : Int) := by omega
      have hg13 : 1 ≤ g ∧ g ≤ 3 := by omega
      obtain ⟨hg1, hg3⟩ := hg13
      rw [hg, Nat.add_sub_cancel] at HR3
      have HR4 := Lib.hid HR3
      have w0 : IntKind.u8.wrap (x0 : Int) = x0 := IntWalk.u8_in _ ⟨by omega, by omega⟩
      have w1 : IntKind.u8.wrap (x1 : Int) = x1 := IntWalk.u8_in _ ⟨by omega, by omega⟩
      have w2 : IntKind.u8.wrap (x2 : Int) = x2 := IntWalk.u8_in _ ⟨by omega, by omega⟩
      clear f0 f1 f2 HR3 hg h2
      go_upto_region 17 with fail
      have hA : New wo (wo.alloc (.cells #[.int .u8 x0, .int .u8 x1, .int .u8 x2] 5)) := (Mods.refl _ _).alloc _
      have rX := World.alloc_heap_new wo (.cells #[.int .u8 x0, .int .u8 x1, .int .u8 x2] 5)
      obtain ⟨V, hV⟩ : ∃ V, wo.alloc (.cells #[.int .u8 x0, .int .u8 x1, .int .u8 x2] 5) = V := ⟨_, rfl⟩
      obtain ⟨X, hX⟩ : ∃ X, wo.heap.size = X := ⟨_, rfl⟩
      rw [hV] at hA rX ⊢
      rw [hX] at rX ⊢
      have HO2 := Lib.hid (Mods.ownsRow hA HOW.out (fun _ _ h => h))
      have hN2 := hN.trans hA
      have hBW := hNs _ hN2
      obtain ⟨F0, hF0⟩ : ∃ F : Bare.Bs, [UInt8.ofNat x0, UInt8.ofNat x1, UInt8.ofNat x2] = F := ⟨_, rfl⟩
      have hu0 : ([.int .u8 x0, .int .u8 x1, .int .u8 x2] : List Value) = u8s F0 := by
       rw [← hF0]
       simp [u8s, Nat.mod_eq_of_lt l0, Nat.mod_eq_of_lt l1, Nat.mod_eq_of_lt l2]
      have hF0l : F0.length = 3 := by rw [← hF0]; rfl
      have rX3 : V.heap[X]? = some (.cells (u8s F0).toArray 5 (0, 0)) := by rw [← hu0]; exact rX
      have HR5 := HR4.out
      rw [hF0] at HR5
      obtain ⟨F, hF⟩ : ∃ F, F0.take g = F := ⟨_, rfl⟩
      rw [hF] at HR5
      have hFl : F.length = g := by rw [← hF, List.length_take]; omega
      have hlu : (u8s F).length = g := by rw [u8s_len]; exact hFl
      have hou : ∀ u ∈ u8s F, u.oneCell' = true := fun u hu => by
       obtain ⟨c, -, rfl⟩ := List.mem_map.1 hu
       rfl
      have hcl : Hid (∀ (k : Nat) (u : Value), (u8s F)[k]? = some u → (u8s F0)[k]? = some u) := Lib.hid fun k u hk => by
       have e : u8s F = (u8s F0).take g := by rw [← hF]; simp [u8s]
       rw [e, List.getElem?_take] at hk
       split at hk
       ·exact hk
       ·cases hk
      have HRX := Lib.hid rX3
      have HRR := Lib.hid HR5
      clear rX rX3 hu0 hF hF0 HR4 HR5 hV hX hA e0 e1 e2 w0 w1 w2 hF0l
      go_wp2_with (at_builtin; refine wpList_append_own _ rfl _ _ 113 rfl B 5 i0 _ 1 1 Tryz.underlying113 hi hz0 hz1 hz2 rfl (by decide) _ _ _ rfl HO2.out ⟨X, 0, none⟩ g 3 (u8s F) rfl (by rw [hlu]; omega) (fun k u hk => by rw [add_at, cell_of_row _ _ _ _ _ _ HRX.out]; simpa using hcl.out k u hk) hou (by unfold maxLen; omega) (by have := HO2.out.1; omega) (by omega) ?_)
      intro v' W3 hown' hgrow _
      have hN3 : New w W3 := hN2.grown hgrow (fun g hg => .inl (by have := (HO2.out.lt g hg).1; omega))
      have hown3 : W3.ownsRow B 5 1 v' (acc ++ F).length (u8s (acc ++ F)) := by
       have : u8s (acc ++ F) = u8s acc ++ u8s F := by simp [u8s]
       rw [this, List.length_append, hFl]
       exact hown'
      clear hown' hgrow
      go_wp2_with fail
      go_roundw
      case rel => exact ⟨j + 4, acc ++ F, by omega, by go_num, by rw [List.length_append, hFl]; omega, hown3, hN3, Lib.hid (by
       rw [HRR.out, Option.map_map]
       congr 1
       funext x
       simp)⟩
      case measure => simp [intOf]; omega
  ·have hd : ¬ (j : Int) + 3 < (s.size : Int) := by omega
   have hro := HR.out
   have hsh := refOut_short (l := (bl s).drop j) (by rw [List.length_drop, bl_len]; omega)
   rw [hsh] at hro
   simp only [Option.map_some, List.append_nil] at hro
   have hRR := HS.out acc hro
   have hcv := conv_own (w := wo) hown
   have hbt : bl (tx acc) = acc := bl_tx acc
   have hsx := sixes_r (tx acc) wo (by rw [tx_size]; omega)
   rw [hbt] at hsx
   have heq := eq_tx (tx (Bare.sixes acc)) s
   rw [bl_tx] at heq
   have HSX := Lib.hid hsx
   have HOW := Lib.hid hown
   clear hro HR hown hbt hsx
   by_cases hsame : Bare.sixes acc = bl s
   ·rw [if_pos hsame] at hRR
    rw [decide_eq_true hsame] at heq
    subst hRR
    obtain ⟨x, hx⟩ : ∃ x, tx acc = x := ⟨_, rfl⟩
    obtain ⟨y, hy⟩ : ∃ x, tx (Bare.sixes acc) = x := ⟨_, rfl⟩
    have Hx := Lib.hid hx
    rw [hx] at hcv HSX
    rw [hy] at heq HSX
    clear hsame hx hy
    go_wp2_with fail
    refine HSX.out.mono ?_
    rintro e w5 ⟨rfl, hk⟩
    have hcv2 := conv_own (w := w5) (Mods.ownsRow hk HOW.out (fun _ _ h => h))
    rw [Hx.out] at hcv2
    go_wp2_with fail
    go_ret2
    exact ⟨by rw [← Hx.out]; rfl, hN.trans hk⟩
   ·rw [if_neg hsame] at hRR
    rw [decide_eq_false hsame] at heq
    subst hRR
    obtain ⟨x, hx⟩ : ∃ x, tx acc = x := ⟨_, rfl⟩
    obtain ⟨y, hy⟩ : ∃ x, tx (Bare.sixes acc) = x := ⟨_, rfl⟩
    rw [hx] at hcv HSX
    rw [hy] at heq HSX
    clear hsame hx hy
    go_wp2_with fail
    refine HSX.out.mono ?_
    rintro e w5 ⟨rfl, hk⟩
    go_wp2_with fail
    go_ret2
    exact ⟨rfl, hN.trans hk⟩
end Go.Proofs.YtkiiameibdhdfaaGreatDoor
namespace Go.Proofs.YtkiiameibdhdfaaGreatDoor
open Go.RowKit Go.Shelf Go.Cs
attribute [local go_sem] Oper.semAt_some


theorem first_drop (s : ByteArray) (h : 0 < s.size) : bl s = gb s 0 :: (bl s).drop 1 := by
 have := drop_one s 0 h
 rw [List.drop_zero] at this
 exact this
theorem head_in {c : UInt8} (h : Bare.headTok c = true) : Bare.inTok c = true := by
 unfold Bare.headTok at h
 unfold Bare.inTok
 rcases Bool.or_eq_true_iff.1 h with h | h
 ·rw [h]; rfl
 ·rw [beq_iff_eq] at h; subst h; decide
theorem tok_take (s : ByteArray) (k : Nat) (h1 : 1 ≤ k) (h : k < s.size) (hh : Bare.headTok (gb s 0) = true) (hb : ∀ j, j < k → Bare.inTok (gb s j) = true) : Bare.tokB ((bl s).take (k + 1)) = Bare.inTok (gb s k) := by
 rw [first_drop s (by omega), List.take_succ_cons]
 show (Bare.headTok (gb s 0) && (((bl s).drop 1).take k).all Bare.inTok) = Bare.inTok (gb s k)
 rw [hh, Bool.true_and, Bool.eq_iff_iff, List.all_eq_true]
 constructor
 ·intro ha
  refine ha _ ?_
  refine List.mem_iff_getElem?.2 ⟨k - 1, ?_⟩
  rw [List.getElem?_take, if_pos (by omega), List.getElem?_drop, show 1 + (k - 1) = k by omega]
  exact gb_get s k h
 ·intro hk x hx
  obtain ⟨i, hi⟩ := List.mem_iff_getElem?.1 hx
  rw [List.getElem?_take] at hi
  split at hi
  ·rw [List.getElem?_drop] at hi
   obtain ⟨hl, rfl⟩ := get_gb hi
   by_cases e : 1 + i = k
   ·rw [e]; exact hk
   ·exact hb _ (by omega)
  ·cases hi
theorem packed_at (s : ByteArray) (k : Nat) (h0 : 0 < s.size) (h1 : 1 ≤ k) (h : k ≤ s.size) (hb : ∀ j, 1 ≤ j → j < k → gb s j ≠ 58) (hs : k < s.size → gb s k = 58) :
  Bare.packed ((bl s).drop 1) = if k = s.size then none else (Bare.unsix (bl (piec s 1 k))).map fun t => (⟨5, 0, t, false⟩, (bl s).drop (k + 1)) := by
 have hw := Bare.while_at (· != 58) ((bl s).drop 1) (k - 1) (by rw [List.length_drop, bl_len]; omega) (fun j hj c hc => by
  rw [List.getElem?_drop] at hc
  obtain ⟨-, rfl⟩ := get_gb hc
  have := hb (1 + j) (by omega) (by omega)
  simpa using this) (fun c hc => by
  rw [List.getElem?_drop, show 1 + (k - 1) = k by omega] at hc
  obtain ⟨hl, rfl⟩ := get_gb hc
  rw [hs hl]; rfl)
 have ht := Bare.takeWhile_take (· != 58) ((bl s).drop 1)
 rw [hw] at ht
 unfold Bare.packed
 simp only
 rw [← ht, ← bl_piec]
 have hpl : (bl (piec s 1 k)).length = k - 1 := by rw [bl_len, piec_size s 1 k h]
 rw [hpl, List.length_drop, bl_len]
 by_cases e : k = s.size
 ·rw [if_pos (by omega), if_pos e]
 ·rw [if_neg (by omega), if_neg e, List.drop_drop, show 1 + (k - 1 + 1) = k + 1 by omega]
set_option maxHeartbeats 4000000 in
set_option maxRecDepth 100000 in
theorem parse_r (s : ByteArray) (w : World) (hs : s.size ≤ 1000000) :
  Calls Tryz.prog 167 #[.string s] w (ReadP (Bare.parseI (bl s)) w) := by
 obtain ⟨hN, hr⟩ := no_row w
 have HNo := Lib.hid (fun W => none_r W)
 unfold ReadP bv bcs noIt at HNo
 simp only at HNo
 by_cases h0 : s.size = 0
 ·have e : Bare.parseI (bl s) = none := by
   have : bl s = [] := List.length_eq_zero_iff.1 (by rw [bl_len]; exact h0)
   rw [this]; rfl
  rw [e]
  have hd0 : ((s.size : Int) == 0) = true := by simp [h0]
  clear e h0
  refine Calls.mono (R := fun e w' => e = .returned (.tuple #[.agg #[.int .u8 0, .int .i64 0, .string ⟨#[]⟩, .bool false], .string ⟨#[]⟩, .int .i64 120]) ∧ New w w') ?_ fun e w' h => h
  go_enter Tryz.func167, Tryz.ntmps167
  go_upto_region 1 with fail
  obtain ⟨W, hW⟩ : ∃ W, w.alloc (.cells #[.int .u8 0, .int .i64 0, .string ⟨#[]⟩, .bool false] 66) = W := ⟨_, rfl⟩
  rw [hW] at hN hr ⊢
  obtain ⟨B, hB⟩ : ∃ B, w.heap.size = B := ⟨_, rfl⟩
  have hBw : w.heap.size ≤ B := by omega
  rw [hB] at hr ⊢
  clear hW hB
  go_wp2_with (first | (go_at_call 127; refine (HD.out _).mono ?_; rintro e w' ⟨rfl, rfl⟩) | (go_at_call 126; refine (HL.out _).mono ?_; rintro e w' ⟨rfl, rfl⟩))
  refine (HNo.out _).mono ?_
  rintro e wn ⟨rfl, hNn⟩
  have hN := hN.trans hNn
  have hr := hNn.heap hr id
  obtain ⟨⟨c0, c1, c2, c3⟩, f0, f1, f2, f3⟩ := row_facts hr
  go_wp2_with fail
  obtain ⟨hN2, hr2⟩ := set4 hN hBw hr (.int .u8 0) (.int .i64 0) (.string ⟨#[]⟩) (.bool false)
  obtain ⟨W2, hW2⟩ : ∃ W2, ((((wn.setCell ⟨B, 0, none⟩ (.int .u8 0)).setCell ⟨B, 1, none⟩ (.int .i64 0)).setCell ⟨B, 2, none⟩ (.string ⟨#[]⟩)).setCell ⟨B, 3, none⟩ (.bool false)) = W2 := ⟨_, rfl⟩
  rw [hW2] at hN2 hr2 ⊢
  exact read_end (by kernel_rfl) rfl rfl rfl hr2 ⟨rfl, hN2⟩
 have hd0 : ((s.size : Int) == 0) = false := by simp [h0]
 rw [parseI_at s (by omega)]
 have hix0 : ∀ W, (Instr.index 9 (.string s) (.int .i64 0)).run Tryz.prog W = .ok (.int .u8 ((gb s 0).toNat : Nat)) W := run_idx s 0 (by omega)
 have HD := Lib.hid (fun W => (digit_r (gb s 0) W).mono fun e w' h => show e = _ ∧ W = w' from ⟨h.1, h.2.symm⟩)
 have HL := Lib.hid (fun W => (letter_r (gb s 0) W).mono fun e w' h => show e = _ ∧ W = w' from ⟨h.1, h.2.symm⟩)
 have HQuo := Lib.hid (fun W => quoted_r s W hs (by omega))
 obtain ⟨n, hn⟩ : ∃ n, (gb s 0).toNat = n := ⟨_, rfl⟩
 have t45 := (byte_test (gb s 0) 45 (by decide) n hn).1
 rw [show UInt8.ofNat 45 = 45 from rfl] at t45
 have t45 : ((n : Int) == 45) = decide (gb s 0 = 45) := t45
 have t42 := (byte_test (gb s 0) 42 (by decide) n hn).1
 rw [show UInt8.ofNat 42 = 42 from rfl] at t42
 have t42 : ((n : Int) == 42) = decide (gb s 0 = 42) := t42
 have t34 := (byte_test (gb s 0) 34 (by decide) n hn).1
 rw [show UInt8.ofNat 34 = 34 from rfl] at t34
 have t34 : ((n : Int) == 34) = decide (gb s 0 = 34) := t34
 have t58 := (byte_test (gb s 0) 58 (by decide) n hn).1
 rw [show UInt8.ofNat 58 = 58 from rfl] at t58
 have t58 : ((n : Int) == 58) = decide (gb s 0 = 58) := t58
 have t63 := (byte_test (gb s 0) 63 (by decide) n hn).1
 rw [show UInt8.ofNat 63 = 63 from rfl] at t63
 have t63 : ((n : Int) == 63) = decide (gb s 0 = 63) := t63
 rw [hn] at hix0 HD HL
 obtain ⟨D, hD⟩ : ∃ x, Bare.digB (gb s 0) = x := ⟨_, rfl⟩
 rw [hD] at HD ⊢
 by_cases hnum : (D || decide (gb s 0 = 45)) = true
 ·rw [if_pos hnum]
  have HNum := Lib.hid (fun W => show Calls Tryz.prog 185 #[.string s] W (ReadP (Bare.number (bl s)) W) from if h : gb s 0 = 45 then number_neg_r s W hs (by omega) h else number_pos_r s W hs (by omega) h)
  obtain ⟨x45, hx45⟩ : ∃ x, decide (gb s 0 = 45) = x := ⟨_, rfl⟩
  rw [hx45] at t45 hnum
  clear hx45 hD
  cases D with
  | true =>
   clear hnum
   obtain ⟨k, nn, tt, y, x, ec, hv⟩ := readP_open (Bare.number (bl s))
   refine Calls.mono (R := fun e w' => e = .returned (.tuple #[.agg #[.int .u8 k, .int .i64 nn, .string tt, .bool y], .string x, .int .i64 ec]) ∧ New w w') ?_ fun e w' h => (hv w e w').2 h
   have HX := Lib.hid (fun W => (HNum.out W).mono fun e w' h => (hv W e w').1 h)
   clear hv HNum HQuo
   go_enter Tryz.func167, Tryz.ntmps167
   go_upto_region 1 with fail
   obtain ⟨W, hW⟩ : ∃ W, w.alloc (.cells #[.int .u8 0, .int .i64 0, .string ⟨#[]⟩, .bool false] 66) = W := ⟨_, rfl⟩
   rw [hW] at hN hr ⊢
   obtain ⟨B, hB⟩ : ∃ B, w.heap.size = B := ⟨_, rfl⟩
   have hBw : w.heap.size ≤ B := by omega
   rw [hB] at hr ⊢
   clear hW hB
   go_upto_region 5 with (first | (go_at_call 127; refine (HD.out _).mono ?_; rintro e w' ⟨rfl, rfl⟩) | (go_at_call 126; refine (HL.out _).mono ?_; rintro e w' ⟨rfl, rfl⟩))
   clear hix0
   go_wp2_with fail
   refine (HX.out _).mono ?_
   rintro e w1 ⟨rfl, hN1⟩
   have hN := hN.trans hN1
   have hr := hN1.heap hr id
   obtain ⟨⟨c0, c1, c2, c3⟩, f0, f1, f2, f3⟩ := row_facts hr
   go_wp2_with fail
   obtain ⟨hN2, hr2⟩ := set4 hN hBw hr (.int .u8 k) (.int .i64 nn) (.string tt) (.bool y)
   obtain ⟨W2, hW2⟩ : ∃ W2, ((((w1.setCell ⟨B, 0, none⟩ (.int .u8 k)).setCell ⟨B, 1, none⟩ (.int .i64 nn)).setCell ⟨B, 2, none⟩ (.string tt)).setCell ⟨B, 3, none⟩ (.bool y)) = W2 := ⟨_, rfl⟩
   rw [hW2] at hN2 hr2 ⊢
   exact read_end (by kernel_rfl) rfl rfl rfl hr2 ⟨rfl, hN2⟩
  | false =>
   obtain rfl : x45 = true := by simpa using hnum
   clear hnum
   obtain ⟨k, nn, tt, y, x, ec, hv⟩ := readP_open (Bare.number (bl s))
   refine Calls.mono (R := fun e w' => e = .returned (.tuple #[.agg #[.int .u8 k, .int .i64 nn, .string tt, .bool y], .string x, .int .i64 ec]) ∧ New w w') ?_ fun e w' h => (hv w e w').2 h
   have HX := Lib.hid (fun W => (HNum.out W).mono fun e w' h => (hv W e w').1 h)
   clear hv HNum HQuo
   go_enter Tryz.func167, Tryz.ntmps167
   go_upto_region 1 with fail
   obtain ⟨W, hW⟩ : ∃ W, w.alloc (.cells #[.int .u8 0, .int .i64 0, .string ⟨#[]⟩, .bool false] 66) = W := ⟨_, rfl⟩
   rw [hW] at hN hr ⊢
   obtain ⟨B, hB⟩ : ∃ B, w.heap.size = B := ⟨_, rfl⟩
   have hBw : w.heap.size ≤ B := by omega
   rw [hB] at hr ⊢
   clear hW hB
   go_upto_region 5 with (first | (go_at_call 127; refine (HD.out _).mono ?_; rintro e w' ⟨rfl, rfl⟩) | (go_at_call 126; refine (HL.out _).mono ?_; rintro e w' ⟨rfl, rfl⟩))
   clear hix0
   go_wp2_with fail
   refine (HX.out _).mono ?_
   rintro e w1 ⟨rfl, hN1⟩
   have hN := hN.trans hN1
   have hr := hN1.heap hr id
   obtain ⟨⟨c0, c1, c2, c3⟩, f0, f1, f2, f3⟩ := row_facts hr
   go_wp2_with fail
   obtain ⟨hN2, hr2⟩ := set4 hN hBw hr (.int .u8 k) (.int .i64 nn) (.string tt) (.bool y)
   obtain ⟨W2, hW2⟩ : ∃ W2, ((((w1.setCell ⟨B, 0, none⟩ (.int .u8 k)).setCell ⟨B, 1, none⟩ (.int .i64 nn)).setCell ⟨B, 2, none⟩ (.string tt)).setCell ⟨B, 3, none⟩ (.bool y)) = W2 := ⟨_, rfl⟩
   rw [hW2] at hN2 hr2 ⊢
   exact read_end (by kernel_rfl) rfl rfl rfl hr2 ⟨rfl, hN2⟩
 rw [if_neg hnum]
 obtain rfl : D = false := by cases D; rfl; exact absurd rfl hnum
 have h45 : decide (gb s 0 = 45) = false := by simpa using hnum
 rw [h45] at t45
 clear hnum h45 hD
 by_cases h34 : gb s 0 = 34
 ·rw [decide_eq_true h34] at t34
  rw [if_neg (by rw [h34]; decide), if_pos h34]
  clear h34
  obtain ⟨k, nn, tt, y, x, ec, hv⟩ := readP_open (Bare.quoted [] ((bl s).drop 1))
  refine Calls.mono (R := fun e w' => e = .returned (.tuple #[.agg #[.int .u8 k, .int .i64 nn, .string tt, .bool y], .string x, .int .i64 ec]) ∧ New w w') ?_ fun e w' h => (hv w e w').2 h
  have HX := Lib.hid (fun W => (HQuo.out W).mono fun e w' h => (hv W e w').1 h)
  clear hv HQuo
  go_enter Tryz.func167, Tryz.ntmps167
  go_upto_region 1 with fail
  obtain ⟨W, hW⟩ : ∃ W, w.alloc (.cells #[.int .u8 0, .int .i64 0, .string ⟨#[]⟩, .bool false] 66) = W := ⟨_, rfl⟩
  rw [hW] at hN hr ⊢
  obtain ⟨B, hB⟩ : ∃ B, w.heap.size = B := ⟨_, rfl⟩
  have hBw : w.heap.size ≤ B := by omega
  rw [hB] at hr ⊢
  clear hW hB
  go_upto_region 7 with (first | (go_at_call 127; refine (HD.out _).mono ?_; rintro e w' ⟨rfl, rfl⟩) | (go_at_call 126; refine (HL.out _).mono ?_; rintro e w' ⟨rfl, rfl⟩))
  clear hix0
  go_wp2_with fail
  refine (HX.out _).mono ?_
  rintro e w1 ⟨rfl, hN1⟩
  have hN := hN.trans hN1
  have hr := hN1.heap hr id
  obtain ⟨⟨c0, c1, c2, c3⟩, f0, f1, f2, f3⟩ := row_facts hr
  go_wp2_with fail
  obtain ⟨hN2, hr2⟩ := set4 hN hBw hr (.int .u8 k) (.int .i64 nn) (.string tt) (.bool y)
  obtain ⟨W2, hW2⟩ : ∃ W2, ((((w1.setCell ⟨B, 0, none⟩ (.int .u8 k)).setCell ⟨B, 1, none⟩ (.int .i64 nn)).setCell ⟨B, 2, none⟩ (.string tt)).setCell ⟨B, 3, none⟩ (.bool y)) = W2 := ⟨_, rfl⟩
  rw [hW2] at hN2 hr2 ⊢
  exact read_end (by kernel_rfl) rfl rfl rfl hr2 ⟨rfl, hN2⟩
 rw [decide_eq_false h34] at t34
 obtain ⟨L, hL⟩ : ∃ x, Bare.letB (gb s 0) = x := ⟨_, rfl⟩
 rw [hL] at HL ⊢
 by_cases htok : (L || decide (gb s 0 = 42)) = true
 ·rw [if_pos htok]
  have hh : Bare.headTok (gb s 0) = true := by
   unfold Bare.headTok
   rw [hL]
   have e42 : (gb s 0 == 42) = decide (gb s 0 = 42) := by rw [Bool.eq_iff_iff, beq_iff_eq, decide_eq_true_eq]
   rw [e42]; exact htok
  have hin := head_in hh
  obtain ⟨x42, hx42⟩ : ∃ x, decide (gb s 0 = 42) = x := ⟨_, rfl⟩
  rw [hx42] at t42 htok
  have HB := Lib.hid (Bare.while_at Bare.inTok (bl s))
  have HTk := Lib.hid (fun (k : Nat) (h1 : 1 ≤ k) (h : k < s.size) hb => tok_take s k h1 h hh hb)
  have HTr := Lib.hid (fun (k : Nat) W => token_r (tx ((bl s).take k)) W (by rw [tx_size, List.length_take, bl_len]; omega))
  obtain ⟨r, hr'⟩ : ∃ r, ((bl s).takeWhile Bare.inTok).length = r := ⟨_, rfl⟩
  have htt := Bare.takeWhile_take Bare.inTok (bl s)
  rw [hr'] at HB htt ⊢
  rw [← htt]
  have h1s : 1 ≤ s.size := by omega
  clear hx42 hr' htt h34 hL hh h0
  cases L with
  | true =>
   clear htok
   obtain ⟨k, nn, tt, y, x, ec, hv⟩ := readP_open (some (⟨4, 0, (bl s).take r, false⟩, (bl s).drop r))
   refine Calls.mono (R := fun e w' => ReadP (some (⟨4, 0, (bl s).take r, false⟩, (bl s).drop r)) w e w') ?_ fun e w' h => h
   clear hv k nn tt y x ec
   go_enter Tryz.func167, Tryz.ntmps167
   go_upto_region 1 with fail
   obtain ⟨W, hW⟩ : ∃ W, w.alloc (.cells #[.int .u8 0, .int .i64 0, .string ⟨#[]⟩, .bool false] 66) = W := ⟨_, rfl⟩
   rw [hW] at hN hr ⊢
   obtain ⟨B, hB⟩ : ∃ B, w.heap.size = B := ⟨_, rfl⟩
   have hBw : w.heap.size ≤ B := by omega
   rw [hB] at hr ⊢
   clear hW hB
   go_upto_region 10 with (first | (go_at_call 127; refine (HD.out _).mono ?_; rintro e w' ⟨rfl, rfl⟩) | (go_at_call 126; refine (HL.out _).mono ?_; rintro e w' ⟨rfl, rfl⟩))
   clear hix0
   have HR := Lib.hid hr
   go_loop [6] (fun c => ∃ k : Nat, 1 ≤ k ∧ k ≤ s.size ∧ c = .int .i64 k ∧ Hid (∀ j, j < k → Bare.inTok (gb s j) = true)) (fun c => s.size - (intOf c).toNat)
   case atStart => exact ⟨1, by omega, h1s, rfl, Lib.hid fun j hj => (by omega : j = 0) ▸ hin⟩
   case round =>
    obtain ⟨k, hk1, hk, rfl, hbef⟩ := hrel
    by_cases hlt : k < s.size
    ·have hkd : decide ((k : Int) < (s.size : Int)) = true := decide_eq_true (by omega)
     have hsl := run_sl_h s (k + 1) (by omega)
     have hsl2 : ∀ W, (Instr.slice 9 (.string s) none (some (.int .i64 ((k : Int) + 1))) none).run Tryz.prog W = .ok (.string (tx ((bl s).take (k + 1)))) W := hsl
     have htk := HTk.out k hk1 hlt hbef.out
     have HT := Lib.hid (fun W => (HTr.out (k + 1) W).mono fun e w' h => show e = .returned (.bool (Bare.inTok (gb s k))) ∧ W = w' from ⟨by rw [h.1, bl_tx, htk], h.2.symm⟩)
     obtain ⟨q, hq⟩ : ∃ q, tx ((bl s).take (k + 1)) = q := ⟨_, rfl⟩
     rw [hq] at hsl2 HT
     have hnext : Bare.inTok (gb s k) = true → Hid (∀ j, j < k + 1 → Bare.inTok (gb s j) = true) := fun hg => Lib.hid fun i hi => by
      by_cases hik : i < k
      ·exact hbef.out i hik
      ·obtain rfl : i = k := by omega
       exact hg
     have hstop : Bare.inTok (gb s k) = false → r = k := fun hg => by
      refine HB.out k (by rw [bl_len]; exact hk) (fun j hj c hc => ?_) (fun c hc => ?_)
      ·obtain ⟨_, rfl⟩ := get_gb hc
       exact hbef.out j hj
      ·obtain ⟨_, rfl⟩ := get_gb hc
       exact hg
     obtain ⟨b, hb⟩ : ∃ b, Bare.inTok (gb s k) = b := ⟨_, rfl⟩
     rw [hb] at HT hnext hstop
     clear hsl htk hq hb hbef hin
     cases b with
     | true =>
      have hh := hnext rfl
      clear hnext hstop
      go_wp2_with (go_at_call 77; refine (HT.out _).mono ?_; rintro e w' ⟨rfl, rfl⟩)
      go_round
      case rel => exact ⟨k + 1, by omega, by omega, by go_num, hh⟩
      case measure => simp [intOf]; omega
     | false =>
      have hh := hstop rfl
      clear hnext hstop
      subst hh
      go_upto_region 12 with (go_at_call 77; refine (HT.out _).mono ?_; rintro e w' ⟨rfl, rfl⟩)
      clear hsl2 HT hkd
      have hr := HR.out
      obtain ⟨x, hx⟩ : ∃ x, tx ((bl s).take r) = x := ⟨_, rfl⟩
      obtain ⟨y, hy⟩ : ∃ y, tx ((bl s).drop r) = y := ⟨_, rfl⟩
      have hr := HR.out
      obtain ⟨⟨c0, c1, c2, c3⟩, f0, f1, f2, f3⟩ := row_facts hr
      have Hx := Lib.hid hx
      have Hy := Lib.hid hy
      have hsh := run_sl_h s r (by omega)
      have hsl := run_sl_l s r (by omega)
      rw [hx] at hsh
      rw [hy] at hsl
      clear hx hy HB
      go_region
      obtain ⟨hN2, hr2⟩ := set4 hN hBw hr (.int .u8 4) (.int .i64 0) (.string x) (.bool false)
      have hN2 := hN2.drew
      have hr2 : ((((W.setCell ⟨B, 0, none⟩ (.int .u8 4)).setCell ⟨B, 1, none⟩ (.int .i64 0)).setCell ⟨B, 2, none⟩ (.string x)).setCell ⟨B, 3, none⟩ (.bool false)).drew.heap[B]? = some (.cells #[.int .u8 4, .int .i64 0, .string x, .bool false] 66 (0, 0)) := hr2
      obtain ⟨W2, hW2⟩ : ∃ W2, ((((W.setCell ⟨B, 0, none⟩ (.int .u8 4)).setCell ⟨B, 1, none⟩ (.int .i64 0)).setCell ⟨B, 2, none⟩ (.string x)).setCell ⟨B, 3, none⟩ (.bool false)).drew = W2 := ⟨_, rfl⟩
      rw [hW2] at hN2 hr2 ⊢
      go_wp2_with fail
      exact read_end (by kernel_rfl) rfl rfl rfl hr2 ⟨by rw [← Hx.out, ← Hy.out]; rfl, hN2⟩
    ·obtain rfl : k = s.size := by omega
     have hkd : decide ((s.size : Int) < (s.size : Int)) = false := decide_eq_false (by omega)
     have hh : r = s.size := HB.out s.size (by rw [bl_len]; exact Nat.le_refl _) (fun j hj c hc => by obtain ⟨_, rfl⟩ := get_gb hc; exact hbef.out j hj) (fun c hc => by obtain ⟨h1, _⟩ := get_gb hc; omega)
     subst hh
     clear hbef hin HB
     go_upto_region 12 with fail
     clear hkd
     have hr := HR.out
     obtain ⟨x, hx⟩ : ∃ x, tx ((bl s).take s.size) = x := ⟨_, rfl⟩
     obtain ⟨y, hy⟩ : ∃ y, tx ((bl s).drop s.size) = y := ⟨_, rfl⟩
     have hr := HR.out
     obtain ⟨⟨c0, c1, c2, c3⟩, f0, f1, f2, f3⟩ := row_facts hr
     have Hx := Lib.hid hx
     have Hy := Lib.hid hy
     have hsh := run_sl_h s s.size (by omega)
     have hsl := run_sl_l s s.size (by omega)
     rw [hx] at hsh
     rw [hy] at hsl
     clear hx hy
     go_region
     obtain ⟨hN2, hr2⟩ := set4 hN hBw hr (.int .u8 4) (.int .i64 0) (.string x) (.bool false)
     have hN2 := hN2.drew
     have hr2 : ((((W.setCell ⟨B, 0, none⟩ (.int .u8 4)).setCell ⟨B, 1, none⟩ (.int .i64 0)).setCell ⟨B, 2, none⟩ (.string x)).setCell ⟨B, 3, none⟩ (.bool false)).drew.heap[B]? = some (.cells #[.int .u8 4, .int .i64 0, .string x, .bool false] 66 (0, 0)) := hr2
     obtain ⟨W2, hW2⟩ : ∃ W2, ((((W.setCell ⟨B, 0, none⟩ (.int .u8 4)).setCell ⟨B, 1, none⟩ (.int .i64 0)).setCell ⟨B, 2, none⟩ (.string x)).setCell ⟨B, 3, none⟩ (.bool false)).drew = W2 := ⟨_, rfl⟩
     rw [hW2] at hN2 hr2 ⊢
     go_wp2_with fail
     exact read_end (by kernel_rfl) rfl rfl rfl hr2 ⟨by rw [← Hx.out, ← Hy.out]; rfl, hN2⟩
  | false =>
   obtain rfl : x42 = true := by simpa using htok
   clear htok
   obtain ⟨k, nn, tt, y, x, ec, hv⟩ := readP_open (some (⟨4, 0, (bl s).take r, false⟩, (bl s).drop r))
   refine Calls.mono (R := fun e w' => ReadP (some (⟨4, 0, (bl s).take r, false⟩, (bl s).drop r)) w e w') ?_ fun e w' h => h
   clear hv k nn tt y x ec
   go_enter Tryz.func167, Tryz.ntmps167
   go_upto_region 1 with fail
   obtain ⟨W, hW⟩ : ∃ W, w.alloc (.cells #[.int .u8 0, .int .i64 0, .string ⟨#[]⟩, .bool false] 66) = W := ⟨_, rfl⟩
   rw [hW] at hN hr ⊢
   obtain ⟨B, hB⟩ : ∃ B, w.heap.size = B := ⟨_, rfl⟩
   have hBw : w.heap.size ≤ B := by omega
   rw [hB] at hr ⊢
   clear hW hB
   go_upto_region 10 with (first | (go_at_call 127; refine (HD.out _).mono ?_; rintro e w' ⟨rfl, rfl⟩) | (go_at_call 126; refine (HL.out _).mono ?_; rintro e w' ⟨rfl, rfl⟩))
   clear hix0
   have HR := Lib.hid hr
   go_loop [6] (fun c => ∃ k : Nat, 1 ≤ k ∧ k ≤ s.size ∧ c = .int .i64 k ∧ Hid (∀ j, j < k → Bare.inTok (gb s j) = true)) (fun c => s.size - (intOf c).toNat)
   case atStart => exact ⟨1, by omega, h1s, rfl, Lib.hid fun j hj => (by omega : j = 0) ▸ hin⟩
   case round =>
    obtain ⟨k, hk1, hk, rfl, hbef⟩ := hrel
    by_cases hlt : k < s.size
    ·have hkd : decide ((k : Int) < (s.size : Int)) = true := decide_eq_true (by omega)
     have hsl := run_sl_h s (k + 1) (by omega)
     have hsl2 : ∀ W, (Instr.slice 9 (.string s) none (some (.int .i64 ((k : Int) + 1))) none).run Tryz.prog W = .ok (.string (tx ((bl s).take (k + 1)))) W := hsl
     have htk := HTk.out k hk1 hlt hbef.out
     have HT := Lib.hid (fun W => (HTr.out (k + 1) W).mono fun e w' h => show e = .returned (.bool (Bare.inTok (gb s k))) ∧ W = w' from ⟨by rw [h.1, bl_tx, htk], h.2.symm⟩)
     obtain ⟨q, hq⟩ : ∃ q, tx ((bl s).take (k + 1)) = q := ⟨_, rfl⟩
     rw [hq] at hsl2 HT
     have hnext : Bare.inTok (gb s k) = true → Hid (∀ j, j < k + 1 → Bare.inTok (gb s j) = true) := fun hg => Lib.hid fun i hi => by
      by_cases hik : i < k
      ·exact hbef.out i hik
      ·obtain rfl : i = k := by omega
       exact hg
     have hstop : Bare.inTok (gb s k) = false → r = k := fun hg => by
      refine HB.out k (by rw [bl_len]; exact hk) (fun j hj c hc => ?_) (fun c hc => ?_)
      ·obtain ⟨_, rfl⟩ := get_gb hc
       exact hbef.out j hj
      ·obtain ⟨_, rfl⟩ := get_gb hc
       exact hg
     obtain ⟨b, hb⟩ : ∃ b, Bare.inTok (gb s k) = b := ⟨_, rfl⟩
     rw [hb] at HT hnext hstop
     clear hsl htk hq hb hbef hin
     cases b with
     | true =>
      have hh := hnext rfl
      clear hnext hstop
      go_wp2_with (go_at_call 77; refine (HT.out _).mono ?_; rintro e w' ⟨rfl, rfl⟩)
      go_round
      case rel => exact ⟨k + 1, by omega, by omega, by go_num, hh⟩
      case measure => simp [intOf]; omega
     | false =>
      have hh := hstop rfl
      clear hnext hstop
      subst hh
      go_upto_region 12 with (go_at_call 77; refine (HT.out _).mono ?_; rintro e w' ⟨rfl, rfl⟩)
      clear hsl2 HT hkd
      have hr := HR.out
      obtain ⟨x, hx⟩ : ∃ x, tx ((bl s).take r) = x := ⟨_, rfl⟩
      obtain ⟨y, hy⟩ : ∃ y, tx ((bl s).drop r) = y := ⟨_, rfl⟩
      have hr := HR.out
      obtain ⟨⟨c0, c1, c2, c3⟩, f0, f1, f2, f3⟩ := row_facts hr
      have Hx := Lib.hid hx
      have Hy := Lib.hid hy
      have hsh := run_sl_h s r (by omega)
      have hsl := run_sl_l s r (by omega)
      rw [hx] at hsh
      rw [hy] at hsl
      clear hx hy HB
      go_region
      obtain ⟨hN2, hr2⟩ := set4 hN hBw hr (.int .u8 4) (.int .i64 0) (.string x) (.bool false)
      have hN2 := hN2.drew
      have hr2 : ((((W.setCell ⟨B, 0, none⟩ (.int .u8 4)).setCell ⟨B, 1, none⟩ (.int .i64 0)).setCell ⟨B, 2, none⟩ (.string x)).setCell ⟨B, 3, none⟩ (.bool false)).drew.heap[B]? = some (.cells #[.int .u8 4, .int .i64 0, .string x, .bool false] 66 (0, 0)) := hr2
      obtain ⟨W2, hW2⟩ : ∃ W2, ((((W.setCell ⟨B, 0, none⟩ (.int .u8 4)).setCell ⟨B, 1, none⟩ (.int .i64 0)).setCell ⟨B, 2, none⟩ (.string x)).setCell ⟨B, 3, none⟩ (.bool false)).drew = W2 := ⟨_, rfl⟩
      rw [hW2] at hN2 hr2 ⊢
      go_wp2_with fail
      exact read_end (by kernel_rfl) rfl rfl rfl hr2 ⟨by rw [← Hx.out, ← Hy.out]; rfl, hN2⟩
    ·obtain rfl : k = s.size := by omega
     have hkd : decide ((s.size : Int) < (s.size : Int)) = false := decide_eq_false (by omega)
     have hh : r = s.size := HB.out s.size (by rw [bl_len]; exact Nat.le_refl _) (fun j hj c hc => by obtain ⟨_, rfl⟩ := get_gb hc; exact hbef.out j hj) (fun c hc => by obtain ⟨h1, _⟩ := get_gb hc; omega)
     subst hh
     clear hbef hin HB
     go_upto_region 12 with fail
     clear hkd
     have hr := HR.out
     obtain ⟨x, hx⟩ : ∃ x, tx ((bl s).take s.size) = x := ⟨_, rfl⟩
     obtain ⟨y, hy⟩ : ∃ y, tx ((bl s).drop s.size) = y := ⟨_, rfl⟩
     have hr := HR.out
     obtain ⟨⟨c0, c1, c2, c3⟩, f0, f1, f2, f3⟩ := row_facts hr
     have Hx := Lib.hid hx
     have Hy := Lib.hid hy
     have hsh := run_sl_h s s.size (by omega)
     have hsl := run_sl_l s s.size (by omega)
     rw [hx] at hsh
     rw [hy] at hsl
     clear hx hy
     go_region
     obtain ⟨hN2, hr2⟩ := set4 hN hBw hr (.int .u8 4) (.int .i64 0) (.string x) (.bool false)
     have hN2 := hN2.drew
     have hr2 : ((((W.setCell ⟨B, 0, none⟩ (.int .u8 4)).setCell ⟨B, 1, none⟩ (.int .i64 0)).setCell ⟨B, 2, none⟩ (.string x)).setCell ⟨B, 3, none⟩ (.bool false)).drew.heap[B]? = some (.cells #[.int .u8 4, .int .i64 0, .string x, .bool false] 66 (0, 0)) := hr2
     obtain ⟨W2, hW2⟩ : ∃ W2, ((((W.setCell ⟨B, 0, none⟩ (.int .u8 4)).setCell ⟨B, 1, none⟩ (.int .i64 0)).setCell ⟨B, 2, none⟩ (.string x)).setCell ⟨B, 3, none⟩ (.bool false)).drew = W2 := ⟨_, rfl⟩
     rw [hW2] at hN2 hr2 ⊢
     go_wp2_with fail
     exact read_end (by kernel_rfl) rfl rfl rfl hr2 ⟨by rw [← Hx.out, ← Hy.out]; rfl, hN2⟩
 rw [if_neg htok, if_neg h34]
 obtain rfl : L = false := by cases L; rfl; exact absurd rfl htok
 have h42 : decide (gb s 0 = 42) = false := by simpa using htok
 rw [h42] at t42
 clear htok h42 hL h34
 by_cases h58 : gb s 0 = 58
 ·rw [decide_eq_true h58] at t58
  rw [if_pos h58]
  have HPk := Lib.hid (fun (k : Nat) (h1 : 1 ≤ k) (h : k ≤ s.size) hb hss => packed_at s k (by omega) h1 h hb hss)
  have h1s : 1 ≤ s.size := by omega
  obtain ⟨P, hP⟩ : ∃ P, Bare.packed ((bl s).drop 1) = P := ⟨_, rfl⟩
  rw [hP] at HPk ⊢
  have HUn := Lib.hid (fun (k : Nat) (hk : k ≤ s.size) W => unsix_r (piec s 1 k) W (by rw [piec_size s 1 k hk]; omega))
  clear h58 hP h0
  go_enter Tryz.func167, Tryz.ntmps167
  go_upto_region 1 with fail
  obtain ⟨W, hW⟩ : ∃ W, w.alloc (.cells #[.int .u8 0, .int .i64 0, .string ⟨#[]⟩, .bool false] 66) = W := ⟨_, rfl⟩
  rw [hW] at hN hr ⊢
  obtain ⟨B, hB⟩ : ∃ B, w.heap.size = B := ⟨_, rfl⟩
  have hBw : w.heap.size ≤ B := by omega
  rw [hB] at hr ⊢
  clear hW hB
  go_upto_region 15 with (first | (go_at_call 127; refine (HD.out _).mono ?_; rintro e w' ⟨rfl, rfl⟩) | (go_at_call 126; refine (HL.out _).mono ?_; rintro e w' ⟨rfl, rfl⟩))
  clear hix0
  have HR := Lib.hid hr
  go_loop [7] (fun c => ∃ k : Nat, 1 ≤ k ∧ k ≤ s.size ∧ c = .int .i64 k ∧ Hid (∀ j, 1 ≤ j → j < k → gb s j ≠ 58)) (fun c => s.size - (intOf c).toNat)
  case atStart => exact ⟨1, by omega, h1s, rfl, Lib.hid fun j h1 hj => by omega⟩
  case round =>
   obtain ⟨k, hk1, hk, rfl, hbef⟩ := hrel
   by_cases hlt : k < s.size
   ·have hkd : decide ((k : Int) < (s.size : Int)) = true := decide_eq_true (by omega)
    have hge : decide ((s.size : Int) ≤ (k : Int)) = false := decide_eq_false (by omega)
    have hix := run_idx s k hlt
    obtain ⟨m, hm⟩ : ∃ m, (gb s k).toNat = m := ⟨_, rfl⟩
    have tk := (byte_test (gb s k) 58 (by decide) m hm).2
    rw [show UInt8.ofNat 58 = 58 from rfl] at tk
    have tk : ((m : Int) != 58) = !decide (gb s k = 58) := tk
    rw [hm] at hix
    by_cases hc : gb s k = 58
    ·rw [decide_eq_true hc, Bool.not_true] at tk
     have hpk := HPk.out k hk1 hk hbef.out (fun _ => hc)
     rw [if_neg (by omega)] at hpk
     have HU := Lib.hid (HUn.out k hk)
     have hsl : ∀ W, (Instr.slice 9 (.string s) (some (.int .i64 1)) (some (.int .i64 (k : Int))) none).run Tryz.prog W = .ok (.string (piec s 1 k)) W := run_sl s 1 k hk1 hk
     obtain ⟨q, hq⟩ : ∃ q, piec s 1 k = q := ⟨_, rfl⟩
     rw [hq] at hsl HU hpk
     clear hbef hm hc hq
     cases hu : Bare.unsix (bl q) with
     | none =>
      rw [hu] at HU hpk
      subst hpk
      clear hu
      go_wp2_with fail
      refine (HU.out _).mono ?_
      rintro e w5 ⟨rfl, hk5⟩
      unfold unsixV
      simp only
      have hN := hN.trans hk5
      have hr := hk5.heap HR.out id
      clear hsl hix tk HU
      go_wp2_with fail
      refine (HNo.out _).mono ?_
      rintro e wn ⟨rfl, hNn⟩
      have hN := hN.trans hNn
      have hr := hNn.heap hr id
      obtain ⟨⟨c0, c1, c2, c3⟩, f0, f1, f2, f3⟩ := row_facts hr
      go_wp2_with fail
      obtain ⟨hN2, hr2⟩ := set4 hN hBw hr (.int .u8 0) (.int .i64 0) (.string ⟨#[]⟩) (.bool false)
      obtain ⟨W2, hW2⟩ : ∃ W2, ((((wn.setCell ⟨B, 0, none⟩ (.int .u8 0)).setCell ⟨B, 1, none⟩ (.int .i64 0)).setCell ⟨B, 2, none⟩ (.string ⟨#[]⟩)).setCell ⟨B, 3, none⟩ (.bool false)) = W2 := ⟨_, rfl⟩
      rw [hW2] at hN2 hr2 ⊢
      exact read_end (by kernel_rfl) rfl rfl rfl hr2 ⟨rfl, hN2⟩
     | some t =>
      rw [hu] at HU hpk
      subst hpk
      clear hu
      go_wp2_with fail
      refine (HU.out _).mono ?_
      rintro e w5 ⟨rfl, hk5⟩
      unfold unsixV
      simp only
      have hN := hN.trans hk5
      have hr := hk5.heap HR.out id
      clear hsl hix tk HU
      go_upto_region 20 with fail
      obtain ⟨x, hx⟩ : ∃ x, tx t = x := ⟨_, rfl⟩
      obtain ⟨y, hy⟩ : ∃ y, tx ((bl s).drop (k + 1)) = y := ⟨_, rfl⟩
      obtain ⟨⟨c0, c1, c2, c3⟩, f0, f1, f2, f3⟩ := row_facts hr
      have Hx := Lib.hid hx
      have Hy := Lib.hid hy
      have hsl : ∀ W, (Instr.slice 9 (.string s) (some (.int .i64 ((k : Int) + 1))) none none).run Tryz.prog W = .ok (.string (tx ((bl s).drop (k + 1)))) W := run_sl_l s (k + 1) (by omega)
      rw [hy] at hsl
      rw [hx]
      clear hx hy hge
      go_region
      obtain ⟨hN2, hr2⟩ := set4 hN hBw hr (.int .u8 5) (.int .i64 0) (.string x) (.bool false)
      have hN2 := hN2.drew
      have hr2 : ((((w5.setCell ⟨B, 0, none⟩ (.int .u8 5)).setCell ⟨B, 1, none⟩ (.int .i64 0)).setCell ⟨B, 2, none⟩ (.string x)).setCell ⟨B, 3, none⟩ (.bool false)).drew.heap[B]? = some (.cells #[.int .u8 5, .int .i64 0, .string x, .bool false] 66 (0, 0)) := hr2
      obtain ⟨W2, hW2⟩ : ∃ W2, ((((w5.setCell ⟨B, 0, none⟩ (.int .u8 5)).setCell ⟨B, 1, none⟩ (.int .i64 0)).setCell ⟨B, 2, none⟩ (.string x)).setCell ⟨B, 3, none⟩ (.bool false)).drew = W2 := ⟨_, rfl⟩
      rw [hW2] at hN2 hr2 ⊢
      go_wp2_with fail
      exact read_end (by kernel_rfl) rfl rfl rfl hr2 ⟨by rw [← Hx.out, ← Hy.out]; rfl, hN2⟩
    ·rw [decide_eq_false hc, Bool.not_false] at tk
     have hh : Hid (∀ j, 1 ≤ j → j < k + 1 → gb s j ≠ 58) := Lib.hid fun i h1 hi => by
      by_cases hik : i < k
      ·exact hbef.out i h1 hik
      ·obtain rfl : i = k := by omega
       exact hc
     clear hbef hm hc hge
     go_wp2_with fail
     go_round
     case rel => exact ⟨k + 1, by omega, by omega, by go_num, hh⟩
     case measure => simp [intOf]; omega
   ·obtain rfl : k = s.size := by omega
    have hkd : decide ((s.size : Int) < (s.size : Int)) = false := decide_eq_false (by omega)
    have hge : decide ((s.size : Int) ≤ (s.size : Int)) = true := decide_eq_true (by omega)
    have hpk := HPk.out s.size hk1 hk hbef.out (fun h => by omega)
    rw [if_pos rfl] at hpk
    subst hpk
    have HU := Lib.hid (HUn.out s.size hk)
    have hsl : ∀ W, (Instr.slice 9 (.string s) (some (.int .i64 1)) (some (.int .i64 (s.size : Int))) none).run Tryz.prog W = .ok (.string (piec s 1 s.size)) W := run_sl s 1 s.size hk1 hk
    obtain ⟨q, hq⟩ : ∃ q, piec s 1 s.size = q := ⟨_, rfl⟩
    rw [hq] at hsl HU
    obtain ⟨U, hU⟩ : ∃ U, Bare.unsix (bl q) = U := ⟨_, rfl⟩
    rw [hU] at HU
    obtain ⟨a, b, hab⟩ : ∃ a b, unsixV U = .tuple #[.string a, .bool b] := by cases U <;> exact ⟨_, _, rfl⟩
    rw [hab] at HU
    clear hbef hq hU hab
    go_wp2_with fail
    refine (HU.out _).mono ?_
    rintro e w5 ⟨rfl, hk5⟩
    have hN := hN.trans hk5
    have hr := hk5.heap HR.out id
    clear hsl HU
    go_wp2_with fail
    refine (HNo.out _).mono ?_
    rintro e wn ⟨rfl, hNn⟩
    have hN := hN.trans hNn
    have hr := hNn.heap hr id
    obtain ⟨⟨c0, c1, c2, c3⟩, f0, f1, f2, f3⟩ := row_facts hr
    go_wp2_with fail
    obtain ⟨hN2, hr2⟩ := set4 hN hBw hr (.int .u8 0) (.int .i64 0) (.string ⟨#[]⟩) (.bool false)
    obtain ⟨W2, hW2⟩ : ∃ W2, ((((wn.setCell ⟨B, 0, none⟩ (.int .u8 0)).setCell ⟨B, 1, none⟩ (.int .i64 0)).setCell ⟨B, 2, none⟩ (.string ⟨#[]⟩)).setCell ⟨B, 3, none⟩ (.bool false)) = W2 := ⟨_, rfl⟩
    rw [hW2] at hN2 hr2 ⊢
    exact read_end (by kernel_rfl) rfl rfl rfl hr2 ⟨rfl, hN2⟩
 rw [decide_eq_false h58] at t58
 rw [if_neg h58]
 by_cases h63 : gb s 0 = 63
 ·rw [decide_eq_true h63] at t63
  rw [if_pos h63]
  clear h63 h58
  by_cases h1 : s.size = 1
  ·have e : ansR (bl s) = none := by
    obtain ⟨c, hc⟩ := List.length_eq_one_iff.1 (show (bl s).length = 1 by rw [bl_len]; exact h1)
    rw [hc]; rfl
   rw [e]
   have hd1 : decide ((1 : Int) < (s.size : Int)) = false := decide_eq_false (by omega)
   clear e h1
   refine Calls.mono (R := fun e w' => e = .returned (.tuple #[.agg #[.int .u8 0, .int .i64 0, .string ⟨#[]⟩, .bool false], .string ⟨#[]⟩, .int .i64 120]) ∧ New w w') ?_ fun e w' h => h
   clear HQuo
   go_enter Tryz.func167, Tryz.ntmps167
   go_upto_region 1 with fail
   obtain ⟨W, hW⟩ : ∃ W, w.alloc (.cells #[.int .u8 0, .int .i64 0, .string ⟨#[]⟩, .bool false] 66) = W := ⟨_, rfl⟩
   rw [hW] at hN hr ⊢
   obtain ⟨B, hB⟩ : ∃ B, w.heap.size = B := ⟨_, rfl⟩
   have hBw : w.heap.size ≤ B := by omega
   rw [hB] at hr ⊢
   clear hW hB
   go_wp2_with (first | (go_at_call 127; refine (HD.out _).mono ?_; rintro e w' ⟨rfl, rfl⟩) | (go_at_call 126; refine (HL.out _).mono ?_; rintro e w' ⟨rfl, rfl⟩))
   refine (HNo.out _).mono ?_
   rintro e wn ⟨rfl, hNn⟩
   have hN := hN.trans hNn
   have hr := hNn.heap hr id
   obtain ⟨⟨c0, c1, c2, c3⟩, f0, f1, f2, f3⟩ := row_facts hr
   go_wp2_with fail
   obtain ⟨hN2, hr2⟩ := set4 hN hBw hr (.int .u8 0) (.int .i64 0) (.string ⟨#[]⟩) (.bool false)
   obtain ⟨W2, hW2⟩ : ∃ W2, ((((wn.setCell ⟨B, 0, none⟩ (.int .u8 0)).setCell ⟨B, 1, none⟩ (.int .i64 0)).setCell ⟨B, 2, none⟩ (.string ⟨#[]⟩)).setCell ⟨B, 3, none⟩ (.bool false)) = W2 := ⟨_, rfl⟩
   rw [hW2] at hN2 hr2 ⊢
   exact read_end (by kernel_rfl) rfl rfl rfl hr2 ⟨rfl, hN2⟩
  have hd1 : decide ((1 : Int) < (s.size : Int)) = true := decide_eq_true (by omega)
  have hix1 : ∀ W, (Instr.index 9 (.string s) (.int .i64 1)).run Tryz.prog W = .ok (.int .u8 ((gb s 1).toNat : Nat)) W := run_idx s 1 (by omega)
  have e : ansR (bl s) = if gb s 1 = 48 ∨ gb s 1 = 49 then some (⟨6, 0, [], gb s 1 == 49⟩, (bl s).drop 2) else none := by
   have e1 := first_drop s (by omega)
   rw [drop_one s 1 (by omega)] at e1
   conv => lhs; rw [e1]
   rfl
  rw [e]
  obtain ⟨m, hm⟩ : ∃ m, (gb s 1).toNat = m := ⟨_, rfl⟩
  have m48 := (byte_test (gb s 1) 48 (by decide) m hm).1
  rw [show UInt8.ofNat 48 = 48 from rfl] at m48
  have m48 : ((m : Int) == 48) = decide (gb s 1 = 48) := m48
  have m49 := (byte_test (gb s 1) 49 (by decide) m hm).1
  rw [show UInt8.ofNat 49 = 49 from rfl] at m49
  have m49 : ((m : Int) == 49) = decide (gb s 1 = 49) := m49
  rw [hm] at hix1
  have hsl2 : ∀ W, (Instr.slice 9 (.string s) (some (.int .i64 2)) none none).run Tryz.prog W = .ok (.string (tx ((bl s).drop 2))) W := run_sl_l s 2 (by omega)
  by_cases g48 : gb s 1 = 48
  ·rw [decide_eq_true g48] at m48
   rw [decide_eq_false (show ¬ gb s 1 = 49 by rw [g48]; decide)] at m49
   rw [if_pos (.inl g48), show (gb s 1 == 49) = false by rw [g48]; decide]
   clear g48 hm e h1
   go_enter Tryz.func167, Tryz.ntmps167
   go_upto_region 1 with fail
   obtain ⟨W, hW⟩ : ∃ W, w.alloc (.cells #[.int .u8 0, .int .i64 0, .string ⟨#[]⟩, .bool false] 66) = W := ⟨_, rfl⟩
   rw [hW] at hN hr ⊢
   obtain ⟨B, hB⟩ : ∃ B, w.heap.size = B := ⟨_, rfl⟩
   have hBw : w.heap.size ≤ B := by omega
   rw [hB] at hr ⊢
   clear hW hB
   go_upto_region 22 with (first | (go_at_call 127; refine (HD.out _).mono ?_; rintro e w' ⟨rfl, rfl⟩) | (go_at_call 126; refine (HL.out _).mono ?_; rintro e w' ⟨rfl, rfl⟩))
   obtain ⟨y, hy⟩ : ∃ y, tx ((bl s).drop 2) = y := ⟨_, rfl⟩
   obtain ⟨⟨c0, c1, c2, c3⟩, f0, f1, f2, f3⟩ := row_facts hr
   have Hy := Lib.hid hy
   rw [hy] at hsl2
   clear hy
   go_region
   obtain ⟨hN2, hr2⟩ := set4 hN hBw hr (.int .u8 6) (.int .i64 0) (.string ⟨#[]⟩) (.bool false)
   have hN2 := hN2.drew
   have hr2 : ((((W.setCell ⟨B, 0, none⟩ (.int .u8 6)).setCell ⟨B, 1, none⟩ (.int .i64 0)).setCell ⟨B, 2, none⟩ (.string ⟨#[]⟩)).setCell ⟨B, 3, none⟩ (.bool false)).drew.heap[B]? = some (.cells #[.int .u8 6, .int .i64 0, .string ⟨#[]⟩, .bool false] 66 (0, 0)) := hr2
   obtain ⟨W2, hW2⟩ : ∃ W2, ((((W.setCell ⟨B, 0, none⟩ (.int .u8 6)).setCell ⟨B, 1, none⟩ (.int .i64 0)).setCell ⟨B, 2, none⟩ (.string ⟨#[]⟩)).setCell ⟨B, 3, none⟩ (.bool false)).drew = W2 := ⟨_, rfl⟩
   rw [hW2] at hN2 hr2 ⊢
   go_wp2_with fail
   exact read_end (by kernel_rfl) rfl rfl rfl hr2 ⟨by rw [← Hy.out]; rfl, hN2⟩
  ·rw [decide_eq_false g48] at m48
   by_cases g49 : gb s 1 = 49
   ·rw [decide_eq_true g49] at m49
    rw [if_pos (.inr g49), show (gb s 1 == 49) = true by rw [g49]; decide]
    clear g48 g49 hm e h1
    go_enter Tryz.func167, Tryz.ntmps167
    go_upto_region 1 with fail
    obtain ⟨W, hW⟩ : ∃ W, w.alloc (.cells #[.int .u8 0, .int .i64 0, .string ⟨#[]⟩, .bool false] 66) = W := ⟨_, rfl⟩
    rw [hW] at hN hr ⊢
    obtain ⟨B, hB⟩ : ∃ B, w.heap.size = B := ⟨_, rfl⟩
    have hBw : w.heap.size ≤ B := by omega
    rw [hB] at hr ⊢
    clear hW hB
    go_upto_region 22 with (first | (go_at_call 127; refine (HD.out _).mono ?_; rintro e w' ⟨rfl, rfl⟩) | (go_at_call 126; refine (HL.out _).mono ?_; rintro e w' ⟨rfl, rfl⟩))
    obtain ⟨y, hy⟩ : ∃ y, tx ((bl s).drop 2) = y := ⟨_, rfl⟩
    obtain ⟨⟨c0, c1, c2, c3⟩, f0, f1, f2, f3⟩ := row_facts hr
    have Hy := Lib.hid hy
    rw [hy] at hsl2
    clear hy
    go_region
    obtain ⟨hN2, hr2⟩ := set4 hN hBw hr (.int .u8 6) (.int .i64 0) (.string ⟨#[]⟩) (.bool true)
    have hN2 := hN2.drew
    have hr2 : ((((W.setCell ⟨B, 0, none⟩ (.int .u8 6)).setCell ⟨B, 1, none⟩ (.int .i64 0)).setCell ⟨B, 2, none⟩ (.string ⟨#[]⟩)).setCell ⟨B, 3, none⟩ (.bool true)).drew.heap[B]? = some (.cells #[.int .u8 6, .int .i64 0, .string ⟨#[]⟩, .bool true] 66 (0, 0)) := hr2
    obtain ⟨W2, hW2⟩ : ∃ W2, ((((W.setCell ⟨B, 0, none⟩ (.int .u8 6)).setCell ⟨B, 1, none⟩ (.int .i64 0)).setCell ⟨B, 2, none⟩ (.string ⟨#[]⟩)).setCell ⟨B, 3, none⟩ (.bool true)).drew = W2 := ⟨_, rfl⟩
    rw [hW2] at hN2 hr2 ⊢
    go_wp2_with fail
    exact read_end (by kernel_rfl) rfl rfl rfl hr2 ⟨by rw [← Hy.out]; rfl, hN2⟩
   ·rw [decide_eq_false g49] at m49
    rw [if_neg (by rintro (h | h); exact g48 h; exact g49 h)]
    clear g48 g49 hm e h1
    refine Calls.mono (R := fun e w' => e = .returned (.tuple #[.agg #[.int .u8 0, .int .i64 0, .string ⟨#[]⟩, .bool false], .string ⟨#[]⟩, .int .i64 120]) ∧ New w w') ?_ fun e w' h => h
    clear HQuo
    go_enter Tryz.func167, Tryz.ntmps167
    go_upto_region 1 with fail
    obtain ⟨W, hW⟩ : ∃ W, w.alloc (.cells #[.int .u8 0, .int .i64 0, .string ⟨#[]⟩, .bool false] 66) = W := ⟨_, rfl⟩
    rw [hW] at hN hr ⊢
    obtain ⟨B, hB⟩ : ∃ B, w.heap.size = B := ⟨_, rfl⟩
    have hBw : w.heap.size ≤ B := by omega
    rw [hB] at hr ⊢
    clear hW hB
    go_wp2_with (first | (go_at_call 127; refine (HD.out _).mono ?_; rintro e w' ⟨rfl, rfl⟩) | (go_at_call 126; refine (HL.out _).mono ?_; rintro e w' ⟨rfl, rfl⟩))
    refine (HNo.out _).mono ?_
    rintro e wn ⟨rfl, hNn⟩
    have hN := hN.trans hNn
    have hr := hNn.heap hr id
    obtain ⟨⟨c0, c1, c2, c3⟩, f0, f1, f2, f3⟩ := row_facts hr
    go_wp2_with fail
    obtain ⟨hN2, hr2⟩ := set4 hN hBw hr (.int .u8 0) (.int .i64 0) (.string ⟨#[]⟩) (.bool false)
    obtain ⟨W2, hW2⟩ : ∃ W2, ((((wn.setCell ⟨B, 0, none⟩ (.int .u8 0)).setCell ⟨B, 1, none⟩ (.int .i64 0)).setCell ⟨B, 2, none⟩ (.string ⟨#[]⟩)).setCell ⟨B, 3, none⟩ (.bool false)) = W2 := ⟨_, rfl⟩
    rw [hW2] at hN2 hr2 ⊢
    exact read_end (by kernel_rfl) rfl rfl rfl hr2 ⟨rfl, hN2⟩
 rw [decide_eq_false h63] at t63
 rw [if_neg h63]
 clear h63 h58
 refine Calls.mono (R := fun e w' => e = .returned (.tuple #[.agg #[.int .u8 0, .int .i64 0, .string ⟨#[]⟩, .bool false], .string ⟨#[]⟩, .int .i64 120]) ∧ New w w') ?_ fun e w' h => h
 clear HQuo
 go_enter Tryz.func167, Tryz.ntmps167
 go_upto_region 1 with fail
 obtain ⟨W, hW⟩ : ∃ W, w.alloc (.cells #[.int .u8 0, .int .i64 0, .string ⟨#[]⟩, .bool false] 66) = W := ⟨_, rfl⟩
 rw [hW] at hN hr ⊢
 obtain ⟨B, hB⟩ : ∃ B, w.heap.size = B := ⟨_, rfl⟩
 have hBw : w.heap.size ≤ B := by omega
 rw [hB] at hr ⊢
 clear hW hB
 go_wp2_with (first | (go_at_call 127; refine (HD.out _).mono ?_; rintro e w' ⟨rfl, rfl⟩) | (go_at_call 126; refine (HL.out _).mono ?_; rintro e w' ⟨rfl, rfl⟩))
 refine (HNo.out _).mono ?_
 rintro e wn ⟨rfl, hNn⟩
 have hN := hN.trans hNn
 have hr := hNn.heap hr id
 obtain ⟨⟨c0, c1, c2, c3⟩, f0, f1, f2, f3⟩ := row_facts hr
 go_wp2_with fail
 obtain ⟨hN2, hr2⟩ := set4 hN hBw hr (.int .u8 0) (.int .i64 0) (.string ⟨#[]⟩) (.bool false)
 obtain ⟨W2, hW2⟩ : ∃ W2, ((((wn.setCell ⟨B, 0, none⟩ (.int .u8 0)).setCell ⟨B, 1, none⟩ (.int .i64 0)).setCell ⟨B, 2, none⟩ (.string ⟨#[]⟩)).setCell ⟨B, 3, none⟩ (.bool false)) = W2 := ⟨_, rfl⟩
 rw [hW2] at hN2 hr2 ⊢
 exact read_end (by kernel_rfl) rfl rfl rfl hr2 ⟨rfl, hN2⟩
end Go.Proofs.YtkiiameibdhdfaaGreatDoor
