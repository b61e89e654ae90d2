/- Texts joined. -/
import Derived.Test.YtkiiameibdhdfaaGreatDoorQ17
import Derived.Test.YtkiiameibdhdfaaGreatDoorQ18
import Derived.Test.YtkiiameibdhdfaaGreatDoorQ09
import Derived.Test.YtkiiameibdhdfaaGreatDoorQ07
set_option linter.unusedSimpArgs false
set_option linter.unusedVariables false
namespace Go.Proofs.YtkiiameibdhdfaaGreatDoor
open Go.RowKit Go.Shelf Go.Cs
attribute [local go_sem] Oper.semAt_some


theorem lit30 (t : Array Value) (h : t.size = 30) : ∃ u : Nat → Value, t = (u 0 :: u 1 :: u 2 :: u 3 :: u 4 :: u 5 :: u 6 :: u 7 :: u 8 :: u 9 :: u 10 :: u 11 :: u 12 :: u 13 :: u 14 :: u 15 :: u 16 :: u 17 :: u 18 :: u 19 :: u 20 :: u 21 :: u 22 :: u 23 :: u 24 :: u 25 :: u 26 :: u 27 :: u 28 :: u 29 :: ([] : List Value)).toArray := ⟨fun i => t.getD i undef, range_lit t 30 h⟩
noncomputable def reg_urgent_Print_5 : Code := ((Tryz.f37.body.bind (regionOf 5)).getD .skip)
set_option maxHeartbeats 4000000 in
set_option maxRecDepth 100000 in
theorem print5 (t : Array Value) (hs : t.size = 30) (w : World) {P : Nat} {n : Int} {z : Bool} {x2 x3 x4 x5 : Value}
  (hq1 : t.getD 1 undef = .pointer (some ⟨P, 0, none⟩))
  (hq2 : t.getD 2 undef = x2)
  (hq3 : t.getD 3 undef = x3)
  (hq4 : t.getD 4 undef = x4)
  (hq5 : t.getD 5 undef = x5)
  (c0 : w.cell? ⟨P, 0, none⟩ = some (.int .u8 n)) (hz : (n != 3) = z) :
  reg_urgent_Print_5.wp Tryz.prog (Only fun a' W' => (a'.tmps.size = 30 ∧ a'.defers = [] ∧ a'.tmps.getD 1 undef = .pointer (some ⟨P, 0, none⟩) ∧ a'.tmps.getD 2 undef = x2 ∧ a'.tmps.getD 3 undef = x3 ∧ a'.tmps.getD 4 undef = x4 ∧ a'.tmps.getD 5 undef = x5 ∧ a'.tmps.getD 14 undef = .bool z) ∧ New w W') ⟨t, []⟩ w := by
 conv => arg 2; whnf
 obtain ⟨u, rfl⟩ := lit30 t hs
 have hq1 : u 1 = .pointer (some ⟨P, 0, none⟩) := hq1
 have hq2 : u 2 = x2 := hq2
 have hq3 : u 3 = x3 := hq3
 have hq4 : u 4 = x4 := hq4
 have hq5 : u 5 = x5 := hq5
 rw [hq1, hq2, hq3, hq4, hq5]
 clear hq1 hq2 hq3 hq4 hq5 hs
 refine wp_region_held (S := fun W => New w W) (by kernel_rfl) ?_
 show wpAnyH _ _ _ _ _ 5 _ _ w.drew
 have hN : New w w.drew := (Mods.refl _ _).drew
 have hS : New w w.drew := (Mods.refl _ _).drew
 refine anyH_take 0 (some 10) (.pointer (some ⟨P, 0, none⟩)) rfl rfl (by kernel_rfl) (by kernel_rfl) (by kernel_rfl) (fun _ _ _ h => h.elim) (.inl ⟨by rfl, fun W hW => by go_simp⟩) hS ?_
 simp only [Act.put, List.setIfInBounds_toArray, List.set_cons_succ, List.set_cons_zero]
 refine anyH_take 1 (some 11) (.int .u8 n) rfl rfl (by kernel_rfl) (by kernel_rfl) (by kernel_rfl) (fun _ _ _ h => h.elim) (.inl ⟨by rfl, fun W hW => by have hh : New w W := hW; have q := hh.cell c0 id; go_simp⟩) hS ?_
 simp only [Act.put, List.setIfInBounds_toArray, List.set_cons_succ, List.set_cons_zero]
 refine wpAnyH_all (rs := [2]) (by kernel_rfl) (by simp) ?_
 simp only [List.mem_cons, List.not_mem_nil, or_false, forall_eq]
 refine opH_call (some 12) rfl (by rfl) rfl 46 #[] (by go_simp) ((first_u _).mono ?_)
 rintro e w2 ⟨rfl, hk⟩
 have hS := hS.trans hk
 have hN := hN.trans hk
 clear hk
 refine ⟨_, rfl, hS, ?_⟩
 simp only [Act.put, List.setIfInBounds_toArray, List.set_cons_succ, List.set_cons_zero]
 refine anyH_take 3 (some 13) (.int .u8 3) rfl rfl (by kernel_rfl) (by kernel_rfl) (by kernel_rfl) (fun _ _ _ h => h.elim) (.inl ⟨by rfl, fun W hW => by unfold prV; have hp := fun w => partAt 5 _ Tryz.underlying5 rfl #[.int .u8 3, .bool false] 0 (.int .u8 3) w rfl; go_simp; simp [Instr.field, asAgg, Sem.run_bind, run_underlying Tryz.underlying31, hp]⟩) hS ?_
 simp only [Act.put, List.setIfInBounds_toArray, List.set_cons_succ, List.set_cons_zero]
 refine anyH_take 4 (some 14) (.bool z) rfl rfl (by kernel_rfl) (by kernel_rfl) (by kernel_rfl) (fun _ _ _ h => h.elim) (.inl ⟨by rfl, fun W hW => by go_simp⟩) hS ?_
 simp only [Act.put, List.setIfInBounds_toArray, List.set_cons_succ, List.set_cons_zero]
 refine wpAnyH_done (by kernel_rfl) ?_ _
 exact ⟨⟨rfl, rfl, rfl, rfl, rfl, rfl, rfl, rfl⟩, hN⟩
def prioT (u : Nat) (i : Bool) : Option Bare.Bs := if u ≤ 7 then Bare.printD (Bare.prioD u i) else none
set_option maxHeartbeats 2000000 in
set_option maxRecDepth 100000 in
theorem print_u (n : Nat) (i : Bool) (hu : n < 256) (w : World) (hT : Tab w) :
  Calls Tryz.prog 37 #[prV n i] w fun e w' => e = .returned (printV (prioT n i)) ∧ New w w' := by
 unfold prV
 obtain ⟨T, hTT⟩ : ∃ T, printV (prioT n i) = T := ⟨_, rfl⟩
 have HT := Lib.hid hTT
 rw [hTT]
 clear hTT
 have HR := Lib.hid (fun W => right_pr n i hu W)
 unfold prV at HR
 have hA : New w (w.alloc (.cells #[.int .u8 n, .bool i] 31)) := (Mods.refl _ _).alloc _
 have rP := World.alloc_heap_new w (.cells #[.int .u8 n, .bool i] 31)
 go_enter Tryz.func37, Tryz.ntmps37
 go_upto_region 1 with fail
 obtain ⟨w1, hw1⟩ : ∃ V, w.alloc (.cells #[.int .u8 n, .bool i] 31) = V := ⟨_, rfl⟩
 obtain ⟨P, hP⟩ : ∃ b, w.heap.size = b := ⟨_, rfl⟩
 rw [hw1] at hA rP ⊢
 rw [hP] at rP ⊢
 have hA2 : New w1 (w1.alloc (.cells #[.slice none 0 0] 51)) := (Mods.refl _ _).alloc _
 have rX : Boxed (w1.alloc (.cells #[.slice none 0 0] 51)) w1.heap.size 51 (.slice none 0 0) := Boxed.new w1 _ _
 have hwX : w.heap.size ≤ w1.heap.size := hA.size
 go_upto_region 3 with fail
 obtain ⟨w2, hw2⟩ : ∃ V, w1.alloc (.cells #[.slice none 0 0] 51) = V := ⟨_, rfl⟩
 obtain ⟨X, hX⟩ : ∃ b, w1.heap.size = b := ⟨_, rfl⟩
 rw [hw2] at hA2 rX ⊢
 rw [hX] at rX hwX ⊢
 replace rP := hA2.heap rP id
 have hAd := AddW.start (hA.trans hA2) hwX rX
 clear hw1 hP hw2 hX hA hA2 rX hwX
 obtain ⟨⟨c0, c1⟩, -⟩ := pr_facts rP
 by_cases h7 : n ≤ 7
 ·have HT' : Hid (printV (Bare.printD (Bare.prioD n i)) = T) := Lib.hid (by have := HT.out; unfold prioT at this; rw [if_pos h7] at this; exact this)
  rw [decide_eq_true h7] at HR
  obtain ⟨z, hz⟩ : ∃ z, ((n : Int) != 3) = z := ⟨_, rfl⟩
  have HPD := Lib.hid (prioD_print (i := i) h7)
  clear HT h7
  go_upto_region 5 with (go_at_call 42; refine (HR.out _).mono ?_; rintro e w3 ⟨rfl, hN3⟩)
  replace rP := hN3.heap rP id
  replace hAd := hAd.keep hN3
  have hT3 := hT.new hAd.1
  obtain ⟨⟨c0, c1⟩, -⟩ := pr_facts rP
  refine piece (fun _ => _) (print5 _ rfl w3 rfl rfl rfl rfl rfl c0 hz) ?_
  rintro ⟨z, dfs⟩ w5 ⟨⟨hs, hd, hq1, hq2, hq3, hq4, hq5, hq14⟩, hN5⟩
  simp only at hs hd hq1 hq2 hq3 hq4 hq5 hq14
  subst hd
  obtain ⟨u, rfl⟩ := lit30 z hs
  have hp1 : u 1 = .pointer (some ⟨P, 0, none⟩) := hq1
  have hp2 : u 2 = .string ⟨#[]⟩ := hq2
  have hp3 : u 3 = .int .i64 0 := hq3
  have hp4 : u 4 = .pointer (some ⟨X, 0, none⟩) := hq4
  have hp5 : u 5 = .func (.func 82) #[] #[.pointer (some ⟨X, 0, none⟩)] := hq5
  have hp14 : u 14 = .bool z := hq14
  rw [hp1, hp2, hp3, hp4, hp5, hp14]
  clear hp1 hq1 hp2 hq2 hp3 hq3 hp4 hq4 hp5 hq5 hp14 hq14 hs
  replace hAd := hAd.keep hN5
  replace rP := hN5.heap rP id
  have hent := enters_of (P := Tryz.prog) Tryz.func82 (by kernel_rfl) rfl
  clear hN3 hN5 c0 c1
  obtain ⟨⟨c0, c1⟩, -⟩ := pr_facts rP
  have HP := Lib.hid (fun (W : World) (d : List Bare.Mem) (hd : d = Bare.prioD n i) (v : Value) (hv : RdD false W v d) (hT : Tab W) => by have := print_d v d W hv (by rw [hd]; exact HPD.out) hT; rw [hd, HT'.out] at this; exact this)
  have hlast : ∀ (W : World) (d : List Bare.Mem), d = Bare.prioD n i → AddW w W X d → d.length ≤ 100 → ∃ v, W.cell? ⟨X, 0, none⟩ = some v ∧ Calls Tryz.prog 26 #[v] W fun e w' => e = .returned T ∧ New W w' := fun W d hd had hl => by
   obtain ⟨v, hb, hr⟩ := had.reads hl
   exact ⟨v, hb.cell, HP.out W d hd v hr (hT.new had.1)⟩
  have HLast := Lib.hid hlast
  clear hlast HP HPD
  obtain ⟨t, k, rfl⟩ : ∃ t k, T = .tuple #[.string t, .int .i64 k] := by
   have h := HT'.out
   cases hh : Bare.printD (Bare.prioD n i) with
   | none => rw [hh] at h; exact ⟨_, _, h.symm⟩
   | some l => rw [hh] at h; exact ⟨_, _, h.symm⟩
  clear HT'
  have hw8 : IntKind.i64.wrap (n : Int) = n := by rw [IntKind.wrap_i64]; omega
  cases z with
  | true =>
   have h3 : ¬ n = 3 := by intro e; subst e; simp at hz
   go_wp2_with fail
   refine (add_u w w5 X _ hAd (by simp) [117] ⟨1, n, [], false⟩).mono ?_
   rintro e w6 ⟨⟨vv, rfl⟩, hAd, hPP⟩
   have rP6 := hPP _ _ _ rP
   obtain ⟨⟨c0, c1⟩, -⟩ := pr_facts rP6
   cases i with
   | true =>
    go_wp2_with fail
    refine (add_u w w6 X _ hAd (by simp) [105] Bare.yesI).mono ?_
    rintro e w7 ⟨⟨vv, rfl⟩, hAd, hPP⟩
    obtain ⟨v, hv, hcl⟩ := HLast.out w7 _ (by unfold Bare.prioD; rw [if_neg (by omega), if_pos rfl]; rfl) hAd (by simp)
    have hNw := hAd.1
    have HCL := Lib.hid hcl
    clear hcl
    go_wp2_with fail
    refine (HCL.out).mono ?_
    rintro e w9 ⟨rfl, hN9⟩
    go_wp2_with fail
    go_ret2
    exact ⟨rfl, hNw.trans hN9⟩
   | false =>
    obtain ⟨v, hv, hcl⟩ := HLast.out w6 _ (by unfold Bare.prioD; rw [if_neg (by omega), if_neg (by decide)]; rfl) hAd (by simp)
    have hNw := hAd.1
    have HCL := Lib.hid hcl
    clear hcl
    go_wp2_with fail
    refine (HCL.out).mono ?_
    rintro e w9 ⟨rfl, hN9⟩
    go_wp2_with fail
    go_ret2
    exact ⟨rfl, hNw.trans hN9⟩
  | false =>
   have h3 : n = 3 := by simp at hz; omega
   cases i with
   | true =>
    go_wp2_with fail
    refine (add_u w w5 X _ hAd (by simp) [105] Bare.yesI).mono ?_
    rintro e w7 ⟨⟨vv, rfl⟩, hAd, hPP⟩
    obtain ⟨v, hv, hcl⟩ := HLast.out w7 _ (by unfold Bare.prioD; rw [if_pos (by omega), if_pos rfl]; first | done | rfl) hAd (by simp)
    have hNw := hAd.1
    have HCL := Lib.hid hcl
    clear hcl
    go_wp2_with fail
    refine (HCL.out).mono ?_
    rintro e w9 ⟨rfl, hN9⟩
    go_wp2_with fail
    go_ret2
    exact ⟨rfl, hNw.trans hN9⟩
   | false =>
    obtain ⟨v, hv, hcl⟩ := HLast.out w5 _ (by unfold Bare.prioD; rw [if_pos (by omega), if_neg (by decide)]; rfl) hAd (by simp)
    have hNw := hAd.1
    have HCL := Lib.hid hcl
    clear hcl
    go_wp2_with fail
    refine (HCL.out).mono ?_
    rintro e w9 ⟨rfl, hN9⟩
    go_wp2_with fail
    go_ret2
    exact ⟨rfl, hNw.trans hN9⟩
 ·have hT' : T = .tuple #[.string ⟨#[]⟩, .int .i64 2] := by have := HT.out; unfold prioT at this; rw [if_neg h7] at this; exact this.symm
  subst hT'
  rw [decide_eq_false h7] at HR
  clear HT h7
  go_wp2_with (go_at_call 42; refine (HR.out _).mono ?_; rintro e w3 ⟨rfl, hN3⟩)
  go_ret2
  exact ⟨rfl, hAd.1.trans hN3⟩
end Go.Proofs.YtkiiameibdhdfaaGreatDoor
namespace Go.Proofs.YtkiiameibdhdfaaGreatDoor
open Go.RowKit Go.Shelf Go.Cs
attribute [local go_sem] Oper.semAt_some


def wkD : List Bare.Mem := [⟨[117], false, [⟨⟨1, 9, [], false⟩, [⟨[120], Bare.yesI⟩]⟩], []⟩, ⟨[105], false, [⟨⟨1, 1, [], false⟩, []⟩], []⟩]
theorem wk1 : Bare.parseD [117, 61, 53, 44, 32, 105] = some (Bare.prioD 5 true) := by decide +kernel
theorem wk2 : Bare.parseD [117, 61, 57, 59, 120, 44, 32, 105, 61, 49] = some wkD := by decide +kernel
theorem wk3 : Bare.parseD [117, 61] = none := by decide +kernel
theorem wk1u : Bare.urgOf (Bare.prioD 5 true) = 5 ∧ Bare.incOf (Bare.prioD 5 true) = true := by decide +kernel
theorem wk2u : Bare.urgOf wkD = 3 ∧ Bare.incOf wkD = false := by decide +kernel
theorem wk4 : prioT 3 true = some [105] := by decide +kernel
theorem wk5 : prioT 1 false = some [117, 61, 49] := by decide +kernel
theorem wk6 : prioT 8 false = none := by decide +kernel
theorem wk7 : Bare.urgOf [] = 3 ∧ Bare.incOf [] = false := by decide +kernel
theorem lit115 (t : Array Value) (h : t.size = 115) : ∃ u : Nat → Value, t = (u 0 :: u 1 :: u 2 :: u 3 :: u 4 :: u 5 :: u 6 :: u 7 :: u 8 :: u 9 :: u 10 :: u 11 :: u 12 :: u 13 :: u 14 :: u 15 :: u 16 :: u 17 :: u 18 :: u 19 :: u 20 :: u 21 :: u 22 :: u 23 :: u 24 :: u 25 :: u 26 :: u 27 :: u 28 :: u 29 :: u 30 :: u 31 :: u 32 :: u 33 :: u 34 :: u 35 :: u 36 :: u 37 :: u 38 :: u 39 :: u 40 :: u 41 :: u 42 :: u 43 :: u 44 :: u 45 :: u 46 :: u 47 :: u 48 :: u 49 :: u 50 :: u 51 :: u 52 :: u 53 :: u 54 :: u 55 :: u 56 :: u 57 :: u 58 :: u 59 :: u 60 :: u 61 :: u 62 :: u 63 :: u 64 :: u 65 :: u 66 :: u 67 :: u 68 :: u 69 :: u 70 :: u 71 :: u 72 :: u 73 :: u 74 :: u 75 :: u 76 :: u 77 :: u 78 :: u 79 :: u 80 :: u 81 :: u 82 :: u 83 :: u 84 :: u 85 :: u 86 :: u 87 :: u 88 :: u 89 :: u 90 :: u 91 :: u 92 :: u 93 :: u 94 :: u 95 :: u 96 :: u 97 :: u 98 :: u 99 :: u 100 :: u 101 :: u 102 :: u 103 :: u 104 :: u 105 :: u 106 :: u 107 :: u 108 :: u 109 :: u 110 :: u 111 :: u 112 :: u 113 :: u 114 :: ([] : List Value)).toArray := ⟨fun i => t.getD i undef, range_lit t 115 h⟩
noncomputable def reg_causeylaw14_wakes_8 : Code := ((Tryz.f36.body.bind (regionOf 8)).getD .skip)
set_option maxHeartbeats 4000000 in
set_option maxRecDepth 100000 in
theorem wk14 (t : Array Value) (hs : t.size = 115) (w : World) {a b c d : Nat}
  (hq1 : t.getD 1 undef = .pointer (some ⟨a, 0, none⟩))
  (hq2 : t.getD 2 undef = .bool true)
  (hq3 : t.getD 3 undef = .pointer (some ⟨b, 0, none⟩))
  (hq4 : t.getD 4 undef = .bool true)
  (hq5 : t.getD 5 undef = .pointer (some ⟨c, 0, none⟩))
  (hq6 : t.getD 6 undef = .bool false)
  (hq7 : t.getD 7 undef = .string ⟨#[105]⟩)
  (hq8 : t.getD 8 undef = .int .i64 0)
  (hq9 : t.getD 9 undef = .string ⟨#[117, 61, 49]⟩)
  (hq10 : t.getD 10 undef = .int .i64 0)
  (hq12 : t.getD 12 undef = .int .i64 2)
  (hq13 : t.getD 13 undef = .pointer (some ⟨d, 0, none⟩))
  (a0 : w.cell? ⟨a, 0, none⟩ = some (.int .u8 5)) (a1 : w.cell? ⟨a, 1, none⟩ = some (.bool true)) (b0 : w.cell? ⟨b, 0, none⟩ = some (.int .u8 3)) (b1 : w.cell? ⟨b, 1, none⟩ = some (.bool false)) (c0 : w.cell? ⟨c, 0, none⟩ = some (.int .u8 3)) (c1 : w.cell? ⟨c, 1, none⟩ = some (.bool false)) (d0 : w.cell? ⟨d, 0, none⟩ = some (.int .u8 3)) (d1 : w.cell? ⟨d, 1, none⟩ = some (.bool false)) :
  reg_causeylaw14_wakes_8.wp Tryz.prog (Only fun a' W' => (a'.tmps.size = 115 ∧ a'.defers = [] ∧ a'.tmps.getD 0 undef = .bool true) ∧ New w W') ⟨t, []⟩ w := by
 conv => arg 2; whnf
 obtain ⟨u, rfl⟩ := lit115 t hs
 have hq1 : u 1 = .pointer (some ⟨a, 0, none⟩) := hq1
 have hq2 : u 2 = .bool true := hq2
 have hq3 : u 3 = .pointer (some ⟨b, 0, none⟩) := hq3
 have hq4 : u 4 = .bool true := hq4
 have hq5 : u 5 = .pointer (some ⟨c, 0, none⟩) := hq5
 have hq6 : u 6 = .bool false := hq6
 have hq7 : u 7 = .string ⟨#[105]⟩ := hq7
 have hq8 : u 8 = .int .i64 0 := hq8
 have hq9 : u 9 = .string ⟨#[117, 61, 49]⟩ := hq9
 have hq10 : u 10 = .int .i64 0 := hq10
 have hq12 : u 12 = .int .i64 2 := hq12
 have hq13 : u 13 = .pointer (some ⟨d, 0, none⟩) := hq13
 rw [hq1, hq2, hq3, hq4, hq5, hq6, hq7, hq8, hq9, hq10, hq12, hq13]
 clear hq1 hq2 hq3 hq4 hq5 hq6 hq7 hq8 hq9 hq10 hq12 hq13 hs
 refine wp_region_held (S := fun W => New w W) (by kernel_rfl) ?_
 show wpAnyH _ _ _ _ _ 74 _ _ w.drew
 have hN : New w w.drew := (Mods.refl _ _).drew
 have hS : New w w.drew := (Mods.refl _ _).drew
 refine anyH_take 0 (some 42) (.bool true) rfl rfl (by kernel_rfl) (by kernel_rfl) (by kernel_rfl) (fun _ _ _ h => h.elim) (.inl ⟨by rfl, fun W hW => by go_simp⟩) hS ?_
 simp only [Act.put, List.setIfInBounds_toArray, List.set_cons_succ, List.set_cons_zero]
 refine anyH_take 1 (some 43) (.bool true) rfl rfl (by kernel_rfl) (by kernel_rfl) (by kernel_rfl) (fun _ _ _ h => h.elim) (.inl ⟨by rfl, fun W hW => by go_simp⟩) hS ?_
 simp only [Act.put, List.setIfInBounds_toArray, List.set_cons_succ, List.set_cons_zero]
 refine anyH_take 2 (some 44) (.agg #[.int .u8 5, .bool true]) rfl rfl (by kernel_rfl) (by kernel_rfl) (by kernel_rfl) (fun _ _ _ h => h.elim) (.inl ⟨by rfl, fun W hW => by have hh : New w W := hW; have q0 := hh.cell a0 id; have q1 := hh.cell a1 id; go_simp⟩) hS ?_
 simp only [Act.put, List.setIfInBounds_toArray, List.set_cons_succ, List.set_cons_zero]
 refine anyH_take 3 (some 45) (.agg #[.int .u8 5, .bool true]) rfl rfl (by kernel_rfl) (by kernel_rfl) (by kernel_rfl) (fun _ _ _ h => h.elim) (.inl ⟨by rfl, fun W hW => by go_simp⟩) hS ?_
 simp only [Act.put, List.setIfInBounds_toArray, List.set_cons_succ, List.set_cons_zero]
 refine anyH_take 4 (some 46) (.bool true) rfl rfl (by kernel_rfl) (by kernel_rfl) (by kernel_rfl) (fun _ _ _ h => h.elim) (.inl ⟨by rfl, fun W hW => by have q := binop_pr 5 5 true true; go_simp⟩) hS ?_
 simp only [Act.put, List.setIfInBounds_toArray, List.set_cons_succ, List.set_cons_zero]
 refine anyH_take 5 (some 47) (.bool true) rfl rfl (by kernel_rfl) (by kernel_rfl) (by kernel_rfl) (fun _ _ _ h => h.elim) (.inl ⟨by rfl, fun W hW => by go_simp⟩) hS ?_
 simp only [Act.put, List.setIfInBounds_toArray, List.set_cons_succ, List.set_cons_zero]
 refine anyH_take 6 (some 48) (.bool true) rfl rfl (by kernel_rfl) (by kernel_rfl) (by kernel_rfl) (fun _ _ _ h => h.elim) (.inl ⟨by rfl, fun W hW => by go_simp⟩) hS ?_
 simp only [Act.put, List.setIfInBounds_toArray, List.set_cons_succ, List.set_cons_zero]
 refine anyH_take 7 (some 49) (.bool true) rfl rfl (by kernel_rfl) (by kernel_rfl) (by kernel_rfl) (fun _ _ _ h => h.elim) (.inl ⟨by rfl, fun W hW => by go_simp⟩) hS ?_
 simp only [Act.put, List.setIfInBounds_toArray, List.set_cons_succ, List.set_cons_zero]
 refine anyH_take 8 (some 50) (.bool true) rfl rfl (by kernel_rfl) (by kernel_rfl) (by kernel_rfl) (fun _ _ _ h => h.elim) (.inl ⟨by rfl, fun W hW => by go_simp⟩) hS ?_
 simp only [Act.put, List.setIfInBounds_toArray, List.set_cons_succ, List.set_cons_zero]
 refine anyH_take 9 (some 51) (.bool true) rfl rfl (by kernel_rfl) (by kernel_rfl) (by kernel_rfl) (fun _ _ _ h => h.elim) (.inl ⟨by rfl, fun W hW => by go_simp⟩) hS ?_
 simp only [Act.put, List.setIfInBounds_toArray, List.set_cons_succ, List.set_cons_zero]
 refine anyH_take 10 (some 52) (.agg #[.int .u8 3, .bool false]) rfl rfl (by kernel_rfl) (by kernel_rfl) (by kernel_rfl) (fun _ _ _ h => h.elim) (.inl ⟨by rfl, fun W hW => by have hh : New w W := hW; have q0 := hh.cell b0 id; have q1 := hh.cell b1 id; go_simp⟩) hS ?_
 simp only [Act.put, List.setIfInBounds_toArray, List.set_cons_succ, List.set_cons_zero]
 refine anyH_take 11 (some 53) (.agg #[.int .u8 3, .bool false]) rfl rfl (by kernel_rfl) (by kernel_rfl) (by kernel_rfl) (fun _ _ _ h => h.elim) (.inl ⟨by rfl, fun W hW => by have hh : New w W := hW; have q0 := hh.cell d0 id; have q1 := hh.cell d1 id; go_simp⟩) hS ?_
 simp only [Act.put, List.setIfInBounds_toArray, List.set_cons_succ, List.set_cons_zero]
 refine anyH_take 12 (some 54) (.bool true) rfl rfl (by kernel_rfl) (by kernel_rfl) (by kernel_rfl) (fun _ _ _ h => h.elim) (.inl ⟨by rfl, fun W hW => by have q := binop_pr 3 3 false false; go_simp⟩) hS ?_
 simp only [Act.put, List.setIfInBounds_toArray, List.set_cons_succ, List.set_cons_zero]
 refine anyH_take 13 (some 55) (.bool true) rfl rfl (by kernel_rfl) (by kernel_rfl) (by kernel_rfl) (fun _ _ _ h => h.elim) (.inl ⟨by rfl, fun W hW => by go_simp⟩) hS ?_
 simp only [Act.put, List.setIfInBounds_toArray, List.set_cons_succ, List.set_cons_zero]
 refine anyH_take 14 (some 56) (.bool true) rfl rfl (by kernel_rfl) (by kernel_rfl) (by kernel_rfl) (fun _ _ _ h => h.elim) (.inl ⟨by rfl, fun W hW => by go_simp⟩) hS ?_
 simp only [Act.put, List.setIfInBounds_toArray, List.set_cons_succ, List.set_cons_zero]
 refine anyH_take 15 (some 57) (.bool false) rfl rfl (by kernel_rfl) (by kernel_rfl) (by kernel_rfl) (fun _ _ _ h => h.elim) (.inl ⟨by rfl, fun W hW => by go_simp⟩) hS ?_
 simp only [Act.put, List.setIfInBounds_toArray, List.set_cons_succ, List.set_cons_zero]
 refine anyH_take 16 (some 58) (.bool true) rfl rfl (by kernel_rfl) (by kernel_rfl) (by kernel_rfl) (fun _ _ _ h => h.elim) (.inl ⟨by rfl, fun W hW => by go_simp⟩) hS ?_
 simp only [Act.put, List.setIfInBounds_toArray, List.set_cons_succ, List.set_cons_zero]
 refine anyH_take 17 (some 59) (.bool true) rfl rfl (by kernel_rfl) (by kernel_rfl) (by kernel_rfl) (fun _ _ _ h => h.elim) (.inl ⟨by rfl, fun W hW => by go_simp⟩) hS ?_
 simp only [Act.put, List.setIfInBounds_toArray, List.set_cons_succ, List.set_cons_zero]
 refine anyH_take 18 (some 60) (.bool true) rfl rfl (by kernel_rfl) (by kernel_rfl) (by kernel_rfl) (fun _ _ _ h => h.elim) (.inl ⟨by rfl, fun W hW => by go_simp⟩) hS ?_
 simp only [Act.put, List.setIfInBounds_toArray, List.set_cons_succ, List.set_cons_zero]
 refine anyH_take 19 (some 61) (.agg #[.int .u8 3, .bool false]) rfl rfl (by kernel_rfl) (by kernel_rfl) (by kernel_rfl) (fun _ _ _ h => h.elim) (.inl ⟨by rfl, fun W hW => by have hh : New w W := hW; have q0 := hh.cell c0 id; have q1 := hh.cell c1 id; go_simp⟩) hS ?_
 simp only [Act.put, List.setIfInBounds_toArray, List.set_cons_succ, List.set_cons_zero]
 refine anyH_take 20 (some 62) (.agg #[.int .u8 3, .bool false]) rfl rfl (by kernel_rfl) (by kernel_rfl) (by kernel_rfl) (fun _ _ _ h => h.elim) (.inl ⟨by rfl, fun W hW => by have hh : New w W := hW; have q0 := hh.cell d0 id; have q1 := hh.cell d1 id; go_simp⟩) hS ?_
 simp only [Act.put, List.setIfInBounds_toArray, List.set_cons_succ, List.set_cons_zero]
 refine anyH_take 21 (some 63) (.bool true) rfl rfl (by kernel_rfl) (by kernel_rfl) (by kernel_rfl) (fun _ _ _ h => h.elim) (.inl ⟨by rfl, fun W hW => by have q := binop_pr 3 3 false false; go_simp⟩) hS ?_
 simp only [Act.put, List.setIfInBounds_toArray, List.set_cons_succ, List.set_cons_zero]
 refine anyH_take 22 (some 64) (.bool true) rfl rfl (by kernel_rfl) (by kernel_rfl) (by kernel_rfl) (fun _ _ _ h => h.elim) (.inl ⟨by rfl, fun W hW => by go_simp⟩) hS ?_
 simp only [Act.put, List.setIfInBounds_toArray, List.set_cons_succ, List.set_cons_zero]
 refine anyH_take 23 (some 65) (.bool true) rfl rfl (by kernel_rfl) (by kernel_rfl) (by kernel_rfl) (fun _ _ _ h => h.elim) (.inl ⟨by rfl, fun W hW => by go_simp⟩) hS ?_
 simp only [Act.put, List.setIfInBounds_toArray, List.set_cons_succ, List.set_cons_zero]
 refine anyH_take 24 (some 66) (.int .i64 0) rfl rfl (by kernel_rfl) (by kernel_rfl) (by kernel_rfl) (fun _ _ _ h => h.elim) (.inl ⟨by rfl, fun W hW => by go_simp⟩) hS ?_
 simp only [Act.put, List.setIfInBounds_toArray, List.set_cons_succ, List.set_cons_zero]
 refine anyH_take 25 (some 67) (.bool true) rfl rfl (by kernel_rfl) (by kernel_rfl) (by kernel_rfl) (fun _ _ _ h => h.elim) (.inl ⟨by rfl, fun W hW => by go_simp⟩) hS ?_
 simp only [Act.put, List.setIfInBounds_toArray, List.set_cons_succ, List.set_cons_zero]
 refine anyH_take 26 (some 68) (.bool true) rfl rfl (by kernel_rfl) (by kernel_rfl) (by kernel_rfl) (fun _ _ _ h => h.elim) (.inl ⟨by rfl, fun W hW => by go_simp⟩) hS ?_
 simp only [Act.put, List.setIfInBounds_toArray, List.set_cons_succ, List.set_cons_zero]
 refine anyH_take 27 (some 69) (.bool true) rfl rfl (by kernel_rfl) (by kernel_rfl) (by kernel_rfl) (fun _ _ _ h => h.elim) (.inl ⟨by rfl, fun W hW => by go_simp⟩) hS ?_
 simp only [Act.put, List.setIfInBounds_toArray, List.set_cons_succ, List.set_cons_zero]
 refine anyH_take 28 (some 70) (.string ⟨#[105]⟩) rfl rfl (by kernel_rfl) (by kernel_rfl) (by kernel_rfl) (fun _ _ _ h => h.elim) (.inl ⟨by rfl, fun W hW => by go_simp⟩) hS ?_
 simp only [Act.put, List.setIfInBounds_toArray, List.set_cons_succ, List.set_cons_zero]
 refine anyH_take 29 (some 71) (.bool true) rfl rfl (by kernel_rfl) (by kernel_rfl) (by kernel_rfl) (fun _ _ _ h => h.elim) (.inl ⟨by rfl, fun W hW => by go_simp⟩) hS ?_
 simp only [Act.put, List.setIfInBounds_toArray, List.set_cons_succ, List.set_cons_zero]
 refine anyH_take 30 (some 72) (.bool true) rfl rfl (by kernel_rfl) (by kernel_rfl) (by kernel_rfl) (fun _ _ _ h => h.elim) (.inl ⟨by rfl, fun W hW => by go_simp⟩) hS ?_
 simp only [Act.put, List.setIfInBounds_toArray, List.set_cons_succ, List.set_cons_zero]
 refine anyH_take 31 (some 73) (.bool true) rfl rfl (by kernel_rfl) (by kernel_rfl) (by kernel_rfl) (fun _ _ _ h => h.elim) (.inl ⟨by rfl, fun W hW => by go_simp⟩) hS ?_
 simp only [Act.put, List.setIfInBounds_toArray, List.set_cons_succ, List.set_cons_zero]
 refine anyH_take 32 (some 74) (.int .i64 0) rfl rfl (by kernel_rfl) (by kernel_rfl) (by kernel_rfl) (fun _ _ _ h => h.elim) (.inl ⟨by rfl, fun W hW => by go_simp⟩) hS ?_
 simp only [Act.put, List.setIfInBounds_toArray, List.set_cons_succ, List.set_cons_zero]
 refine anyH_take 33 (some 75) (.bool true) rfl rfl (by kernel_rfl) (by kernel_rfl) (by kernel_rfl) (fun _ _ _ h => h.elim) (.inl ⟨by rfl, fun W hW => by go_simp⟩) hS ?_
 simp only [Act.put, List.setIfInBounds_toArray, List.set_cons_succ, List.set_cons_zero]
 refine anyH_take 34 (some 76) (.bool true) rfl rfl (by kernel_rfl) (by kernel_rfl) (by kernel_rfl) (fun _ _ _ h => h.elim) (.inl ⟨by rfl, fun W hW => by go_simp⟩) hS ?_
 simp only [Act.put, List.setIfInBounds_toArray, List.set_cons_succ, List.set_cons_zero]
 refine anyH_take 35 (some 77) (.bool true) rfl rfl (by kernel_rfl) (by kernel_rfl) (by kernel_rfl) (fun _ _ _ h => h.elim) (.inl ⟨by rfl, fun W hW => by go_simp⟩) hS ?_
 simp only [Act.put, List.setIfInBounds_toArray, List.set_cons_succ, List.set_cons_zero]
 refine anyH_take 36 (some 78) (.string ⟨#[117, 61, 49]⟩) rfl rfl (by kernel_rfl) (by kernel_rfl) (by kernel_rfl) (fun _ _ _ h => h.elim) (.inl ⟨by rfl, fun W hW => by go_simp⟩) hS ?_
 simp only [Act.put, List.setIfInBounds_toArray, List.set_cons_succ, List.set_cons_zero]
 refine anyH_take 37 (some 79) (.bool true) rfl rfl (by kernel_rfl) (by kernel_rfl) (by kernel_rfl) (fun _ _ _ h => h.elim) (.inl ⟨by rfl, fun W hW => by go_simp⟩) hS ?_
 simp only [Act.put, List.setIfInBounds_toArray, List.set_cons_succ, List.set_cons_zero]
 refine anyH_take 38 (some 80) (.bool true) rfl rfl (by kernel_rfl) (by kernel_rfl) (by kernel_rfl) (fun _ _ _ h => h.elim) (.inl ⟨by rfl, fun W hW => by go_simp⟩) hS ?_
 simp only [Act.put, List.setIfInBounds_toArray, List.set_cons_succ, List.set_cons_zero]
 refine anyH_take 39 (some 81) (.bool true) rfl rfl (by kernel_rfl) (by kernel_rfl) (by kernel_rfl) (fun _ _ _ h => h.elim) (.inl ⟨by rfl, fun W hW => by go_simp⟩) hS ?_
 simp only [Act.put, List.setIfInBounds_toArray, List.set_cons_succ, List.set_cons_zero]
 refine anyH_take 40 (some 82) (.int .i64 2) rfl rfl (by kernel_rfl) (by kernel_rfl) (by kernel_rfl) (fun _ _ _ h => h.elim) (.inl ⟨by rfl, fun W hW => by go_simp⟩) hS ?_
 simp only [Act.put, List.setIfInBounds_toArray, List.set_cons_succ, List.set_cons_zero]
 refine anyH_take 41 (some 83) (.bool true) rfl rfl (by kernel_rfl) (by kernel_rfl) (by kernel_rfl) (fun _ _ _ h => h.elim) (.inl ⟨by rfl, fun W hW => by go_simp⟩) hS ?_
 simp only [Act.put, List.setIfInBounds_toArray, List.set_cons_succ, List.set_cons_zero]
 refine anyH_take 42 (some 84) (.bool true) rfl rfl (by kernel_rfl) (by kernel_rfl) (by kernel_rfl) (fun _ _ _ h => h.elim) (.inl ⟨by rfl, fun W hW => by go_simp⟩) hS ?_
 simp only [Act.put, List.setIfInBounds_toArray, List.set_cons_succ, List.set_cons_zero]
 refine anyH_take 43 (some 85) (.bool true) rfl rfl (by kernel_rfl) (by kernel_rfl) (by kernel_rfl) (fun _ _ _ h => h.elim) (.inl ⟨by rfl, fun W hW => by go_simp⟩) hS ?_
 simp only [Act.put, List.setIfInBounds_toArray, List.set_cons_succ, List.set_cons_zero]
 refine anyH_take 45 (some 87) (.agg #[.int .u8 3, .bool false]) rfl rfl (by kernel_rfl) (by kernel_rfl) (by kernel_rfl) (fun _ _ _ h => h.elim) (.inl ⟨by rfl, fun W hW => by have hh : New w W := hW; have q0 := hh.cell d0 id; have q1 := hh.cell d1 id; go_simp⟩) hS ?_
 simp only [Act.put, List.setIfInBounds_toArray, List.set_cons_succ, List.set_cons_zero]
 refine wpAnyH_all (rs := [44]) (by kernel_rfl) (by simp) ?_
 simp only [List.mem_cons, List.not_mem_nil, or_false, forall_eq]
 refine opH_call (some 86) rfl (by rfl) rfl 46 #[] (by go_simp) (((first_u _).mono (R' := fun e w' => e = .returned (.agg #[.int .u8 3, .bool false]) ∧ New _ w') (by rintro e w' ⟨rfl, h⟩; exact ⟨rfl, h⟩)).mono ?_)
 rintro e w44 ⟨rfl, hk⟩
 have hS := hS.trans hk
 have hN := hN.trans hk
 clear hk
 refine ⟨_, rfl, hS, ?_⟩
 simp only [Act.put, List.setIfInBounds_toArray, List.set_cons_succ, List.set_cons_zero]
 refine anyH_take 46 (some 88) (.bool true) rfl rfl (by kernel_rfl) (by kernel_rfl) (by kernel_rfl) (fun _ _ _ h => h.elim) (.inl ⟨by rfl, fun W hW => by have q := binop_pr 3 3 false false; go_simp⟩) hS ?_
 simp only [Act.put, List.setIfInBounds_toArray, List.set_cons_succ, List.set_cons_zero]
 refine anyH_take 47 (some 89) (.bool true) rfl rfl (by kernel_rfl) (by kernel_rfl) (by kernel_rfl) (fun _ _ _ h => h.elim) (.inl ⟨by rfl, fun W hW => by go_simp⟩) hS ?_
 simp only [Act.put, List.setIfInBounds_toArray, List.set_cons_succ, List.set_cons_zero]
 refine anyH_take 48 (some 90) (.bool true) rfl rfl (by kernel_rfl) (by kernel_rfl) (by kernel_rfl) (fun _ _ _ h => h.elim) (.inl ⟨by rfl, fun W hW => by go_simp⟩) hS ?_
 simp only [Act.put, List.setIfInBounds_toArray, List.set_cons_succ, List.set_cons_zero]
 refine anyH_take 49 (some 91) (.agg #[.int .u8 5, .bool true]) rfl rfl (by kernel_rfl) (by kernel_rfl) (by kernel_rfl) (fun _ _ _ h => h.elim) (.inl ⟨by rfl, fun W hW => by have hh : New w W := hW; have q0 := hh.cell a0 id; have q1 := hh.cell a1 id; go_simp⟩) hS ?_
 simp only [Act.put, List.setIfInBounds_toArray, List.set_cons_succ, List.set_cons_zero]
 refine wpAnyH_all (rs := [50]) (by kernel_rfl) (by simp) ?_
 simp only [List.mem_cons, List.not_mem_nil, or_false, forall_eq]
 refine opH_call (some 92) rfl (by rfl) rfl 42 #[.agg #[.int .u8 5, .bool true]] (by go_simp) (((right_pr 5 true (by decide) _).mono (R' := fun e w' => e = .returned (.bool true) ∧ New _ w') (by rintro e w' ⟨rfl, h⟩; exact ⟨rfl, h⟩)).mono ?_)
 rintro e w50 ⟨rfl, hk⟩
 have hS := hS.trans hk
 have hN := hN.trans hk
 clear hk
 refine ⟨_, rfl, hS, ?_⟩
 simp only [Act.put, List.setIfInBounds_toArray, List.set_cons_succ, List.set_cons_zero]
 refine anyH_take 51 (some 93) (.bool true) rfl rfl (by kernel_rfl) (by kernel_rfl) (by kernel_rfl) (fun _ _ _ h => h.elim) (.inl ⟨by rfl, fun W hW => by go_simp⟩) hS ?_
 simp only [Act.put, List.setIfInBounds_toArray, List.set_cons_succ, List.set_cons_zero]
 refine anyH_take 52 (some 94) (.bool true) rfl rfl (by kernel_rfl) (by kernel_rfl) (by kernel_rfl) (fun _ _ _ h => h.elim) (.inl ⟨by rfl, fun W hW => by go_simp⟩) hS ?_
 simp only [Act.put, List.setIfInBounds_toArray, List.set_cons_succ, List.set_cons_zero]
 refine anyH_take 53 (some 95) (.agg #[.int .u8 8, .bool false]) rfl rfl (by kernel_rfl) (by kernel_rfl) (by kernel_rfl) (fun _ _ _ h => h.elim) (.inl ⟨by rfl, fun W hW => by go_simp⟩) hS ?_
 simp only [Act.put, List.setIfInBounds_toArray, List.set_cons_succ, List.set_cons_zero]
 refine wpAnyH_all (rs := [54]) (by kernel_rfl) (by simp) ?_
 simp only [List.mem_cons, List.not_mem_nil, or_false, forall_eq]
 refine opH_call (some 96) rfl (by rfl) rfl 42 #[.agg #[.int .u8 8, .bool false]] (by go_simp) (((right_pr 8 false (by decide) _).mono (R' := fun e w' => e = .returned (.bool false) ∧ New _ w') (by rintro e w' ⟨rfl, h⟩; exact ⟨rfl, h⟩)).mono ?_)
 rintro e w54 ⟨rfl, hk⟩
 have hS := hS.trans hk
 have hN := hN.trans hk
 clear hk
 refine ⟨_, rfl, hS, ?_⟩
 simp only [Act.put, List.setIfInBounds_toArray, List.set_cons_succ, List.set_cons_zero]
 refine anyH_take 55 (some 97) (.bool true) rfl rfl (by kernel_rfl) (by kernel_rfl) (by kernel_rfl) (fun _ _ _ h => h.elim) (.inl ⟨by rfl, fun W hW => by go_simp⟩) hS ?_
 simp only [Act.put, List.setIfInBounds_toArray, List.set_cons_succ, List.set_cons_zero]
 refine anyH_take 56 (some 98) (.bool true) rfl rfl (by kernel_rfl) (by kernel_rfl) (by kernel_rfl) (fun _ _ _ h => h.elim) (.inl ⟨by rfl, fun W hW => by go_simp⟩) hS ?_
 simp only [Act.put, List.setIfInBounds_toArray, List.set_cons_succ, List.set_cons_zero]
 refine anyH_take 57 (some 99) (.bool true) rfl rfl (by kernel_rfl) (by kernel_rfl) (by kernel_rfl) (fun _ _ _ h => h.elim) (.inl ⟨by rfl, fun W hW => by go_simp⟩) hS ?_
 simp only [Act.put, List.setIfInBounds_toArray, List.set_cons_succ, List.set_cons_zero]
 refine anyH_take 58 (some 100) (.agg #[.int .u8 3, .bool false]) rfl rfl (by kernel_rfl) (by kernel_rfl) (by kernel_rfl) (fun _ _ _ h => h.elim) (.inl ⟨by rfl, fun W hW => by have hh : New w W := hW; have q0 := hh.cell d0 id; have q1 := hh.cell d1 id; go_simp⟩) hS ?_
 simp only [Act.put, List.setIfInBounds_toArray, List.set_cons_succ, List.set_cons_zero]
 refine anyH_take 59 (some 101) (.agg #[.int .u8 5, .bool true]) rfl rfl (by kernel_rfl) (by kernel_rfl) (by kernel_rfl) (fun _ _ _ h => h.elim) (.inl ⟨by rfl, fun W hW => by have hh : New w W := hW; have q0 := hh.cell a0 id; have q1 := hh.cell a1 id; go_simp⟩) hS ?_
 simp only [Act.put, List.setIfInBounds_toArray, List.set_cons_succ, List.set_cons_zero]
 refine wpAnyH_all (rs := [60]) (by kernel_rfl) (by simp) ?_
 simp only [List.mem_cons, List.not_mem_nil, or_false, forall_eq]
 refine opH_call (some 102) rfl (by rfl) rfl 81 #[.agg #[.int .u8 3, .bool false], .agg #[.int .u8 5, .bool true]] (by go_simp) (((less_pr 3 5 false true _).mono (R' := fun e w' => e = .returned (.bool true) ∧ New _ w') (by rintro e w' ⟨rfl, h⟩; exact ⟨rfl, h⟩)).mono ?_)
 rintro e w60 ⟨rfl, hk⟩
 have hS := hS.trans hk
 have hN := hN.trans hk
 clear hk
 refine ⟨_, rfl, hS, ?_⟩
 simp only [Act.put, List.setIfInBounds_toArray, List.set_cons_succ, List.set_cons_zero]
 refine anyH_take 61 (some 103) (.bool true) rfl rfl (by kernel_rfl) (by kernel_rfl) (by kernel_rfl) (fun _ _ _ h => h.elim) (.inl ⟨by rfl, fun W hW => by go_simp⟩) hS ?_
 simp only [Act.put, List.setIfInBounds_toArray, List.set_cons_succ, List.set_cons_zero]
 refine anyH_take 62 (some 104) (.bool true) rfl rfl (by kernel_rfl) (by kernel_rfl) (by kernel_rfl) (fun _ _ _ h => h.elim) (.inl ⟨by rfl, fun W hW => by go_simp⟩) hS ?_
 simp only [Act.put, List.setIfInBounds_toArray, List.set_cons_succ, List.set_cons_zero]
 refine anyH_take 63 (some 105) (.agg #[.int .u8 5, .bool true]) rfl rfl (by kernel_rfl) (by kernel_rfl) (by kernel_rfl) (fun _ _ _ h => h.elim) (.inl ⟨by rfl, fun W hW => by have hh : New w W := hW; have q0 := hh.cell a0 id; have q1 := hh.cell a1 id; go_simp⟩) hS ?_
 simp only [Act.put, List.setIfInBounds_toArray, List.set_cons_succ, List.set_cons_zero]
 refine anyH_take 64 (some 106) (.agg #[.int .u8 5, .bool true]) rfl rfl (by kernel_rfl) (by kernel_rfl) (by kernel_rfl) (fun _ _ _ h => h.elim) (.inl ⟨by rfl, fun W hW => by have hh : New w W := hW; have q0 := hh.cell a0 id; have q1 := hh.cell a1 id; go_simp⟩) hS ?_
 simp only [Act.put, List.setIfInBounds_toArray, List.set_cons_succ, List.set_cons_zero]
 refine wpAnyH_all (rs := [65]) (by kernel_rfl) (by simp) ?_
 simp only [List.mem_cons, List.not_mem_nil, or_false, forall_eq]
 refine opH_call (some 107) rfl (by rfl) rfl 81 #[.agg #[.int .u8 5, .bool true], .agg #[.int .u8 5, .bool true]] (by go_simp) (((less_pr 5 5 true true _).mono (R' := fun e w' => e = .returned (.bool false) ∧ New _ w') (by rintro e w' ⟨rfl, h⟩; exact ⟨rfl, h⟩)).mono ?_)
 rintro e w65 ⟨rfl, hk⟩
 have hS := hS.trans hk
 have hN := hN.trans hk
 clear hk
 refine ⟨_, rfl, hS, ?_⟩
 simp only [Act.put, List.setIfInBounds_toArray, List.set_cons_succ, List.set_cons_zero]
 refine anyH_take 66 (some 108) (.bool true) rfl rfl (by kernel_rfl) (by kernel_rfl) (by kernel_rfl) (fun _ _ _ h => h.elim) (.inl ⟨by rfl, fun W hW => by go_simp⟩) hS ?_
 simp only [Act.put, List.setIfInBounds_toArray, List.set_cons_succ, List.set_cons_zero]
 refine anyH_take 67 (some 109) (.bool true) rfl rfl (by kernel_rfl) (by kernel_rfl) (by kernel_rfl) (fun _ _ _ h => h.elim) (.inl ⟨by rfl, fun W hW => by go_simp⟩) hS ?_
 simp only [Act.put, List.setIfInBounds_toArray, List.set_cons_succ, List.set_cons_zero]
 refine anyH_take 68 (some 110) (.bool true) rfl rfl (by kernel_rfl) (by kernel_rfl) (by kernel_rfl) (fun _ _ _ h => h.elim) (.inl ⟨by rfl, fun W hW => by go_simp⟩) hS ?_
 simp only [Act.put, List.setIfInBounds_toArray, List.set_cons_succ, List.set_cons_zero]
 refine anyH_take 70 (some 112) (.agg #[.int .u8 3, .bool false]) rfl rfl (by kernel_rfl) (by kernel_rfl) (by kernel_rfl) (fun _ _ _ h => h.elim) (.inl ⟨by rfl, fun W hW => by have hh : New w W := hW; have q0 := hh.cell d0 id; have q1 := hh.cell d1 id; go_simp⟩) hS ?_
 simp only [Act.put, List.setIfInBounds_toArray, List.set_cons_succ, List.set_cons_zero]
 refine wpAnyH_all (rs := [69]) (by kernel_rfl) (by simp) ?_
 simp only [List.mem_cons, List.not_mem_nil, or_false, forall_eq]
 refine opH_call (some 111) rfl (by rfl) rfl 40 #[.slice none 0 0] (by go_simp) (((of_any (.slice none 0 0) [] _ (RdD.nil false _ 0) (fun m hm => by cases hm) (fun b hb => by cases hb)).mono (R' := fun e w' => e = .returned (.agg #[.int .u8 3, .bool false]) ∧ New _ w') (by rintro e w' ⟨rfl, h⟩; refine ⟨?_, h⟩; rw [wk7.1, wk7.2]; rfl)).mono ?_)
 rintro e w69 ⟨rfl, hk⟩
 have hS := hS.trans hk
 have hN := hN.trans hk
 clear hk
 refine ⟨_, rfl, hS, ?_⟩
 simp only [Act.put, List.setIfInBounds_toArray, List.set_cons_succ, List.set_cons_zero]
 refine anyH_take 71 (some 113) (.bool true) rfl rfl (by kernel_rfl) (by kernel_rfl) (by kernel_rfl) (fun _ _ _ h => h.elim) (.inl ⟨by rfl, fun W hW => by have q := binop_pr 3 3 false false; go_simp⟩) hS ?_
 simp only [Act.put, List.setIfInBounds_toArray, List.set_cons_succ, List.set_cons_zero]
 refine anyH_take 72 (some 114) (.bool true) rfl rfl (by kernel_rfl) (by kernel_rfl) (by kernel_rfl) (fun _ _ _ h => h.elim) (.inl ⟨by rfl, fun W hW => by go_simp⟩) hS ?_
 simp only [Act.put, List.setIfInBounds_toArray, List.set_cons_succ, List.set_cons_zero]
 refine anyH_take 73 (some 0) (.bool true) rfl rfl (by kernel_rfl) (by kernel_rfl) (by kernel_rfl) (fun _ _ _ h => h.elim) (.inl ⟨by rfl, fun W hW => by go_simp⟩) hS ?_
 simp only [Act.put, List.setIfInBounds_toArray, List.set_cons_succ, List.set_cons_zero]
 refine wpAnyH_done (by kernel_rfl) ?_ _
 exact ⟨⟨rfl, rfl, rfl⟩, hN⟩
set_option maxHeartbeats 4000000 in
set_option maxRecDepth 100000 in
theorem wakes_u (w : World) (hT : Tab w) : Calls Tryz.prog 36 #[] w fun e w' => e = .returned (.bool true) ∧ New w w' := by
 have hN : New w w := Mods.refl _ _
 have H1 : Hid (∀ W, New w W → Calls Tryz.prog 38 #[.string ⟨#[117, 61, 53, 44, 32, 105]⟩] W fun e w' => e = .returned (.tuple #[.agg #[.int .u8 5, .bool true], .bool true]) ∧ New W w') := Lib.hid fun W hN => (read_u ⟨#[117, 61, 53, 44, 32, 105]⟩ W (by decide) (hT.new hN)).mono fun e w' h => by
  refine ⟨h.1.trans ?_, h.2⟩
  rw [show bl ⟨#[117, 61, 53, 44, 32, 105]⟩ = [117, 61, 53, 44, 32, 105] from rfl, wk1]
  simp only [wk1u.1, wk1u.2]; rfl
 have H2 : Hid (∀ W, New w W → Calls Tryz.prog 38 #[.string ⟨#[117, 61, 57, 59, 120, 44, 32, 105, 61, 49]⟩] W fun e w' => e = .returned (.tuple #[.agg #[.int .u8 3, .bool false], .bool true]) ∧ New W w') := Lib.hid fun W hN => (read_u ⟨#[117, 61, 57, 59, 120, 44, 32, 105, 61, 49]⟩ W (by decide) (hT.new hN)).mono fun e w' h => by
  refine ⟨h.1.trans ?_, h.2⟩
  rw [show bl ⟨#[117, 61, 57, 59, 120, 44, 32, 105, 61, 49]⟩ = [117, 61, 57, 59, 120, 44, 32, 105, 61, 49] from rfl, wk2]
  simp only [wk2u.1, wk2u.2]; rfl
 have H3 : Hid (∀ W, New w W → Calls Tryz.prog 38 #[.string ⟨#[117, 61]⟩] W fun e w' => e = .returned (.tuple #[.agg #[.int .u8 3, .bool false], .bool false]) ∧ New W w') := Lib.hid fun W hN => (read_u ⟨#[117, 61]⟩ W (by decide) (hT.new hN)).mono fun e w' h => by
  refine ⟨h.1.trans ?_, h.2⟩
  rw [show bl ⟨#[117, 61]⟩ = [117, 61] from rfl, wk3]
  rfl
 have H4 : Hid (∀ W, New w W → Calls Tryz.prog 37 #[.agg #[.int .u8 3, .bool true]] W fun e w' => e = .returned (.tuple #[.string ⟨#[105]⟩, .int .i64 0]) ∧ New W w') := Lib.hid fun W hN => (print_u 3 true (by decide) W (hT.new hN)).mono fun e w' h => ⟨h.1.trans (by rw [wk4]; rfl), h.2⟩
 have H5 : Hid (∀ W, New w W → Calls Tryz.prog 37 #[.agg #[.int .u8 1, .bool false]] W fun e w' => e = .returned (.tuple #[.string ⟨#[117, 61, 49]⟩, .int .i64 0]) ∧ New W w') := Lib.hid fun W hN => (print_u 1 false (by decide) W (hT.new hN)).mono fun e w' h => ⟨h.1.trans (by rw [wk5]; rfl), h.2⟩
 have H6 : Hid (∀ W, New w W → Calls Tryz.prog 37 #[.agg #[.int .u8 8, .bool false]] W fun e w' => e = .returned (.tuple #[.string ⟨#[]⟩, .int .i64 2]) ∧ New W w') := Lib.hid fun W hN => (print_u 8 false (by decide) W (hT.new hN)).mono fun e w' h => ⟨h.1.trans (by rw [wk6]; rfl), h.2⟩
 clear hT
 go_enter Tryz.func36, Tryz.ntmps36
 go_wp2_with fail
 refine (H1.out _ hN).mono ?_
 rintro e w1 ⟨rfl, hk⟩
 replace hN := hN.trans hk
 clear hk H1
 go_upto_region 2 with fail
 have ra := World.alloc_heap_new w1 (.cells #[.int .u8 5, .bool true] 31)
 have hA : New w1 (w1.alloc (.cells #[.int .u8 5, .bool true] 31)) := (Mods.refl _ _).alloc _
 obtain ⟨v1, hv⟩ : ∃ V, w1.alloc (.cells #[.int .u8 5, .bool true] 31) = V := ⟨_, rfl⟩
 obtain ⟨a, hb⟩ : ∃ b, w1.heap.size = b := ⟨_, rfl⟩
 rw [hv] at ra hA ⊢
 rw [hb] at ra ⊢
 clear hv hb
 replace hN := hN.trans hA
 clear hA
 go_wp2_with fail
 refine (H2.out _ hN).mono ?_
 rintro e w2 ⟨rfl, hk⟩
 replace hN := hN.trans hk
 replace ra := hk.heap ra id
 clear hk H2
 go_upto_region 3 with fail
 have rb := World.alloc_heap_new w2 (.cells #[.int .u8 3, .bool false] 31)
 have hA : New w2 (w2.alloc (.cells #[.int .u8 3, .bool false] 31)) := (Mods.refl _ _).alloc _
 obtain ⟨v2, hv⟩ : ∃ V, w2.alloc (.cells #[.int .u8 3, .bool false] 31) = V := ⟨_, rfl⟩
 obtain ⟨b, hb⟩ : ∃ b, w2.heap.size = b := ⟨_, rfl⟩
 rw [hv] at rb hA ⊢
 rw [hb] at rb ⊢
 clear hv hb
 replace hN := hN.trans hA
 replace ra := hA.heap ra id
 clear hA
 go_wp2_with fail
 refine (H3.out _ hN).mono ?_
 rintro e w3 ⟨rfl, hk⟩
 replace hN := hN.trans hk
 replace ra := hk.heap ra id
 replace rb := hk.heap rb id
 clear hk H3
 go_upto_region 4 with fail
 have rc := World.alloc_heap_new w3 (.cells #[.int .u8 3, .bool false] 31)
 have hA : New w3 (w3.alloc (.cells #[.int .u8 3, .bool false] 31)) := (Mods.refl _ _).alloc _
 obtain ⟨v3, hv⟩ : ∃ V, w3.alloc (.cells #[.int .u8 3, .bool false] 31) = V := ⟨_, rfl⟩
 obtain ⟨c, hb⟩ : ∃ b, w3.heap.size = b := ⟨_, rfl⟩
 rw [hv] at rc hA ⊢
 rw [hb] at rc ⊢
 clear hv hb
 replace hN := hN.trans hA
 replace ra := hA.heap ra id
 replace rb := hA.heap rb id
 clear hA
 go_wp2_with fail
 refine (H4.out _ hN).mono ?_
 rintro e w4 ⟨rfl, hk⟩
 replace hN := hN.trans hk
 replace ra := hk.heap ra id
 replace rb := hk.heap rb id
 replace rc := hk.heap rc id
 clear hk H4
 go_wp2_with fail
 refine (H5.out _ hN).mono ?_
 rintro e w5 ⟨rfl, hk⟩
 replace hN := hN.trans hk
 replace ra := hk.heap ra id
 replace rb := hk.heap rb id
 replace rc := hk.heap rc id
 clear hk H5
 go_wp2_with fail
 refine (H6.out _ hN).mono ?_
 rintro e w6 ⟨rfl, hk⟩
 replace hN := hN.trans hk
 replace ra := hk.heap ra id
 replace rb := hk.heap rb id
 replace rc := hk.heap rc id
 clear hk H6
 go_upto_region 8 with fail
 have rd := World.alloc_heap_new w6 (.cells #[.int .u8 3, .bool false] 31)
 have hA : New w6 (w6.alloc (.cells #[.int .u8 3, .bool false] 31)) := (Mods.refl _ _).alloc _
 obtain ⟨v6, hv⟩ : ∃ V, w6.alloc (.cells #[.int .u8 3, .bool false] 31) = V := ⟨_, rfl⟩
 obtain ⟨d, hb⟩ : ∃ b, w6.heap.size = b := ⟨_, rfl⟩
 rw [hv] at rd hA ⊢
 rw [hb] at rd ⊢
 clear hv hb
 replace hN := hN.trans hA
 replace ra := hA.heap ra id
 replace rb := hA.heap rb id
 replace rc := hA.heap rc id
 obtain ⟨⟨a0, a1⟩, -⟩ := pr_facts ra
 obtain ⟨⟨b0, b1⟩, -⟩ := pr_facts rb
 obtain ⟨⟨c0, c1⟩, -⟩ := pr_facts rc
 obtain ⟨⟨d0, d1⟩, -⟩ := pr_facts rd
 clear hA ra rb rc rd
 refine piece (fun _ => _) (wk14 _ rfl v6 rfl rfl rfl rfl rfl rfl rfl rfl rfl rfl rfl rfl a0 a1 b0 b1 c0 c1 d0 d1) ?_
 rintro ⟨z, dfs⟩ w8 ⟨⟨hs, hd, hq0⟩, hN8⟩
 simp only at hs hd hq0
 subst hd
 obtain ⟨u, rfl⟩ := lit115 z hs
 have hp0 : u 0 = .bool true := hq0
 rw [hp0]
 clear hp0 hq0 hs
 replace hN := hN.trans hN8
 go_wp2_with fail
 go_ret
 exact ⟨rfl, hN⟩
end Go.Proofs.YtkiiameibdhdfaaGreatDoor
namespace Go.Proofs.YtkiiameibdhdfaaGreatDoor
open Go.RowKit Go.Shelf Go.Cs
attribute [local go_sem] Oper.semAt_some


theorem prioT_no {n : Nat} (i : Bool) (h : ¬ n ≤ 7) : prioT n i = none := by unfold prioT; rw [if_neg h]
theorem prioT_yes {n : Nat} (i : Bool) (h : n ≤ 7) : ∃ t, prioT n i = some t ∧ t = Bare.joinW [44, 32] ((Bare.prioD n i).map Bare.toldM) ∧ t.length ≤ 20 ∧ Bare.parseD t = some (Bare.prioD n i) := by
 have hr := Bare.prioD_right (u := n) (i := i) (by omega) (by omega)
 refine ⟨_, ?_, rfl, ?_, ?_⟩
 ·unfold prioT Bare.printD
  rw [if_pos h, if_pos hr]
 ·have : ∀ n : Fin 8, ∀ i : Bool, (Bare.joinW [44, 32] ((Bare.prioD (n.val : Int) i).map Bare.toldM)).length ≤ 20 := by decide +kernel
  exact this ⟨n, by omega⟩ i
 ·have := Bare.dict_back hr 0 0
  simpa using this
theorem pr_cells {W : World} {B : Nat} {u : Int} {i : Bool} (hr : W.heap[B]? = some (.cells #[.int .u8 u, .bool i] 31 (0, 0))) : W.cell? ⟨B, 0, none⟩ = some (.int .u8 u) ∧ W.cell? ⟨B, 1, none⟩ = some (.bool i) :=
 ⟨cell_of_row _ _ 0 _ _ _ hr, cell_of_row _ _ 1 _ _ _ hr⟩
theorem pr_row (w : World) (u : Int) (i : Bool) : ∃ V P, w.alloc (.cells #[.int .u8 u, .bool i] 31) = V ∧ w.heap.size = P ∧ V.heap[P]? = some (.cells #[.int .u8 u, .bool i] 31 (0, 0)) ∧ New w V := ⟨_, _, rfl, rfl, World.alloc_heap_new _ _, (Mods.refl _ _).alloc _⟩
set_option maxHeartbeats 8000000 in
set_option maxRecDepth 100000 in
theorem uback_law (n : Nat) (i : Bool) (s : ByteArray) (w : World) (hn : n < 256) (hs : s.size ≤ 9223372036854775807) (hT : Tab w) :
  Calls Tryz.prog 10 #[.agg #[.int .u8 n, .bool i], .string s] w fun e w' => e = .returned (.bool true) ∧ New w w' := by
 have HW := Lib.hid (fun W (hN : New w W) => wakes_u W (hT.new hN))
 have HPr : Hid (∀ W, New w W → Calls Tryz.prog 37 #[.agg #[.int .u8 n, .bool i]] W fun e w' => e = .returned (printV (prioT n i)) ∧ New W w') := Lib.hid (fun W (hN : New w W) => print_u n i hn W (hT.new hN))
 have HRd := Lib.hid (fun q (h : q.size ≤ 1000000) W (hN : New w W) => read_u q W h (hT.new hN))
 have HPa := Lib.hid (fun q (h : q.size ≤ 1000000) W => parse_r13 q W h)
 have hN0 : New w w := Mods.refl _ _
 clear hT
 go_enter Tryz.func10, Tryz.ntmps10
 go_upto_region 1 with fail
 obtain ⟨W1, P, hW1, hP, r0, hN⟩ := pr_row w n i
 rw [hW1, hP]
 clear hW1 hP hN0
 by_cases h2k : (2000 : Int) < (s.size : Int)
 ·have hgd : decide ((2000 : Int) < (s.size : Int)) = true := decide_eq_true h2k
  clear HPr HRd HPa
  go_wp2_with fail
  refine (HW.out _ hN).mono ?_
  rintro e w2 ⟨rfl, hk⟩
  go_wp2_with fail
  go_ret
  exact ⟨rfl, hN.trans hk⟩
 have hgd : decide ((2000 : Int) < (s.size : Int)) = false := decide_eq_false h2k
 have hs2 : s.size ≤ 2000 := by omega
 go_upto_region 3 with fail
 clear hgd h2k
 by_cases h7 : ¬ n ≤ 7
 ·rw [prioT_no i h7] at HPr
  have hle : decide ((n : Int) ≤ 7) = false := decide_eq_false (by omega)
  clear HRd HPa h7
  unfold printV at HPr
  simp only at HPr
  obtain ⟨p0, p1⟩ := pr_cells r0
  go_upto_region 4 with (go_at_call 37; refine (HPr.out _ hN).mono ?_; rintro e w2 ⟨rfl, hk⟩)
  replace hN := hN.trans hk
  replace r0 := hk.heap r0 id
  clear p0 p1
  obtain ⟨p0, p1⟩ := pr_cells r0
  clear hk HPr
  go_upto_region 7 with fail
  clear p0 p1
  go_wp2_with fail
  refine (HW.out _ hN).mono ?_
  rintro e w3 ⟨rfl, hk⟩
  go_wp2_with fail
  go_ret
  exact ⟨rfl, hN.trans hk⟩
 replace h7 : n ≤ 7 := Decidable.not_not.1 h7
 obtain ⟨t, ht, hte, htl, htp⟩ := prioT_yes i h7
 rw [ht] at HPr
 obtain ⟨T, hTx⟩ : ∃ x, tx t = x := ⟨_, rfl⟩
 have hTs : T.size ≤ 20 := by rw [← hTx, tx_size]; exact htl
 have HTb : Hid (bl T = t) := Lib.hid (by rw [← hTx, bl_tx])
 have HR1 : Hid (∀ W, New w W → Calls Tryz.prog 38 #[.string T] W fun e w' => e = .returned (.tuple #[.agg #[.int .u8 n, .bool i], .bool true]) ∧ New W w') := Lib.hid fun W hN => (HRd.out T (by omega) W hN).mono fun e w' h => by
  refine ⟨h.1.trans ?_, h.2⟩
  rw [HTb.out, htp]
  simp only
  rw [(Bare.prio_self (u := n) (i := i) (by omega) (by omega)).1, (Bare.prio_self (u := n) (i := i) (by omega) (by omega)).2]
  rfl
 unfold printV at HPr
 simp only at HPr
 rw [hTx] at HPr
 have hle : decide ((n : Int) ≤ 7) = true := decide_eq_true (by omega)
 have HTe := Lib.hid hte
 have HT7 := Lib.hid h7
 clear HRd ht hte htl htp hTx h7
 obtain ⟨p0, p1⟩ := pr_cells r0
 go_upto_region 4 with (go_at_call 37; refine (HPr.out _ hN).mono ?_; rintro e w2 ⟨rfl, hk⟩)
 replace hN := hN.trans hk
 replace r0 := hk.heap r0 id
 clear p0 p1
 obtain ⟨p0, p1⟩ := pr_cells r0
 clear hk HPr
 go_upto_region 8 with fail
 clear p0 p1 hle
 go_upto_region 9 with (go_at_call 38; refine (HR1.out _ hN).mono ?_; rintro e w3 ⟨rfl, hk⟩)
 obtain ⟨W4, Q, hW4, hQ, rQ, hk4⟩ := pr_row w3 n i
 rw [hW4, hQ]
 replace hN := (hN.trans hk).trans hk4
 replace r0 := (hk.trans hk4).heap r0 id
 clear hW4 hQ hk hk4 HR1
 obtain ⟨p0, p1⟩ := pr_cells r0
 obtain ⟨q0, q1⟩ := pr_cells rQ
 have hne : ∀ W, (binOp .neq 31 (.agg #[.int .u8 (n : Int), .bool i]) (.agg #[.int .u8 (n : Int), .bool i])).run Tryz.prog W = .ok (.bool false) W := fun W => by
  rw [nbinop_pr]; simp
 go_upto_region 11 with fail
 clear p0 p1 q0 q1 rQ hne
 have hP1 := HPa.out s (by omega)
 unfold PostD at hP1
 cases hp : Bare.parseD (bl s) with
 | none =>
  rw [hp] at hP1
  have HP1 := Lib.hid hP1
  clear hP1 hp HPa
  go_upto_region 12 with (go_at_call 39; refine (HP1.out _).mono ?_; rintro e w5 ⟨v, z, rfl, hk, hz⟩; obtain ⟨rfl, rfl⟩ := hz)
  replace hN := hN.trans hk
  clear hk HP1
  go_wp2_with fail
  refine (HW.out _ hN).mono ?_
  rintro e w6 ⟨rfl, hk⟩
  go_wp2_with fail
  go_ret
  exact ⟨rfl, hN.trans hk⟩
 | some d0 =>
 rw [hp] at hP1
 have HP1 := Lib.hid hP1
 have HD0 := Lib.hid hp
 clear hP1 hp
 go_upto_region 12 with (go_at_call 39; refine (HP1.out _).mono ?_; rintro e w5 ⟨v, z, rfl, hk, hz⟩; obtain ⟨rfl, -, -⟩ := hz)
 replace hN := hN.trans hk
 replace r0 := hk.heap r0 id
 clear hk HP1
 have he1 := empty_toList s
 have he2 := empty_toList T
 by_cases h0 : s.size = 0
 ·rw [decide_eq_true h0] at he1
  clear h0 he2 HPa
  go_wp2_with fail
  refine (HW.out _ hN).mono ?_
  rintro e w6 ⟨rfl, hk⟩
  go_wp2_with fail
  go_ret
  exact ⟨rfl, hN.trans hk⟩
 rw [decide_eq_false h0] at he1
 by_cases ht0 : T.size = 0
 ·rw [decide_eq_true ht0] at he2
  clear h0 ht0 HPa
  go_wp2_with fail
  refine (HW.out _ hN).mono ?_
  rintro e w6 ⟨rfl, hk⟩
  go_wp2_with fail
  go_ret
  exact ⟨rfl, hN.trans hk⟩
 rw [decide_eq_false ht0] at he2
 clear h0
 go_upto_region 14 with fail
 clear he1 he2
 have hna : Hid (Bare.prioD n i ≠ []) := Lib.hid fun h => ht0 (by
  rw [← bl_len, HTb.out, HTe.out, h]; first | done | rfl)
 have hx2b : bl (s ++ ⟨#[44, 32]⟩ ++ T) = bl s ++ ([44, 32] ++ Bare.joinW [44, 32] ((Bare.prioD n i).map Bare.toldM)) := by
  rw [cat_bl, bl_tx, cat_bl s, bl_tx, HTb.out, HTe.out, List.append_assoc]
 have hx2s : (s ++ ⟨#[44, 32]⟩ ++ T : ByteArray).size ≤ 1000000 := by
  rw [ByteArray.size_append, ByteArray.size_append]
  have : (⟨#[44, 32]⟩ : ByteArray).size = 2 := rfl
  omega
 have hP2 := HPa.out (s ++ ⟨#[44, 32]⟩ ++ T) hx2s
 have hsz2 : (bl (s ++ ⟨#[44, 32]⟩ ++ T)).length ≤ 1000000 := by rw [bl_len]; exact hx2s
 unfold PostD at hP2
 clear hx2s HPa
 cases hp : Bare.parseD (bl (s ++ ⟨#[44, 32]⟩ ++ T)) with
 | none =>
  rw [hp] at hP2
  have HP2 := Lib.hid hP2
  clear hP2 hp hx2b hsz2
  go_upto_region 15 with (go_at_call 39; refine (HP2.out _).mono ?_; rintro e w5 ⟨v, z, rfl, hk, hz⟩; obtain ⟨rfl, rfl⟩ := hz)
  replace hN := hN.trans hk
  clear hk HP2
  go_wp2_with fail
  refine (HW.out _ hN).mono ?_
  rintro e w6 ⟨rfl, hk⟩
  go_wp2_with fail
  go_ret
  exact ⟨rfl, hN.trans hk⟩
 | some d =>
 have hsd := parse_sz (by decide) hsz2 hp
 have hr := (Bare.dict_may hp).1
 have HO := Lib.hid (fun v W (h : RdD true W v d) => of_any v d W h (fits_of_sz (Nat.le_refl _) hsd) (fun b hb => int_right (heard_right hr hb)))
 have hfold : d = (Bare.prioD n i).foldl Bare.setM d0 := Bare.parseD_then HD0.out (Bare.prioD_right (by omega) (by have := HT7.out; omega)) hna.out (by rw [← hx2b]; exact hp)
 have hpf := Bare.prio_fold (u := n) (i := i) (by omega) (by have := HT7.out; omega) d0
 rw [← hfold] at hpf
 obtain ⟨xu, hxu⟩ : ∃ u, Bare.urgOf d = u := ⟨_, rfl⟩
 obtain ⟨xi, hxi⟩ : ∃ u, Bare.incOf d = u := ⟨_, rfl⟩
 rw [hxu, hxi] at hpf
 rw [hxu, hxi] at HO
 unfold prV at HO
 rw [hp] at hP2
 have HP2 := Lib.hid hP2
 obtain ⟨hf1, hf2⟩ := hpf
 have HF1 := Lib.hid hf1
 have HF2 := Lib.hid hf2
 clear hP2 hp hx2b hsz2 hsd hr hfold hxu hxi hf1 hf2
 go_upto_region 15 with (go_at_call 39; refine (HP2.out _).mono ?_; rintro e w5 ⟨v, z, rfl, hk, hz⟩; obtain ⟨rfl, hd, -⟩ := hz)
 replace hN := hN.trans hk
 replace r0 := hk.heap r0 id
 clear hk HP2
 have HD := Lib.hid hd
 clear hd
 go_upto_region 18 with (go_at_call 40; refine (HO.out _ _ HD.out).mono ?_; rintro e w6 ⟨rfl, hk⟩)
 obtain ⟨W7, X, hW7, hX, rX, hk7⟩ := pr_row w6 xu xi
 rw [hW7, hX]
 replace hN := (hN.trans hk).trans hk7
 replace r0 := (hk.trans hk7).heap r0 id
 clear hW7 hX hk hk7 HO HD
 obtain ⟨p0, p1⟩ := pr_cells r0
 obtain ⟨q0, q1⟩ := pr_cells rX
 have HWN := Lib.hid (HW.out _ hN)
 clear r0 rX HW
 by_cases h3 : n = 3
 ·subst h3
  cases i with
  | false =>
   go_wp2_with (go_at_call 36; refine HWN.out.mono ?_; rintro e w8 ⟨rfl, hk⟩)
   go_ret
   exact ⟨rfl, hN.trans hk⟩
  | true =>
   obtain rfl := HF2.out rfl
   go_wp2_with (go_at_call 36; refine HWN.out.mono ?_; rintro e w8 ⟨rfl, hk⟩)
   go_ret
   exact ⟨rfl, hN.trans hk⟩
 ·have h3d : ((n : Int) == 3) = false := by rw [beq_eq_false_iff_ne]; omega
  have hxn : xu = (n : Int) := by
   rcases HF1.out with h | h
   ·exact absurd (by omega) h3
   ·exact h
  subst hxn
  cases i with
  | false =>
   go_wp2_with (go_at_call 36; refine HWN.out.mono ?_; rintro e w8 ⟨rfl, hk⟩)
   go_ret
   exact ⟨rfl, hN.trans hk⟩
  | true =>
   obtain rfl := HF2.out rfl
   go_wp2_with (go_at_call 36; refine HWN.out.mono ?_; rintro e w8 ⟨rfl, hk⟩)
   go_ret
   exact ⟨rfl, hN.trans hk⟩
end Go.Proofs.YtkiiameibdhdfaaGreatDoor
