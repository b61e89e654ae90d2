/- RequestTells: the names, values, fields, lists, requests. -/
import Derived.Test.YtkjghojdfjhhkaaDoorM13
set_option linter.unusedSimpArgs false
set_option linter.unusedVariables false
namespace Go.Proofs.YtkjghojdfjhhkaaDoor
open Go.RowKit Go.Shelf Go.Cs
attribute [local go_sem] Oper.semAt_some
noncomputable def reg8_11 : Code := ((Tryd.f8.body.bind (regionOf 11)).getD .skip)
set_option maxHeartbeats 8000000 in
set_option maxRecDepth 100000 in
theorem told8 (t : Array Value) (hs : t.size = 148) (w : World) {s : ByteArray} {f : Fd} {lo : Option Addr} {ln lcap F A B : Nat} {n : Int} {L : List Fd} {a b : Rq} {av bv : Value}
    (hq0 : t.getD 0 undef = .string s)
    (hq2 : t.getD 2 undef = .slice lo ln lcap)
    (hq3 : t.getD 3 undef = .int .i64 n)
    (hq7 : t.getD 7 undef = .pointer (some ⟨F, 0, none⟩))
    (hq10 : t.getD 10 undef = .pointer (some ⟨A, 0, none⟩))
    (hq11 : t.getD 11 undef = .pointer (some ⟨B, 0, none⟩))
    (hz : s.size ≤ 200) (hF : w.heap[F]? = some (.cells #[.string f.name, .string f.val] 54 (0, 0))) (hA : w.heap[A]? = some (.cells #[.string a.meth, .string a.scheme, .string a.path, .string a.host, av] 56 (0, 0))) (hB : w.heap[B]? = some (.cells #[.string b.meth, .string b.scheme, .string b.path, .string b.host, bv] 56 (0, 0)))
    (hf : SmallF f) (hL : ReadsL w (.slice lo ln lcap) L) (hLS : SmallL L) (ha : ReadsL w av a.fields) (hb : ReadsL w bv b.fields) (hT : Tab w) :
    reg8_11.wp Tryd.prog (Only fun a' W' => (a'.tmps.size = 148 ∧ a'.defers = [] ∧ a'.tmps.getD 12 undef = .bool true) ∧ New w W') ⟨t, []⟩ w := by
  conv => arg 2; whnf
  obtain ⟨u, rfl⟩ := lit148 t hs
  have hq0 : u 0 = .string s := hq0
  have hq2 : u 2 = .slice lo ln lcap := hq2
  have hq3 : u 3 = .int .i64 n := hq3
  have hq7 : u 7 = .pointer (some ⟨F, 0, none⟩) := hq7
  have hq10 : u 10 = .pointer (some ⟨A, 0, none⟩) := hq10
  have hq11 : u 11 = .pointer (some ⟨B, 0, none⟩) := hq11
  rw [hq0, hq2, hq3, hq7, hq10, hq11]
  clear hq0 hq2 hq3 hq7 hq10 hq11 hs
  obtain ⟨ao, ac, rfl⟩ := ha.slice
  obtain ⟨bo, bc, rfl⟩ := hb.slice
  have hN0 : New w w.drew := (Mods.refl _ _).drew
  obtain ⟨nb, hnb⟩ : ∃ x, nameB s.data.toList = x := ⟨_, rfl⟩
  obtain ⟨vb, hvb⟩ : ∃ x, valueB s.data.toList = x := ⟨_, rfl⟩
  obtain ⟨pb, hpb⟩ : ∃ x, plainF f = x := ⟨_, rfl⟩
  obtain ⟨tb, htb⟩ : ∃ x, trailersB L = x := ⟨_, rfl⟩
  obtain ⟨sb, hsb⟩ : ∃ x, sameR a b = x := ⟨_, rfl⟩
  have c1 : Hid (∀ W, Calls Tryd.prog 42 #[.string s] W fun e w' => e = .returned (.bool nb) ∧ New W w') := Lib.hid fun W => by rw [← hnb]; exact name_any s W (Nat.le_trans hz (by decide))
  have c2 : Hid (∀ W, Calls Tryd.prog 43 #[.string s] W fun e w' => e = .returned (.bool nb) ∧ New W w') := Lib.hid fun W => by rw [← hnb]; exact (name_ref s W (Nat.le_trans hz (by decide))).mono fun e w' h => ⟨h.1, by rw [h.2]; exact Mods.refl _ _⟩
  have c3 : Hid (∀ W, Calls Tryd.prog 44 #[.string s] W fun e w' => e = .returned (.bool vb) ∧ New W w') := Lib.hid fun W => by rw [← hvb]; exact value_any s W (by omega)
  have c4 : Hid (∀ W, Calls Tryd.prog 45 #[.string s] W fun e w' => e = .returned (.bool vb) ∧ New W w') := Lib.hid fun W => by rw [← hvb]; exact (value_ref s W (Nat.le_trans hz (by decide))).mono fun e w' h => ⟨h.1, by rw [h.2]; exact Mods.refl _ _⟩
  have c5 : Hid (∀ W, Calls Tryd.prog 46 #[.agg #[.string f.name, .string f.val]] W fun e w' => e = .returned (.bool pb) ∧ New W w') := Lib.hid fun W => by rw [← hpb]; exact plain_any f W (Nat.le_trans (Nat.le_of_lt hf.1) (by decide)) hf.2
  have c6 : Hid (∀ W, Calls Tryd.prog 47 #[.agg #[.string f.name, .string f.val]] W fun e w' => e = .returned (.bool pb) ∧ New W w') := Lib.hid fun W => by rw [← hpb]; exact plain_ref f W (Nat.le_trans (Nat.le_of_lt hf.1) (by decide)) (Nat.le_trans (Nat.le_of_lt hf.2) (by decide))
  have c7 : Hid (∀ W, New w W → Calls Tryd.prog 48 #[.slice lo ln lcap] W fun e w' => e = .returned (.bool tb) ∧ New W w') := Lib.hid fun W hN => by rw [← htb]; exact trailers_any _ L W (hL.new hN) hLS
  have c8 : Hid (∀ W, New w W → Calls Tryd.prog 49 #[.slice lo ln lcap] W fun e w' => e = .returned (.bool tb) ∧ New W w') := Lib.hid fun W hN => by rw [← htb]; exact trailers_ref _ L W (hL.new hN) hLS
  have c9 : Hid (∀ W, New w W → Calls Tryd.prog 50 #[.agg #[.string a.meth, .string a.scheme, .string a.path, .string a.host, .slice ao a.fields.length ac], .agg #[.string b.meth, .string b.scheme, .string b.path, .string b.host, .slice bo b.fields.length bc]] W fun e w' => e = .returned (.bool sb) ∧ New W w') := Lib.hid fun W hN => by rw [← hsb]; exact same_any _ _ a b W ⟨_, rfl, ha.new hN⟩ ⟨_, rfl, hb.new hN⟩
  have c10 : Hid (∀ W, New w W → Calls Tryd.prog 41 #[.agg #[.string a.meth, .string a.scheme, .string a.path, .string a.host, .slice ao a.fields.length ac], .agg #[.string b.meth, .string b.scheme, .string b.path, .string b.host, .slice bo b.fields.length bc]] W fun e w' => e = .returned (.bool sb) ∧ New W w') := Lib.hid fun W hN => by rw [← hsb]; exact same_ref _ _ a b W ⟨_, rfl, ha.new hN⟩ ⟨_, rfl, hb.new hN⟩
  have c11 : Hid (∀ W, New w W → Calls Tryd.prog 35 #[] W fun e w' => e = .returned (.bool true) ∧ New W w') := Lib.hid fun W hN => wakes_any W (hT.new hN)
  clear hnb hvb hpb htb hsb hL hLS ha hb hT
  have e1 : (nb == nb) = true := by cases nb <;> rfl
  have e2 : (vb == vb) = true := by cases vb <;> rfl
  have e3 : (pb == pb) = true := by cases pb <;> rfl
  have e4 : (tb == tb) = true := by cases tb <;> rfl
  have e5 : (sb == sb) = true := by cases sb <;> rfl
  refine wp_region_held (by kernel_rfl) (S := fun W => Mods (fun _ => False) w W) ?_
  show wpAnyH _ _ _ _ _ _ _ _ w.drew
  have hkF := hN0.heap hF id
  have hS : Mods (fun _ => False) w w.drew := hN0
  obtain ⟨Wd, hWd⟩ : ∃ Wd, w.drew = Wd := ⟨_, rfl⟩
  rw [hWd] at hS ⊢
  clear hWd hN0 hkF
  refine anyH_take 0 (some 110) (.string s) rfl rfl (by kernel_rfl) (by kernel_rfl) (by kernel_rfl) (fun _ _ _ h => h.elim) (.inl ⟨by rfl, fun W hW => by go_simp⟩) hS ?_
  simp only [Act.put, List.setIfInBounds_toArray, List.set_cons_succ, List.set_cons_zero]
  refine anyH_take 2 (some 112) (.string s) rfl rfl (by kernel_rfl) (by kernel_rfl) (by kernel_rfl) (fun _ _ _ h => h.elim) (.inl ⟨by rfl, fun W hW => by go_simp⟩) hS ?_
  simp only [Act.put, List.setIfInBounds_toArray, List.set_cons_succ, List.set_cons_zero]
  refine wpAnyH_all (rs := [1]) (by kernel_rfl) (by simp) ?_
  simp only [List.mem_cons, List.not_mem_nil, or_false, forall_eq]
  refine opH_call (some 111) rfl (by rfl) rfl 42 #[.string s] (by go_simp) ((c1.out _).mono ?_)
  rintro e w1 ⟨rfl, hk⟩
  have hS := hS.trans hk
  clear hk
  refine ⟨_, rfl, hS, ?_⟩
  simp only [Act.put, List.setIfInBounds_toArray, List.set_cons_succ, List.set_cons_zero]
  refine wpAnyH_all (rs := [3]) (by kernel_rfl) (by simp) ?_
  simp only [List.mem_cons, List.not_mem_nil, or_false, forall_eq]
  refine opH_call (some 113) rfl (by rfl) rfl 43 #[.string s] (by go_simp) ((c2.out _).mono ?_)
  rintro e w2 ⟨rfl, hk⟩
  have hS := hS.trans hk
  clear hk
  refine ⟨_, rfl, hS, ?_⟩
  simp only [Act.put, List.setIfInBounds_toArray, List.set_cons_succ, List.set_cons_zero]
  refine anyH_take 4 (some 114) (.bool true) rfl rfl (by kernel_rfl) (by kernel_rfl) (by kernel_rfl) (fun _ _ _ h => h.elim) (.inl ⟨by rfl, fun W hW => by go_simp⟩) hS ?_
  simp only [Act.put, List.setIfInBounds_toArray, List.set_cons_succ, List.set_cons_zero]
  refine anyH_take 5 (some 115) (.bool true) rfl rfl (by kernel_rfl) (by kernel_rfl) (by kernel_rfl) (fun _ _ _ h => h.elim) (.inl ⟨by rfl, fun W hW => by go_simp⟩) hS ?_
  simp only [Act.put, List.setIfInBounds_toArray, List.set_cons_succ, List.set_cons_zero]
  refine anyH_take 6 (some 116) (.string s) rfl rfl (by kernel_rfl) (by kernel_rfl) (by kernel_rfl) (fun _ _ _ h => h.elim) (.inl ⟨by rfl, fun W hW => by go_simp⟩) hS ?_
  simp only [Act.put, List.setIfInBounds_toArray, List.set_cons_succ, List.set_cons_zero]
  refine anyH_take 8 (some 118) (.string s) rfl rfl (by kernel_rfl) (by kernel_rfl) (by kernel_rfl) (fun _ _ _ h => h.elim) (.inl ⟨by rfl, fun W hW => by go_simp⟩) hS ?_
  simp only [Act.put, List.setIfInBounds_toArray, List.set_cons_succ, List.set_cons_zero]
  refine wpAnyH_all (rs := [7]) (by kernel_rfl) (by simp) ?_
  simp only [List.mem_cons, List.not_mem_nil, or_false, forall_eq]
  refine opH_call (some 117) rfl (by rfl) rfl 44 #[.string s] (by go_simp) ((c3.out _).mono ?_)
  rintro e w3 ⟨rfl, hk⟩
  have hS := hS.trans hk
  clear hk
  refine ⟨_, rfl, hS, ?_⟩
  simp only [Act.put, List.setIfInBounds_toArray, List.set_cons_succ, List.set_cons_zero]
  refine wpAnyH_all (rs := [9]) (by kernel_rfl) (by simp) ?_
  simp only [List.mem_cons, List.not_mem_nil, or_false, forall_eq]
  refine opH_call (some 119) rfl (by rfl) rfl 45 #[.string s] (by go_simp) ((c4.out _).mono ?_)
  rintro e w4 ⟨rfl, hk⟩
  have hS := hS.trans hk
  clear hk
  refine ⟨_, rfl, hS, ?_⟩
  simp only [Act.put, List.setIfInBounds_toArray, List.set_cons_succ, List.set_cons_zero]
  refine anyH_take 10 (some 120) (.bool true) rfl rfl (by kernel_rfl) (by kernel_rfl) (by kernel_rfl) (fun _ _ _ h => h.elim) (.inl ⟨by rfl, fun W hW => by go_simp⟩) hS ?_
  simp only [Act.put, List.setIfInBounds_toArray, List.set_cons_succ, List.set_cons_zero]
  refine anyH_take 11 (some 121) (.bool true) rfl rfl (by kernel_rfl) (by kernel_rfl) (by kernel_rfl) (fun _ _ _ h => h.elim) (.inl ⟨by rfl, fun W hW => by go_simp⟩) hS ?_
  simp only [Act.put, List.setIfInBounds_toArray, List.set_cons_succ, List.set_cons_zero]
  refine anyH_take 12 (some 122) (.bool true) rfl rfl (by kernel_rfl) (by kernel_rfl) (by kernel_rfl) (fun _ _ _ h => h.elim) (.inl ⟨by rfl, fun W hW => by go_simp⟩) hS ?_
  simp only [Act.put, List.setIfInBounds_toArray, List.set_cons_succ, List.set_cons_zero]
  refine anyH_take 13 (some 123) (.agg #[.string f.name, .string f.val]) rfl rfl (by kernel_rfl) (by kernel_rfl) (by kernel_rfl) (fun _ _ _ h => h.elim) (.inl ⟨by rfl, fun W hW => by have hh : Mods (fun _ => False) w W := hW; have k0 : W.cell? ⟨F, 0, none⟩ = some (.string f.name) := cell_of_row _ _ _ _ _ _ (hh.heap hF id); have k1 : W.cell? ⟨F, 1, none⟩ = some (.string f.val) := cell_of_row _ _ _ _ _ _ (hh.heap hF id); go_simp⟩) hS ?_
  simp only [Act.put, List.setIfInBounds_toArray, List.set_cons_succ, List.set_cons_zero]
  refine anyH_take 15 (some 125) (.agg #[.string f.name, .string f.val]) rfl rfl (by kernel_rfl) (by kernel_rfl) (by kernel_rfl) (fun _ _ _ h => h.elim) (.inl ⟨by rfl, fun W hW => by have hh : Mods (fun _ => False) w W := hW; have k0 : W.cell? ⟨F, 0, none⟩ = some (.string f.name) := cell_of_row _ _ _ _ _ _ (hh.heap hF id); have k1 : W.cell? ⟨F, 1, none⟩ = some (.string f.val) := cell_of_row _ _ _ _ _ _ (hh.heap hF id); go_simp⟩) hS ?_
  simp only [Act.put, List.setIfInBounds_toArray, List.set_cons_succ, List.set_cons_zero]
  refine wpAnyH_all (rs := [14]) (by kernel_rfl) (by simp) ?_
  simp only [List.mem_cons, List.not_mem_nil, or_false, forall_eq]
  refine opH_call (some 124) rfl (by rfl) rfl 46 #[.agg #[.string f.name, .string f.val]] (by go_simp) ((c5.out _).mono ?_)
  rintro e w5 ⟨rfl, hk⟩
  have hS := hS.trans hk
  clear hk
  refine ⟨_, rfl, hS, ?_⟩
  simp only [Act.put, List.setIfInBounds_toArray, List.set_cons_succ, List.set_cons_zero]
  refine wpAnyH_all (rs := [16]) (by kernel_rfl) (by simp) ?_
  simp only [List.mem_cons, List.not_mem_nil, or_false, forall_eq]
  refine opH_call (some 126) rfl (by rfl) rfl 47 #[.agg #[.string f.name, .string f.val]] (by go_simp) ((c6.out _).mono ?_)
  rintro e w6 ⟨rfl, hk⟩
  have hS := hS.trans hk
  clear hk
  refine ⟨_, rfl, hS, ?_⟩
  simp only [Act.put, List.setIfInBounds_toArray, List.set_cons_succ, List.set_cons_zero]
  refine anyH_take 17 (some 127) (.bool true) rfl rfl (by kernel_rfl) (by kernel_rfl) (by kernel_rfl) (fun _ _ _ h => h.elim) (.inl ⟨by rfl, fun W hW => by go_simp⟩) hS ?_
  simp only [Act.put, List.setIfInBounds_toArray, List.set_cons_succ, List.set_cons_zero]
  refine anyH_take 18 (some 128) (.bool true) rfl rfl (by kernel_rfl) (by kernel_rfl) (by kernel_rfl) (fun _ _ _ h => h.elim) (.inl ⟨by rfl, fun W hW => by go_simp⟩) hS ?_
  simp only [Act.put, List.setIfInBounds_toArray, List.set_cons_succ, List.set_cons_zero]
  refine anyH_take 19 (some 129) (.bool true) rfl rfl (by kernel_rfl) (by kernel_rfl) (by kernel_rfl) (fun _ _ _ h => h.elim) (.inl ⟨by rfl, fun W hW => by go_simp⟩) hS ?_
  simp only [Act.put, List.setIfInBounds_toArray, List.set_cons_succ, List.set_cons_zero]
  refine anyH_take 20 (some 130) (.slice lo ln lcap) rfl rfl (by kernel_rfl) (by kernel_rfl) (by kernel_rfl) (fun _ _ _ h => h.elim) (.inl ⟨by rfl, fun W hW => by go_simp⟩) hS ?_
  simp only [Act.put, List.setIfInBounds_toArray, List.set_cons_succ, List.set_cons_zero]
  refine anyH_take 22 (some 132) (.slice lo ln lcap) rfl rfl (by kernel_rfl) (by kernel_rfl) (by kernel_rfl) (fun _ _ _ h => h.elim) (.inl ⟨by rfl, fun W hW => by go_simp⟩) hS ?_
  simp only [Act.put, List.setIfInBounds_toArray, List.set_cons_succ, List.set_cons_zero]
  refine wpAnyH_all (rs := [21]) (by kernel_rfl) (by simp) ?_
  simp only [List.mem_cons, List.not_mem_nil, or_false, forall_eq]
  refine opH_call (some 131) rfl (by rfl) rfl 48 #[.slice lo ln lcap] (by go_simp) ((c7.out _ hS).mono ?_)
  rintro e w7 ⟨rfl, hk⟩
  have hS := hS.trans hk
  clear hk
  refine ⟨_, rfl, hS, ?_⟩
  simp only [Act.put, List.setIfInBounds_toArray, List.set_cons_succ, List.set_cons_zero]
  refine wpAnyH_all (rs := [23]) (by kernel_rfl) (by simp) ?_
  simp only [List.mem_cons, List.not_mem_nil, or_false, forall_eq]
  refine opH_call (some 133) rfl (by rfl) rfl 49 #[.slice lo ln lcap] (by go_simp) ((c8.out _ hS).mono ?_)
  rintro e w8 ⟨rfl, hk⟩
  have hS := hS.trans hk
  clear hk
  refine ⟨_, rfl, hS, ?_⟩
  simp only [Act.put, List.setIfInBounds_toArray, List.set_cons_succ, List.set_cons_zero]
  refine anyH_take 24 (some 134) (.bool true) rfl rfl (by kernel_rfl) (by kernel_rfl) (by kernel_rfl) (fun _ _ _ h => h.elim) (.inl ⟨by rfl, fun W hW => by go_simp⟩) hS ?_
  simp only [Act.put, List.setIfInBounds_toArray, List.set_cons_succ, List.set_cons_zero]
  refine anyH_take 25 (some 135) (.bool true) rfl rfl (by kernel_rfl) (by kernel_rfl) (by kernel_rfl) (fun _ _ _ h => h.elim) (.inl ⟨by rfl, fun W hW => by go_simp⟩) hS ?_
  simp only [Act.put, List.setIfInBounds_toArray, List.set_cons_succ, List.set_cons_zero]
  refine anyH_take 26 (some 136) (.bool true) rfl rfl (by kernel_rfl) (by kernel_rfl) (by kernel_rfl) (fun _ _ _ h => h.elim) (.inl ⟨by rfl, fun W hW => by go_simp⟩) hS ?_
  simp only [Act.put, List.setIfInBounds_toArray, List.set_cons_succ, List.set_cons_zero]
  refine anyH_take 27 (some 137) (.agg #[.string a.meth, .string a.scheme, .string a.path, .string a.host, .slice ao a.fields.length ac]) rfl rfl (by kernel_rfl) (by kernel_rfl) (by kernel_rfl) (fun _ _ _ h => h.elim) (.inl ⟨by rfl, fun W hW => by have hh : Mods (fun _ => False) w W := hW; have k0 : W.cell? ⟨A, 0, none⟩ = some (.string a.meth) := cell_of_row _ _ _ _ _ _ (hh.heap hA id); have k1 : W.cell? ⟨A, 1, none⟩ = some (.string a.scheme) := cell_of_row _ _ _ _ _ _ (hh.heap hA id); have k2 : W.cell? ⟨A, 2, none⟩ = some (.string a.path) := cell_of_row _ _ _ _ _ _ (hh.heap hA id); have k3 : W.cell? ⟨A, 3, none⟩ = some (.string a.host) := cell_of_row _ _ _ _ _ _ (hh.heap hA id); have k4 : W.cell? ⟨A, 4, none⟩ = some (.slice ao a.fields.length ac) := cell_of_row _ _ _ _ _ _ (hh.heap hA id); go_simp⟩) hS ?_
  simp only [Act.put, List.setIfInBounds_toArray, List.set_cons_succ, List.set_cons_zero]
  refine anyH_take 28 (some 138) (.agg #[.string b.meth, .string b.scheme, .string b.path, .string b.host, .slice bo b.fields.length bc]) rfl rfl (by kernel_rfl) (by kernel_rfl) (by kernel_rfl) (fun _ _ _ h => h.elim) (.inl ⟨by rfl, fun W hW => by have hh : Mods (fun _ => False) w W := hW; have k0 : W.cell? ⟨B, 0, none⟩ = some (.string b.meth) := cell_of_row _ _ _ _ _ _ (hh.heap hB id); have k1 : W.cell? ⟨B, 1, none⟩ = some (.string b.scheme) := cell_of_row _ _ _ _ _ _ (hh.heap hB id); have k2 : W.cell? ⟨B, 2, none⟩ = some (.string b.path) := cell_of_row _ _ _ _ _ _ (hh.heap hB id); have k3 : W.cell? ⟨B, 3, none⟩ = some (.string b.host) := cell_of_row _ _ _ _ _ _ (hh.heap hB id); have k4 : W.cell? ⟨B, 4, none⟩ = some (.slice bo b.fields.length bc) := cell_of_row _ _ _ _ _ _ (hh.heap hB id); go_simp⟩) hS ?_
  simp only [Act.put, List.setIfInBounds_toArray, List.set_cons_succ, List.set_cons_zero]
  refine anyH_take 30 (some 140) (.agg #[.string a.meth, .string a.scheme, .string a.path, .string a.host, .slice ao a.fields.length ac]) rfl rfl (by kernel_rfl) (by kernel_rfl) (by kernel_rfl) (fun _ _ _ h => h.elim) (.inl ⟨by rfl, fun W hW => by have hh : Mods (fun _ => False) w W := hW; have k0 : W.cell? ⟨A, 0, none⟩ = some (.string a.meth) := cell_of_row _ _ _ _ _ _ (hh.heap hA id); have k1 : W.cell? ⟨A, 1, none⟩ = some (.string a.scheme) := cell_of_row _ _ _ _ _ _ (hh.heap hA id); have k2 : W.cell? ⟨A, 2, none⟩ = some (.string a.path) := cell_of_row _ _ _ _ _ _ (hh.heap hA id); have k3 : W.cell? ⟨A, 3, none⟩ = some (.string a.host) := cell_of_row _ _ _ _ _ _ (hh.heap hA id); have k4 : W.cell? ⟨A, 4, none⟩ = some (.slice ao a.fields.length ac) := cell_of_row _ _ _ _ _ _ (hh.heap hA id); go_simp⟩) hS ?_
  simp only [Act.put, List.setIfInBounds_toArray, List.set_cons_succ, List.set_cons_zero]
  refine anyH_take 31 (some 141) (.agg #[.string b.meth, .string b.scheme, .string b.path, .string b.host, .slice bo b.fields.length bc]) rfl rfl (by kernel_rfl) (by kernel_rfl) (by kernel_rfl) (fun _ _ _ h => h.elim) (.inl ⟨by rfl, fun W hW => by have hh : Mods (fun _ => False) w W := hW; have k0 : W.cell? ⟨B, 0, none⟩ = some (.string b.meth) := cell_of_row _ _ _ _ _ _ (hh.heap hB id); have k1 : W.cell? ⟨B, 1, none⟩ = some (.string b.scheme) := cell_of_row _ _ _ _ _ _ (hh.heap hB id); have k2 : W.cell? ⟨B, 2, none⟩ = some (.string b.path) := cell_of_row _ _ _ _ _ _ (hh.heap hB id); have k3 : W.cell? ⟨B, 3, none⟩ = some (.string b.host) := cell_of_row _ _ _ _ _ _ (hh.heap hB id); have k4 : W.cell? ⟨B, 4, none⟩ = some (.slice bo b.fields.length bc) := cell_of_row _ _ _ _ _ _ (hh.heap hB id); go_simp⟩) hS ?_
  simp only [Act.put, List.setIfInBounds_toArray, List.set_cons_succ, List.set_cons_zero]
  refine wpAnyH_all (rs := [29]) (by kernel_rfl) (by simp) ?_
  simp only [List.mem_cons, List.not_mem_nil, or_false, forall_eq]
  refine opH_call (some 139) rfl (by rfl) rfl 50 #[.agg #[.string a.meth, .string a.scheme, .string a.path, .string a.host, .slice ao a.fields.length ac], .agg #[.string b.meth, .string b.scheme, .string b.path, .string b.host, .slice bo b.fields.length bc]] (by go_simp) ((c9.out _ hS).mono ?_)
  rintro e w9 ⟨rfl, hk⟩
  have hS := hS.trans hk
  clear hk
  refine ⟨_, rfl, hS, ?_⟩
  simp only [Act.put, List.setIfInBounds_toArray, List.set_cons_succ, List.set_cons_zero]
  refine wpAnyH_all (rs := [32]) (by kernel_rfl) (by simp) ?_
  simp only [List.mem_cons, List.not_mem_nil, or_false, forall_eq]
  refine opH_call (some 142) rfl (by rfl) rfl 41 #[.agg #[.string a.meth, .string a.scheme, .string a.path, .string a.host, .slice ao a.fields.length ac], .agg #[.string b.meth, .string b.scheme, .string b.path, .string b.host, .slice bo b.fields.length bc]] (by go_simp) ((c10.out _ hS).mono ?_)
  rintro e w10 ⟨rfl, hk⟩
  have hS := hS.trans hk
  clear hk
  refine ⟨_, rfl, hS, ?_⟩
  simp only [Act.put, List.setIfInBounds_toArray, List.set_cons_succ, List.set_cons_zero]
  refine anyH_take 33 (some 143) (.bool true) rfl rfl (by kernel_rfl) (by kernel_rfl) (by kernel_rfl) (fun _ _ _ h => h.elim) (.inl ⟨by rfl, fun W hW => by go_simp⟩) hS ?_
  simp only [Act.put, List.setIfInBounds_toArray, List.set_cons_succ, List.set_cons_zero]
  refine anyH_take 34 (some 144) (.bool true) rfl rfl (by kernel_rfl) (by kernel_rfl) (by kernel_rfl) (fun _ _ _ h => h.elim) (.inl ⟨by rfl, fun W hW => by go_simp⟩) hS ?_
  simp only [Act.put, List.setIfInBounds_toArray, List.set_cons_succ, List.set_cons_zero]
  refine anyH_take 35 (some 145) (.bool true) rfl rfl (by kernel_rfl) (by kernel_rfl) (by kernel_rfl) (fun _ _ _ h => h.elim) (.inl ⟨by rfl, fun W hW => by go_simp⟩) hS ?_
  simp only [Act.put, List.setIfInBounds_toArray, List.set_cons_succ, List.set_cons_zero]
  refine wpAnyH_all (rs := [36]) (by kernel_rfl) (by simp) ?_
  simp only [List.mem_cons, List.not_mem_nil, or_false, forall_eq]
  refine opH_call (some 146) rfl (by rfl) rfl 35 #[] (by go_simp) ((c11.out _ hS).mono ?_)
  rintro e w11 ⟨rfl, hk⟩
  have hS := hS.trans hk
  clear hk
  refine ⟨_, rfl, hS, ?_⟩
  simp only [Act.put, List.setIfInBounds_toArray, List.set_cons_succ, List.set_cons_zero]
  refine anyH_take 37 (some 147) (.bool true) rfl rfl (by kernel_rfl) (by kernel_rfl) (by kernel_rfl) (fun _ _ _ h => h.elim) (.inl ⟨by rfl, fun W hW => by go_simp⟩) hS ?_
  simp only [Act.put, List.setIfInBounds_toArray, List.set_cons_succ, List.set_cons_zero]
  refine anyH_take 38 (some 12) (.bool true) rfl rfl (by kernel_rfl) (by kernel_rfl) (by kernel_rfl) (fun _ _ _ h => h.elim) (.inl ⟨by rfl, fun W hW => by go_simp⟩) hS ?_
  simp only [Act.put, List.setIfInBounds_toArray, List.set_cons_succ, List.set_cons_zero]
  refine wpAnyH_done (by kernel_rfl) ?_ _
  exact ⟨⟨rfl, rfl, rfl⟩, hS⟩
end Go.Proofs.YtkjghojdfjhhkaaDoor
