/- Texts joined. -/
import Derived.Test.YtkiiameibdhdfaaGreatDoorP18
set_option linter.unusedSimpArgs false
set_option linter.unusedVariables false
/- The wakes of what is known. -/
namespace Go.Proofs.YtkiiameibdhdfaaGreatDoor
open Go.RowKit Go.Shelf Go.Cs
attribute [local go_sem] Oper.semAt_some
set_option linter.unusedVariables false
set_option linter.unusedSimpArgs false
theorem upd_at {l s : Int} {v : Value} {d : List WP} {T : ByteArray} {w : World} (h : RdW w v d) (hu : ∀ x ∈ d, x.u < 256) (hd : d.length ≤ 1000) (hs : T.size ≤ 1000000) (hT : Tab w) {d' : List WP} {what u code : Nat} {i wh : Bool} (hE : updP l d s (readP T) = (d', what, (u, i), (wh, code))) {n : Nat} (hn : d'.length = n) :
    Calls Tryz.prog 15 #[.agg #[.int .i64 l, v], .int .i64 s, .string T] w fun e w' => ∃ oa oc, e = .returned (.tuple #[.agg #[.int .i64 l, .slice oa n oc], .int .u8 what, .agg #[.int .u8 u, .bool i], .agg #[.bool wh, .int .i64 0, .int .u32 code]]) ∧ RdW w' (.slice oa n oc) d' ∧ New w w' :=
  (update_p l s v d T w h hu hd hs hT).mono fun e w' ⟨v', he, hr, hN⟩ => by
    rw [hE] at he hr
    obtain ⟨oa, oc, rfl⟩ := hr.slice
    rw [hn] at he hr
    exact ⟨oa, oc, he, hr, hN⟩
theorem open_at {l s : Int} {v : Value} {d : List WP} {T : ByteArray} {has : Bool} {w : World} (h : RdW w v d) (hu : ∀ x ∈ d, x.u < 256) (hd : d.length ≤ 1000) (hs : T.size ≤ 1000000) (hT : Tab w) {l' : Int} {d' : List WP} {u : Nat} {i y : Bool} (hE : openP l d s has (readP T) = (l', d', (u, i), y)) {n : Nat} (hn : d'.length = n) :
    Calls Tryz.prog 18 #[.agg #[.int .i64 l, v], .int .i64 s, .string T, .bool has] w fun e w' => ∃ oa oc, e = .returned (.tuple #[.agg #[.int .i64 l', .slice oa n oc], .agg #[.int .u8 u, .bool i], .bool y]) ∧ RdW w' (.slice oa n oc) d' ∧ New w w' :=
  (open_p l s v d T has w h hu hd hs hT).mono fun e w' ⟨v', he, hr, hN⟩ => by
    rw [hE] at he hr
    obtain ⟨oa, oc, rfl⟩ := hr.slice
    rw [hn] at he hr
    exact ⟨oa, oc, he, hr, hN⟩
theorem alloc3 (W : World) (a b c : Obj) : New W (((W.alloc a).alloc b).alloc c) ∧ (((W.alloc a).alloc b).alloc c).heap[W.heap.size]? = some a ∧ (((W.alloc a).alloc b).alloc c).heap[W.heap.size + 1]? = some b ∧ (((W.alloc a).alloc b).alloc c).heap[W.heap.size + 2]? = some c := by
  have r1 := World.alloc_heap_new W a
  have r2 := World.alloc_heap_new (W.alloc a) b
  have r3 := World.alloc_heap_new ((W.alloc a).alloc b) c
  have s1 : (W.alloc a).heap.size = W.heap.size + 1 := by simp
  have s2 : ((W.alloc a).alloc b).heap.size = W.heap.size + 2 := by simp
  rw [s1] at r2
  rw [s2] at r3
  have n2 : New (W.alloc a) ((W.alloc a).alloc b) := (Mods.refl _ _).alloc _
  have n3 : New ((W.alloc a).alloc b) (((W.alloc a).alloc b).alloc c) := (Mods.refl _ _).alloc _
  exact ⟨(((Mods.refl _ _).alloc _).alloc _).alloc _, n3.heap (n2.heap r1 id) id, n3.heap r2 id, r3⟩
theorem alloc2 (W : World) (a b : Obj) : New W ((W.alloc a).alloc b) ∧ ((W.alloc a).alloc b).heap[W.heap.size]? = some a ∧ ((W.alloc a).alloc b).heap[W.heap.size + 1]? = some b := by
  have r1 := World.alloc_heap_new W a
  have r2 := World.alloc_heap_new (W.alloc a) b
  have s1 : (W.alloc a).heap.size = W.heap.size + 1 := by simp
  rw [s1] at r2
  have n2 : New (W.alloc a) ((W.alloc a).alloc b) := (Mods.refl _ _).alloc _
  exact ⟨((Mods.refl _ _).alloc _).alloc _, n2.heap r1 id, r2⟩
theorem pr1 : readP ⟨#[117, 61, 49]⟩ = some (1, false) := by decide +kernel
theorem pr2 : readP ⟨#[117, 61, 50]⟩ = some (2, false) := by decide +kernel
theorem pr5 : readP ⟨#[117, 61, 53]⟩ = some (5, false) := by decide +kernel
theorem pri : readP ⟨#[105]⟩ = some (3, true) := by decide +kernel
theorem pr0 : readP ⟨#[]⟩ = some (3, false) := by decide +kernel
theorem pu1 : updP 0 [] 3 (readP ⟨#[117, 61, 49]⟩) = (pwA, 1, (1, false), (false, 0)) := by rw [pr1]; decide +kernel
theorem pu2 : updP 0 pwA 3 (readP ⟨#[117, 61, 50]⟩) = (pwB, 1, (2, false), (false, 0)) := by rw [pr2]; decide +kernel
theorem pu3 : updP 0 pwB 17 (readP ⟨#[117, 61, 49]⟩) = (pwB, 0, (3, false), (false, 0)) := by rw [pr1]; decide +kernel
theorem pu4 : updP 0 pwB 4 (readP ⟨#[117, 61, 49]⟩) = (pwB, 0, (3, false), (true, 1)) := by rw [pr1]; decide +kernel
theorem pu5 : openP 0 pwB 3 true (readP ⟨#[117, 61, 53]⟩) = (3, [], (2, false), true) := by rw [pr5]; decide +kernel
theorem pu6 : updP 3 [] 1 (readP ⟨#[105]⟩) = ([], 2, (3, true), (false, 0)) := by rw [pri]; decide +kernel
theorem pu7 : openP 3 [] 3 false (readP ⟨#[]⟩) = (3, [], (3, false), false) := by rw [pr0]; decide +kernel
theorem pu8 : waitV (waitP 0 pwB 3) = .tuple #[.agg #[.int .u8 2, .bool false], .bool true] := by
  rw [show waitP 0 pwB 3 = some ⟨3, 2, false⟩ by decide +kernel]; rfl
set_option maxHeartbeats 8000000 in
set_option maxRecDepth 100000 in
theorem wakes_p (w : World) (hT : Tab w) : Calls Tryz.prog 13 #[] w fun e w' => e = .returned (.bool true) ∧ New w w' := by
  have hN : New w w := Mods.refl _ _
  have H1 : Hid (∀ W v, New w W → RdW W v [] → Calls Tryz.prog 15 #[.agg #[.int .i64 0, v], .int .i64 3, .string ⟨#[117, 61, 49]⟩] W fun e w' => ∃ oa oc, e = .returned (.tuple #[.agg #[.int .i64 0, .slice oa 1 oc], .int .u8 1, .agg #[.int .u8 1, .bool false], .agg #[.bool false, .int .i64 0, .int .u32 0]]) ∧ RdW w' (.slice oa 1 oc) pwA ∧ New W w') :=
    Lib.hid fun W v hN h => (upd_at h (fun x hx => by cases hx) (by decide) (by decide) (hT.new hN) pu1 rfl).mono fun e w' ⟨oa, oc, he, h1, h2⟩ => ⟨oa, oc, he, h1, h2⟩
  have H2 : Hid (∀ W v, New w W → RdW W v pwA → Calls Tryz.prog 15 #[.agg #[.int .i64 0, v], .int .i64 3, .string ⟨#[117, 61, 50]⟩] W fun e w' => ∃ oa oc, e = .returned (.tuple #[.agg #[.int .i64 0, .slice oa 1 oc], .int .u8 1, .agg #[.int .u8 2, .bool false], .agg #[.bool false, .int .i64 0, .int .u32 0]]) ∧ RdW w' (.slice oa 1 oc) pwB ∧ New W w') :=
    Lib.hid fun W v hN h => (upd_at h (bound_one (by decide)) (by decide) (by decide) (hT.new hN) pu2 rfl).mono fun e w' ⟨oa, oc, he, h1, h2⟩ => ⟨oa, oc, he, h1, h2⟩
  have H3 : Hid (∀ W v, New w W → RdW W v pwB → Calls Tryz.prog 15 #[.agg #[.int .i64 0, v], .int .i64 17, .string ⟨#[117, 61, 49]⟩] W fun e w' => ∃ oa oc, e = .returned (.tuple #[.agg #[.int .i64 0, .slice oa 1 oc], .int .u8 0, .agg #[.int .u8 3, .bool false], .agg #[.bool false, .int .i64 0, .int .u32 0]]) ∧ RdW w' (.slice oa 1 oc) pwB ∧ New W w') :=
    Lib.hid fun W v hN h => (upd_at h (bound_one (by decide)) (by decide) (by decide) (hT.new hN) pu3 rfl).mono fun e w' ⟨oa, oc, he, h1, h2⟩ => ⟨oa, oc, he, h1, h2⟩
  have H4 : Hid (∀ W v, New w W → RdW W v pwB → Calls Tryz.prog 15 #[.agg #[.int .i64 0, v], .int .i64 4, .string ⟨#[117, 61, 49]⟩] W fun e w' => ∃ oa oc, e = .returned (.tuple #[.agg #[.int .i64 0, .slice oa 1 oc], .int .u8 0, .agg #[.int .u8 3, .bool false], .agg #[.bool true, .int .i64 0, .int .u32 1]]) ∧ RdW w' (.slice oa 1 oc) pwB ∧ New W w') :=
    Lib.hid fun W v hN h => (upd_at h (bound_one (by decide)) (by decide) (by decide) (hT.new hN) pu4 rfl).mono fun e w' ⟨oa, oc, he, h1, h2⟩ => ⟨oa, oc, he, h1, h2⟩
  have H5 : Hid (∀ W v, New w W → RdW W v pwB → Calls Tryz.prog 18 #[.agg #[.int .i64 0, v], .int .i64 3, .string ⟨#[117, 61, 53]⟩, .bool true] W fun e w' => ∃ oa oc, e = .returned (.tuple #[.agg #[.int .i64 3, .slice oa 0 oc], .agg #[.int .u8 2, .bool false], .bool true]) ∧ RdW w' (.slice oa 0 oc) [] ∧ New W w') :=
    Lib.hid fun W v hN h => (open_at h (bound_one (by decide)) (by decide) (by decide) (hT.new hN) pu5 rfl).mono fun e w' ⟨oa, oc, he, h1, h2⟩ => ⟨oa, oc, he, h1, h2⟩
  have H6 : Hid (∀ W v, New w W → RdW W v [] → Calls Tryz.prog 15 #[.agg #[.int .i64 3, v], .int .i64 1, .string ⟨#[105]⟩] W fun e w' => ∃ oa oc, e = .returned (.tuple #[.agg #[.int .i64 3, .slice oa 0 oc], .int .u8 2, .agg #[.int .u8 3, .bool true], .agg #[.bool false, .int .i64 0, .int .u32 0]]) ∧ RdW w' (.slice oa 0 oc) [] ∧ New W w') :=
    Lib.hid fun W v hN h => (upd_at h (fun x hx => by cases hx) (by decide) (by decide) (hT.new hN) pu6 rfl).mono fun e w' ⟨oa, oc, he, h1, h2⟩ => ⟨oa, oc, he, h1, h2⟩
  have H7 : Hid (∀ W v, New w W → RdW W v [] → Calls Tryz.prog 18 #[.agg #[.int .i64 3, v], .int .i64 3, .string ⟨#[]⟩, .bool false] W fun e w' => ∃ oa oc, e = .returned (.tuple #[.agg #[.int .i64 3, .slice oa 0 oc], .agg #[.int .u8 3, .bool false], .bool false]) ∧ RdW w' (.slice oa 0 oc) [] ∧ New W w') :=
    Lib.hid fun W v hN h => (open_at h (fun x hx => by cases hx) (by decide) (by decide) (hT.new hN) pu7 rfl).mono fun e w' ⟨oa, oc, he, h1, h2⟩ => ⟨oa, oc, he, h1, h2⟩
  have H8 : Hid (∀ W v, RdW W v pwB → Calls Tryz.prog 22 #[.agg #[.int .i64 0, v], .int .i64 3] W fun e w' => e = .returned (.tuple #[.agg #[.int .u8 2, .bool false], .bool true]) ∧ New W w') :=
    Lib.hid fun W v h => (waiting_p 0 v pwB 3 W h (bound_one (by decide))).mono fun e w' ⟨he, h1⟩ => ⟨by rw [he, pu8], h1⟩
  clear hT
  go_enter Tryz.func13, Tryz.ntmps13
  go_wp2_with fail
  refine (new_p _).mono ?_
  rintro e wz ⟨rfl, hk⟩
  replace hN := hN.trans hk
  clear hk
  go_wp2_with fail
  refine (H1.out _ _ hN (RowR.nil _ _ _ _ _)).mono ?_
  rintro e wz ⟨aa, ac, rfl, HA, hk⟩
  replace hN := hN.trans hk
  clear hk
  replace HA := Lib.hid HA
  go_upto_region 2 with fail
  have ha := alloc3 wz (.cells #[.int .i64 0, .slice aa 1 ac] 26) (.cells #[.int .u8 1, .bool false] 31) (.cells #[.bool false, .int .i64 0, .int .u32 0] 34)
  obtain ⟨w1, hw⟩ : ∃ V, (((wz.alloc (.cells #[.int .i64 0, .slice aa 1 ac] 26)).alloc (.cells #[.int .u8 1, .bool false] 31)).alloc (.cells #[.bool false, .int .i64 0, .int .u32 0] 34)) = V := ⟨_, rfl⟩
  obtain ⟨B1, hB⟩ : ∃ b, wz.heap.size = b := ⟨_, rfl⟩
  rw [hw, hB] at ha
  simp only [hw, hB, Nat.add_assoc, Nat.reduceAdd]
  obtain ⟨hk, r1, r3, r4⟩ := ha
  clear hw hB
  replace hN := hN.trans hk
  replace HA := Lib.hid (HA.out.new hk)
  clear hk
  obtain ⟨⟨k0, k1⟩, -⟩ := pc_facts r1
  go_wp2_with fail
  refine (H2.out _ _ hN HA.out).mono ?_
  rintro e wz ⟨ba, bc, rfl, HB, hk⟩
  clear k0 k1
  replace hN := hN.trans hk
  replace r1 := hk.heap r1 id
  replace r3 := hk.heap r3 id
  replace r4 := hk.heap r4 id
  replace HA := Lib.hid (HA.out.new hk)
  clear hk
  replace HB := Lib.hid HB
  go_upto_region 3 with fail
  have ha := alloc3 wz (.cells #[.int .i64 0, .slice ba 1 bc] 26) (.cells #[.int .u8 2, .bool false] 31) (.cells #[.bool false, .int .i64 0, .int .u32 0] 34)
  obtain ⟨w2, hw⟩ : ∃ V, (((wz.alloc (.cells #[.int .i64 0, .slice ba 1 bc] 26)).alloc (.cells #[.int .u8 2, .bool false] 31)).alloc (.cells #[.bool false, .int .i64 0, .int .u32 0] 34)) = V := ⟨_, rfl⟩
  obtain ⟨B5, hB⟩ : ∃ b, wz.heap.size = b := ⟨_, rfl⟩
  rw [hw, hB] at ha
  simp only [hw, hB, Nat.add_assoc, Nat.reduceAdd]
  obtain ⟨hk, r5, r7, r8⟩ := ha
  clear hw hB
  replace hN := hN.trans hk
  replace r1 := hk.heap r1 id
  replace r3 := hk.heap r3 id
  replace r4 := hk.heap r4 id
  replace HA := Lib.hid (HA.out.new hk)
  replace HB := Lib.hid (HB.out.new hk)
  clear hk
  obtain ⟨⟨k0, k1⟩, -⟩ := pc_facts r5
  go_wp2_with fail
  refine (H3.out _ _ hN HB.out).mono ?_
  rintro e wz ⟨ca, cc, rfl, HC, hk⟩
  clear k0 k1
  replace hN := hN.trans hk
  replace r1 := hk.heap r1 id
  replace r3 := hk.heap r3 id
  replace r4 := hk.heap r4 id
  replace r5 := hk.heap r5 id
  replace r7 := hk.heap r7 id
  replace r8 := hk.heap r8 id
  replace HA := Lib.hid (HA.out.new hk)
  replace HB := Lib.hid (HB.out.new hk)
  clear hk
  replace HC := Lib.hid HC
  go_upto_region 4 with fail
  have ha := alloc3 wz (.cells #[.int .i64 0, .slice ca 1 cc] 26) (.cells #[.int .u8 3, .bool false] 31) (.cells #[.bool false, .int .i64 0, .int .u32 0] 34)
  obtain ⟨w3, hw⟩ : ∃ V, (((wz.alloc (.cells #[.int .i64 0, .slice ca 1 cc] 26)).alloc (.cells #[.int .u8 3, .bool false] 31)).alloc (.cells #[.bool false, .int .i64 0, .int .u32 0] 34)) = V := ⟨_, rfl⟩
  obtain ⟨B9, hB⟩ : ∃ b, wz.heap.size = b := ⟨_, rfl⟩
  rw [hw, hB] at ha
  simp only [hw, hB, Nat.add_assoc, Nat.reduceAdd]
  obtain ⟨hk, r9, r11, r12⟩ := ha
  clear hw hB
  replace hN := hN.trans hk
  replace r1 := hk.heap r1 id
  replace r3 := hk.heap r3 id
  replace r4 := hk.heap r4 id
  replace r5 := hk.heap r5 id
  replace r7 := hk.heap r7 id
  replace r8 := hk.heap r8 id
  replace HA := Lib.hid (HA.out.new hk)
  replace HB := Lib.hid (HB.out.new hk)
  replace HC := Lib.hid (HC.out.new hk)
  clear hk
  obtain ⟨⟨k0, k1⟩, -⟩ := pc_facts r5
  go_wp2_with fail
  refine (H4.out _ _ hN HB.out).mono ?_
  rintro e wz ⟨xa, xc, rfl, -, hk⟩
  clear k0 k1
  replace hN := hN.trans hk
  replace r1 := hk.heap r1 id
  replace r3 := hk.heap r3 id
  replace r4 := hk.heap r4 id
  replace r5 := hk.heap r5 id
  replace r7 := hk.heap r7 id
  replace r8 := hk.heap r8 id
  replace r9 := hk.heap r9 id
  replace r11 := hk.heap r11 id
  replace r12 := hk.heap r12 id
  replace HA := Lib.hid (HA.out.new hk)
  replace HB := Lib.hid (HB.out.new hk)
  replace HC := Lib.hid (HC.out.new hk)
  clear hk
  go_upto_region 5 with fail
  have ha := alloc3 wz (.cells #[.int .i64 0, .slice xa 1 xc] 26) (.cells #[.int .u8 3, .bool false] 31) (.cells #[.bool true, .int .i64 0, .int .u32 1] 34)
  obtain ⟨w4, hw⟩ : ∃ V, (((wz.alloc (.cells #[.int .i64 0, .slice xa 1 xc] 26)).alloc (.cells #[.int .u8 3, .bool false] 31)).alloc (.cells #[.bool true, .int .i64 0, .int .u32 1] 34)) = V := ⟨_, rfl⟩
  obtain ⟨B13, hB⟩ : ∃ b, wz.heap.size = b := ⟨_, rfl⟩
  rw [hw, hB] at ha
  simp only [hw, hB, Nat.add_assoc, Nat.reduceAdd]
  obtain ⟨hk, r13, r15, r16⟩ := ha
  clear hw hB
  replace hN := hN.trans hk
  replace r1 := hk.heap r1 id
  replace r3 := hk.heap r3 id
  replace r4 := hk.heap r4 id
  replace r5 := hk.heap r5 id
  replace r7 := hk.heap r7 id
  replace r8 := hk.heap r8 id
  replace r9 := hk.heap r9 id
  replace r11 := hk.heap r11 id
  replace r12 := hk.heap r12 id
  replace HA := Lib.hid (HA.out.new hk)
  replace HB := Lib.hid (HB.out.new hk)
  replace HC := Lib.hid (HC.out.new hk)
  clear hk
  obtain ⟨⟨k0, k1⟩, -⟩ := pc_facts r9
  go_wp2_with fail
  refine (H5.out _ _ hN HC.out).mono ?_
  rintro e wz ⟨da, dc, rfl, HD, hk⟩
  clear k0 k1
  replace hN := hN.trans hk
  replace r1 := hk.heap r1 id
  replace r3 := hk.heap r3 id
  replace r4 := hk.heap r4 id
  replace r5 := hk.heap r5 id
  replace r7 := hk.heap r7 id
  replace r8 := hk.heap r8 id
  replace r9 := hk.heap r9 id
  replace r11 := hk.heap r11 id
  replace r12 := hk.heap r12 id
  replace r13 := hk.heap r13 id
  replace r15 := hk.heap r15 id
  replace r16 := hk.heap r16 id
  replace HA := Lib.hid (HA.out.new hk)
  replace HB := Lib.hid (HB.out.new hk)
  replace HC := Lib.hid (HC.out.new hk)
  clear hk
  replace HD := Lib.hid HD
  go_upto_region 6 with fail
  have ha := alloc2 wz (.cells #[.int .i64 3, .slice da 0 dc] 26) (.cells #[.int .u8 2, .bool false] 31)
  obtain ⟨w5, hw⟩ : ∃ V, ((wz.alloc (.cells #[.int .i64 3, .slice da 0 dc] 26)).alloc (.cells #[.int .u8 2, .bool false] 31)) = V := ⟨_, rfl⟩
  obtain ⟨B17, hB⟩ : ∃ b, wz.heap.size = b := ⟨_, rfl⟩
  rw [hw, hB] at ha
  simp only [hw, hB, Nat.add_assoc, Nat.reduceAdd]
  obtain ⟨hk, r17, r18⟩ := ha
  clear hw hB
  replace hN := hN.trans hk
  replace r1 := hk.heap r1 id
  replace r3 := hk.heap r3 id
  replace r4 := hk.heap r4 id
  replace r5 := hk.heap r5 id
  replace r7 := hk.heap r7 id
  replace r8 := hk.heap r8 id
  replace r9 := hk.heap r9 id
  replace r11 := hk.heap r11 id
  replace r12 := hk.heap r12 id
  replace r13 := hk.heap r13 id
  replace r15 := hk.heap r15 id
  replace r16 := hk.heap r16 id
  replace HA := Lib.hid (HA.out.new hk)
  replace HB := Lib.hid (HB.out.new hk)
  replace HC := Lib.hid (HC.out.new hk)
  replace HD := Lib.hid (HD.out.new hk)
  clear hk
  obtain ⟨⟨k0, k1⟩, -⟩ := pc_facts r17
  go_wp2_with fail
  refine (H6.out _ _ hN HD.out).mono ?_
  rintro e wz ⟨ya, yc, rfl, -, hk⟩
  clear k0 k1
  replace hN := hN.trans hk
  replace r1 := hk.heap r1 id
  replace r3 := hk.heap r3 id
  replace r4 := hk.heap r4 id
  replace r5 := hk.heap r5 id
  replace r7 := hk.heap r7 id
  replace r8 := hk.heap r8 id
  replace r9 := hk.heap r9 id
  replace r11 := hk.heap r11 id
  replace r12 := hk.heap r12 id
  replace r13 := hk.heap r13 id
  replace r15 := hk.heap r15 id
  replace r16 := hk.heap r16 id
  replace r17 := hk.heap r17 id
  replace r18 := hk.heap r18 id
  replace HA := Lib.hid (HA.out.new hk)
  replace HB := Lib.hid (HB.out.new hk)
  replace HC := Lib.hid (HC.out.new hk)
  replace HD := Lib.hid (HD.out.new hk)
  clear hk
  go_upto_region 7 with fail
  have ha := alloc3 wz (.cells #[.int .i64 3, .slice ya 0 yc] 26) (.cells #[.int .u8 3, .bool true] 31) (.cells #[.bool false, .int .i64 0, .int .u32 0] 34)
  obtain ⟨w6, hw⟩ : ∃ V, (((wz.alloc (.cells #[.int .i64 3, .slice ya 0 yc] 26)).alloc (.cells #[.int .u8 3, .bool true] 31)).alloc (.cells #[.bool false, .int .i64 0, .int .u32 0] 34)) = V := ⟨_, rfl⟩
  obtain ⟨B20, hB⟩ : ∃ b, wz.heap.size = b := ⟨_, rfl⟩
  rw [hw, hB] at ha
  simp only [hw, hB, Nat.add_assoc, Nat.reduceAdd]
  obtain ⟨hk, r20, r22, r23⟩ := ha
  clear hw hB
  replace hN := hN.trans hk
  replace r1 := hk.heap r1 id
  replace r3 := hk.heap r3 id
  replace r4 := hk.heap r4 id
  replace r5 := hk.heap r5 id
  replace r7 := hk.heap r7 id
  replace r8 := hk.heap r8 id
  replace r9 := hk.heap r9 id
  replace r11 := hk.heap r11 id
  replace r12 := hk.heap r12 id
  replace r13 := hk.heap r13 id
  replace r15 := hk.heap r15 id
  replace r16 := hk.heap r16 id
  replace r17 := hk.heap r17 id
  replace r18 := hk.heap r18 id
  replace HA := Lib.hid (HA.out.new hk)
  replace HB := Lib.hid (HB.out.new hk)
  replace HC := Lib.hid (HC.out.new hk)
  replace HD := Lib.hid (HD.out.new hk)
  clear hk
  obtain ⟨⟨k0, k1⟩, -⟩ := pc_facts r17
  go_wp2_with fail
  refine (H7.out _ _ hN HD.out).mono ?_
  rintro e wz ⟨za, zc, rfl, -, hk⟩
  clear k0 k1
  replace hN := hN.trans hk
  replace r1 := hk.heap r1 id
  replace r3 := hk.heap r3 id
  replace r4 := hk.heap r4 id
  replace r5 := hk.heap r5 id
  replace r7 := hk.heap r7 id
  replace r8 := hk.heap r8 id
  replace r9 := hk.heap r9 id
  replace r11 := hk.heap r11 id
  replace r12 := hk.heap r12 id
  replace r13 := hk.heap r13 id
  replace r15 := hk.heap r15 id
  replace r16 := hk.heap r16 id
  replace r17 := hk.heap r17 id
  replace r18 := hk.heap r18 id
  replace r20 := hk.heap r20 id
  replace r22 := hk.heap r22 id
  replace r23 := hk.heap r23 id
  replace HA := Lib.hid (HA.out.new hk)
  replace HB := Lib.hid (HB.out.new hk)
  replace HC := Lib.hid (HC.out.new hk)
  replace HD := Lib.hid (HD.out.new hk)
  clear hk
  go_upto_region 8 with fail
  have ha := alloc2 wz (.cells #[.int .i64 3, .slice za 0 zc] 26) (.cells #[.int .u8 3, .bool false] 31)
  obtain ⟨w7, hw⟩ : ∃ V, ((wz.alloc (.cells #[.int .i64 3, .slice za 0 zc] 26)).alloc (.cells #[.int .u8 3, .bool false] 31)) = V := ⟨_, rfl⟩
  obtain ⟨B24, hB⟩ : ∃ b, wz.heap.size = b := ⟨_, rfl⟩
  rw [hw, hB] at ha
  simp only [hw, hB, Nat.add_assoc, Nat.reduceAdd]
  obtain ⟨hk, r24, r25⟩ := ha
  clear hw hB
  replace hN := hN.trans hk
  replace r1 := hk.heap r1 id
  replace r3 := hk.heap r3 id
  replace r4 := hk.heap r4 id
  replace r5 := hk.heap r5 id
  replace r7 := hk.heap r7 id
  replace r8 := hk.heap r8 id
  replace r9 := hk.heap r9 id
  replace r11 := hk.heap r11 id
  replace r12 := hk.heap r12 id
  replace r13 := hk.heap r13 id
  replace r15 := hk.heap r15 id
  replace r16 := hk.heap r16 id
  replace r17 := hk.heap r17 id
  replace r18 := hk.heap r18 id
  replace r20 := hk.heap r20 id
  replace r22 := hk.heap r22 id
  replace r23 := hk.heap r23 id
  replace HA := Lib.hid (HA.out.new hk)
  replace HB := Lib.hid (HB.out.new hk)
  replace HC := Lib.hid (HC.out.new hk)
  replace HD := Lib.hid (HD.out.new hk)
  clear hk
  obtain ⟨⟨k0, k1⟩, -⟩ := pc_facts r5
  go_wp2_with fail
  refine (H8.out _ _ HB.out).mono ?_
  rintro e wz ⟨rfl, hk⟩
  clear k0 k1
  replace hN := hN.trans hk
  replace r1 := hk.heap r1 id
  replace r3 := hk.heap r3 id
  replace r4 := hk.heap r4 id
  replace r5 := hk.heap r5 id
  replace r7 := hk.heap r7 id
  replace r8 := hk.heap r8 id
  replace r9 := hk.heap r9 id
  replace r11 := hk.heap r11 id
  replace r12 := hk.heap r12 id
  replace r13 := hk.heap r13 id
  replace r15 := hk.heap r15 id
  replace r16 := hk.heap r16 id
  replace r17 := hk.heap r17 id
  replace r18 := hk.heap r18 id
  replace r20 := hk.heap r20 id
  replace r22 := hk.heap r22 id
  replace r23 := hk.heap r23 id
  replace r24 := hk.heap r24 id
  replace r25 := hk.heap r25 id
  replace HA := Lib.hid (HA.out.new hk)
  replace HB := Lib.hid (HB.out.new hk)
  replace HC := Lib.hid (HC.out.new hk)
  replace HD := Lib.hid (HD.out.new hk)
  clear hk
  go_upto_region 9 with fail
  have hk : New wz (wz.alloc (.cells #[.int .u8 2, .bool false] 31)) := (Mods.refl _ _).alloc _
  have r27 := World.alloc_heap_new wz (.cells #[.int .u8 2, .bool false] 31)
  obtain ⟨w8, hw⟩ : ∃ V, wz.alloc (.cells #[.int .u8 2, .bool false] 31) = V := ⟨_, rfl⟩
  obtain ⟨B27, hB⟩ : ∃ b, wz.heap.size = b := ⟨_, rfl⟩
  rw [hw] at hk r27 ⊢
  rw [hB] at r27 ⊢
  clear hw hB
  replace hN := hN.trans hk
  replace r1 := hk.heap r1 id
  replace r3 := hk.heap r3 id
  replace r4 := hk.heap r4 id
  replace r5 := hk.heap r5 id
  replace r7 := hk.heap r7 id
  replace r8 := hk.heap r8 id
  replace r9 := hk.heap r9 id
  replace r11 := hk.heap r11 id
  replace r12 := hk.heap r12 id
  replace r13 := hk.heap r13 id
  replace r15 := hk.heap r15 id
  replace r16 := hk.heap r16 id
  replace r17 := hk.heap r17 id
  replace r18 := hk.heap r18 id
  replace r20 := hk.heap r20 id
  replace r22 := hk.heap r22 id
  replace r23 := hk.heap r23 id
  replace r24 := hk.heap r24 id
  replace r25 := hk.heap r25 id
  replace HA := Lib.hid (HA.out.new hk)
  replace HB := Lib.hid (HB.out.new hk)
  replace HC := Lib.hid (HC.out.new hk)
  replace HD := Lib.hid (HD.out.new hk)
  clear hk
  clear H1 H2 H3 H4 H5 H6 H7 H8
  have e0 := cell_of_row _ _ 0 _ _ _ r4
  have e1 := cell_of_row _ _ 1 _ _ _ r4
  have e2 := cell_of_row _ _ 2 _ _ _ r4
  simp only [List.getElem?_toArray, List.getElem?_cons_zero, List.getElem?_cons_succ] at e0 e1 e2
  have f0 := cell_of_row _ _ 0 _ _ _ r8
  have f1 := cell_of_row _ _ 1 _ _ _ r8
  have f2 := cell_of_row _ _ 2 _ _ _ r8
  simp only [List.getElem?_toArray, List.getElem?_cons_zero, List.getElem?_cons_succ] at f0 f1 f2
  have g0 := cell_of_row _ _ 0 _ _ _ r12
  have g1 := cell_of_row _ _ 1 _ _ _ r12
  have g2 := cell_of_row _ _ 2 _ _ _ r12
  simp only [List.getElem?_toArray, List.getElem?_cons_zero, List.getElem?_cons_succ] at g0 g1 g2
  have i0 := cell_of_row _ _ 0 _ _ _ r23
  have i1 := cell_of_row _ _ 1 _ _ _ r23
  have i2 := cell_of_row _ _ 2 _ _ _ r23
  simp only [List.getElem?_toArray, List.getElem?_cons_zero, List.getElem?_cons_succ] at i0 i1 i2
  have hq := binop_flt false false 0 0 0 0
  simp only [decide_true, Bool.and_self] at hq
  go_upto_region 10 with fail
  clear e0 e1 e2 f0 f1 f2 g0 g1 g2 i0 i1 i2 hq
  have d0 := cell_of_row _ _ 0 _ _ _ r16
  have d1 := cell_of_row _ _ 1 _ _ _ r16
  have d2 := cell_of_row _ _ 2 _ _ _ r16
  simp only [List.getElem?_toArray, List.getElem?_cons_zero, List.getElem?_cons_succ] at d0 d1 d2
  refine piece (fun _ => _) (pk13 _ rfl w8 rfl rfl rfl rfl rfl rfl rfl rfl rfl rfl rfl rfl rfl rfl rfl rfl rfl (pc_facts r1).1.1 (pc_facts r1).1.2 (pc_facts r5).1.1 (pc_facts r5).1.2 (pr_facts r7).1.1 d0 d1 d2 (pc_facts r17).1.1 (pc_facts r17).1.2 (pr_facts r18).1.1 (pr_facts r22).1.2 (pr_facts r25).1.1 (pr_facts r27).1.1 HA HB) ?_
  rintro ⟨z, dfs⟩ w10 ⟨⟨hs, hd, hq0⟩, hN10⟩
  simp only at hs hd hq0
  subst hd
  obtain ⟨u, rfl⟩ := lit188 z hs
  have hp0 : u 0 = .bool true := hq0
  rw [hp0]
  clear hp0 hq0 hs
  go_wp2_with fail
  go_ret
  exact ⟨rfl, hN.trans hN10⟩
end Go.Proofs.YtkiiameibdhdfaaGreatDoor
/- PrioBound: never more than four wait, of different streams. -/
namespace Go.Proofs.YtkiiameibdhdfaaGreatDoor
open Go.RowKit Go.Shelf Go.Cs
attribute [local go_sem] Oper.semAt_some
set_option linter.unusedVariables false
set_option linter.unusedSimpArgs false
theorem lit136 (t : Array Value) (h : t.size = 136) : ∃ u : Nat → Value, t = (u 0 :: u 1 :: u 2 :: u 3 :: u 4 :: u 5 :: u 6 :: u 7 :: u 8 :: u 9 :: u 10 :: u 11 :: u 12 :: u 13 :: u 14 :: u 15 :: u 16 :: u 17 :: u 18 :: u 19 :: u 20 :: u 21 :: u 22 :: u 23 :: u 24 :: u 25 :: u 26 :: u 27 :: u 28 :: u 29 :: u 30 :: u 31 :: u 32 :: u 33 :: u 34 :: u 35 :: u 36 :: u 37 :: u 38 :: u 39 :: u 40 :: u 41 :: u 42 :: u 43 :: u 44 :: u 45 :: u 46 :: u 47 :: u 48 :: u 49 :: u 50 :: u 51 :: u 52 :: u 53 :: u 54 :: u 55 :: u 56 :: u 57 :: u 58 :: u 59 :: u 60 :: u 61 :: u 62 :: u 63 :: u 64 :: u 65 :: u 66 :: u 67 :: u 68 :: u 69 :: u 70 :: u 71 :: u 72 :: u 73 :: u 74 :: u 75 :: u 76 :: u 77 :: u 78 :: u 79 :: u 80 :: u 81 :: u 82 :: u 83 :: u 84 :: u 85 :: u 86 :: u 87 :: u 88 :: u 89 :: u 90 :: u 91 :: u 92 :: u 93 :: u 94 :: u 95 :: u 96 :: u 97 :: u 98 :: u 99 :: u 100 :: u 101 :: u 102 :: u 103 :: u 104 :: u 105 :: u 106 :: u 107 :: u 108 :: u 109 :: u 110 :: u 111 :: u 112 :: u 113 :: u 114 :: u 115 :: u 116 :: u 117 :: u 118 :: u 119 :: u 120 :: u 121 :: u 122 :: u 123 :: u 124 :: u 125 :: u 126 :: u 127 :: u 128 :: u 129 :: u 130 :: u 131 :: u 132 :: u 133 :: u 134 :: u 135 :: ([] : List Value)).toArray := ⟨fun i => t.getD i undef, range_lit t 136 h⟩
noncomputable def reg_causeylaw24_PrioBound_16 : Code := ((Tryz.f4.body.bind (regionOf 16)).getD .skip)
set_option maxHeartbeats 4000000 in
set_option maxRecDepth 100000 in
theorem bound16a (t : Array Value) (hs : t.size = 136) (w : World) {P3 P7 P9 b o k m n mc dc q : Nat} {s : Int} {y : Bool} {da : Option Addr}
    (hq1 : t.getD 1 undef = .int .i64 s)
    (hq3 : t.getD 3 undef = .pointer (some ⟨P3, 0, none⟩))
    (hq7 : t.getD 7 undef = .pointer (some ⟨P7, 0, none⟩))
    (hq9 : t.getD 9 undef = .pointer (some ⟨P9, 0, none⟩))
    (hq15 : t.getD 15 undef = .int .i64 m)
    (a1 : w.cell? ⟨P3, 1, none⟩ = some (.slice da n dc)) (b1 : w.cell? ⟨P7, 1, none⟩ = some (.slice (some ⟨b, o, none⟩) m mc)) (c0 : w.cell? ⟨P9, 0, none⟩ = some (.int .u8 q)) (c1 : w.cell? ⟨P9, 1, none⟩ = some (.bool y)) (d0 : w.cell? ⟨b, o + k * 3, none⟩ = some (.int .i64 s)) (d1 : w.cell? ⟨b, o + k * 3 + 1, none⟩ = some (.int .u8 q)) (d2 : w.cell? ⟨b, o + k * 3 + 2, none⟩ = some (.bool y))
    (hk : k < m) (hm : ((m : Int) - 1) = (k : Int)) (hp : 0 < m) (hwr : IntKind.i64.wrap (k : Int) = (k : Int)) (h4 : ((m : Int) == 4) = true) (HW : Hid (∀ W, New w W → Calls Tryz.prog 13 #[] W fun e w' => e = .returned (.bool true) ∧ New W w')) :
    reg_causeylaw24_PrioBound_16.wp Tryz.prog (Only fun a' W' => ∃ z : Nat → Value, a' = ⟨(((((((((((((((((((((((((((((t).setIfInBounds 108 (z 108)).setIfInBounds 109 (z 109)).setIfInBounds 110 (z 110)).setIfInBounds 111 (z 111)).setIfInBounds 112 (z 112)).setIfInBounds 113 (z 113)).setIfInBounds 114 (z 114)).setIfInBounds 115 (z 115)).setIfInBounds 116 (z 116)).setIfInBounds 117 (z 117)).setIfInBounds 118 (z 118)).setIfInBounds 119 (z 119)).setIfInBounds 120 (z 120)).setIfInBounds 121 (z 121)).setIfInBounds 122 (z 122)).setIfInBounds 123 (z 123)).setIfInBounds 124 (z 124)).setIfInBounds 125 (z 125)).setIfInBounds 126 (z 126)).setIfInBounds 127 (z 127)).setIfInBounds 128 (z 128)).setIfInBounds 129 (z 129)).setIfInBounds 130 (z 130)).setIfInBounds 131 (z 131)).setIfInBounds 132 (z 132)).setIfInBounds 133 (z 133)).setIfInBounds 134 (z 134)).setIfInBounds 135 (z 135)).setIfInBounds 6 (.bool true), []⟩ ∧ New w W') ⟨t, []⟩ w := by
  conv => arg 2; whnf
  obtain ⟨u, rfl⟩ := lit136 t hs
  have hq1 : u 1 = .int .i64 s := hq1
  have hq3 : u 3 = .pointer (some ⟨P3, 0, none⟩) := hq3
  have hq7 : u 7 = .pointer (some ⟨P7, 0, none⟩) := hq7
  have hq9 : u 9 = .pointer (some ⟨P9, 0, none⟩) := hq9
  have hq15 : u 15 = .int .i64 m := hq15
  rw [hq1, hq3, hq7, hq9, hq15]
  clear hq1 hq3 hq7 hq9 hq15 hs
  have hid : decide ((k : Int) < (m : Int)) = true := decide_eq_true (by omega)
  refine wp_region_held (S := fun W => New w W) (by kernel_rfl) ?_
  show wpAnyH _ _ _ _ _ 29 _ _ w.drew
  have hN : New w w.drew := (Mods.refl _ _).drew
  have hS : New w w.drew := (Mods.refl _ _).drew
  refine anyH_take 0 (some 108) (.int .i64 m) rfl rfl (by kernel_rfl) (by kernel_rfl) (by kernel_rfl) (fun _ _ _ h => h.elim) (.inl ⟨by rfl, fun W hW => by go_simp⟩) hS ?_
  simp only [Act.put, List.setIfInBounds_toArray, List.set_cons_succ, List.set_cons_zero]
  refine anyH_take 1 (some 109) (.bool true) rfl rfl (by kernel_rfl) (by kernel_rfl) (by kernel_rfl) (fun _ _ _ h => h.elim) (.inl ⟨by rfl, fun W hW => by go_simp; first | done | exact hp⟩) hS ?_
  simp only [Act.put, List.setIfInBounds_toArray, List.set_cons_succ, List.set_cons_zero]
  refine anyH_take 2 (some 110) (.bool true) rfl rfl (by kernel_rfl) (by kernel_rfl) (by kernel_rfl) (fun _ _ _ h => h.elim) (.inl ⟨by rfl, fun W hW => by go_simp⟩) hS ?_
  simp only [Act.put, List.setIfInBounds_toArray, List.set_cons_succ, List.set_cons_zero]
  refine anyH_take 3 (some 111) (.pointer (some ⟨P7, 1, none⟩)) rfl rfl (by kernel_rfl) (by kernel_rfl) (by kernel_rfl) (fun _ _ _ h => h.elim) (.inl ⟨by rfl, fun W hW => by go_simp⟩) hS ?_
  simp only [Act.put, List.setIfInBounds_toArray, List.set_cons_succ, List.set_cons_zero]
  refine anyH_take 4 (some 112) (.slice (some ⟨b, o, none⟩) m mc) rfl rfl (by kernel_rfl) (by kernel_rfl) (by kernel_rfl) (fun _ _ _ h => h.elim) (.inl ⟨by rfl, fun W hW => by have hh : New w W := hW; have q := hh.cell b1 id; go_simp⟩) hS ?_
  simp only [Act.put, List.setIfInBounds_toArray, List.set_cons_succ, List.set_cons_zero]
  refine anyH_take 5 (some 113) (.int .i64 m) rfl rfl (by kernel_rfl) (by kernel_rfl) (by kernel_rfl) (fun _ _ _ h => h.elim) (.inl ⟨by rfl, fun W hW => by go_simp⟩) hS ?_
  simp only [Act.put, List.setIfInBounds_toArray, List.set_cons_succ, List.set_cons_zero]
  refine anyH_take 6 (some 114) (.int .i64 k) rfl rfl (by kernel_rfl) (by kernel_rfl) (by kernel_rfl) (fun _ _ _ h => h.elim) (.inl ⟨by rfl, fun W hW => by go_simp; first | done | exact hm | exact hwr⟩) hS ?_
  simp only [Act.put, List.setIfInBounds_toArray, List.set_cons_succ, List.set_cons_zero]
  refine anyH_take 7 (some 115) (.pointer (some ⟨b, o + k * 3, none⟩)) rfl rfl (by kernel_rfl) (by kernel_rfl) (by kernel_rfl) (fun _ _ _ h => h.elim) (.inl ⟨by rfl, fun W hW => by go_simp⟩) hS ?_
  simp only [Act.put, List.setIfInBounds_toArray, List.set_cons_succ, List.set_cons_zero]
  refine anyH_take 8 (some 116) (.agg #[.int .i64 s, .int .u8 q, .bool y]) rfl rfl (by kernel_rfl) (by kernel_rfl) (by kernel_rfl) (fun _ _ _ h => h.elim) (.inl ⟨by rfl, fun W hW => by have hh : New w W := hW; have q0 := hh.cell d0 id; have q1 := hh.cell d1 id; have q2 := hh.cell d2 id; go_simp⟩) hS ?_
  simp only [Act.put, List.setIfInBounds_toArray, List.set_cons_succ, List.set_cons_zero]
  refine anyH_take 9 (some 117) (.int .i64 s) rfl rfl (by kernel_rfl) (by kernel_rfl) (by kernel_rfl) (fun _ _ _ h => h.elim) (.inl ⟨by rfl, fun W hW => by go_simp⟩) hS ?_
  simp only [Act.put, List.setIfInBounds_toArray, List.set_cons_succ, List.set_cons_zero]
  refine anyH_take 10 (some 118) (.agg #[.int .u8 q, .bool y]) rfl rfl (by kernel_rfl) (by kernel_rfl) (by kernel_rfl) (fun _ _ _ h => h.elim) (.inl ⟨by rfl, fun W hW => by have hh : New w W := hW; have q0 := hh.cell c0 id; have q1 := hh.cell c1 id; go_simp⟩) hS ?_
  simp only [Act.put, List.setIfInBounds_toArray, List.set_cons_succ, List.set_cons_zero]
  refine anyH_take 11 (some 119) (.agg #[.int .i64 s, .int .u8 q, .bool y]) rfl rfl (by kernel_rfl) (by kernel_rfl) (by kernel_rfl) (fun _ _ _ h => h.elim) (.inl ⟨by rfl, fun W hW => by go_simp⟩) hS ?_
  simp only [Act.put, List.setIfInBounds_toArray, List.set_cons_succ, List.set_cons_zero]
  refine anyH_take 12 (some 120) (.bool true) rfl rfl (by kernel_rfl) (by kernel_rfl) (by kernel_rfl) (fun _ _ _ h => h.elim) (.inl ⟨by rfl, fun W hW => by have hz := binop_wait ⟨s, q, y⟩ ⟨s, q, y⟩; simp only [decide_true] at hz; have hz' : (binOp .eql 40 (.agg #[.int .i64 s, .int .u8 q, .bool y]) (.agg #[.int .i64 s, .int .u8 q, .bool y])).run Tryz.prog W = .ok (.bool true) W := hz W; clear hz; go_simp⟩) hS ?_
  simp only [Act.put, List.setIfInBounds_toArray, List.set_cons_succ, List.set_cons_zero]
  refine anyH_take 13 (some 121) (.bool true) rfl rfl (by kernel_rfl) (by kernel_rfl) (by kernel_rfl) (fun _ _ _ h => h.elim) (.inl ⟨by rfl, fun W hW => by go_simp⟩) hS ?_
  simp only [Act.put, List.setIfInBounds_toArray, List.set_cons_succ, List.set_cons_zero]
  refine anyH_take 14 (some 122) (.bool true) rfl rfl (by kernel_rfl) (by kernel_rfl) (by kernel_rfl) (fun _ _ _ h => h.elim) (.inl ⟨by rfl, fun W hW => by go_simp⟩) hS ?_
  simp only [Act.put, List.setIfInBounds_toArray, List.set_cons_succ, List.set_cons_zero]
  refine anyH_take 15 (some 123) (.int .i64 m) rfl rfl (by kernel_rfl) (by kernel_rfl) (by kernel_rfl) (fun _ _ _ h => h.elim) (.inl ⟨by rfl, fun W hW => by go_simp⟩) hS ?_
  simp only [Act.put, List.setIfInBounds_toArray, List.set_cons_succ, List.set_cons_zero]
  refine anyH_take 16 (some 124) (.bool true) rfl rfl (by kernel_rfl) (by kernel_rfl) (by kernel_rfl) (fun _ _ _ h => h.elim) (.inl ⟨by rfl, fun W hW => by go_simp; first | done | exact h4⟩) hS ?_
  simp only [Act.put, List.setIfInBounds_toArray, List.set_cons_succ, List.set_cons_zero]
  refine anyH_take 17 (some 125) (.bool true) rfl rfl (by kernel_rfl) (by kernel_rfl) (by kernel_rfl) (fun _ _ _ h => h.elim) (.inl ⟨by rfl, fun W hW => by go_simp⟩) hS ?_
  simp only [Act.put, List.setIfInBounds_toArray, List.set_cons_succ, List.set_cons_zero]
  refine anyH_take 18 (some 126) undef rfl rfl (by kernel_rfl) (by kernel_rfl) (by kernel_rfl) (fun _ _ _ h => h.elim) (.inr ⟨by rfl, rfl⟩) hS ?_
  simp only [Act.put, List.setIfInBounds_toArray, List.set_cons_succ, List.set_cons_zero]
  refine anyH_take 19 (some 127) undef rfl rfl (by kernel_rfl) (by kernel_rfl) (by kernel_rfl) (fun _ _ _ h => h.elim) (.inr ⟨by rfl, rfl⟩) hS ?_
  simp only [Act.put, List.setIfInBounds_toArray, List.set_cons_succ, List.set_cons_zero]
  refine anyH_take 20 (some 128) undef rfl rfl (by kernel_rfl) (by kernel_rfl) (by kernel_rfl) (fun _ _ _ h => h.elim) (.inr ⟨by rfl, rfl⟩) hS ?_
  simp only [Act.put, List.setIfInBounds_toArray, List.set_cons_succ, List.set_cons_zero]
  refine anyH_take 21 (some 129) undef rfl rfl (by kernel_rfl) (by kernel_rfl) (by kernel_rfl) (fun _ _ _ h => h.elim) (.inr ⟨by rfl, rfl⟩) hS ?_
  simp only [Act.put, List.setIfInBounds_toArray, List.set_cons_succ, List.set_cons_zero]
  refine anyH_take 22 (some 130) undef rfl rfl (by kernel_rfl) (by kernel_rfl) (by kernel_rfl) (fun _ _ _ h => h.elim) (.inr ⟨by rfl, rfl⟩) hS ?_
  simp only [Act.put, List.setIfInBounds_toArray, List.set_cons_succ, List.set_cons_zero]
  refine anyH_take 23 (some 131) (.bool true) rfl rfl (by kernel_rfl) (by kernel_rfl) (by kernel_rfl) (fun _ _ _ h => h.elim) (.inl ⟨by rfl, fun W hW => by go_simp⟩) hS ?_
  simp only [Act.put, List.setIfInBounds_toArray, List.set_cons_succ, List.set_cons_zero]
  refine anyH_take 24 (some 132) (.bool true) rfl rfl (by kernel_rfl) (by kernel_rfl) (by kernel_rfl) (fun _ _ _ h => h.elim) (.inl ⟨by rfl, fun W hW => by go_simp⟩) hS ?_
  simp only [Act.put, List.setIfInBounds_toArray, List.set_cons_succ, List.set_cons_zero]
  refine anyH_take 25 (some 133) (.bool true) rfl rfl (by kernel_rfl) (by kernel_rfl) (by kernel_rfl) (fun _ _ _ h => h.elim) (.inl ⟨by rfl, fun W hW => by go_simp⟩) hS ?_
  simp only [Act.put, List.setIfInBounds_toArray, List.set_cons_succ, List.set_cons_zero]
  refine wpAnyH_all (rs := [26]) (by kernel_rfl) (by simp) ?_
  simp only [List.mem_cons, List.not_mem_nil, or_false, forall_eq]
  refine opH_call (some 134) rfl (by rfl) rfl 13 #[] (by go_simp) ((HW.out _ hN).mono ?_)
  rintro e w26 ⟨rfl, hk'⟩
  have hk := hk'
  have hS := hS.trans hk
  have hN := hN.trans hk
  clear hk
  refine ⟨_, rfl, hS, ?_⟩
  simp only [Act.put, List.setIfInBounds_toArray, List.set_cons_succ, List.set_cons_zero]
  refine anyH_take 27 (some 135) (.bool true) rfl rfl (by kernel_rfl) (by kernel_rfl) (by kernel_rfl) (fun _ _ _ h => h.elim) (.inl ⟨by rfl, fun W hW => by go_simp⟩) hS ?_
  simp only [Act.put, List.setIfInBounds_toArray, List.set_cons_succ, List.set_cons_zero]
  refine anyH_take 28 (some 6) (.bool true) rfl rfl (by kernel_rfl) (by kernel_rfl) (by kernel_rfl) (fun _ _ _ h => h.elim) (.inl ⟨by rfl, fun W hW => by go_simp⟩) hS ?_
  simp only [Act.put, List.setIfInBounds_toArray, List.set_cons_succ, List.set_cons_zero]
  refine wpAnyH_done (by kernel_rfl) ?_ _
  exact ⟨(fun zz => ([.int .i64 m, .bool true, .bool true, .pointer (some ⟨P7, 1, none⟩), .slice (some ⟨b, o, none⟩) m mc, .int .i64 m, .int .i64 k, .pointer (some ⟨b, o + k * 3, none⟩), .agg #[.int .i64 s, .int .u8 q, .bool y], .int .i64 s, .agg #[.int .u8 q, .bool y], .agg #[.int .i64 s, .int .u8 q, .bool y], .bool true, .bool true, .bool true, .int .i64 m, .bool true, .bool true, undef, undef, undef, undef, undef, .bool true, .bool true, .bool true, .bool true, .bool true] : List Value).getD (cond (Nat.beq zz 108) 0 (cond (Nat.beq zz 109) 1 (cond (Nat.beq zz 110) 2 (cond (Nat.beq zz 111) 3 (cond (Nat.beq zz 112) 4 (cond (Nat.beq zz 113) 5 (cond (Nat.beq zz 114) 6 (cond (Nat.beq zz 115) 7 (cond (Nat.beq zz 116) 8 (cond (Nat.beq zz 117) 9 (cond (Nat.beq zz 118) 10 (cond (Nat.beq zz 119) 11 (cond (Nat.beq zz 120) 12 (cond (Nat.beq zz 121) 13 (cond (Nat.beq zz 122) 14 (cond (Nat.beq zz 123) 15 (cond (Nat.beq zz 124) 16 (cond (Nat.beq zz 125) 17 (cond (Nat.beq zz 126) 18 (cond (Nat.beq zz 127) 19 (cond (Nat.beq zz 128) 20 (cond (Nat.beq zz 129) 21 (cond (Nat.beq zz 130) 22 (cond (Nat.beq zz 131) 23 (cond (Nat.beq zz 132) 24 (cond (Nat.beq zz 133) 25 (cond (Nat.beq zz 134) 26 (cond (Nat.beq zz 135) 27 (0))))))))))))))))))))))))))))) undef), rfl, hN⟩
set_option maxHeartbeats 4000000 in
set_option maxRecDepth 100000 in
theorem bound16b (t : Array Value) (hs : t.size = 136) (w : World) {P3 P7 P9 b o k m n mc dc q : Nat} {s : Int} {y : Bool} {da : Option Addr}
    (hq1 : t.getD 1 undef = .int .i64 s)
    (hq3 : t.getD 3 undef = .pointer (some ⟨P3, 0, none⟩))
    (hq7 : t.getD 7 undef = .pointer (some ⟨P7, 0, none⟩))
    (hq9 : t.getD 9 undef = .pointer (some ⟨P9, 0, none⟩))
    (hq15 : t.getD 15 undef = .int .i64 m)
    (a1 : w.cell? ⟨P3, 1, none⟩ = some (.slice da n dc)) (b1 : w.cell? ⟨P7, 1, none⟩ = some (.slice (some ⟨b, o, none⟩) m mc)) (c0 : w.cell? ⟨P9, 0, none⟩ = some (.int .u8 q)) (c1 : w.cell? ⟨P9, 1, none⟩ = some (.bool y)) (d0 : w.cell? ⟨b, o + k * 3, none⟩ = some (.int .i64 s)) (d1 : w.cell? ⟨b, o + k * 3 + 1, none⟩ = some (.int .u8 q)) (d2 : w.cell? ⟨b, o + k * 3 + 2, none⟩ = some (.bool y))
    (hk : k < m) (hm : ((m : Int) - 1) = (k : Int)) (hp : 0 < m) (hwr : IntKind.i64.wrap (k : Int) = (k : Int)) (h4 : ((m : Int) == 4) = false) (hn : n ≤ m) (HW : Hid (∀ W, New w W → Calls Tryz.prog 13 #[] W fun e w' => e = .returned (.bool true) ∧ New W w')) :
    reg_causeylaw24_PrioBound_16.wp Tryz.prog (Only fun a' W' => ∃ z : Nat → Value, a' = ⟨(((((((((((((((((((((((((((((t).setIfInBounds 108 (z 108)).setIfInBounds 109 (z 109)).setIfInBounds 110 (z 110)).setIfInBounds 111 (z 111)).setIfInBounds 112 (z 112)).setIfInBounds 113 (z 113)).setIfInBounds 114 (z 114)).setIfInBounds 115 (z 115)).setIfInBounds 116 (z 116)).setIfInBounds 117 (z 117)).setIfInBounds 118 (z 118)).setIfInBounds 119 (z 119)).setIfInBounds 120 (z 120)).setIfInBounds 121 (z 121)).setIfInBounds 122 (z 122)).setIfInBounds 123 (z 123)).setIfInBounds 124 (z 124)).setIfInBounds 125 (z 125)).setIfInBounds 126 (z 126)).setIfInBounds 127 (z 127)).setIfInBounds 128 (z 128)).setIfInBounds 129 (z 129)).setIfInBounds 130 (z 130)).setIfInBounds 131 (z 131)).setIfInBounds 132 (z 132)).setIfInBounds 133 (z 133)).setIfInBounds 134 (z 134)).setIfInBounds 135 (z 135)).setIfInBounds 6 (.bool true), []⟩ ∧ New w W') ⟨t, []⟩ w := by
  conv => arg 2; whnf
  obtain ⟨u, rfl⟩ := lit136 t hs
  have hq1 : u 1 = .int .i64 s := hq1
  have hq3 : u 3 = .pointer (some ⟨P3, 0, none⟩) := hq3
  have hq7 : u 7 = .pointer (some ⟨P7, 0, none⟩) := hq7
  have hq9 : u 9 = .pointer (some ⟨P9, 0, none⟩) := hq9
  have hq15 : u 15 = .int .i64 m := hq15
  rw [hq1, hq3, hq7, hq9, hq15]
  clear hq1 hq3 hq7 hq9 hq15 hs
  have hid : decide ((k : Int) < (m : Int)) = true := decide_eq_true (by omega)
  refine wp_region_held (S := fun W => New w W) (by kernel_rfl) ?_
  show wpAnyH _ _ _ _ _ 29 _ _ w.drew
  have hN : New w w.drew := (Mods.refl _ _).drew
  have hS : New w w.drew := (Mods.refl _ _).drew
  refine anyH_take 0 (some 108) (.int .i64 m) rfl rfl (by kernel_rfl) (by kernel_rfl) (by kernel_rfl) (fun _ _ _ h => h.elim) (.inl ⟨by rfl, fun W hW => by go_simp⟩) hS ?_
  simp only [Act.put, List.setIfInBounds_toArray, List.set_cons_succ, List.set_cons_zero]
  refine anyH_take 1 (some 109) (.bool true) rfl rfl (by kernel_rfl) (by kernel_rfl) (by kernel_rfl) (fun _ _ _ h => h.elim) (.inl ⟨by rfl, fun W hW => by go_simp; first | done | exact hp⟩) hS ?_
  simp only [Act.put, List.setIfInBounds_toArray, List.set_cons_succ, List.set_cons_zero]
  refine anyH_take 2 (some 110) (.bool true) rfl rfl (by kernel_rfl) (by kernel_rfl) (by kernel_rfl) (fun _ _ _ h => h.elim) (.inl ⟨by rfl, fun W hW => by go_simp⟩) hS ?_
  simp only [Act.put, List.setIfInBounds_toArray, List.set_cons_succ, List.set_cons_zero]
  refine anyH_take 3 (some 111) (.pointer (some ⟨P7, 1, none⟩)) rfl rfl (by kernel_rfl) (by kernel_rfl) (by kernel_rfl) (fun _ _ _ h => h.elim) (.inl ⟨by rfl, fun W hW => by go_simp⟩) hS ?_
  simp only [Act.put, List.setIfInBounds_toArray, List.set_cons_succ, List.set_cons_zero]
  refine anyH_take 4 (some 112) (.slice (some ⟨b, o, none⟩) m mc) rfl rfl (by kernel_rfl) (by kernel_rfl) (by kernel_rfl) (fun _ _ _ h => h.elim) (.inl ⟨by rfl, fun W hW => by have hh : New w W := hW; have q := hh.cell b1 id; go_simp⟩) hS ?_
  simp only [Act.put, List.setIfInBounds_toArray, List.set_cons_succ, List.set_cons_zero]
  refine anyH_take 5 (some 113) (.int .i64 m) rfl rfl (by kernel_rfl) (by kernel_rfl) (by kernel_rfl) (fun _ _ _ h => h.elim) (.inl ⟨by rfl, fun W hW => by go_simp⟩) hS ?_
  simp only [Act.put, List.setIfInBounds_toArray, List.set_cons_succ, List.set_cons_zero]
  refine anyH_take 6 (some 114) (.int .i64 k) rfl rfl (by kernel_rfl) (by kernel_rfl) (by kernel_rfl) (fun _ _ _ h => h.elim) (.inl ⟨by rfl, fun W hW => by go_simp; first | done | exact hm | exact hwr⟩) hS ?_
  simp only [Act.put, List.setIfInBounds_toArray, List.set_cons_succ, List.set_cons_zero]
  refine anyH_take 7 (some 115) (.pointer (some ⟨b, o + k * 3, none⟩)) rfl rfl (by kernel_rfl) (by kernel_rfl) (by kernel_rfl) (fun _ _ _ h => h.elim) (.inl ⟨by rfl, fun W hW => by go_simp⟩) hS ?_
  simp only [Act.put, List.setIfInBounds_toArray, List.set_cons_succ, List.set_cons_zero]
  refine anyH_take 8 (some 116) (.agg #[.int .i64 s, .int .u8 q, .bool y]) rfl rfl (by kernel_rfl) (by kernel_rfl) (by kernel_rfl) (fun _ _ _ h => h.elim) (.inl ⟨by rfl, fun W hW => by have hh : New w W := hW; have q0 := hh.cell d0 id; have q1 := hh.cell d1 id; have q2 := hh.cell d2 id; go_simp⟩) hS ?_
  simp only [Act.put, List.setIfInBounds_toArray, List.set_cons_succ, List.set_cons_zero]
  refine anyH_take 9 (some 117) (.int .i64 s) rfl rfl (by kernel_rfl) (by kernel_rfl) (by kernel_rfl) (fun _ _ _ h => h.elim) (.inl ⟨by rfl, fun W hW => by go_simp⟩) hS ?_
  simp only [Act.put, List.setIfInBounds_toArray, List.set_cons_succ, List.set_cons_zero]
  refine anyH_take 10 (some 118) (.agg #[.int .u8 q, .bool y]) rfl rfl (by kernel_rfl) (by kernel_rfl) (by kernel_rfl) (fun _ _ _ h => h.elim) (.inl ⟨by rfl, fun W hW => by have hh : New w W := hW; have q0 := hh.cell c0 id; have q1 := hh.cell c1 id; go_simp⟩) hS ?_
  simp only [Act.put, List.setIfInBounds_toArray, List.set_cons_succ, List.set_cons_zero]
  refine anyH_take 11 (some 119) (.agg #[.int .i64 s, .int .u8 q, .bool y]) rfl rfl (by kernel_rfl) (by kernel_rfl) (by kernel_rfl) (fun _ _ _ h => h.elim) (.inl ⟨by rfl, fun W hW => by go_simp⟩) hS ?_
  simp only [Act.put, List.setIfInBounds_toArray, List.set_cons_succ, List.set_cons_zero]
  refine anyH_take 12 (some 120) (.bool true) rfl rfl (by kernel_rfl) (by kernel_rfl) (by kernel_rfl) (fun _ _ _ h => h.elim) (.inl ⟨by rfl, fun W hW => by have hz := binop_wait ⟨s, q, y⟩ ⟨s, q, y⟩; simp only [decide_true] at hz; have hz' : (binOp .eql 40 (.agg #[.int .i64 s, .int .u8 q, .bool y]) (.agg #[.int .i64 s, .int .u8 q, .bool y])).run Tryz.prog W = .ok (.bool true) W := hz W; clear hz; go_simp⟩) hS ?_
  simp only [Act.put, List.setIfInBounds_toArray, List.set_cons_succ, List.set_cons_zero]
  refine anyH_take 13 (some 121) (.bool true) rfl rfl (by kernel_rfl) (by kernel_rfl) (by kernel_rfl) (fun _ _ _ h => h.elim) (.inl ⟨by rfl, fun W hW => by go_simp⟩) hS ?_
  simp only [Act.put, List.setIfInBounds_toArray, List.set_cons_succ, List.set_cons_zero]
  refine anyH_take 14 (some 122) (.bool true) rfl rfl (by kernel_rfl) (by kernel_rfl) (by kernel_rfl) (fun _ _ _ h => h.elim) (.inl ⟨by rfl, fun W hW => by go_simp⟩) hS ?_
  simp only [Act.put, List.setIfInBounds_toArray, List.set_cons_succ, List.set_cons_zero]
  refine anyH_take 15 (some 123) (.int .i64 m) rfl rfl (by kernel_rfl) (by kernel_rfl) (by kernel_rfl) (fun _ _ _ h => h.elim) (.inl ⟨by rfl, fun W hW => by go_simp⟩) hS ?_
  simp only [Act.put, List.setIfInBounds_toArray, List.set_cons_succ, List.set_cons_zero]
  refine anyH_take 16 (some 124) (.bool false) rfl rfl (by kernel_rfl) (by kernel_rfl) (by kernel_rfl) (fun _ _ _ h => h.elim) (.inl ⟨by rfl, fun W hW => by go_simp; first | done | exact h4⟩) hS ?_
  simp only [Act.put, List.setIfInBounds_toArray, List.set_cons_succ, List.set_cons_zero]
  refine anyH_take 17 (some 125) (.bool false) rfl rfl (by kernel_rfl) (by kernel_rfl) (by kernel_rfl) (fun _ _ _ h => h.elim) (.inl ⟨by rfl, fun W hW => by go_simp⟩) hS ?_
  simp only [Act.put, List.setIfInBounds_toArray, List.set_cons_succ, List.set_cons_zero]
  refine anyH_take 18 (some 126) (.int .i64 m) rfl rfl (by kernel_rfl) (by kernel_rfl) (by kernel_rfl) (fun _ _ _ h => h.elim) (.inl ⟨by rfl, fun W hW => by go_simp⟩) hS ?_
  simp only [Act.put, List.setIfInBounds_toArray, List.set_cons_succ, List.set_cons_zero]
  refine anyH_take 19 (some 127) (.pointer (some ⟨P3, 1, none⟩)) rfl rfl (by kernel_rfl) (by kernel_rfl) (by kernel_rfl) (fun _ _ _ h => h.elim) (.inl ⟨by rfl, fun W hW => by go_simp⟩) hS ?_
  simp only [Act.put, List.setIfInBounds_toArray, List.set_cons_succ, List.set_cons_zero]
  refine anyH_take 20 (some 128) (.slice da n dc) rfl rfl (by kernel_rfl) (by kernel_rfl) (by kernel_rfl) (fun _ _ _ h => h.elim) (.inl ⟨by rfl, fun W hW => by have hh : New w W := hW; have q := hh.cell a1 id; go_simp⟩) hS ?_
  simp only [Act.put, List.setIfInBounds_toArray, List.set_cons_succ, List.set_cons_zero]
  refine anyH_take 21 (some 129) (.int .i64 n) rfl rfl (by kernel_rfl) (by kernel_rfl) (by kernel_rfl) (fun _ _ _ h => h.elim) (.inl ⟨by rfl, fun W hW => by go_simp⟩) hS ?_
  simp only [Act.put, List.setIfInBounds_toArray, List.set_cons_succ, List.set_cons_zero]
  refine anyH_take 22 (some 130) (.bool true) rfl rfl (by kernel_rfl) (by kernel_rfl) (by kernel_rfl) (fun _ _ _ h => h.elim) (.inl ⟨by rfl, fun W hW => by go_simp; first | done | exact hn⟩) hS ?_
  simp only [Act.put, List.setIfInBounds_toArray, List.set_cons_succ, List.set_cons_zero]
  refine anyH_take 23 (some 131) (.bool true) rfl rfl (by kernel_rfl) (by kernel_rfl) (by kernel_rfl) (fun _ _ _ h => h.elim) (.inl ⟨by rfl, fun W hW => by go_simp⟩) hS ?_
  simp only [Act.put, List.setIfInBounds_toArray, List.set_cons_succ, List.set_cons_zero]
  refine anyH_take 24 (some 132) (.bool true) rfl rfl (by kernel_rfl) (by kernel_rfl) (by kernel_rfl) (fun _ _ _ h => h.elim) (.inl ⟨by rfl, fun W hW => by go_simp⟩) hS ?_
  simp only [Act.put, List.setIfInBounds_toArray, List.set_cons_succ, List.set_cons_zero]
  refine anyH_take 25 (some 133) (.bool true) rfl rfl (by kernel_rfl) (by kernel_rfl) (by kernel_rfl) (fun _ _ _ h => h.elim) (.inl ⟨by rfl, fun W hW => by go_simp⟩) hS ?_
  simp only [Act.put, List.setIfInBounds_toArray, List.set_cons_succ, List.set_cons_zero]
  refine wpAnyH_all (rs := [26]) (by kernel_rfl) (by simp) ?_
  simp only [List.mem_cons, List.not_mem_nil, or_false, forall_eq]
  refine opH_call (some 134) rfl (by rfl) rfl 13 #[] (by go_simp) ((HW.out _ hN).mono ?_)
  rintro e w26 ⟨rfl, hk'⟩
  have hk := hk'
  have hS := hS.trans hk
  have hN := hN.trans hk
  clear hk
  refine ⟨_, rfl, hS, ?_⟩
  simp only [Act.put, List.setIfInBounds_toArray, List.set_cons_succ, List.set_cons_zero]
  refine anyH_take 27 (some 135) (.bool true) rfl rfl (by kernel_rfl) (by kernel_rfl) (by kernel_rfl) (fun _ _ _ h => h.elim) (.inl ⟨by rfl, fun W hW => by go_simp⟩) hS ?_
  simp only [Act.put, List.setIfInBounds_toArray, List.set_cons_succ, List.set_cons_zero]
  refine anyH_take 28 (some 6) (.bool true) rfl rfl (by kernel_rfl) (by kernel_rfl) (by kernel_rfl) (fun _ _ _ h => h.elim) (.inl ⟨by rfl, fun W hW => by go_simp⟩) hS ?_
  simp only [Act.put, List.setIfInBounds_toArray, List.set_cons_succ, List.set_cons_zero]
  refine wpAnyH_done (by kernel_rfl) ?_ _
  exact ⟨(fun zz => ([.int .i64 m, .bool true, .bool true, .pointer (some ⟨P7, 1, none⟩), .slice (some ⟨b, o, none⟩) m mc, .int .i64 m, .int .i64 k, .pointer (some ⟨b, o + k * 3, none⟩), .agg #[.int .i64 s, .int .u8 q, .bool y], .int .i64 s, .agg #[.int .u8 q, .bool y], .agg #[.int .i64 s, .int .u8 q, .bool y], .bool true, .bool true, .bool true, .int .i64 m, .bool false, .bool false, .int .i64 m, .pointer (some ⟨P3, 1, none⟩), .slice da n dc, .int .i64 n, .bool true, .bool true, .bool true, .bool true, .bool true, .bool true] : List Value).getD (cond (Nat.beq zz 108) 0 (cond (Nat.beq zz 109) 1 (cond (Nat.beq zz 110) 2 (cond (Nat.beq zz 111) 3 (cond (Nat.beq zz 112) 4 (cond (Nat.beq zz 113) 5 (cond (Nat.beq zz 114) 6 (cond (Nat.beq zz 115) 7 (cond (Nat.beq zz 116) 8 (cond (Nat.beq zz 117) 9 (cond (Nat.beq zz 118) 10 (cond (Nat.beq zz 119) 11 (cond (Nat.beq zz 120) 12 (cond (Nat.beq zz 121) 13 (cond (Nat.beq zz 122) 14 (cond (Nat.beq zz 123) 15 (cond (Nat.beq zz 124) 16 (cond (Nat.beq zz 125) 17 (cond (Nat.beq zz 126) 18 (cond (Nat.beq zz 127) 19 (cond (Nat.beq zz 128) 20 (cond (Nat.beq zz 129) 21 (cond (Nat.beq zz 130) 22 (cond (Nat.beq zz 131) 23 (cond (Nat.beq zz 132) 24 (cond (Nat.beq zz 133) 25 (cond (Nat.beq zz 134) 26 (cond (Nat.beq zz 135) 27 (0))))))))))))))))))))))))))))) undef), rfl, hN⟩
end Go.Proofs.YtkiiameibdhdfaaGreatDoor
/- PrioBound: never more than four wait, of different streams, none for one that came, or too far ahead. -/
namespace Go.Proofs.YtkiiameibdhdfaaGreatDoor
open Go.RowKit Go.Shelf Go.Cs
attribute [local go_sem] Oper.semAt_some
set_option linter.unusedVariables false
set_option linter.unusedSimpArgs false
set_option maxHeartbeats 8000000 in
set_option maxRecDepth 100000 in
theorem bound_law (l s : Int) (v : Value) (d : List WP) (T : ByteArray) (w : World) (h : RdW w v d) (hu : ∀ x ∈ d, x.u < 256) (hT : Tab w) (hTs : T.size ≤ 9223372036854775807) :
    Calls Tryz.prog 4 #[.agg #[.int .i64 l, v], .int .i64 s, .string T] w fun e w' => e = .returned (.bool true) ∧ New w w' := by
  have HG := Lib.hid (fun W (hN : New w W) => great24 l v d W (h.new hN))
  have HR := Lib.hid (fun W (hN : New w W) => right_r24 l v d W (h.new hN) hu)
  have HW := Lib.hid (fun W (hN : New w W) => wakes_p W (hT.new hN))
  have HWt := Lib.hid (fun W (hN : New w W) (t : Int) => waiting_p l v d t W (h.new hN) hu)
  have HU := Lib.hid (fun W (hN : New w W) (h1 : d.length ≤ 1000) (h2 : T.size ≤ 1000000) => update_p l s v d T W (h.new hN) hu h1 h2 (hT.new hN))
  have HD := Lib.hid h
  obtain ⟨ao, cap, rfl⟩ := h.slice
  have hn1 : d.length ≤ 281474976710656 := h.1
  obtain ⟨n, hn⟩ : ∃ n, d.length = n := ⟨_, rfl⟩
  have HN := Lib.hid hn
  rw [hn] at HG HR HWt HU HD hn1 ⊢
  clear h hn hu hT
  have r0 := World.alloc_heap_new w (.cells #[.int .i64 l, .slice ao n cap] 26)
  have hN : New w (w.alloc (.cells #[.int .i64 l, .slice ao n cap] 26)) := (Mods.refl _ _).alloc _
  obtain ⟨W0, hW0⟩ : ∃ W, w.alloc (.cells #[.int .i64 l, .slice ao n cap] 26) = W := ⟨_, rfl⟩
  obtain ⟨B, hB⟩ : ∃ B, w.heap.size = B := ⟨_, rfl⟩
  rw [hW0] at r0 hN
  rw [hB] at r0
  go_enter Tryz.func4, Tryz.ntmps4
  go_upto_region 1 with fail
  clear hW0 hB
  obtain ⟨⟨p0, p1⟩, -⟩ := pc_facts r0
  go_wp2_with fail
  refine (HG.out _ hN).mono ?_
  rintro e w1 ⟨rfl, hk⟩
  replace hN := hN.trans hk
  replace r0 := hk.heap r0 id
  clear hk p0 p1 HG
  by_cases hgr : (20 : Int) < (n : Int)
  · have hgd : decide ((20 : Int) < (n : Int)) = true := decide_eq_true hgr
    rw [hgd]
    clear hgr hgd
    go_wp2_with fail
    refine (HW.out _ hN).mono ?_
    rintro e w2 ⟨rfl, hk⟩
    go_wp2_with fail
    go_ret
    exact ⟨rfl, hN.trans hk⟩
  have hgd : decide ((20 : Int) < (n : Int)) = false := decide_eq_false hgr
  rw [hgd]
  clear hgd
  obtain ⟨⟨p0, p1⟩, -⟩ := pc_facts r0
  go_wp2_with fail
  refine (HR.out _ hN).mono ?_
  rintro e w2 ⟨rfl, hk⟩
  replace hN := hN.trans hk
  replace r0 := hk.heap r0 id
  clear hk p0 p1 HR
  cases hr : rightP l d with
  | false =>
    clear hr
    go_wp2_with fail
    refine (HW.out _ hN).mono ?_
    rintro e w3 ⟨rfl, hk⟩
    go_wp2_with fail
    go_ret
    exact ⟨rfl, hN.trans hk⟩
  | true =>
    obtain ⟨h0, h1, h4, h5, h6⟩ := right_facts hr
    by_cases h500 : (500 : Int) < (T.size : Int)
    · have hgd : decide ((500 : Int) < (T.size : Int)) = true := decide_eq_true h500
      clear hr h0 h1 h4 h5 h6 h500
      go_wp2_with fail
      refine (HW.out _ hN).mono ?_
      rintro e w3 ⟨rfl, hk⟩
      go_wp2_with fail
      go_ret
      exact ⟨rfl, hN.trans hk⟩
    · have hgd : decide ((500 : Int) < (T.size : Int)) = false := decide_eq_false h500
      have HBd := Lib.hid (upd_bound (s := s) hr (readP T))
      have HRt := Lib.hid hr
      have hTs2 : T.size ≤ 1000000 := by omega
      have HU2 := Lib.hid (fun W hN => HU.out W hN (by omega) hTs2)
      obtain ⟨⟨F, what, ⟨qu, qi⟩, fw, fc⟩, hE⟩ : ∃ r, updP l d s (readP T) = r := ⟨_, rfl⟩
      rw [hE] at HBd HU2
      clear hE HU hr h5 h6
      obtain ⟨⟨p0, p1⟩, -⟩ := pc_facts r0
      go_upto_region 3 with fail
      clear hgd h500
      go_wp2_with fail
      refine (HU2.out _ hN).mono ?_
      rintro e w3 ⟨v3, rfl, hF, hk⟩
      replace hN := hN.trans hk
      replace r0 := hk.heap r0 id
      clear hk p0 p1 HU2
      obtain ⟨fa, fcap, rfl⟩ := hF.slice
      obtain ⟨m, hm⟩ : ∃ m, F.length = m := ⟨_, rfl⟩
      have HM := Lib.hid hm
      have HF := Lib.hid hF
      have hm4 : m ≤ 4 := by have := HBd.out.1; omega
      unfold updE faV
      simp only
      rw [hm] at HF ⊢
      clear hF hm
      obtain ⟨b1, b2, b3, b4⟩ := HBd.out
      have HB2 := Lib.hid b2
      have HB3 := Lib.hid b3
      have HB4 := Lib.hid b4
      clear b1 b2 b3 b4 HBd
      go_upto_region 4 with fail
      have ha := alloc3 w3 (.cells #[.int .i64 l, .slice fa m fcap] 26) (.cells #[.int .u8 qu, .bool qi] 31) (.cells #[.bool fw, .int .i64 0, .int .u32 fc] 34)
      obtain ⟨w4, hw⟩ : ∃ V, (((w3.alloc (.cells #[.int .i64 l, .slice fa m fcap] 26)).alloc (.cells #[.int .u8 qu, .bool qi] 31)).alloc (.cells #[.bool fw, .int .i64 0, .int .u32 fc] 34)) = V := ⟨_, rfl⟩
      obtain ⟨X, hX⟩ : ∃ b, w3.heap.size = b := ⟨_, rfl⟩
      rw [hw, hX] at ha
      simp only [hw, hX, Nat.add_assoc, Nat.reduceAdd]
      obtain ⟨hk, rF, rQ, -⟩ := ha
      replace hN := hN.trans hk
      replace r0 := hk.heap r0 id
      replace HF := Lib.hid (HF.out.new hk)
      clear hk hw hX
      have HR0 := Lib.hid r0
      have HRF := Lib.hid rF
      have HRQ := Lib.hid rQ
      obtain ⟨⟨p0, p1⟩, -⟩ := pc_facts r0
      obtain ⟨⟨q0, q1⟩, -⟩ := pc_facts rF
      clear r0 rF rQ
      have hmd : decide ((4 : Int) < (m : Int)) = false := decide_eq_false (by omega)
      go_upto_region 7 with fail
      clear hmd p0 p1 q0 q1
      go_loopw [11] (fun t wr => ∃ k : Nat, k ≤ m ∧ t = .int .i64 k ∧ New w4 wr) (fun t _ => m - (intOf t).toNat)
      case atStart => exact ⟨0, Nat.zero_le _, rfl, Mods.refl _ _⟩
      case round =>
        obtain ⟨k, hk, rfl, hNk⟩ := hrel
        obtain ⟨⟨p0, p1⟩, -⟩ := pc_facts (hNk.heap HR0.out id)
        obtain ⟨⟨q0, q1⟩, -⟩ := pc_facts (hNk.heap HRF.out id)
        by_cases hlt : k < m
        · have hkd : decide ((k : Int) < (m : Int)) = true := decide_eq_true (by omega)
          obtain ⟨b1, o1, rfl, hrow⟩ := (HF.out.new hNk).at.2.2 k hlt
          obtain ⟨x, hx⟩ : ∃ x, F.getD k noW = x := ⟨_, rfl⟩
          have hrow : wr.rangeAt b1 (o1 + k * 3) (wcs x) := by rw [← hx]; exact hrow
          obtain ⟨k0, k1, k2⟩ := cells3w hrow
          have hxm : x ∈ F := by rw [← hx]; exact getD_mem (by have := HM.out; omega)
          obtain ⟨g1, g2, g3⟩ := HB2.out x hxm
          have HG3 := Lib.hid g3
          clear hrow hxm hx g3
          have r1 := World.alloc_heap_new wr (.cells #[.int .i64 x.s, .int .u8 x.u, .bool x.i] 40)
          have hAx : New wr (wr.alloc (.cells #[.int .i64 x.s, .int .u8 x.u, .bool x.i] 40)) := (Mods.refl _ _).alloc _
          obtain ⟨W2, hW2⟩ : ∃ W, wr.alloc (.cells #[.int .i64 x.s, .int .u8 x.u, .bool x.i] 40) = W := ⟨_, rfl⟩
          obtain ⟨Y, hY⟩ : ∃ X, wr.heap.size = X := ⟨_, rfl⟩
          go_upto_region 10 with fail
          rw [hW2] at hAx r1
          rw [hY] at r1
          replace hNk := hNk.trans hAx
          clear k0 k1 k2 p0 p1 q0 q1 hW2 hY hAx
          obtain ⟨⟨p0, p1⟩, -⟩ := pc_facts (hNk.heap HR0.out id)
          have k0 := cell_of_row _ _ 0 _ _ _ r1
          simp only [List.getElem?_toArray, List.getElem?_cons_zero, List.getElem?_cons_succ] at k0
          go_wp2_with fail
          refine (HWt.out _ (hN.trans hNk) x.s).mono ?_
          rintro e w5 ⟨rfl, hk5⟩
          replace hNk := hNk.trans hk5
          replace r1 := hk5.heap r1 id
          clear p0 p1 k0 hk5
          have hd1 : decide (x.s ≤ l) = false := decide_eq_false (by omega)
          have hd2 : decide (l + 16 < x.s) = false := decide_eq_false (by omega)
          cases hw : waitP l d x.s with
          | some y =>
            have hV : waitV (some y) = .tuple #[.agg #[.int .u8 y.u, .bool y.i], .bool true] := rfl
            rw [hV]
            clear hV
            have r2 := World.alloc_heap_new w5 (.cells #[.int .u8 y.u, .bool y.i] 31)
            have hAx : New w5 (w5.alloc (.cells #[.int .u8 y.u, .bool y.i] 31)) := (Mods.refl _ _).alloc _
            obtain ⟨W6, hW6⟩ : ∃ W, w5.alloc (.cells #[.int .u8 y.u, .bool y.i] 31) = W := ⟨_, rfl⟩
            obtain ⟨Z, hZ⟩ : ∃ X, w5.heap.size = X := ⟨_, rfl⟩
            go_upto_region 11 with fail
            rw [hW6] at hAx r2
            rw [hZ] at r2
            replace hNk := hNk.trans hAx
            replace r1 := hAx.heap r1 id
            clear hW6 hZ hAx
            obtain ⟨⟨p0, p1⟩, -⟩ := pc_facts (hNk.heap HR0.out id)
            obtain ⟨⟨j0, j1⟩, -⟩ := pr_facts r2
            have k0 := cell_of_row _ _ 0 _ _ _ r1
            have k1 := cell_of_row _ _ 1 _ _ _ r1
            have k2 := cell_of_row _ _ 2 _ _ _ r1
            simp only [List.getElem?_toArray, List.getElem?_cons_zero, List.getElem?_cons_succ] at k0 k1 k2
            clear r1 r2
            by_cases hs : x.s = s
            · have hd3 : (x.s != s) = false := by simp [hs]
              clear hw hs g1 g2
              go_wp2_with fail
              go_roundw
              case rel => exact ⟨k + 1, by omega, by go_num, hNk⟩
              case measure => simp [intOf]; omega
            · have hd3 : (x.s != s) = true := by simp [hs]
              obtain rfl : y = x := by
                have := HG3.out hs
                rw [hw] at this
                exact Option.some.inj this
              have hq := fun w => nbinop_pr y.u y.u y.i y.i w
              simp only [decide_true, Bool.and_self, Bool.not_true] at hq
              clear hw hs g1 g2
              go_wp2_with fail
              go_roundw
              case rel => exact ⟨k + 1, by omega, by go_num, hNk⟩
              case measure => simp [intOf]; omega
          | none =>
            have hs : x.s = s := by
              rcases Decidable.em (x.s = s) with h | h
              · exact h
              · have := HG3.out h
                rw [hw] at this
                cases this
            have hd3 : (x.s != s) = false := by simp [hs]
            have hV : waitV none = .tuple #[.agg #[.int .u8 3, .bool false], .bool false] := rfl
            rw [hV]
            clear hV hw hs
            go_upto_region 11 with fail
            have r2 := World.alloc_heap_new w5 (.cells #[.int .u8 3, .bool false] 31)
            have hAx : New w5 (w5.alloc (.cells #[.int .u8 3, .bool false] 31)) := (Mods.refl _ _).alloc _
            obtain ⟨W6, hW6⟩ : ∃ W, w5.alloc (.cells #[.int .u8 3, .bool false] 31) = W := ⟨_, rfl⟩
            obtain ⟨Z, hZ⟩ : ∃ X, w5.heap.size = X := ⟨_, rfl⟩
            rw [hW6] at hAx r2 ⊢
            rw [hZ] at r2 ⊢
            replace hNk := hNk.trans hAx
            replace r1 := hAx.heap r1 id
            clear hW6 hZ hAx
            obtain ⟨⟨p0, p1⟩, -⟩ := pc_facts (hNk.heap HR0.out id)
            obtain ⟨⟨j0, j1⟩, -⟩ := pr_facts r2
            have k0 := cell_of_row _ _ 0 _ _ _ r1
            have k1 := cell_of_row _ _ 1 _ _ _ r1
            have k2 := cell_of_row _ _ 2 _ _ _ r1
            simp only [List.getElem?_toArray, List.getElem?_cons_zero, List.getElem?_cons_succ] at k0 k1 k2
            clear r1 r2 g1 g2
            go_wp2_with fail
            go_roundw
            case rel => exact ⟨k + 1, by omega, by go_num, hNk⟩
            case measure => simp [intOf]; omega
        · obtain rfl : k = m := by omega
          have hkd : decide ((k : Int) < (k : Int)) = false := decide_eq_false (by omega)
          have HWk := Lib.hid (fun W (hW : New wr W) => HW.out W ((hN.trans hNk).trans hW))
          by_cases h1w : what = 1
          · subst h1w
            obtain ⟨L, hL, hLl⟩ := HB4.out rfl
            have hml : k = L.length + 1 := by rw [← HM.out, hL]; simp
            have hg : F.getD L.length noW = ⟨s, qu, qi⟩ := by rw [hL, List.getD_eq_getElem?_getD, List.getElem?_append_right (Nat.le_refl _), Nat.sub_self]; rfl
            have hlast := (HF.out.new hNk).at.2.2 L.length (by omega)
            obtain ⟨b1, o1, rfl, hrow⟩ := hlast
            have hrow : wr.rangeAt b1 (o1 + L.length * 3) (wcs ⟨s, qu, qi⟩) := by rw [← hg]; exact hrow
            obtain ⟨k0, k1, k2⟩ := cells3w hrow
            have hLn : L.length + 1 = 4 ∨ n ≤ L.length + 1 := by rw [← HN.out]; exact hLl
            obtain ⟨c0, c1⟩ := (pr_facts (hNk.heap HRQ.out id)).1
            obtain ⟨j, hj⟩ : ∃ j, L.length = j := ⟨_, rfl⟩
            rw [hj] at hml k0 k1 k2 hLn
            have hmj : ((k : Int) - 1) = (j : Int) := by omega
            have hwr : IntKind.i64.wrap (j : Int) = (j : Int) := IntWalk.i64_in _ ⟨by omega, by omega⟩
            have HKK := Lib.hid (And.intro k0 (And.intro k1 (And.intro k2 (And.intro hmj hwr))))
            have hjk : j < k := by omega
            have hpk : 0 < k := by omega
            have hnk : k = 4 ∨ n ≤ k := by omega
            clear hg hrow hL hLl hj HB4 HB3 HB2 k0 k1 k2 hmj hwr hml hLn
            go_upto_region 16 with fail
            by_cases h4k : k = 4
            · have h4d : ((k : Int) == 4) = true := by subst h4k; rfl
              refine piece (fun _ => _) (bound16a _ rfl wr rfl rfl rfl rfl rfl p1 q1 c0 c1 HKK.out.1 HKK.out.2.1 HKK.out.2.2.1 hjk HKK.out.2.2.2.1 hpk HKK.out.2.2.2.2 h4d HWk) ?_
              rintro a' w9 ⟨z, rfl, hN9⟩
              simp only [List.setIfInBounds_toArray, List.set_cons_succ, List.set_cons_zero]
              clear p0 p1 q0 q1 c0 c1 h4d
              go_wp2_with fail
              go_ret
              exact ⟨rfl, (hN.trans hNk).trans hN9⟩
            · have h4d : ((k : Int) == 4) = false := by simp; omega
              refine piece (fun _ => _) (bound16b _ rfl wr rfl rfl rfl rfl rfl p1 q1 c0 c1 HKK.out.1 HKK.out.2.1 HKK.out.2.2.1 hjk HKK.out.2.2.2.1 hpk HKK.out.2.2.2.2 h4d (by omega) HWk) ?_
              rintro a' w9 ⟨z, rfl, hN9⟩
              simp only [List.setIfInBounds_toArray, List.set_cons_succ, List.set_cons_zero]
              clear p0 p1 q0 q1 c0 c1 h4d
              go_wp2_with fail
              go_ret
              exact ⟨rfl, (hN.trans hNk).trans hN9⟩
          · have hwd : ((what : Int) != 1) = true := by simp; omega
            have hFd := HB3.out h1w
            have HS := Lib.hid (fun W (hW : New wr W) => (same_r24 l l (.slice fa k fcap) (.slice ao n cap) F d W (HF.out.new (hNk.trans hW)) (HD.out.new ((hN.trans hNk).trans hW))).mono (R' := fun e w' => e = .returned (.bool true) ∧ New W w') (by
              rintro e w' ⟨rfl, h⟩
              exact ⟨by rw [decide_eq_true (show F = d from hFd), decide_eq_true rfl]; rfl, h⟩))
            clear h1w hFd
            go_wp2_with fail
            refine (HS.out _ (Mods.refl _ _)).mono ?_
            rintro e w9 ⟨rfl, hk9⟩
            go_wp2_with fail
            refine (HWk.out _ hk9).mono ?_
            rintro e w10 ⟨rfl, hk10⟩
            go_wp2_with fail
            go_ret
            exact ⟨rfl, ((hN.trans hNk).trans hk9).trans hk10⟩
end Go.Proofs.YtkiiameibdhdfaaGreatDoor
