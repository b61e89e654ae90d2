/- The wakes of dictionaries. -/
import Derived.Test.YtkiiameibdhdfaaGreatDoorD22
import Derived.Test.YtkiiameibdhdfaaGreatDoorD07
set_option linter.unusedSimpArgs false
set_option linter.unusedVariables false
namespace Go.Proofs.YtkiiameibdhdfaaGreatDoor
open Go.RowKit Go.Shelf Go.Cs
attribute [local go_sem] Oper.semAt_some
set_option linter.unusedVariables false
set_option linter.unusedSimpArgs false
theorem parse_ok (s : ByteArray) (d : List Bare.Mem) (n : Nat) (h : Bare.parseD (bl s) = some d) (hn : d.length = n) (w : World) (hs : s.size ≤ 1000000) (hT : Tab w) :
    Calls Tryz.prog 28 #[.string s] w fun e w' => ∃ a c, e = .returned (.tuple #[.slice a n c, .int .i64 0]) ∧ RdD true w' (.slice a n c) d ∧ New w w' :=
  (parse_d s w hs hT).mono fun e w' ⟨v, z, he, hN, hp⟩ => by
    rw [h] at hp
    obtain ⟨rfl, hd, -⟩ := hp
    obtain ⟨a, c, rfl⟩ := hd.slice
    subst hn
    exact ⟨a, c, he, hd, hN⟩
theorem parse_no (s : ByteArray) (h : Bare.parseD (bl s) = none) (w : World) (hs : s.size ≤ 1000000) (hT : Tab w) :
    Calls Tryz.prog 28 #[.string s] w fun e w' => e = .returned (.tuple #[.slice none 0 0, .int .i64 130]) ∧ New w w' :=
  (parse_d s w hs hT).mono fun e w' ⟨v, z, he, hN, hp⟩ => by
    rw [h] at hp
    obtain ⟨rfl, rfl⟩ := hp
    exact ⟨he, hN⟩
theorem prA : PrD dwA := by
  have h := prioD_print (u := 1) (i := true) (by decide)
  exact h
theorem prI : PrD dwI := by
  refine ⟨by decide, fun m hm => ⟨smI m hm, ?_⟩⟩
  unfold dwI at hm
  rw [List.mem_singleton] at hm
  subst hm
  refine ⟨by decide, by decide, fun x hx => ?_⟩
  have hs := (smI _ (List.mem_singleton.2 rfl)).2.2.2.1 x hx
  refine ⟨hs, ?_⟩
  simp only [List.mem_cons, List.not_mem_nil, or_false] at hx
  rcases hx with rfl | rfl <;> decide
theorem prB : PrD [⟨[65], false, [], []⟩] := by
  refine ⟨by decide, fun m hm => ?_⟩
  rw [List.mem_singleton] at hm
  subst hm
  refine ⟨⟨by decide, by decide, by decide, fun x hx => ?_, fun p hp => ?_⟩, by decide, by decide, fun x hx => ?_⟩
  · cases hx
  · cases hp
  · cases hx
theorem fitsA : ∀ m ∈ dwA, Fits m := fits_of_sz (n := 100) (by decide) (parse_sz (by decide) (by decide) dw1)
set_option maxHeartbeats 8000000 in
set_option maxRecDepth 100000 in
theorem wakes_d (w : World) (hT : Tab w) : Calls Tryz.prog 25 #[] w fun e w' => e = .returned (.bool true) ∧ New w w' := by
  have hN : New w w := Mods.refl _ _
  have H1 := Lib.hid (fun W (hN : New w W) => parse_ok ⟨#[117, 61, 49, 44, 32, 105]⟩ dwA 2 dw1 rfl W (by decide) (hT.new hN))
  have H3 := Lib.hid (fun W (hN : New w W) => parse_ok ⟨#[32, 97, 61, 40, 49, 32, 50, 59, 120, 41, 59, 121, 9, 44, 32, 9, 97, 32]⟩ dwO 1 dw3 rfl W (by decide) (hT.new hN))
  have H6 := Lib.hid (fun W (hN : New w W) => parse_no ⟨#[97, 44]⟩ dw6 W (by decide) (hT.new hN))
  have H7 := Lib.hid (fun W (hN : New w W) => parse_no ⟨#[97, 9]⟩ dw7 W (by decide) (hT.new hN))
  have H8 := Lib.hid (fun W (hN : New w W) => parse_no ⟨#[97, 61, 40, 49, 9, 50, 41]⟩ dw8 W (by decide) (hT.new hN))
  have H9 := Lib.hid (fun W (hN : New w W) => parse_ok ⟨#[32, 32]⟩ [] 0 dw9 rfl W (by decide) (hT.new hN))
  have H10 := Lib.hid (fun W (hN : New w W) => parse_ok ⟨#[97, 61, 40, 49, 32, 50, 59, 120, 41, 59, 121]⟩ dwI 1 dw10 rfl W (by decide) (hT.new hN))
  have H2 := Lib.hid (fun (v : Value) W (hN : New w W) {τ : Bool} (hv : RdD τ W v dwA) => (print_d v _ W hv prA (hT.new hN)).mono (R' := fun e w' => e = .returned (.tuple #[.string ⟨#[117, 61, 49, 44, 32, 105]⟩, .int .i64 0]) ∧ New W w') (by rintro e w' ⟨rfl, h⟩; exact ⟨by rw [dw2]; rfl, h⟩))
  have H11 := Lib.hid (fun (v : Value) W (hN : New w W) {τ : Bool} (hv : RdD τ W v [⟨[65], false, [], []⟩]) => (print_d v _ W hv prB (hT.new hN)).mono (R' := fun e w' => e = .returned (.tuple #[.string ⟨#[]⟩, .int .i64 2]) ∧ New W w') (by rintro e w' ⟨rfl, h⟩; exact ⟨by rw [dw11]; rfl, h⟩))
  have H12 := Lib.hid (fun (v : Value) W (hN : New w W) {τ : Bool} (hv : RdD τ W v dwI) => (print_d v _ W hv prI (hT.new hN)).mono (R' := fun e w' => e = .returned (.tuple #[.string ⟨#[97, 61, 40, 49, 32, 50, 59, 120, 41, 59, 121]⟩, .int .i64 0]) ∧ New W w') (by rintro e w' ⟨rfl, h⟩; exact ⟨by rw [dw12]; rfl, h⟩))
  have H4 := Lib.hid (fun (v : Value) W (hv : RdD true W v dwA) => (find_any v ⟨#[117]⟩ dwA W hv fitsA).mono (R' := fun e w' => ∃ ja pa jc pc, ∃ ip : Nat → Value, e = .returned (.tuple #[.agg #[.string ⟨#[117]⟩, .bool false, .slice ja 1 jc, .slice pa 0 pc], .bool true]) ∧ OwX W.heap.size w' (.slice ja 1 jc) 1 (fun i => ics (([⟨⟨1, 1, [], false⟩, []⟩] : List Bare.Itm).getD i Bare.noI) (ip i)) ∧ New W w') (by
    rintro e w' ⟨v', rfl, ho, h⟩
    rw [show bl ⟨#[117]⟩ = [117] from rfl, dw4] at ho ⊢
    obtain ⟨ja, pa, jc, pc, ip, rfl, h1, -, -⟩ := ho
    exact ⟨ja, pa, jc, pc, ip, rfl, h1, h⟩))
  have H5 := Lib.hid (fun (v : Value) W (hv : RdD true W v dwA) => (find_any v ⟨#[120]⟩ dwA W hv fitsA).mono (R' := fun e w' => ∃ ja pa jc pc, e = .returned (.tuple #[.agg #[.string ⟨#[]⟩, .bool false, .slice ja 0 jc, .slice pa 0 pc], .bool false]) ∧ New W w') (by
    rintro e w' ⟨v', rfl, ho, h⟩
    rw [show bl ⟨#[120]⟩ = [120] from rfl, dw5] at ho ⊢
    obtain ⟨ja, pa, jc, pc, ip, rfl, h1, -, -⟩ := ho
    exact ⟨ja, pa, jc, pc, rfl, h⟩))
  clear hT
  go_enter Tryz.func25, Tryz.ntmps25
  go_wp2_with fail
  refine (H1.out _ hN).mono ?_
  rintro e wz ⟨la, lc, rfl, hA, hk⟩
  replace hN := hN.trans hk
  have HA := Lib.hid hA
  clear hA
  clear hk
  go_wp2_with fail
  refine (H2.out _ _ hN HA.out).mono ?_
  rintro e wz ⟨rfl, hk⟩
  replace hN := hN.trans hk
  have HA := Lib.hid (HA.out.new hk)
  clear hk
  go_wp2_with fail
  refine (H3.out _ hN).mono ?_
  rintro e wz ⟨oa, oc, rfl, hO, hk⟩
  replace hN := hN.trans hk
  have HA := Lib.hid (HA.out.new hk)
  have HO := Lib.hid hO
  clear hO
  clear hk
  go_wp2_with fail
  refine (H4.out _ _ HA.out).mono ?_
  rintro e wz ⟨ja, pa, jc, pc, ip, rfl, hX, hk⟩
  replace hN := hN.trans hk
  have HA := Lib.hid (HA.out.new hk)
  have HO := Lib.hid (HO.out.new hk)
  have HX := Lib.hid hX
  clear hX
  clear hk
  go_upto_region 5 with fail
  have rB7 := World.alloc_heap_new wz (.cells #[.string ⟨#[117]⟩, .bool false, .slice ja 1 jc, .slice pa 0 pc] 64)
  have hk : New wz (wz.alloc (.cells #[.string ⟨#[117]⟩, .bool false, .slice ja 1 jc, .slice pa 0 pc] 64)) := (Mods.refl _ _).alloc _
  obtain ⟨w4, hw4⟩ : ∃ V, wz.alloc (.cells #[.string ⟨#[117]⟩, .bool false, .slice ja 1 jc, .slice pa 0 pc] 64) = V := ⟨_, rfl⟩
  obtain ⟨B7, hB⟩ : ∃ b, wz.heap.size = b := ⟨_, rfl⟩
  rw [hw4] at rB7 hk ⊢
  rw [hB] at rB7 ⊢
  clear hw4 hB
  replace hN := hN.trans hk
  have HA := Lib.hid (HA.out.new hk)
  have HO := Lib.hid (HO.out.new hk)
  have HX := Lib.hid (HX.out.new hk)
  clear hk
  go_wp2_with fail
  refine (H5.out _ _ HA.out).mono ?_
  rintro e wz ⟨ja5, pa5, jc5, pc5, rfl, hk⟩
  replace hN := hN.trans hk
  have HA := Lib.hid (HA.out.new hk)
  have HO := Lib.hid (HO.out.new hk)
  have HX := Lib.hid (HX.out.new hk)
  replace rB7 := hk.heap rB7 id
  clear hk
  go_upto_region 6 with fail
  have rB9 := World.alloc_heap_new wz (.cells #[.string ⟨#[]⟩, .bool false, .slice ja5 0 jc5, .slice pa5 0 pc5] 64)
  have hk : New wz (wz.alloc (.cells #[.string ⟨#[]⟩, .bool false, .slice ja5 0 jc5, .slice pa5 0 pc5] 64)) := (Mods.refl _ _).alloc _
  obtain ⟨w5, hw5⟩ : ∃ V, wz.alloc (.cells #[.string ⟨#[]⟩, .bool false, .slice ja5 0 jc5, .slice pa5 0 pc5] 64) = V := ⟨_, rfl⟩
  obtain ⟨B9, hB⟩ : ∃ b, wz.heap.size = b := ⟨_, rfl⟩
  rw [hw5] at rB9 hk ⊢
  rw [hB] at rB9 ⊢
  clear hw5 hB
  replace hN := hN.trans hk
  have HA := Lib.hid (HA.out.new hk)
  have HO := Lib.hid (HO.out.new hk)
  have HX := Lib.hid (HX.out.new hk)
  replace rB7 := hk.heap rB7 id
  clear hk
  go_wp2_with fail
  refine (H6.out _ hN).mono ?_
  rintro e wz ⟨rfl, hk⟩
  replace hN := hN.trans hk
  have HA := Lib.hid (HA.out.new hk)
  have HO := Lib.hid (HO.out.new hk)
  have HX := Lib.hid (HX.out.new hk)
  replace rB7 := hk.heap rB7 id
  clear hk
  go_wp2_with fail
  refine (H7.out _ hN).mono ?_
  rintro e wz ⟨rfl, hk⟩
  replace hN := hN.trans hk
  have HA := Lib.hid (HA.out.new hk)
  have HO := Lib.hid (HO.out.new hk)
  have HX := Lib.hid (HX.out.new hk)
  replace rB7 := hk.heap rB7 id
  clear hk
  go_wp2_with fail
  refine (H8.out _ hN).mono ?_
  rintro e wz ⟨rfl, hk⟩
  replace hN := hN.trans hk
  have HA := Lib.hid (HA.out.new hk)
  have HO := Lib.hid (HO.out.new hk)
  have HX := Lib.hid (HX.out.new hk)
  replace rB7 := hk.heap rB7 id
  clear hk
  go_wp2_with fail
  refine (H9.out _ hN).mono ?_
  rintro e wz ⟨na, nc, rfl, -, hk⟩
  replace hN := hN.trans hk
  have HA := Lib.hid (HA.out.new hk)
  have HO := Lib.hid (HO.out.new hk)
  have HX := Lib.hid (HX.out.new hk)
  replace rB7 := hk.heap rB7 id
  clear hk
  go_wp2_with fail
  refine (H10.out _ hN).mono ?_
  rintro e wz ⟨ia, ic, rfl, hI, hk⟩
  replace hN := hN.trans hk
  have HA := Lib.hid (HA.out.new hk)
  have HO := Lib.hid (HO.out.new hk)
  have HX := Lib.hid (HX.out.new hk)
  replace rB7 := hk.heap rB7 id
  have HI := Lib.hid hI
  clear hI
  clear hk
  go_wp2_with fail
  have hbd := bare_d wz [65]
  rw [show tx [65] = ⟨#[65]⟩ from rfl] at hbd
  have hk0 : New wz (wz.alloc (.cells #[.string ⟨#[65]⟩, .bool false, .slice none 0 0, .slice none 0 0] 64)) := (Mods.refl _ _).alloc _
  refine (H11.out _ _ (hN.trans hk0) hbd).mono ?_
  rintro e w11 ⟨rfl, hk1⟩
  have hk := hk0.trans hk1
  clear hk0 hk1 hbd
  replace hN := hN.trans hk
  have HA := Lib.hid (HA.out.new hk)
  have HO := Lib.hid (HO.out.new hk)
  have HX := Lib.hid (HX.out.new hk)
  replace rB7 := hk.heap rB7 id
  have HI := Lib.hid (HI.out.new hk)
  clear hk
  go_wp2_with fail
  refine (H12.out _ _ hN HI.out).mono ?_
  rintro e w12 ⟨rfl, hk⟩
  replace hN := hN.trans hk
  have HA := Lib.hid (HA.out.new hk)
  have HO := Lib.hid (HO.out.new hk)
  have HX := Lib.hid (HX.out.new hk)
  replace rB7 := hk.heap rB7 id
  have HI := Lib.hid (HI.out.new hk)
  clear hk
  clear H1 H2 H3 H4 H5 H6 H7 H8 H9 H10 H11 H12
  obtain ⟨ub, uo, e, hu⟩ := (HX.out.row (by decide)).at.2.2 0 (by decide)
  subst e
  obtain ⟨u0, u1, u2, u3, -⟩ := cells5 hu
  simp only [Nat.zero_mul, Nat.add_zero] at u0 u1 u2 u3
  obtain ⟨iv, pv, q1, -, q3⟩ := HI.out
  obtain ⟨ib, io, e, hi⟩ := q1.at.2.2 0 (by decide)
  subst e
  obtain ⟨i0, i1, i2, i3⟩ := cells4 hi
  obtain ⟨q4, q5⟩ := q3 0 (by decide)
  obtain ⟨xa, xc, hx⟩ := q4.slice
  obtain ⟨ya, yc, hy⟩ := q5.slice
  rw [hx] at i2
  rw [hy] at i3
  simp only [Nat.zero_mul, Nat.add_zero] at i1 i2 i3
  have k2 := cell_of_row _ _ 2 _ _ _ rB7
  simp only [List.getElem?_toArray, List.getElem?_cons_succ, List.getElem?_cons_zero] at k2
  have i1' : w12.cell? ⟨ib, io + 1, none⟩ = some (.bool true) := i1
  have i2' : w12.cell? ⟨ib, io + 2, none⟩ = some (.slice xa 2 xc) := i2
  have i3' : w12.cell? ⟨ib, io + 3, none⟩ = some (.slice ya 1 yc) := i3
  have u0' : w12.cell? ⟨ub, uo, none⟩ = some (.int .u8 1) := u0
  have u1' : w12.cell? ⟨ub, uo + 1, none⟩ = some (.int .i64 1) := u1
  have u2' : w12.cell? ⟨ub, uo + 2, none⟩ = some (.string ⟨#[]⟩) := u2
  have u3' : w12.cell? ⟨ub, uo + 3, none⟩ = some (.bool false) := u3
  clear hu u0 u1 u2 u3 q1 q3 hi i0 i1 i2 i3 q4 q5 hx hy iv pv
  go_upto_region 15 with fail
  clear HX rB7
  refine piece (fun _ => _) (wk13 (pm := 0) _ rfl w12 rfl rfl rfl rfl rfl rfl rfl rfl rfl rfl rfl rfl rfl rfl rfl rfl rfl rfl rfl k2 u0' u1' u2' u3' i1' i3' HO HI) ?_
  rintro ⟨z, dfs⟩ w15 ⟨⟨hs, hd, hq0⟩, hN15⟩
  simp only at hs hd hq0
  subst hd
  obtain ⟨u, rfl⟩ := lit224 z hs
  have hp0 : u 0 = .bool true := hq0
  rw [hp0]
  clear hp0 hq0 hs
  go_wp2_with fail
  go_ret
  exact ⟨rfl, hN.trans hN15⟩
end Go.Proofs.YtkiiameibdhdfaaGreatDoor
/- Sizes of dictionaries, plainly. -/
namespace Go.Proofs.YtkiiameibdhdfaaGreatDoor
set_option linter.unusedVariables false
def sumTo (f : Nat → Nat) : Nat → Nat
  | 0 => 0
  | k + 1 => sumTo f k + f k
theorem sumTo_mono {f : Nat → Nat} {i j : Nat} (h : i ≤ j) : sumTo f i ≤ sumTo f j := by
  induction j with
  | zero => obtain rfl : i = 0 := by omega
            exact Nat.le_refl _
  | succ j ih =>
    by_cases e : i = j + 1
    · subst e; exact Nat.le_refl _
    · have := ih (by omega)
      show _ ≤ sumTo f j + f j
      omega
theorem sumTo_at {f : Nat → Nat} {i n : Nat} (h : i < n) : f i ≤ sumTo f n := by
  have := sumTo_mono (f := f) (show i + 1 ≤ n from h)
  have e : sumTo f (i + 1) = sumTo f i + f i := rfl
  omega
theorem sumTo_le {f g : Nat → Nat} {c : Nat} : ∀ {n : Nat}, (∀ i, i < n → f i ≤ c * g i) → sumTo f n ≤ c * sumTo g n
  | 0, _ => Nat.zero_le _
  | n + 1, h => by
    have h1 := sumTo_le (f := f) (g := g) (c := c) (n := n) fun i hi => h i (by omega)
    have h2 := h n (by omega)
    show sumTo f n + f n ≤ c * (sumTo g n + g n)
    rw [Nat.mul_add]
    omega
theorem sumTo_add (f g : Nat → Nat) : ∀ n, sumTo (fun i => f i + g i) n = sumTo f n + sumTo g n
  | 0 => rfl
  | n + 1 => by
    show sumTo (fun i => f i + g i) n + (f n + g n) = sumTo f n + f n + (sumTo g n + g n)
    rw [sumTo_add f g n]
    omega
theorem sumTo_const (c : Nat) : ∀ n, sumTo (fun _ => c) n = n * c
  | 0 => by simp [sumTo]
  | n + 1 => by
    show sumTo (fun _ => c) n + c = _
    rw [sumTo_const c n, Nat.succ_mul]
def pB (p : Bare.Par) : Nat := p.key.length + p.bare.text.length
def psB (L : List Bare.Par) (k : Nat) : Nat := sumTo (fun j => pB (L.getD j noP)) k
def xB (x : Bare.Itm) : Nat := x.bare.text.length + psB x.params x.params.length
def xsB (L : List Bare.Itm) (k : Nat) : Nat := sumTo (fun j => xB (L.getD j Bare.noI)) k
def xsN (L : List Bare.Itm) (k : Nat) : Nat := sumTo (fun j => (L.getD j Bare.noI).params.length) k
def mN (m : Bare.Mem) : Nat := m.items.length + m.params.length + xsN m.items m.items.length
def mB (m : Bare.Mem) : Nat := m.key.length + psB m.params m.params.length + xsB m.items m.items.length
def dN (d : List Bare.Mem) (i : Nat) : Nat := d.length + sumTo (fun j => mN (d.getD j noM)) i
def dB (d : List Bare.Mem) (i : Nat) : Nat := sumTo (fun j => mB (d.getD j noM)) i
def S47 : Nat := 140737488355328
/-- Texts that memory holds. -/
def Str47P (L : List Bare.Par) : Prop := ∀ j, j < L.length → (L.getD j noP).key.length ≤ S47 ∧ (L.getD j noP).bare.text.length ≤ S47
def Str47X (L : List Bare.Itm) : Prop := ∀ j, j < L.length → (L.getD j Bare.noI).bare.text.length ≤ S47 ∧ Str47P (L.getD j Bare.noI).params
def Str47 (d : List Bare.Mem) : Prop := ∀ j, j < d.length → (d.getD j noM).key.length ≤ S47 ∧ Str47P (d.getD j noM).params ∧ Str47X (d.getD j noM).items
theorem psB_le {L : List Bare.Par} (h : Str47P L) {k : Nat} (hk : k ≤ L.length) : psB L k ≤ 2 * S47 * k := by
  have := sumTo_le (f := fun j => pB (L.getD j noP)) (g := fun _ => 1) (c := 2 * S47) (n := k) fun i hi => by
    have := h i (by omega)
    show pB _ ≤ _
    unfold pB
    omega
  rw [sumTo_const] at this
  unfold psB
  rw [Nat.mul_one] at this
  exact this
theorem xB_le {x : Bare.Itm} (h1 : x.bare.text.length ≤ S47) (h : Str47P x.params) : xB x ≤ 2 * S47 * (1 + x.params.length) := by
  have := psB_le h (Nat.le_refl _)
  unfold xB
  rw [Nat.mul_add]
  omega
theorem xsB_le {L : List Bare.Itm} (h : Str47X L) {k : Nat} (hk : k ≤ L.length) : xsB L k ≤ 2 * S47 * (k + xsN L k) := by
  have := sumTo_le (f := fun j => xB (L.getD j Bare.noI)) (g := fun j => 1 + (L.getD j Bare.noI).params.length) (c := 2 * S47) (n := k) fun i hi => by
    have := h i (by omega)
    exact xB_le this.1 this.2
  rw [sumTo_add, sumTo_const, Nat.mul_one] at this
  exact this
theorem mB_le {m : Bare.Mem} (h0 : m.key.length ≤ S47) (h1 : Str47P m.params) (h2 : Str47X m.items) : mB m ≤ 2 * S47 * (1 + mN m) := by
  have a := psB_le h1 (Nat.le_refl _)
  have b := xsB_le h2 (Nat.le_refl _)
  unfold mB mN
  have e : 2 * S47 * (1 + (m.items.length + m.params.length + xsN m.items m.items.length)) = 2 * S47 + 2 * S47 * m.params.length + 2 * S47 * (m.items.length + xsN m.items m.items.length) := by
    rw [show 1 + (m.items.length + m.params.length + xsN m.items m.items.length) = 1 + m.params.length + (m.items.length + xsN m.items m.items.length) by omega, Nat.mul_add, Nat.mul_add, Nat.mul_one]
  omega
theorem dB_le {d : List Bare.Mem} (h : Str47 d) {i : Nat} (hi : i ≤ d.length) : dB d i ≤ 2 * S47 * (i + sumTo (fun j => mN (d.getD j noM)) i) := by
  have := sumTo_le (f := fun j => mB (d.getD j noM)) (g := fun j => 1 + mN (d.getD j noM)) (c := 2 * S47) (n := i) fun k hk => by
    obtain ⟨h1, h2, h3⟩ := h k (by omega)
    exact mB_le h1 h2 h3
  rw [sumTo_add, sumTo_const, Nat.mul_one] at this
  exact this
/-- What is not too great. -/
theorem small_parts {d : List Bare.Mem} (hn : dN d d.length ≤ 40) (hb : dB d d.length ≤ 2000) : d.length ≤ 40 ∧ ∀ m ∈ d, m.key.length ≤ 2000 ∧ m.items.length ≤ 40 ∧ m.params.length ≤ 40 ∧ (∀ p ∈ m.params, p.key.length ≤ 2000 ∧ p.bare.text.length ≤ 2000) ∧ ∀ x ∈ m.items, x.bare.text.length ≤ 2000 ∧ x.params.length ≤ 40 ∧ ∀ p ∈ x.params, p.key.length ≤ 2000 ∧ p.bare.text.length ≤ 2000 := by
  have hget : ∀ {α : Type} {l : List α} {a d : α}, a ∈ l → ∃ i, i < l.length ∧ l.getD i d = a := fun {α} {l} {a} {d} h => by
    obtain ⟨i, hi⟩ := List.getElem?_of_mem h
    exact ⟨i, (List.getElem?_eq_some_iff.1 hi).1, by rw [List.getD_eq_getElem?_getD, hi]; rfl⟩
  have hps : ∀ (L : List Bare.Par) (p : Bare.Par), p ∈ L → pB p ≤ psB L L.length := fun L p hp => by
    obtain ⟨i, hi, e⟩ := hget (d := noP) hp
    have := sumTo_at (f := fun j => pB (L.getD j noP)) hi
    simp only [e] at this
    exact this
  unfold dN at hn
  refine ⟨by omega, fun m hm => ?_⟩
  obtain ⟨i, hi, e⟩ := hget (d := noM) hm
  have h1 := sumTo_at (f := fun j => mN (d.getD j noM)) hi
  have h2 := sumTo_at (f := fun j => mB (d.getD j noM)) hi
  simp only [e] at h1 h2
  have h2 : mB m ≤ dB d d.length := h2
  have hmN : mN m = m.items.length + m.params.length + xsN m.items m.items.length := rfl
  have hmB : mB m = m.key.length + psB m.params m.params.length + xsB m.items m.items.length := rfl
  refine ⟨by omega, by omega, by omega, fun p hp => ?_, fun x hx => ?_⟩
  · have := hps _ p hp
    unfold pB at this
    omega
  · obtain ⟨k, hk, e'⟩ := hget (d := Bare.noI) hx
    have h3 := sumTo_at (f := fun j => (m.items.getD j Bare.noI).params.length) hk
    have h4 := sumTo_at (f := fun j => xB (m.items.getD j Bare.noI)) hk
    simp only [e'] at h3 h4
    have h3 : x.params.length ≤ xsN m.items m.items.length := h3
    have h4 : xB x ≤ xsB m.items m.items.length := h4
    have hx : xB x = x.bare.text.length + psB x.params x.params.length := rfl
    refine ⟨by omega, by omega, fun p hp => ?_⟩
    have := hps _ p hp
    unfold pB at this
    omega
end Go.Proofs.YtkiiameibdhdfaaGreatDoor
