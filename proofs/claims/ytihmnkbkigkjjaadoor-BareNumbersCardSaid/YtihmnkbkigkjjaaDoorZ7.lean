/- Sixes read (the program). -/
import Derived.Test.YtihmnkbkigkjjaaDoorZ5
namespace Go.Proofs.YtihmnkbkigkjjaaDoor
open Go.RowKit Go.Shelf Go.Cs
attribute [local go_sem] Oper.semAt_some
set_option linter.unusedVariables false
set_option linter.unusedSimpArgs false
theorem trimB_lib (c : UInt8) (l : Bare.Bs) : Lib.trimRightB l c = Bare.trimR c l := by
  first | rfl | (unfold Lib.trimRightB Bare.trimR; rfl)
/-- What is left of letters, told so far. -/
def sofar (short acc : Bare.Bs) (N bt k : Nat) : Prop := Bare.take6 0 0 short = (Bare.take6 (N % 2 ^ bt) bt (short.drop k)).map (acc ++ ·)
theorem sofar_none {short acc : Bare.Bs} {N bt k : Nat} {c : UInt8} (h : sofar short acc N bt k) (hd : short.drop k = c :: short.drop (k + 1)) (hv : Bare.v6 c = none) : Bare.take6 0 0 short = none := by
  rw [h, hd, Bare.t6_no _ _ _ _ hv]; rfl
theorem sofar_few {short acc : Bare.Bs} {N bt k v : Nat} {c : UInt8} (h : sofar short acc N bt k) (hd : short.drop k = c :: short.drop (k + 1)) (hv : Bare.v6 c = some v) (hb : bt = 0) : sofar short acc ((N * 64 + v) % 4294967296) (bt + 6) (k + 1) := by
  unfold sofar at h ⊢
  rw [h, hd, Bare.take6_few N bt c _ v hv hb]
theorem sofar_more {short acc : Bare.Bs} {N bt k v : Nat} {c : UInt8} (h : sofar short acc N bt k) (hd : short.drop k = c :: short.drop (k + 1)) (hv : Bare.v6 c = some v) (hb : bt = 2 ∨ bt = 4 ∨ bt = 6) :
    sofar short (acc ++ [UInt8.ofNat ((N * 64 + v) % 4294967296 / 2 ^ (bt - 2) % 256)]) ((N * 64 + v) % 4294967296) (bt - 2) (k + 1) := by
  unfold sofar at h ⊢
  rw [h, hd, Bare.take6_more N bt c _ v hv hb, Option.map_map]
  congr 1
  funext l
  simp
theorem sofar_end {short acc : Bare.Bs} {N bt k : Nat} (h : sofar short acc N bt k) (hk : short.length ≤ k) : Bare.take6 0 0 short = if N % 2 ^ bt = 0 then some acc else none := by
  unfold sofar at h
  rw [h, List.drop_eq_nil_of_le hk, Bare.take6_end]
  split <;> simp
theorem or64 (N v : Nat) (hv : v < 64) : bits BinOp.or IntKind.u32 ((N : Int) * 64 % 4294967296) (v : Int) = (((N * 64 + v) % 4294967296 : Nat) : Int) := by
  have e : ((N : Int) * 64 % 4294967296) = ((N * 64 % 4294967296 : Nat) : Int) := by omega
  have e2 : N * 64 % 4294967296 = (N % 67108864) <<< 6 := by rw [Nat.shiftLeft_eq]; omega
  rw [e, u32_or_nat _ _ (by omega) (by omega), e2, ← Nat.shiftLeft_add_eq_or_of_lt (by omega : v < 2 ^ 6), Nat.shiftLeft_eq]
  congr 1
  omega
def unsixV (r : Option Bare.Bs) : Value := match r with
  | some l => .tuple #[.string (tx l), .bool true]
  | none => .tuple #[.string ⟨#[]⟩, .bool false]
theorem lit62 (t : Array Value) (h : t.size = 62) : ∃ u : Nat → Value, t = (u 0 :: u 1 :: u 2 :: u 3 :: u 4 :: u 5 :: u 6 :: u 7 :: u 8 :: u 9 :: u 10 :: u 11 :: u 12 :: u 13 :: u 14 :: u 15 :: u 16 :: u 17 :: u 18 :: u 19 :: u 20 :: u 21 :: u 22 :: u 23 :: u 24 :: u 25 :: u 26 :: u 27 :: u 28 :: u 29 :: u 30 :: u 31 :: u 32 :: u 33 :: u 34 :: u 35 :: u 36 :: u 37 :: u 38 :: u 39 :: u 40 :: u 41 :: u 42 :: u 43 :: u 44 :: u 45 :: u 46 :: u 47 :: u 48 :: u 49 :: u 50 :: u 51 :: u 52 :: u 53 :: u 54 :: u 55 :: u 56 :: u 57 :: u 58 :: u 59 :: u 60 :: u 61 :: ([] : List Value)).toArray := ⟨fun i => t.getD i undef, range_lit t 62 h⟩
set_option maxHeartbeats 4000000 in
set_option maxRecDepth 100000 in
theorem unsix_any (s : ByteArray) (w : World) (hs : s.size ≤ 1000000) :
    Calls Tryd.prog 12 #[.string s] w fun e w' => e = .returned (unsixV (Bare.unsix (bl s))) ∧ New w w' := by
  obtain ⟨r, hr⟩ : ∃ r, Bare.unsix (bl s) = r := ⟨_, rfl⟩
  have HR := Lib.hid hr
  unfold Bare.unsix at HR
  rw [hr]
  clear hr
  have HT := Lib.hid (fun W => (Tryd.strings_TrimRight_one s 61 (by decide) W (by omega)).mono fun e w' h => show e = .returned (.string (tx (Bare.trimR 61 (bl s)))) ∧ W = w' from ⟨by rw [h.1, trimB_lib], h.2.symm⟩)
  have hle : (Bare.trimR 61 (bl s)).length ≤ s.size := by
    obtain ⟨k, hk⟩ := Bare.trimR_spec 61 (bl s)
    have := congrArg List.length hk
    rw [List.length_append, bl_len] at this
    omega
  obtain ⟨sh, hsh⟩ : ∃ x, Bare.trimR 61 (bl s) = x := ⟨_, rfl⟩
  obtain ⟨t, ht⟩ : ∃ t, tx sh = t := ⟨_, rfl⟩
  have htl : sh = bl t := by rw [← ht]
  have hts : sh.length = t.size := by rw [← ht, tx_size]
  simp only [hsh, bl_len] at HR
  rw [hsh, ht] at HT
  rw [hsh, hts] at hle
  rw [hts] at HR
  clear hsh ht hts
  subst htl
  go_enter Tryd.func12, Tryd.ntmps12
  go_upto_region 1 with fail
  refine wp_scope_fwd 0 (fun a W => (a.tmps.size = 62 ∧ a.defers = []) ∧ Hid (r = none) ∧ New w W) rfl ?first ?pass
  case pass =>
    rintro ⟨z, dfs⟩ W ⟨⟨hs, hd⟩, hrn, hN⟩
    simp only at hs hd
    subst hd
    obtain ⟨u, rfl⟩ := lit62 z hs
    clear hs
    have hr := hrn.out
    subst hr
    clear hrn HR
    go_wp2_with fail
    rw [Exit.noGoto_ret]
    go_ret2
    exact ⟨rfl, hN⟩
  case first =>
    have hN0 : New w w := Mods.refl _ _
    by_cases h4 : s.size % 4 = 0
    case neg =>
      have g4 : ¬ (s.size : Int) % 4 = 0 := by omega
      have hrn : Hid (r = none) := Lib.hid (by rw [← HR.out, if_pos (.inl h4)])
      clear HR h4 hle
      go_wp2_with (go_at_call 28; refine (HT.out _).mono ?_; rintro e w' ⟨rfl, rfl⟩)
      exact wp_goto (And.intro rfl ⟨⟨rfl, rfl⟩, hrn, hN0⟩)
    by_cases h2 : 2 < s.size - t.size
    · have g4 : (s.size : Int) % 4 = 0 := by omega
      have g2 : 2 < (s.size : Int) - (t.size : Int) := by omega
      have hrn : Hid (r = none) := Lib.hid (by rw [← HR.out, if_pos (.inr h2)])
      clear HR h4 hle h2
      go_wp2_with (go_at_call 28; refine (HT.out _).mono ?_; rintro e w' ⟨rfl, rfl⟩)
      exact wp_goto (And.intro rfl ⟨⟨rfl, rfl⟩, hrn, hN0⟩)
    have g4 : (s.size : Int) % 4 = 0 := by omega
    have g2 : (s.size : Int) - (t.size : Int) ≤ 2 := by omega
    have hr : Hid (Bare.take6 0 0 (bl t) = r) := Lib.hid (by rw [← HR.out, if_neg (by rintro (h | h); exact h h4; exact h2 h)])
    have hts : t.size ≤ 1000000 := by omega
    clear HR h4 hle h2
    go_wp2_with (go_at_call 28; refine (HT.out _).mono ?_; rintro e w' ⟨rfl, rfl⟩)
    clear HT g4 g2
    obtain ⟨i0, hi, hz0, hz1, hz2⟩ := info_parts infoB'
    go_loopw [26, 4, 5, 6] (fun c v n b wr => ∃ (k : Nat) (acc : Bare.Bs) (N bt : Nat), k ≤ t.size ∧ c = .int .i64 k ∧ n = .int .u32 N ∧ b = .int .i64 bt ∧ wr.ownsRow w.heap.size 5 1 v acc.length (u8s acc) ∧ New w wr ∧ Hid (sofar (bl t) acc N bt k) ∧ N < 4294967296 ∧ (bt = 0 ∨ bt = 2 ∨ bt = 4 ∨ bt = 6) ∧ acc.length ≤ k) (fun c _ _ _ _ => t.size - (intOf c).toNat)
    case atStart => exact ⟨0, [], 0, 0, Nat.zero_le _, rfl, rfl, rfl, World.ownsRow_nil _ _ _ _, hN0, Lib.hid (by unfold sofar; simp), by omega, .inl rfl, Nat.zero_le _⟩
    case round =>
      obtain ⟨k, acc, N, bt, hk, rfl, rfl, rfl, hown, hN, hso, hN32, hbt, hacc⟩ := hrel
      by_cases hlt : k < t.size
      · have hkd : decide ((k : Int) < (t.size : Int)) = true := decide_eq_true (by omega)
        have hix := run_idx t k hlt
        have hdr : (bl t).drop k = gb t k :: (bl t).drop (k + 1) := by
          have := gb_get t k hlt
          obtain ⟨h1, h2⟩ := List.getElem?_eq_some_iff.1 this
          rw [List.drop_eq_getElem_cons h1, h2]
        have hback : ((gb t k).toNat : Int).toNat.toUInt8 = gb t k := by simp
        have HK : ∀ W, Calls Tryd.prog 29 #[.string (tx Bare.sx), .int .u8 ((gb t k).toNat : Nat)] W fun e w' => e = .returned (.int .i64 (match Bare.v6 (gb t k) with | some v => (v : Int) | none => -1)) ∧ W = w' := fun W =>
          (Tryd.strings_IndexByte _ _ W).mono (by rintro e w' ⟨rfl, hw⟩; rw [hback]; exact ⟨congrArg (fun z => Ending.returned (.int .i64 z)) (Bare.index_v6 _), hw.symm⟩)
        cases hv : Bare.v6 (gb t k) with
        | none =>
          have hrn : Hid (r = none) := Lib.hid (by rw [← hr.out]; exact sofar_none hso.out hdr hv)
          rw [hv] at HK
          simp only at HK
          have HK := Lib.hid HK
          clear hso hdr hv hr
          go_wp2_with (go_at_call 29; refine (HK.out _).mono ?_; rintro e w' ⟨rfl, rfl⟩)
          exact wp_goto (And.intro rfl ⟨⟨rfl, rfl⟩, hrn, hN⟩)
        | some v =>
          have hv64 := (Bare.v6_facts hv).1
          rw [hv] at HK
          simp only at HK
          have HK := Lib.hid HK
          go_upto_region 10 with (go_at_call 29; refine (HK.out _).mono ?_; rintro e w' ⟨rfl, rfl⟩)
          have hor := or64 N v hv64
          obtain ⟨N2, hN2⟩ : ∃ N2, (N * 64 + v) % 4294967296 = N2 := ⟨_, rfl⟩
          rw [hN2] at hor
          have hN2l : N2 < 4294967296 := by omega
          clear hix hkd hback
          by_cases hb0 : bt = 0
          · have hs2 := Lib.hid (sofar_few hso.out hdr hv hb0)
            rw [hN2] at hs2
            subst hb0
            clear hso hdr hv hN2
            go_wp2_with fail
            go_roundw
            case rel => exact ⟨k + 1, acc, N2, 6, by omega, by go_num, rfl, by go_num, hown, hN, hs2, hN2l, by omega, by omega⟩
            case measure => simp [intOf]; omega
          · have hs2 := Lib.hid (sofar_more hso.out hdr hv (by omega))
            rw [hN2] at hs2
            clear hso hdr hv hN2
            have hb2 : bt = 2 ∨ bt = 4 ∨ bt = 6 := by omega
            clear hb0 hbt
            rcases hb2 with rfl | rfl | rfl
            · have hz : ((UInt8.ofNat (N2 / 2 ^ (2 - 2) % 256)).toNat : Int) = (N2 : Int) % 256 := by rw [byte_val]; simp
              obtain ⟨cc, hcc⟩ : ∃ cc, UInt8.ofNat (N2 / 2 ^ (2 - 2) % 256) = cc := ⟨_, rfl⟩
              rw [hcc] at hz hs2
              clear hcc
              go_upto_region 13 with fail
              go_wp2_with (at_builtin; refine wpList_append_own _ rfl _ _ 43 rfl w.heap.size 5 i0 _ 1 1 Tryd.underlying43 hi hz0 hz1 hz2 rfl (by decide) _ _ _ rfl (hown.alloc _) ⟨wr.heap.size, 0, none⟩ 1 1 [.int .u8 ((N2 : Int) % 256)] rfl rfl ?c1 ?c2 ?c3 ?c4 ?c5 ?_)
              case c1 => exact cell_one_new _ _ _
              case c2 => simp [Value.oneCell']
              case c3 => unfold maxLen; omega
              case c4 => have := hown.1; simp; omega
              case c5 => have := hN.size; simp; omega
              intro v' W2 hown' hgrow _
              have hN3 : New w W2 := (hN.alloc _).grown hgrow (fun g hg => .inl (hown.lt g hg).1)
              have hown3 : W2.ownsRow w.heap.size 5 1 v' (acc ++ [cc]).length (u8s (acc ++ [cc])) := by
                have : u8s (acc ++ [cc]) = u8s acc ++ [.int .u8 ((N2 : Int) % 256)] := by rw [u8s_snoc, hz]
                rw [this, List.length_append]
                exact hown'
              clear hown hown' hgrow
              go_wp2_with fail
              go_roundw
              case rel => exact ⟨k + 1, acc ++ [cc], N2, 2 - 2, by omega, by go_num, rfl, rfl, hown3, hN3, hs2, hN2l, by omega, by rw [List.length_append]; show acc.length + 1 ≤ k + 1; omega⟩
              case measure => simp [intOf]; omega
            · have hz : ((UInt8.ofNat (N2 / 2 ^ (4 - 2) % 256)).toNat : Int) = (N2 : Int) / 4 % 256 := by rw [byte_val]; simp
              obtain ⟨cc, hcc⟩ : ∃ cc, UInt8.ofNat (N2 / 2 ^ (4 - 2) % 256) = cc := ⟨_, rfl⟩
              rw [hcc] at hz hs2
              clear hcc
              go_upto_region 13 with fail
              go_wp2_with (at_builtin; refine wpList_append_own _ rfl _ _ 43 rfl w.heap.size 5 i0 _ 1 1 Tryd.underlying43 hi hz0 hz1 hz2 rfl (by decide) _ _ _ rfl (hown.alloc _) ⟨wr.heap.size, 0, none⟩ 1 1 [.int .u8 ((N2 : Int) / 4 % 256)] rfl rfl ?c1 ?c2 ?c3 ?c4 ?c5 ?_)
              case c1 => exact cell_one_new _ _ _
              case c2 => simp [Value.oneCell']
              case c3 => unfold maxLen; omega
              case c4 => have := hown.1; simp; omega
              case c5 => have := hN.size; simp; omega
              intro v' W2 hown' hgrow _
              have hN3 : New w W2 := (hN.alloc _).grown hgrow (fun g hg => .inl (hown.lt g hg).1)
              have hown3 : W2.ownsRow w.heap.size 5 1 v' (acc ++ [cc]).length (u8s (acc ++ [cc])) := by
                have : u8s (acc ++ [cc]) = u8s acc ++ [.int .u8 ((N2 : Int) / 4 % 256)] := by rw [u8s_snoc, hz]
                rw [this, List.length_append]
                exact hown'
              clear hown hown' hgrow
              go_wp2_with fail
              go_roundw
              case rel => exact ⟨k + 1, acc ++ [cc], N2, 4 - 2, by omega, by go_num, rfl, rfl, hown3, hN3, hs2, hN2l, by omega, by rw [List.length_append]; show acc.length + 1 ≤ k + 1; omega⟩
              case measure => simp [intOf]; omega
            · have hz : ((UInt8.ofNat (N2 / 2 ^ (6 - 2) % 256)).toNat : Int) = (N2 : Int) / 16 % 256 := by rw [byte_val]; simp
              obtain ⟨cc, hcc⟩ : ∃ cc, UInt8.ofNat (N2 / 2 ^ (6 - 2) % 256) = cc := ⟨_, rfl⟩
              rw [hcc] at hz hs2
              clear hcc
              go_upto_region 13 with fail
              go_wp2_with (at_builtin; refine wpList_append_own _ rfl _ _ 43 rfl w.heap.size 5 i0 _ 1 1 Tryd.underlying43 hi hz0 hz1 hz2 rfl (by decide) _ _ _ rfl (hown.alloc _) ⟨wr.heap.size, 0, none⟩ 1 1 [.int .u8 ((N2 : Int) / 16 % 256)] rfl rfl ?c1 ?c2 ?c3 ?c4 ?c5 ?_)
              case c1 => exact cell_one_new _ _ _
              case c2 => simp [Value.oneCell']
              case c3 => unfold maxLen; omega
              case c4 => have := hown.1; simp; omega
              case c5 => have := hN.size; simp; omega
              intro v' W2 hown' hgrow _
              have hN3 : New w W2 := (hN.alloc _).grown hgrow (fun g hg => .inl (hown.lt g hg).1)
              have hown3 : W2.ownsRow w.heap.size 5 1 v' (acc ++ [cc]).length (u8s (acc ++ [cc])) := by
                have : u8s (acc ++ [cc]) = u8s acc ++ [.int .u8 ((N2 : Int) / 16 % 256)] := by rw [u8s_snoc, hz]
                rw [this, List.length_append]
                exact hown'
              clear hown hown' hgrow
              go_wp2_with fail
              go_roundw
              case rel => exact ⟨k + 1, acc ++ [cc], N2, 6 - 2, by omega, by go_num, rfl, rfl, hown3, hN3, hs2, hN2l, by omega, by rw [List.length_append]; show acc.length + 1 ≤ k + 1; omega⟩
              case measure => simp [intOf]; omega
      · obtain rfl : k = t.size := by omega
        have hkd : decide ((t.size : Int) < (t.size : Int)) = false := decide_eq_false (by omega)
        have he := Lib.hid (sofar_end hso.out (by rw [bl_len]; exact Nat.le_refl _))
        clear hso
        rcases hbt with rfl | rfl | rfl | rfl
        · have hand : bits BinOp.and IntKind.u32 (N : Int) 0 = ((N % 1 : Nat) : Int) := by
            have := u32_and_nat N 0 hN32 (by decide)
            rw [show (0 : Nat) = 2 ^ 0 - 1 from rfl, Nat.and_two_pow_sub_one_eq_mod] at this
            exact this
          have he' : Bare.take6 0 0 (bl t) = if N % 1 = 0 then some acc else none := he.out
          rw [hr.out] at he'
          obtain ⟨y, hy⟩ : ∃ y, N % 1 = y := ⟨_, rfl⟩
          rw [hy] at hand he'
          clear hy he hr
          by_cases hy0 : y = 0
          · subst hy0
            rw [if_pos rfl] at he'
            subst he'
            have hcv := conv_own hown
            go_wp2_with fail
            simp only [Exit.jump]
            go_ret2
            exact ⟨rfl, hN⟩
          · have hyd : ((y : Int) == 0) = false := by rw [beq_eq_false_iff_ne]; omega
            rw [if_neg hy0] at he'
            have hrn : Hid (r = none) := Lib.hid he'
            clear he' hy0
            go_wp2_with fail
            refine wp_label ?_
            go_wp2_with fail
            obtain rfl := hrn.out
            simp only [Exit.jump]
            go_ret2
            exact ⟨rfl, hN⟩
        · have hand : bits BinOp.and IntKind.u32 (N : Int) 3 = ((N % 4 : Nat) : Int) := by
            have := u32_and_nat N 3 hN32 (by decide)
            rw [show (3 : Nat) = 2 ^ 2 - 1 from rfl, Nat.and_two_pow_sub_one_eq_mod] at this
            exact this
          have he' : Bare.take6 0 0 (bl t) = if N % 4 = 0 then some acc else none := he.out
          rw [hr.out] at he'
          obtain ⟨y, hy⟩ : ∃ y, N % 4 = y := ⟨_, rfl⟩
          rw [hy] at hand he'
          clear hy he hr
          by_cases hy0 : y = 0
          · subst hy0
            rw [if_pos rfl] at he'
            subst he'
            have hcv := conv_own hown
            go_wp2_with fail
            simp only [Exit.jump]
            go_ret2
            exact ⟨rfl, hN⟩
          · have hyd : ((y : Int) == 0) = false := by rw [beq_eq_false_iff_ne]; omega
            rw [if_neg hy0] at he'
            have hrn : Hid (r = none) := Lib.hid he'
            clear he' hy0
            go_wp2_with fail
            refine wp_label ?_
            go_wp2_with fail
            obtain rfl := hrn.out
            simp only [Exit.jump]
            go_ret2
            exact ⟨rfl, hN⟩
        · have hand : bits BinOp.and IntKind.u32 (N : Int) 15 = ((N % 16 : Nat) : Int) := by
            have := u32_and_nat N 15 hN32 (by decide)
            rw [show (15 : Nat) = 2 ^ 4 - 1 from rfl, Nat.and_two_pow_sub_one_eq_mod] at this
            exact this
          have he' : Bare.take6 0 0 (bl t) = if N % 16 = 0 then some acc else none := he.out
          rw [hr.out] at he'
          obtain ⟨y, hy⟩ : ∃ y, N % 16 = y := ⟨_, rfl⟩
          rw [hy] at hand he'
          clear hy he hr
          by_cases hy0 : y = 0
          · subst hy0
            rw [if_pos rfl] at he'
            subst he'
            have hcv := conv_own hown
            go_wp2_with fail
            simp only [Exit.jump]
            go_ret2
            exact ⟨rfl, hN⟩
          · have hyd : ((y : Int) == 0) = false := by rw [beq_eq_false_iff_ne]; omega
            rw [if_neg hy0] at he'
            have hrn : Hid (r = none) := Lib.hid he'
            clear he' hy0
            go_wp2_with fail
            refine wp_label ?_
            go_wp2_with fail
            obtain rfl := hrn.out
            simp only [Exit.jump]
            go_ret2
            exact ⟨rfl, hN⟩
        · have hand : bits BinOp.and IntKind.u32 (N : Int) 63 = ((N % 64 : Nat) : Int) := by
            have := u32_and_nat N 63 hN32 (by decide)
            rw [show (63 : Nat) = 2 ^ 6 - 1 from rfl, Nat.and_two_pow_sub_one_eq_mod] at this
            exact this
          have he' : Bare.take6 0 0 (bl t) = if N % 64 = 0 then some acc else none := he.out
          rw [hr.out] at he'
          obtain ⟨y, hy⟩ : ∃ y, N % 64 = y := ⟨_, rfl⟩
          rw [hy] at hand he'
          clear hy he hr
          by_cases hy0 : y = 0
          · subst hy0
            rw [if_pos rfl] at he'
            subst he'
            have hcv := conv_own hown
            go_wp2_with fail
            simp only [Exit.jump]
            go_ret2
            exact ⟨rfl, hN⟩
          · have hyd : ((y : Int) == 0) = false := by rw [beq_eq_false_iff_ne]; omega
            rw [if_neg hy0] at he'
            have hrn : Hid (r = none) := Lib.hid he'
            clear he' hy0
            go_wp2_with fail
            refine wp_label ?_
            go_wp2_with fail
            obtain rfl := hrn.out
            simp only [Exit.jump]
            go_ret2
            exact ⟨rfl, hN⟩
end Go.Proofs.YtihmnkbkigkjjaaDoor
