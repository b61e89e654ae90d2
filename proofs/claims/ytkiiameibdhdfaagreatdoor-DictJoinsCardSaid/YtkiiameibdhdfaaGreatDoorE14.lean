/- Texts joined. -/
import Derived.Test.YtkiiameibdhdfaaGreatDoorE13
import Derived.Test.YtkiiameibdhdfaaGreatDoorE04
import Derived.Test.YtkiiameibdhdfaaGreatDoorE08
import Derived.Test.YtkiiameibdhdfaaGreatDoorE03
import Derived.Test.YtkiiameibdhdfaaGreatDoorE05
import Derived.Test.YtkiiameibdhdfaaGreatDoorE12
set_option linter.unusedSimpArgs false
set_option linter.unusedVariables false
set_option maxHeartbeats 16000000
set_option maxRecDepth 100000
namespace Go.Proofs.YtkiiameibdhdfaaGreatDoor
open Go.RowKit Go.Shelf Go.Cs
attribute [local go_sem] Oper.semAt_some


theorem wk13a (t:Array Value) (hs:t.size=224) (w0 w:World) {la oa na pa':Option Addr} {lc oc nc ic B7 ib io ub uo uc pm pcc:Nat} {Q:Exit→Act→World→Prop} (listed:Array Bool) (hl:listed = #[false,false,false,false,false,false,false,false,false,false,false,false,false,false,false,false,false,false,false,false,false,false,false,false,false,false,false,false,false,false,false,false,false,false,false,false,false,false,false,false,false,false,false,false,false,false,false,false,false,false,false,false,false,false,false,false,false,false,false,false,false,false,false,false,false,false,false,false,false,false,false,false,false,false,false,false,false,false,false,false,false,false,false,false,false,false,false,false,false,false,false,false,false,false,false,false,false,false,false,false,false,false,false,false,false,false,false,false,false,false,false,false,false,false,false,false,false,false,false,false,false,false,false,false])
  (hq1:t.getD 1 undef = .slice la 2 lc)
  (hq2:t.getD 2 undef = .int .i64 0)
  (hq3:t.getD 3 undef = .string ⟨#[117,61,49,44,32,105]⟩)
  (hq4:t.getD 4 undef = .int .i64 0)
  (hq5:t.getD 5 undef = .slice oa 1 oc)
  (hq6:t.getD 6 undef = .int .i64 0)
  (hq7:t.getD 7 undef = .pointer (some ⟨B7,0,none⟩))
  (hq8:t.getD 8 undef = .bool true)
  (hq10:t.getD 10 undef = .bool false)
  (hq12:t.getD 12 undef = .int .i64 130)
  (hq14:t.getD 14 undef = .int .i64 130)
  (hq16:t.getD 16 undef = .int .i64 130)
  (hq17:t.getD 17 undef = .slice na 0 nc)
  (hq18:t.getD 18 undef = .int .i64 0)
  (hq19:t.getD 19 undef = .slice (some ⟨ib,io,none⟩) 1 ic)
  (hq20:t.getD 20 undef = .int .i64 0)
  (hq22:t.getD 22 undef = .int .i64 2)
  (hq23:t.getD 23 undef = .string ⟨#[97,61,40,49,32,50,59,120,41,59,121]⟩)
  (hq24:t.getD 24 undef = .int .i64 0)
  (hS:New w0 w) (k2:w0.cell? ⟨B7,2,none⟩=some (.slice (some ⟨ub,uo,none⟩) 1 uc)) (u0:w0.cell? ⟨ub,uo,none⟩=some (.int .u8 1)) (u1:w0.cell? ⟨ub,uo + 1,none⟩=some (.int .i64 1)) (u2:w0.cell? ⟨ub,uo + 2,none⟩=some (.string ⟨#[]⟩)) (u3:w0.cell? ⟨ub,uo + 3,none⟩=some (.bool false))
  (i1:w0.cell? ⟨ib,io + 1,none⟩=some (.bool true)) (i3:w0.cell? ⟨ib,io + 3,none⟩=some (.slice pa' 1 pcc))
  (HO:Hid (RdD true w0 (.slice oa 1 oc) dwO)) (HI:Hid (RdD true w0 (.slice (some ⟨ib,io,none⟩) 1 ic) dwI))
  (HNP:∀ c a w,¬ Q (.panic c) a w) (HQ:∀ a' W',a'.tmps.size=224→a'.defers = []→a'.tmps.getD 0 undef = .bool true→New w0 W'→Q .normal a' W') :
  wpAnyH Tryz.prog .any (opsOf reg_causeylaw13_wakes_15) Q (fun W=>New w0 W) 124 listed ⟨t,[]⟩ w:=by
 subst hl
 conv=>arg 3;whnf
 obtain ⟨u,rfl⟩:=lit224 t hs
 have hq1:u 1 = _:=hq1
 have hq2:u 2 = _:=hq2
 have hq3:u 3 = _:=hq3
 have hq4:u 4 = _:=hq4
 have hq5:u 5 = _:=hq5
 have hq6:u 6 = _:=hq6
 have hq7:u 7 = _:=hq7
 have hq8:u 8 = _:=hq8
 have hq10:u 10 = _:=hq10
 have hq12:u 12 = _:=hq12
 have hq14:u 14 = _:=hq14
 have hq16:u 16 = _:=hq16
 have hq17:u 17 = _:=hq17
 have hq18:u 18 = _:=hq18
 have hq19:u 19 = _:=hq19
 have hq20:u 20 = _:=hq20
 have hq22:u 22 = _:=hq22
 have hq23:u 23 = _:=hq23
 have hq24:u 24 = _:=hq24
 rw [hq1,hq2,hq3,hq4,hq5,hq6,hq7,hq8,hq10,hq12,hq14,hq16,hq17,hq18,hq19,hq20,hq22,hq23,hq24]
 clear hq1 hq2 hq3 hq4 hq5 hq6 hq7 hq8 hq10 hq12 hq14 hq16 hq17 hq18 hq19 hq20 hq22 hq23 hq24 hs
 refine anyH_take 0 (some 101) (.int .i64 0) rfl rfl (by kernel_rfl) (by kernel_rfl) (by kernel_rfl) (fun _ _ _ h=>(HNP _ _ _ h).elim) (.inl ⟨by rfl,fun W hW=>by go_simp⟩) hS ?_
 simp only [pS]
 refine anyH_take 1 (some 102) (.bool true) rfl rfl (by kernel_rfl) (by kernel_rfl) (by kernel_rfl) (fun _ _ _ h=>(HNP _ _ _ h).elim) (.inl ⟨by rfl,fun W hW=>by go_simp⟩) hS ?_
 simp only [pS]
 refine anyH_take 2 (some 103) (.bool true) rfl rfl (by kernel_rfl) (by kernel_rfl) (by kernel_rfl) (fun _ _ _ h=>(HNP _ _ _ h).elim) (.inl ⟨by rfl,fun W hW=>by go_simp⟩) hS ?_
 simp only [pS]
 refine anyH_take 3 (some 104) (.slice la 2 lc) rfl rfl (by kernel_rfl) (by kernel_rfl) (by kernel_rfl) (fun _ _ _ h=>(HNP _ _ _ h).elim) (.inl ⟨by rfl,fun W hW=>by go_simp⟩) hS ?_
 simp only [pS]
 refine anyH_take 4 (some 105) (.int .i64 2) rfl rfl (by kernel_rfl) (by kernel_rfl) (by kernel_rfl) (fun _ _ _ h=>(HNP _ _ _ h).elim) (.inl ⟨by rfl,fun W hW=>by go_simp⟩) hS ?_
 simp only [pS]
 refine anyH_take 5 (some 106) (.bool true) rfl rfl (by kernel_rfl) (by kernel_rfl) (by kernel_rfl) (fun _ _ _ h=>(HNP _ _ _ h).elim) (.inl ⟨by rfl,fun W hW=>by go_simp⟩) hS ?_
 simp only [pS]
 refine anyH_take 6 (some 107) (.bool true) rfl rfl (by kernel_rfl) (by kernel_rfl) (by kernel_rfl) (fun _ _ _ h=>(HNP _ _ _ h).elim) (.inl ⟨by rfl,fun W hW=>by go_simp⟩) hS ?_
 simp only [pS]
 refine anyH_take 7 (some 108) (.bool true) rfl rfl (by kernel_rfl) (by kernel_rfl) (by kernel_rfl) (fun _ _ _ h=>(HNP _ _ _ h).elim) (.inl ⟨by rfl,fun W hW=>by go_simp⟩) hS ?_
 simp only [pS]
 refine anyH_take 8 (some 109) (.string ⟨#[117,61,49,44,32,105]⟩) rfl rfl (by kernel_rfl) (by kernel_rfl) (by kernel_rfl) (fun _ _ _ h=>(HNP _ _ _ h).elim) (.inl ⟨by rfl,fun W hW=>by go_simp⟩) hS ?_
 simp only [pS]
 refine anyH_take 9 (some 110) (.bool true) rfl rfl (by kernel_rfl) (by kernel_rfl) (by kernel_rfl) (fun _ _ _ h=>(HNP _ _ _ h).elim) (.inl ⟨by rfl,fun W hW=>by go_simp⟩) hS ?_
 simp only [pS]
 refine anyH_take 10 (some 111) (.bool true) rfl rfl (by kernel_rfl) (by kernel_rfl) (by kernel_rfl) (fun _ _ _ h=>(HNP _ _ _ h).elim) (.inl ⟨by rfl,fun W hW=>by go_simp⟩) hS ?_
 simp only [pS]
 refine anyH_take 11 (some 112) (.bool true) rfl rfl (by kernel_rfl) (by kernel_rfl) (by kernel_rfl) (fun _ _ _ h=>(HNP _ _ _ h).elim) (.inl ⟨by rfl,fun W hW=>by go_simp⟩) hS ?_
 simp only [pS]
 refine anyH_take 12 (some 113) (.int .i64 0) rfl rfl (by kernel_rfl) (by kernel_rfl) (by kernel_rfl) (fun _ _ _ h=>(HNP _ _ _ h).elim) (.inl ⟨by rfl,fun W hW=>by go_simp⟩) hS ?_
 simp only [pS]
 refine anyH_take 13 (some 114) (.bool true) rfl rfl (by kernel_rfl) (by kernel_rfl) (by kernel_rfl) (fun _ _ _ h=>(HNP _ _ _ h).elim) (.inl ⟨by rfl,fun W hW=>by go_simp⟩) hS ?_
 simp only [pS]
 refine anyH_take 14 (some 115) (.bool true) rfl rfl (by kernel_rfl) (by kernel_rfl) (by kernel_rfl) (fun _ _ _ h=>(HNP _ _ _ h).elim) (.inl ⟨by rfl,fun W hW=>by go_simp⟩) hS ?_
 simp only [pS]
 refine anyH_take 15 (some 116) (.bool true) rfl rfl (by kernel_rfl) (by kernel_rfl) (by kernel_rfl) (fun _ _ _ h=>(HNP _ _ _ h).elim) (.inl ⟨by rfl,fun W hW=>by go_simp⟩) hS ?_
 simp only [pS]
 refine anyH_take 16 (some 117) (.int .i64 0) rfl rfl (by kernel_rfl) (by kernel_rfl) (by kernel_rfl) (fun _ _ _ h=>(HNP _ _ _ h).elim) (.inl ⟨by rfl,fun W hW=>by go_simp⟩) hS ?_
 simp only [pS]
 refine anyH_take 17 (some 118) (.bool true) rfl rfl (by kernel_rfl) (by kernel_rfl) (by kernel_rfl) (fun _ _ _ h=>(HNP _ _ _ h).elim) (.inl ⟨by rfl,fun W hW=>by go_simp⟩) hS ?_
 simp only [pS]
 refine anyH_take 18 (some 119) (.bool true) rfl rfl (by kernel_rfl) (by kernel_rfl) (by kernel_rfl) (fun _ _ _ h=>(HNP _ _ _ h).elim) (.inl ⟨by rfl,fun W hW=>by go_simp⟩) hS ?_
 simp only [pS]
 refine anyH_take 19 (some 120) (.bool true) rfl rfl (by kernel_rfl) (by kernel_rfl) (by kernel_rfl) (fun _ _ _ h=>(HNP _ _ _ h).elim) (.inl ⟨by rfl,fun W hW=>by go_simp⟩) hS ?_
 simp only [pS]
 refine anyH_take 20 (some 121) (.slice oa 1 oc) rfl rfl (by kernel_rfl) (by kernel_rfl) (by kernel_rfl) (fun _ _ _ h=>(HNP _ _ _ h).elim) (.inl ⟨by rfl,fun W hW=>by go_simp⟩) hS ?_
 simp only [pS]
 refine tkO 21 ?_
 refine opH_call (some 122) rfl (by rfl) rfl 56 #[] (by go_simp) ((yes_w w).mono ?_)
 rintro e w21 ⟨rfl,hk⟩
 have hS:=hS.trans hk
 clear hk
 refine ⟨_,rfl,hS,?_⟩
 simp only [pS]
 refine anyH_take 22 (some 123) (.agg #[.int .u8 6,.int .i64 0,.string ⟨#[]⟩,.bool true,.slice none 0 0]) rfl rfl (by kernel_rfl) (by kernel_rfl) (by kernel_rfl) (fun _ _ _ h=>(HNP _ _ _ h).elim) (.inl ⟨by rfl,fun W hW=>by go_simp⟩) hS ?_
 simp only [pS]
 refine tkO 23 ?_
 refine opH_value (some 124) (v:=.slice (some ⟨w21.heap.size,0,none⟩) 1 1) (w':=w21.alloc (.cells #[.int .u8 6,.int .i64 0,.string ⟨#[]⟩,.bool true,.slice none 0 0] 71)) rfl (by rfl) rfl (by go_simp) ?_
 have hS:=hS.trans ((Mods.refl (fun _=>False) w21).alloc (.cells #[.int .u8 6,.int .i64 0,.string ⟨#[]⟩,.bool true,.slice none 0 0] 71))
 refine ⟨hS,?_⟩
 simp only [pS]
 refine anyH_take 24 (some 125) (.agg #[.string ⟨#[97]⟩,.bool false,.slice (some ⟨w21.heap.size,0,none⟩) 1 1,.slice none 0 0]) rfl rfl (by kernel_rfl) (by kernel_rfl) (by kernel_rfl) (fun _ _ _ h=>(HNP _ _ _ h).elim) (.inl ⟨by rfl,fun W hW=>by go_simp⟩) hS ?_
 simp only [pS]
 refine tkO 25 ?_
 refine opH_value (some 126) (v:=.slice (some ⟨w21.heap.size + 1,0,none⟩) 1 1) (w':=(w21.alloc (.cells #[.int .u8 6,.int .i64 0,.string ⟨#[]⟩,.bool true,.slice none 0 0] 71)).alloc (.cells #[.string ⟨#[97]⟩,.bool false,.slice (some ⟨w21.heap.size,0,none⟩) 1 1,.slice none 0 0] 64)) rfl (by rfl) rfl (by go_simp) ?_
 have hS:=hS.trans ((Mods.refl (fun _=>False) (w21.alloc (.cells #[.int .u8 6,.int .i64 0,.string ⟨#[]⟩,.bool true,.slice none 0 0] 71))).alloc (.cells #[.string ⟨#[97]⟩,.bool false,.slice (some ⟨w21.heap.size,0,none⟩) 1 1,.slice none 0 0] 64))
 refine ⟨hS,?_⟩
 simp only [pS]
 refine tkO 26 ?_
 refine opH_call (some 127) rfl (by rfl) rfl 29 #[.slice oa 1 oc,.slice (some ⟨w21.heap.size + 1,0,none⟩) 1 1] (by go_simp) (((rsame_d _ _ dwO dwO _ (HO.out.new hS) (one_d w21 [97] false Bare.yesI)).mono (R':=fun e w'=>e = .returned (.bool true)∧New _ w') (by rintro e w' ⟨rfl,h⟩;exact ⟨by rw [decide_eq_true rfl],h⟩)).mono ?_)
 rintro e w26 ⟨rfl,hk⟩
 have hS:=hS.trans hk
 clear hk
 refine ⟨_,rfl,hS,?_⟩
 simp only [pS]
 refine anyH_take 27 (some 128) (.bool true) rfl rfl (by kernel_rfl) (by kernel_rfl) (by kernel_rfl) (fun _ _ _ h=>(HNP _ _ _ h).elim) (.inl ⟨by rfl,fun W hW=>by go_simp⟩) hS ?_
 simp only [pS]
 refine anyH_take 28 (some 129) (.bool true) rfl rfl (by kernel_rfl) (by kernel_rfl) (by kernel_rfl) (fun _ _ _ h=>(HNP _ _ _ h).elim) (.inl ⟨by rfl,fun W hW=>by go_simp⟩) hS ?_
 simp only [pS]
 refine anyH_take 29 (some 130) (.bool true) rfl rfl (by kernel_rfl) (by kernel_rfl) (by kernel_rfl) (fun _ _ _ h=>(HNP _ _ _ h).elim) (.inl ⟨by rfl,fun W hW=>by go_simp⟩) hS ?_
 simp only [pS]
 refine anyH_take 30 (some 131) (.bool true) rfl rfl (by kernel_rfl) (by kernel_rfl) (by kernel_rfl) (fun _ _ _ h=>(HNP _ _ _ h).elim) (.inl ⟨by rfl,fun W hW=>by go_simp⟩) hS ?_
 simp only [pS]
 refine anyH_take 31 (some 132) (.bool true) rfl rfl (by kernel_rfl) (by kernel_rfl) (by kernel_rfl) (fun _ _ _ h=>(HNP _ _ _ h).elim) (.inl ⟨by rfl,fun W hW=>by go_simp⟩) hS ?_
 simp only [pS]
 refine anyH_take 32 (some 133) (.pointer (some ⟨B7,2,none⟩)) rfl rfl (by kernel_rfl) (by kernel_rfl) (by kernel_rfl) (fun _ _ _ h=>(HNP _ _ _ h).elim) (.inl ⟨by rfl,fun W hW=>by go_simp⟩) hS ?_
 simp only [pS]
 refine anyH_take 33 (some 134) (.slice (some ⟨ub,uo,none⟩) 1 uc) rfl rfl (by kernel_rfl) (by kernel_rfl) (by kernel_rfl) (fun _ _ _ h=>(HNP _ _ _ h).elim) (.inl ⟨by rfl,fun W hW=>by have hh:New w0 W:=hW;have q:=hh.cell k2 id;go_simp⟩) hS ?_
 simp only [pS]
 refine anyH_take 34 (some 135) (.pointer (some ⟨ub,uo,none⟩)) rfl rfl (by kernel_rfl) (by kernel_rfl) (by kernel_rfl) (fun _ _ _ h=>(HNP _ _ _ h).elim) (.inl ⟨by rfl,fun W hW=>by go_simp⟩) hS ?_
 simp only [pS]
 refine anyH_take 35 (some 136) (.pointer (some ⟨ub,uo,none⟩)) rfl rfl (by kernel_rfl) (by kernel_rfl) (by kernel_rfl) (fun _ _ _ h=>(HNP _ _ _ h).elim) (.inl ⟨by rfl,fun W hW=>by go_simp⟩) hS ?_
 simp only [pS]
 refine anyH_take 36 (some 137) (.agg #[.int .u8 1,.int .i64 1,.string ⟨#[]⟩,.bool false]) rfl rfl (by kernel_rfl) (by kernel_rfl) (by kernel_rfl) (fun _ _ _ h=>(HNP _ _ _ h).elim) (.inl ⟨by rfl,fun W hW=>by have hh:New w0 W:=hW;have q0:=hh.cell u0 id;have q1:=hh.cell u1 id;have q2:=hh.cell u2 id;have q3:=hh.cell u3 id;go_simp⟩) hS ?_
 simp only [pS]
 refine tkO 37 ?_
 refine opH_call (some 138) rfl (by rfl) rfl 57 #[.int .i64 1] (by go_simp) ((number_w 1 w26).mono ?_)
 rintro e w37 ⟨rfl,hk⟩
 have hS:=hS.trans hk
 clear hk
 refine ⟨_,rfl,hS,?_⟩
 simp only [pS]
 refine anyH_take 38 (some 139) (.bool true) rfl rfl (by kernel_rfl) (by kernel_rfl) (by kernel_rfl) (fun _ _ _ h=>(HNP _ _ _ h).elim) (.inl ⟨by rfl,fun W hW=>by have q:=binop_item ⟨1,1,[],false⟩ ⟨1,1,[],false⟩;simp only [decide_true] at q;have q':(binOp .eql 66 (.agg #[.int .u8 1,.int .i64 1,.string ⟨#[]⟩,.bool false]) (.agg #[.int .u8 1,.int .i64 1,.string ⟨#[]⟩,.bool false])).run Tryz.prog W = .ok (.bool true) W:=q W;clear q;go_simp⟩) hS ?_
 simp only [pS]
 refine anyH_take 39 (some 140) (.bool true) rfl rfl (by kernel_rfl) (by kernel_rfl) (by kernel_rfl) (fun _ _ _ h=>(HNP _ _ _ h).elim) (.inl ⟨by rfl,fun W hW=>by go_simp⟩) hS ?_
 simp only [pS]
 refine anyH_take 40 (some 141) (.bool true) rfl rfl (by kernel_rfl) (by kernel_rfl) (by kernel_rfl) (fun _ _ _ h=>(HNP _ _ _ h).elim) (.inl ⟨by rfl,fun W hW=>by go_simp⟩) hS ?_
 simp only [pS]
 exact wk13b (pm:=0) _ rfl w0 _ _ (by kernel_rfl) rfl rfl rfl rfl rfl rfl rfl rfl rfl rfl rfl rfl rfl rfl rfl rfl rfl rfl rfl rfl hS k2 u0 u1 u2 u3 i1 i3 HO HI HNP HQ
theorem wk13 (t:Array Value) (hs:t.size=224) (w:World) {la oa na pa':Option Addr} {lc oc nc ic B7 ib io ub uo uc pm pcc:Nat}
  (hq1:t.getD 1 undef = .slice la 2 lc)
  (hq2:t.getD 2 undef = .int .i64 0)
  (hq3:t.getD 3 undef = .string ⟨#[117,61,49,44,32,105]⟩)
  (hq4:t.getD 4 undef = .int .i64 0)
  (hq5:t.getD 5 undef = .slice oa 1 oc)
  (hq6:t.getD 6 undef = .int .i64 0)
  (hq7:t.getD 7 undef = .pointer (some ⟨B7,0,none⟩))
  (hq8:t.getD 8 undef = .bool true)
  (hq10:t.getD 10 undef = .bool false)
  (hq12:t.getD 12 undef = .int .i64 130)
  (hq14:t.getD 14 undef = .int .i64 130)
  (hq16:t.getD 16 undef = .int .i64 130)
  (hq17:t.getD 17 undef = .slice na 0 nc)
  (hq18:t.getD 18 undef = .int .i64 0)
  (hq19:t.getD 19 undef = .slice (some ⟨ib,io,none⟩) 1 ic)
  (hq20:t.getD 20 undef = .int .i64 0)
  (hq22:t.getD 22 undef = .int .i64 2)
  (hq23:t.getD 23 undef = .string ⟨#[97,61,40,49,32,50,59,120,41,59,121]⟩)
  (hq24:t.getD 24 undef = .int .i64 0)
  (k2:w.cell? ⟨B7,2,none⟩=some (.slice (some ⟨ub,uo,none⟩) 1 uc)) (u0:w.cell? ⟨ub,uo,none⟩=some (.int .u8 1)) (u1:w.cell? ⟨ub,uo + 1,none⟩=some (.int .i64 1)) (u2:w.cell? ⟨ub,uo + 2,none⟩=some (.string ⟨#[]⟩)) (u3:w.cell? ⟨ub,uo + 3,none⟩=some (.bool false))
  (i1:w.cell? ⟨ib,io + 1,none⟩=some (.bool true)) (i3:w.cell? ⟨ib,io + 3,none⟩=some (.slice pa' 1 pcc))
  (HO:Hid (RdD true w (.slice oa 1 oc) dwO)) (HI:Hid (RdD true w (.slice (some ⟨ib,io,none⟩) 1 ic) dwI)) :
  reg_causeylaw13_wakes_15.wp Tryz.prog (Only fun a' W'=>(a'.tmps.size=224∧a'.defers = []∧a'.tmps.getD 0 undef = .bool true)∧New w W') ⟨t,[]⟩ w:=by
 have hd:New w w.drew:=(Mods.refl _ _).drew
 conv=>arg 2;whnf
 refine wp_region_held (S:=fun W=>New w.drew W) (by kernel_rfl) ?_
 exact wk13a (pm:=0) t hs w.drew w.drew _ (by kernel_rfl) hq1 hq2 hq3 hq4 hq5 hq6 hq7 hq8 hq10 hq12 hq14 hq16 hq17 hq18 hq19 hq20 hq22 hq23 hq24 (Mods.refl _ _) k2 u0 u1 u2 u3 i1 i3 (Lib.hid (HO.out.new hd)) (Lib.hid (HI.out.new hd)) (fun _ _ _ h=>h) (fun a' W' h1 h2 h3 h4=>⟨⟨h1,h2,h3⟩,hd.trans h4⟩)


theorem parse_ok (s:ByteArray) (d:List Bare.Mem) (n:Nat) (h:Bare.parseD (bl s)=some d) (hn:d.length=n) (w:World) (hs:s.size ≤ 1000000) (hT:Tab w) :
  Calls Tryz.prog 28 #[.string s] w fun e w'=>∃ a c,e = .returned (.tuple #[.slice a n c,.int .i64 0])∧RdD true w' (.slice a n c) d∧New w w' :=
 (parse_d s w hs hT).mono fun e w' ⟨v,z,he,hN,hp⟩=>by
  rw [h] at hp
  obtain ⟨rfl,hd,-⟩:=hp
  obtain ⟨a,c,rfl⟩:=hd.slice
  subst hn
  exact ⟨a,c,he,hd,hN⟩
theorem parse_no (s:ByteArray) (h:Bare.parseD (bl s)=none) (w:World) (hs:s.size ≤ 1000000) (hT:Tab w) :
  Calls Tryz.prog 28 #[.string s] w fun e w'=>e = .returned (.tuple #[.slice none 0 0,.int .i64 130])∧New w w' :=
 (parse_d s w hs hT).mono fun e w' ⟨v,z,he,hN,hp⟩=>by
  rw [h] at hp
  obtain ⟨rfl,rfl⟩:=hp
  exact ⟨he,hN⟩
theorem prA:PrD dwA:=by
 have h:=prioD_print (u:=1) (i:=true) (by decide)
 exact h
theorem prI:PrD dwI:=by
 refine ⟨by decide,fun m hm=>⟨smI m hm,?_⟩⟩
 unfold dwI at hm
 rw [List.mem_singleton] at hm
 subst hm
 refine ⟨by decide,by decide,fun x hx=>?_⟩
 have hs:=(smI _ (List.mem_singleton.2 rfl)).2.2.2.1 x hx
 refine ⟨hs,?_⟩
 simp only [List.mem_cons,List.not_mem_nil,or_false] at hx
 rcases hx with rfl | rfl <;> decide
theorem prB:PrD [⟨[65],false,[],[]⟩]:=by
 refine ⟨by decide,fun m hm=>?_⟩
 rw [List.mem_singleton] at hm
 subst hm
 refine ⟨⟨by decide,by decide,by decide,fun x hx=>?_,fun p hp=>?_⟩,by decide,by decide,fun x hx=>?_⟩
 ·cases hx
 ·cases hp
 ·cases hx
theorem fitsA:∀ m ∈ dwA,Fits m:=fits_of_sz (n:=100) (by decide) (parse_sz (by decide) (by decide) dw1)
theorem wakes_d (w:World) (hT:Tab w):Calls Tryz.prog 25 #[] w fun e w'=>e = .returned (.bool true)∧New w w':=by
 have hN:New w w:=Mods.refl _ _
 have H1:=Lib.hid (fun W (hN:New w W)=>parse_ok ⟨#[117,61,49,44,32,105]⟩ dwA 2 dw1 rfl W (by decide) (hT.new hN))
 have H3:=Lib.hid (fun W (hN:New w W)=>parse_ok ⟨#[32,97,61,40,49,32,50,59,120,41,59,121,9,44,32,9,97,32]⟩ dwO 1 dw3 rfl W (by decide) (hT.new hN))
 have H6:=Lib.hid (fun W (hN:New w W)=>parse_no ⟨#[97,44]⟩ dw6 W (by decide) (hT.new hN))
 have H7:=Lib.hid (fun W (hN:New w W)=>parse_no ⟨#[97,9]⟩ dw7 W (by decide) (hT.new hN))
 have H8:=Lib.hid (fun W (hN:New w W)=>parse_no ⟨#[97,61,40,49,9,50,41]⟩ dw8 W (by decide) (hT.new hN))
 have H9:=Lib.hid (fun W (hN:New w W)=>parse_ok ⟨#[32,32]⟩ [] 0 dw9 rfl W (by decide) (hT.new hN))
 have H10:=Lib.hid (fun W (hN:New w W)=>parse_ok ⟨#[97,61,40,49,32,50,59,120,41,59,121]⟩ dwI 1 dw10 rfl W (by decide) (hT.new hN))
 have H2:=Lib.hid (fun (v:Value) W (hN:New w W) {τ:Bool} (hv:RdD τ W v dwA)=>(print_d v _ W hv prA (hT.new hN)).mono (R':=fun e w'=>e = .returned (.tuple #[.string ⟨#[117,61,49,44,32,105]⟩,.int .i64 0])∧New W w') (by rintro e w' ⟨rfl,h⟩;exact ⟨by rw [dw2];rfl,h⟩))
 have H11:=Lib.hid (fun (v:Value) W (hN:New w W) {τ:Bool} (hv:RdD τ W v [⟨[65],false,[],[]⟩])=>(print_d v _ W hv prB (hT.new hN)).mono (R':=fun e w'=>e = .returned (.tuple #[.string ⟨#[]⟩,.int .i64 2])∧New W w') (by rintro e w' ⟨rfl,h⟩;exact ⟨by rw [dw11];rfl,h⟩))
 have H12:=Lib.hid (fun (v:Value) W (hN:New w W) {τ:Bool} (hv:RdD τ W v dwI)=>(print_d v _ W hv prI (hT.new hN)).mono (R':=fun e w'=>e = .returned (.tuple #[.string ⟨#[97,61,40,49,32,50,59,120,41,59,121]⟩,.int .i64 0])∧New W w') (by rintro e w' ⟨rfl,h⟩;exact ⟨by rw [dw12];rfl,h⟩))
 have H4:=Lib.hid (fun (v:Value) W (hv:RdD true W v dwA)=>(find_any v ⟨#[117]⟩ dwA W hv fitsA).mono (R':=fun e w'=>∃ ja pa jc pc,∃ ip:Nat→Value,e = .returned (.tuple #[.agg #[.string ⟨#[117]⟩,.bool false,.slice ja 1 jc,.slice pa 0 pc],.bool true])∧OwX W.heap.size w' (.slice ja 1 jc) 1 (fun i=>ics (([⟨⟨1,1,[],false⟩,[]⟩]:List Bare.Itm).getD i Bare.noI) (ip i))∧New W w') (by
  rintro e w' ⟨v',rfl,ho,h⟩
  rw [show bl ⟨#[117]⟩ = [117] from rfl,dw4] at ho ⊢
  obtain ⟨ja,pa,jc,pc,ip,rfl,h1,-,-⟩:=ho
  exact ⟨ja,pa,jc,pc,ip,rfl,h1,h⟩))
 have H5:=Lib.hid (fun (v:Value) W (hv:RdD true W v dwA)=>(find_any v ⟨#[120]⟩ dwA W hv fitsA).mono (R':=fun e w'=>∃ ja pa jc pc,e = .returned (.tuple #[.agg #[.string ⟨#[]⟩,.bool false,.slice ja 0 jc,.slice pa 0 pc],.bool false])∧New W w') (by
  rintro e w' ⟨v',rfl,ho,h⟩
  rw [show bl ⟨#[120]⟩ = [120] from rfl,dw5] at ho ⊢
  obtain ⟨ja,pa,jc,pc,ip,rfl,h1,-,-⟩:=ho
  exact ⟨ja,pa,jc,pc,rfl,h⟩))
 clear hT
 go_enter Tryz.func25,Tryz.ntmps25
 go_wp2_with fail
 refine (H1.out _ hN).mono ?_
 rintro e wz ⟨la,lc,rfl,hA,hk⟩
 replace hN:=hN.trans hk
 have HA:=Lib.hid hA
 clear hA
 clear hk
 go_wp2_with fail
 refine (H2.out _ _ hN HA.out).mono ?_
 rintro e wz ⟨rfl,hk⟩
 replace hN:=hN.trans hk
 have HA:=Lib.hid (HA.out.new hk)
 clear hk
 go_wp2_with fail
 refine (H3.out _ hN).mono ?_
 rintro e wz ⟨oa,oc,rfl,hO,hk⟩
 replace hN:=hN.trans hk
 have HA:=Lib.hid (HA.out.new hk)
 have HO:=Lib.hid hO
 clear hO
 clear hk
 go_wp2_with fail
 refine (H4.out _ _ HA.out).mono ?_
 rintro e wz ⟨ja,pa,jc,pc,ip,rfl,hX,hk⟩
 replace hN:=hN.trans hk
 have HA:=Lib.hid (HA.out.new hk)
 have HO:=Lib.hid (HO.out.new hk)
 have HX:=Lib.hid hX
 clear hX
 clear hk
 go_upto_region 5 with fail
 have rB7:=World.alloc_heap_new wz (.cells #[.string ⟨#[117]⟩,.bool false,.slice ja 1 jc,.slice pa 0 pc] 64)
 have hk:New wz (wz.alloc (.cells #[.string ⟨#[117]⟩,.bool false,.slice ja 1 jc,.slice pa 0 pc] 64)):=(Mods.refl _ _).alloc _
 obtain ⟨w4,hw4⟩:∃ V,wz.alloc (.cells #[.string ⟨#[117]⟩,.bool false,.slice ja 1 jc,.slice pa 0 pc] 64)=V:=⟨_,rfl⟩
 obtain ⟨B7,hB⟩:∃ b,wz.heap.size=b:=⟨_,rfl⟩
 rw [hw4] at rB7 hk ⊢
 rw [hB] at rB7 ⊢
 clear hw4 hB
 replace hN:=hN.trans hk
 have HA:=Lib.hid (HA.out.new hk)
 have HO:=Lib.hid (HO.out.new hk)
 have HX:=Lib.hid (HX.out.new hk)
 clear hk
 go_wp2_with fail
 refine (H5.out _ _ HA.out).mono ?_
 rintro e wz ⟨ja5,pa5,jc5,pc5,rfl,hk⟩
 replace hN:=hN.trans hk
 have HA:=Lib.hid (HA.out.new hk)
 have HO:=Lib.hid (HO.out.new hk)
 have HX:=Lib.hid (HX.out.new hk)
 replace rB7:=hk.heap rB7 id
 clear hk
 go_upto_region 6 with fail
 have rB9:=World.alloc_heap_new wz (.cells #[.string ⟨#[]⟩,.bool false,.slice ja5 0 jc5,.slice pa5 0 pc5] 64)
 have hk:New wz (wz.alloc (.cells #[.string ⟨#[]⟩,.bool false,.slice ja5 0 jc5,.slice pa5 0 pc5] 64)):=(Mods.refl _ _).alloc _
 obtain ⟨w5,hw5⟩:∃ V,wz.alloc (.cells #[.string ⟨#[]⟩,.bool false,.slice ja5 0 jc5,.slice pa5 0 pc5] 64)=V:=⟨_,rfl⟩
 obtain ⟨B9,hB⟩:∃ b,wz.heap.size=b:=⟨_,rfl⟩
 rw [hw5] at rB9 hk ⊢
 rw [hB] at rB9 ⊢
 clear hw5 hB
 replace hN:=hN.trans hk
 have HA:=Lib.hid (HA.out.new hk)
 have HO:=Lib.hid (HO.out.new hk)
 have HX:=Lib.hid (HX.out.new hk)
 replace rB7:=hk.heap rB7 id
 clear hk
 go_wp2_with fail
 refine (H6.out _ hN).mono ?_
 rintro e wz ⟨rfl,hk⟩
 replace hN:=hN.trans hk
 have HA:=Lib.hid (HA.out.new hk)
 have HO:=Lib.hid (HO.out.new hk)
 have HX:=Lib.hid (HX.out.new hk)
 replace rB7:=hk.heap rB7 id
 clear hk
 go_wp2_with fail
 refine (H7.out _ hN).mono ?_
 rintro e wz ⟨rfl,hk⟩
 replace hN:=hN.trans hk
 have HA:=Lib.hid (HA.out.new hk)
 have HO:=Lib.hid (HO.out.new hk)
 have HX:=Lib.hid (HX.out.new hk)
 replace rB7:=hk.heap rB7 id
 clear hk
 go_wp2_with fail
 refine (H8.out _ hN).mono ?_
 rintro e wz ⟨rfl,hk⟩
 replace hN:=hN.trans hk
 have HA:=Lib.hid (HA.out.new hk)
 have HO:=Lib.hid (HO.out.new hk)
 have HX:=Lib.hid (HX.out.new hk)
 replace rB7:=hk.heap rB7 id
 clear hk
 go_wp2_with fail
 refine (H9.out _ hN).mono ?_
 rintro e wz ⟨na,nc,rfl,-,hk⟩
 replace hN:=hN.trans hk
 have HA:=Lib.hid (HA.out.new hk)
 have HO:=Lib.hid (HO.out.new hk)
 have HX:=Lib.hid (HX.out.new hk)
 replace rB7:=hk.heap rB7 id
 clear hk
 go_wp2_with fail
 refine (H10.out _ hN).mono ?_
 rintro e wz ⟨ia,ic,rfl,hI,hk⟩
 replace hN:=hN.trans hk
 have HA:=Lib.hid (HA.out.new hk)
 have HO:=Lib.hid (HO.out.new hk)
 have HX:=Lib.hid (HX.out.new hk)
 replace rB7:=hk.heap rB7 id
 have HI:=Lib.hid hI
 clear hI
 clear hk
 go_wp2_with fail
 have hbd:=bare_d wz [65]
 rw [show tx [65]=⟨#[65]⟩ from rfl] at hbd
 have hk0:New wz (wz.alloc (.cells #[.string ⟨#[65]⟩,.bool false,.slice none 0 0,.slice none 0 0] 64)):=(Mods.refl _ _).alloc _
 refine (H11.out _ _ (hN.trans hk0) hbd).mono ?_
 rintro e w11 ⟨rfl,hk1⟩
 have hk:=hk0.trans hk1
 clear hk0 hk1 hbd
 replace hN:=hN.trans hk
 have HA:=Lib.hid (HA.out.new hk)
 have HO:=Lib.hid (HO.out.new hk)
 have HX:=Lib.hid (HX.out.new hk)
 replace rB7:=hk.heap rB7 id
 have HI:=Lib.hid (HI.out.new hk)
 clear hk
 go_wp2_with fail
 refine (H12.out _ _ hN HI.out).mono ?_
 rintro e w12 ⟨rfl,hk⟩
 replace hN:=hN.trans hk
 have HA:=Lib.hid (HA.out.new hk)
 have HO:=Lib.hid (HO.out.new hk)
 have HX:=Lib.hid (HX.out.new hk)
 replace rB7:=hk.heap rB7 id
 have HI:=Lib.hid (HI.out.new hk)
 clear hk
 clear H1 H2 H3 H4 H5 H6 H7 H8 H9 H10 H11 H12
 obtain ⟨ub,uo,e,hu⟩:=(HX.out.row (by decide)).at.2.2 0 (by decide)
 subst e
 obtain ⟨u0,u1,u2,u3,-⟩:=cells5 hu
 simp only [Nat.zero_mul,Nat.add_zero] at u0 u1 u2 u3
 obtain ⟨iv,pv,q1,-,q3⟩:=HI.out
 obtain ⟨ib,io,e,hi⟩:=q1.at.2.2 0 (by decide)
 subst e
 obtain ⟨i0,i1,i2,i3⟩:=cells4 hi
 obtain ⟨q4,q5⟩:=q3 0 (by decide)
 obtain ⟨xa,xc,hx⟩:=q4.slice
 obtain ⟨ya,yc,hy⟩:=q5.slice
 rw [hx] at i2
 rw [hy] at i3
 simp only [Nat.zero_mul,Nat.add_zero] at i1 i2 i3
 have k2:=cell_of_row _ _ 2 _ _ _ rB7
 simp only [gS] at k2
 have i1':w12.cell? ⟨ib,io + 1,none⟩=some (.bool true):=i1
 have i2':w12.cell? ⟨ib,io + 2,none⟩=some (.slice xa 2 xc):=i2
 have i3':w12.cell? ⟨ib,io + 3,none⟩=some (.slice ya 1 yc):=i3
 have u0':w12.cell? ⟨ub,uo,none⟩=some (.int .u8 1):=u0
 have u1':w12.cell? ⟨ub,uo + 1,none⟩=some (.int .i64 1):=u1
 have u2':w12.cell? ⟨ub,uo + 2,none⟩=some (.string ⟨#[]⟩):=u2
 have u3':w12.cell? ⟨ub,uo + 3,none⟩=some (.bool false):=u3
 clear hu u0 u1 u2 u3 q1 q3 hi i0 i1 i2 i3 q4 q5 hx hy iv pv
 go_upto_region 15 with fail
 clear HX rB7
 refine piece (fun _=>_) (wk13 (pm:=0) _ rfl w12 rfl rfl rfl rfl rfl rfl rfl rfl rfl rfl rfl rfl rfl rfl rfl rfl rfl rfl rfl k2 u0' u1' u2' u3' i1' i3' HO HI) ?_
 rintro ⟨z,dfs⟩ w15 ⟨⟨hs,hd,hq0⟩,hN15⟩
 simp only at hs hd hq0
 subst hd
 obtain ⟨u,rfl⟩:=lit224 z hs
 have hp0:u 0 = .bool true:=hq0
 rw [hp0]
 clear hp0 hq0 hs
 go_wp2_with fail
 go_ret
 exact ⟨rfl,hN.trans hN15⟩
end Go.Proofs.YtkiiameibdhdfaaGreatDoor
namespace Go.Proofs.YtkiiameibdhdfaaGreatDoor

def sumTo (f:Nat→Nat):Nat→Nat
 | 0=>0
 | k + 1=>sumTo f k + f k
theorem sumTo_mono {f : Nat → Nat} {i j : Nat} (h : i ≤ j) : sumTo f i ≤ sumTo f j := by
  induction j with
  | zero => obtain rfl : i = 0 := by omega
            exact Nat.le_refl _
  | succ j ih =>
    by_cases e : i = j + 1
    · subst e; exact Nat.le_refl _
    · have := ih (by omega)
      show _ ≤ sumTo f j + f j
      omega
theorem sumTo_at {f:Nat→Nat} {i n:Nat} (h:i < n):f i ≤ sumTo f n:=by
 have:=sumTo_mono (f:=f) (show i + 1 ≤ n from h)
 have e:sumTo f (i + 1)=sumTo f i + f i:=rfl
 omega
theorem sumTo_le {f g:Nat→Nat} {c:Nat}:∀ {n:Nat},(∀ i,i < n→f i ≤ c * g i)→sumTo f n ≤ c * sumTo g n
 | 0,_=>Nat.zero_le _
 | n + 1,h=>by
  have h1:=sumTo_le (f:=f) (g:=g) (c:=c) (n:=n) fun i hi=>h i (by omega)
  have h2:=h n (by omega)
  show sumTo f n + f n ≤ c * (sumTo g n + g n)
  rw [Nat.mul_add]
  omega
theorem sumTo_add (f g:Nat→Nat):∀ n,sumTo (fun i=>f i + g i) n=sumTo f n + sumTo g n
 | 0=>rfl
 | n + 1=>by
  show sumTo (fun i=>f i + g i) n + (f n + g n)=sumTo f n + f n + (sumTo g n + g n)
  rw [sumTo_add f g n]
  omega
theorem sumTo_const (c:Nat):∀ n,sumTo (fun _=>c) n=n * c
 | 0=>by simp [sumTo]
 | n + 1=>by
  show sumTo (fun _=>c) n + c = _
  rw [sumTo_const c n,Nat.succ_mul]
def pB (p:Bare.Par):Nat:=p.key.length + p.bare.text.length
def psB (L:List Bare.Par) (k:Nat):Nat:=sumTo (fun j=>pB (L.getD j noP)) k
def xB (x:Bare.Itm):Nat:=x.bare.text.length + psB x.params x.params.length
def xsB (L:List Bare.Itm) (k:Nat):Nat:=sumTo (fun j=>xB (L.getD j Bare.noI)) k
def xsN (L:List Bare.Itm) (k:Nat):Nat:=sumTo (fun j=>(L.getD j Bare.noI).params.length) k
def mN (m:Bare.Mem):Nat:=m.items.length + m.params.length + xsN m.items m.items.length
def mB (m:Bare.Mem):Nat:=m.key.length + psB m.params m.params.length + xsB m.items m.items.length
def dN (d:List Bare.Mem) (i:Nat):Nat:=d.length + sumTo (fun j=>mN (d.getD j noM)) i
def dB (d:List Bare.Mem) (i:Nat):Nat:=sumTo (fun j=>mB (d.getD j noM)) i
def S47:Nat:=140737488355328
def Str47P (L:List Bare.Par):Prop:=∀ j,j < L.length→(L.getD j noP).key.length ≤ S47∧(L.getD j noP).bare.text.length ≤ S47
def Str47X (L:List Bare.Itm):Prop:=∀ j,j < L.length→(L.getD j Bare.noI).bare.text.length ≤ S47∧Str47P (L.getD j Bare.noI).params
def Str47 (d:List Bare.Mem):Prop:=∀ j,j < d.length→(d.getD j noM).key.length ≤ S47∧Str47P (d.getD j noM).params∧Str47X (d.getD j noM).items
theorem psB_le {L:List Bare.Par} (h:Str47P L) {k:Nat} (hk:k ≤ L.length):psB L k ≤ 2 * S47 * k:=by
 have:=sumTo_le (f:=fun j=>pB (L.getD j noP)) (g:=fun _=>1) (c:=2 * S47) (n:=k) fun i hi=>by
  have:=h i (by omega)
  show pB _ ≤ _
  unfold pB
  omega
 rw [sumTo_const] at this
 unfold psB
 rw [Nat.mul_one] at this
 exact this
theorem xB_le {x:Bare.Itm} (h1:x.bare.text.length ≤ S47) (h:Str47P x.params):xB x ≤ 2 * S47 * (1 + x.params.length):=by
 have:=psB_le h (Nat.le_refl _)
 unfold xB
 rw [Nat.mul_add]
 omega
theorem xsB_le {L:List Bare.Itm} (h:Str47X L) {k:Nat} (hk:k ≤ L.length):xsB L k ≤ 2 * S47 * (k + xsN L k):=by
 have:=sumTo_le (f:=fun j=>xB (L.getD j Bare.noI)) (g:=fun j=>1 + (L.getD j Bare.noI).params.length) (c:=2 * S47) (n:=k) fun i hi=>by
  have:=h i (by omega)
  exact xB_le this.1 this.2
 rw [sumTo_add,sumTo_const,Nat.mul_one] at this
 exact this
theorem mB_le {m:Bare.Mem} (h0:m.key.length ≤ S47) (h1:Str47P m.params) (h2:Str47X m.items):mB m ≤ 2 * S47 * (1 + mN m):=by
 have a:=psB_le h1 (Nat.le_refl _)
 have b:=xsB_le h2 (Nat.le_refl _)
 unfold mB mN
 have e:2 * S47 * (1 + (m.items.length + m.params.length + xsN m.items m.items.length))=2 * S47 + 2 * S47 * m.params.length + 2 * S47 * (m.items.length + xsN m.items m.items.length):=by
  rw [show 1 + (m.items.length + m.params.length + xsN m.items m.items.length)=1 + m.params.length + (m.items.length + xsN m.items m.items.length) by omega,Nat.mul_add,Nat.mul_add,Nat.mul_one]
 omega
theorem dB_le {d:List Bare.Mem} (h:Str47 d) {i:Nat} (hi:i ≤ d.length):dB d i ≤ 2 * S47 * (i + sumTo (fun j=>mN (d.getD j noM)) i):=by
 have:=sumTo_le (f:=fun j=>mB (d.getD j noM)) (g:=fun j=>1 + mN (d.getD j noM)) (c:=2 * S47) (n:=i) fun k hk=>by
  obtain ⟨h1,h2,h3⟩:=h k (by omega)
  exact mB_le h1 h2 h3
 rw [sumTo_add,sumTo_const,Nat.mul_one] at this
 exact this
theorem small_parts {d:List Bare.Mem} (hn:dN d d.length ≤ 40) (hb:dB d d.length ≤ 2000):d.length ≤ 40∧∀ m ∈ d,m.key.length ≤ 2000∧m.items.length ≤ 40∧m.params.length ≤ 40∧(∀ p ∈ m.params,p.key.length ≤ 2000∧p.bare.text.length ≤ 2000)∧∀ x ∈ m.items,x.bare.text.length ≤ 2000∧x.params.length ≤ 40∧∀ p ∈ x.params,p.key.length ≤ 2000∧p.bare.text.length ≤ 2000:=by
 have hget:∀ {α:Type} {l:List α} {a d:α},a ∈ l→∃ i,i < l.length∧l.getD i d=a:=fun {α} {l} {a} {d} h=>by
  obtain ⟨i,hi⟩:=List.getElem?_of_mem h
  exact ⟨i,(List.getElem?_eq_some_iff.1 hi).1,by rw [List.getD_eq_getElem?_getD,hi];rfl⟩
 have hps:∀ (L:List Bare.Par) (p:Bare.Par),p ∈ L→pB p ≤ psB L L.length:=fun L p hp=>by
  obtain ⟨i,hi,e⟩:=hget (d:=noP) hp
  have:=sumTo_at (f:=fun j=>pB (L.getD j noP)) hi
  simp only [e] at this
  exact this
 unfold dN at hn
 refine ⟨by omega,fun m hm=>?_⟩
 obtain ⟨i,hi,e⟩:=hget (d:=noM) hm
 have h1:=sumTo_at (f:=fun j=>mN (d.getD j noM)) hi
 have h2:=sumTo_at (f:=fun j=>mB (d.getD j noM)) hi
 simp only [e] at h1 h2
 have h2:mB m ≤ dB d d.length:=h2
 have hmN:mN m=m.items.length + m.params.length + xsN m.items m.items.length:=rfl
 have hmB:mB m=m.key.length + psB m.params m.params.length + xsB m.items m.items.length:=rfl
 refine ⟨by omega,by omega,by omega,fun p hp=>?_,fun x hx=>?_⟩
 ·have:=hps _ p hp
  unfold pB at this
  omega
 ·obtain ⟨k,hk,e'⟩:=hget (d:=Bare.noI) hx
  have h3:=sumTo_at (f:=fun j=>(m.items.getD j Bare.noI).params.length) hk
  have h4:=sumTo_at (f:=fun j=>xB (m.items.getD j Bare.noI)) hk
  simp only [e'] at h3 h4
  have h3:x.params.length ≤ xsN m.items m.items.length:=h3
  have h4:xB x ≤ xsB m.items m.items.length:=h4
  have hx:xB x=x.bare.text.length + psB x.params x.params.length:=rfl
  refine ⟨by omega,by omega,fun p hp=>?_⟩
  have:=hps _ p hp
  unfold pB at this
  omega
end Go.Proofs.YtkiiameibdhdfaaGreatDoor
namespace Go.Proofs.YtkiiameibdhdfaaGreatDoor
open Go.RowKit Go.Shelf Go.Cs
attribute [local go_sem] Oper.semAt_some


theorem lit151 (t:Array Value) (h:t.size=151):∃ u:Nat→Value,t=(u 0::u 1::u 2::u 3::u 4::u 5::u 6::u 7::u 8::u 9::u 10::u 11::u 12::u 13::u 14::u 15::u 16::u 17::u 18::u 19::u 20::u 21::u 22::u 23::u 24::u 25::u 26::u 27::u 28::u 29::u 30::u 31::u 32::u 33::u 34::u 35::u 36::u 37::u 38::u 39::u 40::u 41::u 42::u 43::u 44::u 45::u 46::u 47::u 48::u 49::u 50::u 51::u 52::u 53::u 54::u 55::u 56::u 57::u 58::u 59::u 60::u 61::u 62::u 63::u 64::u 65::u 66::u 67::u 68::u 69::u 70::u 71::u 72::u 73::u 74::u 75::u 76::u 77::u 78::u 79::u 80::u 81::u 82::u 83::u 84::u 85::u 86::u 87::u 88::u 89::u 90::u 91::u 92::u 93::u 94::u 95::u 96::u 97::u 98::u 99::u 100::u 101::u 102::u 103::u 104::u 105::u 106::u 107::u 108::u 109::u 110::u 111::u 112::u 113::u 114::u 115::u 116::u 117::u 118::u 119::u 120::u 121::u 122::u 123::u 124::u 125::u 126::u 127::u 128::u 129::u 130::u 131::u 132::u 133::u 134::u 135::u 136::u 137::u 138::u 139::u 140::u 141::u 142::u 143::u 144::u 145::u 146::u 147::u 148::u 149::u 150::([]:List Value)).toArray:=⟨fun i=>t.getD i undef,range_lit t 151 h⟩
noncomputable def reg_causeyref13_Great_5:Code:=((Tryz.f24.body.bind (regionOf 5)).getD .skip)
theorem great5 (t:Array Value) (hs:t.size=151) (w:World) {b1 o1 nd m1 n i li lp ic pc:Nat} {ia pa:Option Addr}
  (hq0:t.getD 0 undef = .slice (some ⟨b1,o1,none⟩) nd m1)
  (hq3:t.getD 3 undef = .int .i64 n)
  (hq5:t.getD 5 undef = .int .i64 i)
  (hin:i < nd) (hn:n ≤ 40) (hli:li ≤ 281474976710656) (hlp:lp ≤ 281474976710656) (c2:w.cell? ⟨b1,o1 + i * 4 + 2,none⟩=some (.slice ia li ic)) (c3:w.cell? ⟨b1,o1 + i * 4 + 3,none⟩=some (.slice pa lp pc)) :
  reg_causeyref13_Great_5.wp Tryz.prog (Only fun a' W'=>∃ z:Nat→Value,a'=⟨((pz t z [22,23,24,25,26,27,28,29,30,31,32,33,34,35,36]).setIfInBounds 3 (.int .i64 (n + li + lp:Nat))),[]⟩∧New w W') ⟨t,[]⟩ w:=by
 conv=>arg 2;whnf
 obtain ⟨u,rfl⟩:=lit151 t hs
 have hq0:u 0 = _:=hq0
 have hq3:u 3 = _:=hq3
 have hq5:u 5 = _:=hq5
 rw [hq0,hq3,hq5]
 clear hq0 hq3 hq5 hs
 have hi1:decide ((i:Int) < (nd:Int))=true:=decide_eq_true (by omega)
 have hw0:IntKind.i64.wrap ((n:Int) + (li:Int))=(n:Int) + (li:Int):=by rw [IntKind.wrap_i64];omega
 have hw1:IntKind.i64.wrap ((n:Int) + (li:Int) + (lp:Int))=(n:Int) + (li:Int) + (lp:Int):=by rw [IntKind.wrap_i64];omega
 refine wp_region_held (S:=fun W=>New w W) (by kernel_rfl) ?_
 show wpAnyH _ _ _ _ _ 16 _ _ w.drew
 have hN:New w w.drew:=(Mods.refl _ _).drew
 have hS:New w w.drew:=(Mods.refl _ _).drew
 refine tkI 0 (some 22) (.int .i64 n) hS ?_
 simp only [pS]
 refine tkI 1 (some 23) (.slice (some ⟨b1,o1,none⟩) nd m1) hS ?_
 simp only [pS]
 refine tkI 2 (some 24) (.int .i64 i) hS ?_
 simp only [pS]
 refine tkI 3 (some 25) (.pointer (some ⟨b1,o1 + i * 4,none⟩)) hS ?_
 simp only [pS]
 refine tkI 4 (some 26) (.pointer (some ⟨b1,o1 + i * 4 + 2,none⟩)) hS ?_
 simp only [pS]
 refine tkA 5 rfl (some 27) (.slice ia li ic) (.inl ⟨by rfl,fun W hW=>by have q:=hW.cell c2 id;go_simp⟩) hS ?_
 simp only [pS]
 refine tkI 6 (some 28) (.int .i64 li) hS ?_
 simp only [pS]
 refine tkI 7 (some 29) (.int .i64 (n + li:Nat)) hS ?_
 simp only [pS]
 refine tkI 8 (some 30) (.slice (some ⟨b1,o1,none⟩) nd m1) hS ?_
 simp only [pS]
 refine tkI 9 (some 31) (.int .i64 i) hS ?_
 simp only [pS]
 refine tkI 10 (some 32) (.pointer (some ⟨b1,o1 + i * 4,none⟩)) hS ?_
 simp only [pS]
 refine tkI 11 (some 33) (.pointer (some ⟨b1,o1 + i * 4 + 3,none⟩)) hS ?_
 simp only [pS]
 refine tkA 12 rfl (some 34) (.slice pa lp pc) (.inl ⟨by rfl,fun W hW=>by have q:=hW.cell c3 id;go_simp⟩) hS ?_
 simp only [pS]
 refine tkI 13 (some 35) (.int .i64 lp) hS ?_
 simp only [pS]
 refine tkI 14 (some 36) (.int .i64 (n + li + lp:Nat)) hS ?_
 simp only [pS]
 refine tkI 15 (some 3) (.int .i64 (n + li + lp:Nat)) hS ?_
 simp only [pS]
 refine wpAnyH_done (by kernel_rfl) ?_ _
 exact zc rfl hN
noncomputable def reg_causeyref13_Great_10:Code:=((Tryz.f24.body.bind (regionOf 10)).getD .skip)
theorem great10 (t:Array Value) (hs:t.size=151) (w:World) {b1 o1 nd m1 b i k b2 o2 lp pc:Nat} {s1 s2:ByteArray}
  (hq0:t.getD 0 undef = .slice (some ⟨b1,o1,none⟩) nd m1)
  (hq4:t.getD 4 undef = .int .i64 b)
  (hq5:t.getD 5 undef = .int .i64 i)
  (hq6:t.getD 6 undef = .int .i64 k)
  (hin:i < nd) (hkl:k < lp) (hb:b ≤ 144115188075855872) (h1:s1.size ≤ 140737488355328) (h2:s2.size ≤ 140737488355328) (c3:w.cell? ⟨b1,o1 + i * 4 + 3,none⟩=some (.slice (some ⟨b2,o2,none⟩) lp pc)) (d0:w.cell? ⟨b2,o2 + k * 5,none⟩=some (.string s1)) (d3:w.cell? ⟨b2,o2 + k * 5 + 3,none⟩=some (.string s2)) :
  reg_causeyref13_Great_10.wp Tryz.prog (Only fun a' W'=>∃ z:Nat→Value,a'=⟨((pz t z [59,60,61,62,63,64,65,66,67,68,69,70,71,72,73,74,75,76,77,78,79,80,81,82]).setIfInBounds 4 (.int .i64 (b + s1.size + s2.size:Nat))),[]⟩∧New w W') ⟨t,[]⟩ w:=by
 conv=>arg 2;whnf
 obtain ⟨u,rfl⟩:=lit151 t hs
 have hq0:u 0 = _:=hq0
 have hq4:u 4 = _:=hq4
 have hq5:u 5 = _:=hq5
 have hq6:u 6 = _:=hq6
 rw [hq0,hq4,hq5,hq6]
 clear hq0 hq4 hq5 hq6 hs
 have hi1:decide ((i:Int) < (nd:Int))=true:=decide_eq_true (by omega)
 have hk1:decide ((k:Int) < (lp:Int))=true:=decide_eq_true (by omega)
 have hw0:IntKind.i64.wrap ((b:Int) + (s1.size:Int))=(b:Int) + (s1.size:Int):=by rw [IntKind.wrap_i64];omega
 have hw1:IntKind.i64.wrap ((b:Int) + (s1.size:Int) + (s2.size:Int))=(b:Int) + (s1.size:Int) + (s2.size:Int):=by rw [IntKind.wrap_i64];omega
 refine wp_region_held (S:=fun W=>New w W) (by kernel_rfl) ?_
 show wpAnyH _ _ _ _ _ 25 _ _ w.drew
 have hN:New w w.drew:=(Mods.refl _ _).drew
 have hS:New w w.drew:=(Mods.refl _ _).drew
 refine tkI 0 (some 59) (.int .i64 b) hS ?_
 simp only [pS]
 refine tkI 1 (some 60) (.slice (some ⟨b1,o1,none⟩) nd m1) hS ?_
 simp only [pS]
 refine tkI 2 (some 61) (.int .i64 i) hS ?_
 simp only [pS]
 refine tkI 3 (some 62) (.pointer (some ⟨b1,o1 + i * 4,none⟩)) hS ?_
 simp only [pS]
 refine tkI 4 (some 63) (.pointer (some ⟨b1,o1 + i * 4 + 3,none⟩)) hS ?_
 simp only [pS]
 refine tkA 5 rfl (some 64) (.slice (some ⟨b2,o2,none⟩) lp pc) (.inl ⟨by rfl,fun W hW=>by have q:=hW.cell c3 id;go_simp⟩) hS ?_
 simp only [pS]
 refine tkI 6 (some 65) (.int .i64 k) hS ?_
 simp only [pS]
 refine tkI 7 (some 66) (.pointer (some ⟨b2,o2 + k * 5,none⟩)) hS ?_
 simp only [pS]
 refine tkI 8 (some 67) (.pointer (some ⟨b2,o2 + k * 5,none⟩)) hS ?_
 simp only [pS]
 refine tkA 9 rfl (some 68) (.string s1) (.inl ⟨by rfl,fun W hW=>by have q:=hW.cell d0 id;go_simp⟩) hS ?_
 simp only [pS]
 refine tkI 10 (some 69) (.int .i64 s1.size) hS ?_
 simp only [pS]
 refine tkI 11 (some 70) (.int .i64 (b + s1.size:Nat)) hS ?_
 simp only [pS]
 refine tkI 12 (some 71) (.slice (some ⟨b1,o1,none⟩) nd m1) hS ?_
 simp only [pS]
 refine tkI 13 (some 72) (.int .i64 i) hS ?_
 simp only [pS]
 refine tkI 14 (some 73) (.pointer (some ⟨b1,o1 + i * 4,none⟩)) hS ?_
 simp only [pS]
 refine tkI 15 (some 74) (.pointer (some ⟨b1,o1 + i * 4 + 3,none⟩)) hS ?_
 simp only [pS]
 refine tkA 16 rfl (some 75) (.slice (some ⟨b2,o2,none⟩) lp pc) (.inl ⟨by rfl,fun W hW=>by have q:=hW.cell c3 id;go_simp⟩) hS ?_
 simp only [pS]
 refine tkI 17 (some 76) (.int .i64 k) hS ?_
 simp only [pS]
 refine tkI 18 (some 77) (.pointer (some ⟨b2,o2 + k * 5,none⟩)) hS ?_
 simp only [pS]
 refine tkI 19 (some 78) (.pointer (some ⟨b2,o2 + k * 5 + 1,none⟩)) hS ?_
 simp only [pS]
 refine tkI 20 (some 79) (.pointer (some ⟨b2,o2 + k * 5 + 3,none⟩)) hS ?_
 simp only [pS]
 refine tkA 21 rfl (some 80) (.string s2) (.inl ⟨by rfl,fun W hW=>by have q:=hW.cell d3 id;go_simp⟩) hS ?_
 simp only [pS]
 refine tkI 22 (some 81) (.int .i64 s2.size) hS ?_
 simp only [pS]
 refine tkI 23 (some 82) (.int .i64 (b + s1.size + s2.size:Nat)) hS ?_
 simp only [pS]
 refine tkI 24 (some 4) (.int .i64 (b + s1.size + s2.size:Nat)) hS ?_
 simp only [pS]
 refine wpAnyH_done (by kernel_rfl) ?_ _
 exact zc rfl hN
noncomputable def reg_causeyref13_Great_20:Code:=((Tryz.f24.body.bind (regionOf 20)).getD .skip)
theorem great20 (t:Array Value) (hs:t.size=151) (w:World) {B b k b2 o2 lp pc:Nat} {s1 s2:ByteArray}
  (hq4:t.getD 4 undef = .int .i64 b)
  (hq8:t.getD 8 undef = .pointer (some ⟨B,0,none⟩))
  (hq9:t.getD 9 undef = .int .i64 k)
  (hkl:k < lp) (hb:b ≤ 144115188075855872) (h1:s1.size ≤ 140737488355328) (h2:s2.size ≤ 140737488355328) (c4:w.cell? ⟨B,4,none⟩=some (.slice (some ⟨b2,o2,none⟩) lp pc)) (d0:w.cell? ⟨b2,o2 + k * 5,none⟩=some (.string s1)) (d3:w.cell? ⟨b2,o2 + k * 5 + 3,none⟩=some (.string s2)) :
  reg_causeyref13_Great_20.wp Tryz.prog (Only fun a' W'=>∃ z:Nat→Value,a'=⟨((pz t z [127,128,129,130,131,132,133,134,135,136,137,138,139,140,141,142,143,144]).setIfInBounds 4 (.int .i64 (b + s1.size + s2.size:Nat))),[]⟩∧New w W') ⟨t,[]⟩ w:=by
 conv=>arg 2;whnf
 obtain ⟨u,rfl⟩:=lit151 t hs
 have hq4:u 4 = _:=hq4
 have hq8:u 8 = _:=hq8
 have hq9:u 9 = _:=hq9
 rw [hq4,hq8,hq9]
 clear hq4 hq8 hq9 hs
 have hk1:decide ((k:Int) < (lp:Int))=true:=decide_eq_true (by omega)
 have hw0:IntKind.i64.wrap ((b:Int) + (s1.size:Int))=(b:Int) + (s1.size:Int):=by rw [IntKind.wrap_i64];omega
 have hw1:IntKind.i64.wrap ((b:Int) + (s1.size:Int) + (s2.size:Int))=(b:Int) + (s1.size:Int) + (s2.size:Int):=by rw [IntKind.wrap_i64];omega
 refine wp_region_held (S:=fun W=>New w W) (by kernel_rfl) ?_
 show wpAnyH _ _ _ _ _ 19 _ _ w.drew
 have hN:New w w.drew:=(Mods.refl _ _).drew
 have hS:New w w.drew:=(Mods.refl _ _).drew
 refine tkI 0 (some 127) (.int .i64 b) hS ?_
 simp only [pS]
 refine tkI 1 (some 128) (.pointer (some ⟨B,4,none⟩)) hS ?_
 simp only [pS]
 refine tkA 2 rfl (some 129) (.slice (some ⟨b2,o2,none⟩) lp pc) (.inl ⟨by rfl,fun W hW=>by have q:=hW.cell c4 id;go_simp⟩) hS ?_
 simp only [pS]
 refine tkI 3 (some 130) (.int .i64 k) hS ?_
 simp only [pS]
 refine tkI 4 (some 131) (.pointer (some ⟨b2,o2 + k * 5,none⟩)) hS ?_
 simp only [pS]
 refine tkI 5 (some 132) (.pointer (some ⟨b2,o2 + k * 5,none⟩)) hS ?_
 simp only [pS]
 refine tkA 6 rfl (some 133) (.string s1) (.inl ⟨by rfl,fun W hW=>by have q:=hW.cell d0 id;go_simp⟩) hS ?_
 simp only [pS]
 refine tkI 7 (some 134) (.int .i64 s1.size) hS ?_
 simp only [pS]
 refine tkI 8 (some 135) (.int .i64 (b + s1.size:Nat)) hS ?_
 simp only [pS]
 refine tkI 9 (some 136) (.pointer (some ⟨B,4,none⟩)) hS ?_
 simp only [pS]
 refine tkA 10 rfl (some 137) (.slice (some ⟨b2,o2,none⟩) lp pc) (.inl ⟨by rfl,fun W hW=>by have q:=hW.cell c4 id;go_simp⟩) hS ?_
 simp only [pS]
 refine tkI 11 (some 138) (.int .i64 k) hS ?_
 simp only [pS]
 refine tkI 12 (some 139) (.pointer (some ⟨b2,o2 + k * 5,none⟩)) hS ?_
 simp only [pS]
 refine tkI 13 (some 140) (.pointer (some ⟨b2,o2 + k * 5 + 1,none⟩)) hS ?_
 simp only [pS]
 refine tkI 14 (some 141) (.pointer (some ⟨b2,o2 + k * 5 + 3,none⟩)) hS ?_
 simp only [pS]
 refine tkA 15 rfl (some 142) (.string s2) (.inl ⟨by rfl,fun W hW=>by have q:=hW.cell d3 id;go_simp⟩) hS ?_
 simp only [pS]
 refine tkI 16 (some 143) (.int .i64 s2.size) hS ?_
 simp only [pS]
 refine tkI 17 (some 144) (.int .i64 (b + s1.size + s2.size:Nat)) hS ?_
 simp only [pS]
 refine tkI 18 (some 4) (.int .i64 (b + s1.size + s2.size:Nat)) hS ?_
 simp only [pS]
 refine wpAnyH_done (by kernel_rfl) ?_ _
 exact zc rfl hN


theorem great13 {τ:Bool} (v:Value) (d:List Bare.Mem) (w:World) (h:RdD τ w v d) (hS:Str47 d) :
  Calls Tryz.prog 24 #[v] w fun e w'=>∃ g,e = .returned (.bool g)∧New w w'∧(g=false→dN d d.length ≤ 40∧dB d d.length ≤ 2000):=by
 obtain ⟨ao,cap,rfl⟩:=h.slice
 have HD:=Lib.hid h
 have HS:=Lib.hid hS
 have hlen:d.length ≤ 281474976710656:=by obtain ⟨_,_,h1,_⟩:=h;exact h1.1
 clear h hS
 obtain ⟨nd,hn⟩:∃ n,d.length=n:=⟨_,rfl⟩
 have Hn:=Lib.hid hn
 rw [hn] at hlen HD ⊢
 clear hn
 have hN0:New w w:=Mods.refl _ _
 have hz:Hid (nd ≤ 40→nd=dN d 0∧0=dB d 0):=Lib.hid fun _=>⟨by unfold dN sumTo;rw [Hn.out];rfl,rfl⟩
 go_enter Tryz.func24,Tryz.ntmps24
 go_wp2_with fail
 go_loopw [3,4,5] (fun t3 t4 t5 wr=>∃ i n b:Nat,i ≤ nd∧t3 = .int .i64 n∧t4 = .int .i64 b∧t5 = .int .i64 i∧n ≤ 2251799813685248∧b ≤ 144115188075855872∧Hid (n ≤ 40→n=dN d i∧b=dB d i)∧New w wr) (fun _ _ t _=>nd - (intOf t).toNat)
 case atStart=>exact ⟨0,nd,0,Nat.zero_le _,rfl,rfl,rfl,by omega,by omega,hz,hN0⟩
 case round =>
  clear hN0 hz
  obtain ⟨i,n,b,hi,rfl,rfl,rfl,hn51,hb55,hE,hN⟩:=hrel
  by_cases hlt:i < nd
  ·have hkd:decide ((i:Int) < (nd:Int))=true:=decide_eq_true (by omega)
   by_cases hn40:n ≤ 40
   ·have hkd2:decide ((n:Int) ≤ 40)=true:=decide_eq_true (by omega)
    have hld:i < d.length:=by rw [Hn.out];exact hlt
    obtain ⟨hE1,hE2⟩:=hE.out hn40
    have hBb:=dB_le HS.out (show i ≤ d.length by omega)
    have hNn:n=d.length + sumTo (fun j=>mN (d.getD j noM)) i:=hE1
    have hb40:b ≤ 2 * S47 * 40:=by
     rw [hE2]
     refine Nat.le_trans hBb (Nat.mul_le_mul_left _ (by omega))
    obtain ⟨hsk,hsp,hsx⟩:=HS.out i hld
    have hd:=HD.out.new hN
    obtain ⟨iv,pv,h1,-,h3⟩:=hd
    obtain ⟨b1,o1,rfl,hrow⟩:=h1.at.2.2 i hlt
    obtain ⟨hi',hp⟩:=h3 i hld
    obtain ⟨ia,ic,hie⟩:=hi'.slice
    obtain ⟨pa,pc,hpe⟩:=hp.slice
    rw [hie] at hrow hi'
    rw [hpe] at hrow hp
    have HT1:Hid (dN d (i + 1)=dN d i + mN (d.getD i noM)):=Lib.hid (Nat.add_assoc _ _ _).symm
    have HT2:Hid (dB d (i + 1)=dB d i + mB (d.getD i noM)):=Lib.hid rfl
    obtain ⟨m,hm⟩:∃ m,d.getD i noM=m:=⟨_,rfl⟩
    rw [hm] at hrow hi' hp hsk hsp hsx HT1 HT2
    have HI:=Lib.hid hi'
    have HP:=Lib.hid hp
    have hsk2:(tx m.key).size ≤ 140737488355328:=by rw [tx_size];exact hsk
    have hkl:(tx m.key).size=m.key.length:=tx_size _
    obtain ⟨K,hK⟩:∃ K,tx m.key=K:=⟨_,rfl⟩
    unfold mcs at hrow
    rw [hK] at hrow hsk2 hkl
    obtain ⟨c0,c1,c2,c3⟩:=cells4 hrow
    obtain ⟨li,hli⟩:∃ l,m.items.length=l:=⟨_,rfl⟩
    obtain ⟨lp,hlp⟩:∃ l,m.params.length=l:=⟨_,rfl⟩
    have hli48:li ≤ 281474976710656:=by obtain ⟨_,q,_⟩:=hi';have:=q.1;omega
    have hlp48:lp ≤ 281474976710656:=by have:=hp.1.1;omega
    have Hli:=Lib.hid hli
    have Hlp:=Lib.hid hlp
    have HSP:=Lib.hid hsp
    have HSX:=Lib.hid hsx
    rw [hli] at c2 HI
    rw [hlp] at c3 HP
    have HE1:=Lib.hid hE1
    have HE2:=Lib.hid hE2
    have HKl:=Lib.hid hkl
    clear hrow h1 h3 hi' hp hie hpe hm hK hli hlp c1 hE1 hE2 hBb hNn hsk hsp hsx hE hkl
    go_upto_region 5 with fail
    refine piece (fun _=>_) (great5 _ rfl wr rfl rfl rfl hlt hn40 hli48 hlp48 c2 c3) ?_
    rintro a' W1 ⟨z,rfl,hN1⟩
    simp only [pS]
    replace c0:=hN1.cell c0 id
    replace c2:=hN1.cell c2 id
    replace c3:=hN1.cell c3 id
    have hNa:=hN.trans hN1
    have HI1:=Lib.hid (HI.out.new hN1)
    have HP1:=Lib.hid (HP.out.new hN1)
    have hwb:IntKind.i64.wrap ((b:Int) + (K.size:Int))=(b:Int) + (K.size:Int):=by
     have:S47=140737488355328:=rfl
     rw [IntKind.wrap_i64];omega
    obtain ⟨wo,hwo⟩:∃ x,x=wr:=⟨_,rfl⟩
    subst hwo
    obtain ⟨n1,hn1⟩:∃ x,n + li + lp=x:=⟨_,rfl⟩
    have Hn1:=Lib.hid hn1
    have hn1b:n1 ≤ 1125899906842624:=by omega
    rw [hn1]
    clear hn1 hN1 HI HP
    go_wp2_with fail
    have C2:=Lib.hid c2
    have C3:=Lib.hid c3
    go_loopw [4,6] (fun t4 t6 wr=>∃ k b2:Nat,k ≤ lp∧t4 = .int .i64 b2∧t6 = .int .i64 k∧b2 ≤ 144115188075855872∧Hid (n1 ≤ 40→b2=b + K.size + psB m.params k)∧New W1 wr) (fun _ t _=>lp - (intOf t).toNat)
    case atStart=>exact ⟨0,b + K.size,Nat.zero_le _,by rw [Int.natCast_add],rfl,by have:S47=140737488355328:=rfl;omega,Lib.hid (fun _=>rfl),Mods.refl _ _⟩
    case round =>
     obtain ⟨k,b2,hk,rfl,rfl,hb2,hX2,hN2⟩:=hrel
     replace c2:=hN2.cell C2.out id
     replace c3:=hN2.cell C3.out id
     by_cases hkl:k < lp
     ·have hkd2:decide ((k:Int) < (lp:Int))=true:=decide_eq_true (by omega)
      by_cases hn1':n1 ≤ 40
      ·have hnd:decide ((n1:Int) ≤ 40)=true:=decide_eq_true (by omega)
       obtain ⟨b3,o3,e,hrow⟩:=(HP1.out.new hN2).1.at.2.2 k hkl
       subst e
       obtain ⟨d0,-,-,d3,-⟩:=cells5 hrow
       have hs:=HSP.out k (by rw [Hlp.out];exact hkl)
       have hpsb:=psB_le HSP.out (show k ≤ m.params.length by rw [Hlp.out];omega)
       have hs47:S47=140737488355328:=rfl
       have hX2':=hX2.out hn1'
       have hps1:psB m.params (k + 1)=psB m.params k + pB (m.params.getD k noP):=rfl
       have hpb:pB (m.params.getD k noP)=(m.params.getD k noP).key.length + (m.params.getD k noP).bare.text.length:=rfl
       have z1:(tx (m.params.getD k noP).key).size=(m.params.getD k noP).key.length:=tx_size _
       have z2:(tx (m.params.getD k noP).bare.text).size=(m.params.getD k noP).bare.text.length:=tx_size _
       obtain ⟨s1,hs1⟩:∃ s,tx (m.params.getD k noP).key=s:=⟨_,rfl⟩
       obtain ⟨s2,hs2⟩:∃ s,tx (m.params.getD k noP).bare.text=s:=⟨_,rfl⟩
       rw [hs1] at d0 z1
       rw [hs2] at d3 z2
       have hmul:2 * S47 * k ≤ 2 * S47 * 40:=Nat.mul_le_mul_left _ (by have:=Hn1.out;omega)
       have hbd:b2 ≤ 30000000000000000:=by omega
       have hz1:s1.size ≤ 140737488355328:=by omega
       have hz2:s2.size ≤ 140737488355328:=by omega
       have HREL:Hid (n1 ≤ 40→b2 + s1.size + s2.size=b + K.size + psB m.params (k + 1)):=Lib.hid (fun _=>by omega)
       clear hX2' hps1 hpb z1 z2 hs1 hs2 hmul hpsb hs hrow
       go_upto_region 10 with fail
       refine piece (fun _=>_) (great10 _ rfl wr rfl rfl rfl rfl hlt hkl hb2 hz1 hz2 c3 d0 d3) ?_
       rintro a' W7 ⟨z,rfl,hN7⟩
       simp only [pS]
       have hN6':=hN2.trans hN7
       clear d0 d3 hN7 hN2 c2 c3
       go_wp2_with fail
       go_roundw
       case rel=>exact ⟨k + 1,b2 + s1.size + s2.size,by omega,rfl,by go_num,by omega,HREL,hN6'⟩
       case measure=>simp [intOf];omega
      ·have hnd:decide ((n1:Int) ≤ 40)=false:=decide_eq_false (by omega)
       have HX2:Hid (n1 ≤ 40→b2=b + K.size + psB m.params lp):=Lib.hid (fun h=>absurd h (by omega))
       clear hX2
       go_wp2_with fail
       go_loopw [3,4,7] (fun t3 t4 t7 wr=>∃ k n' b':Nat,k ≤ li∧t3 = .int .i64 n'∧t4 = .int .i64 b'∧t7 = .int .i64 k∧n' ≤ 2251799813685248∧b' ≤ 144115188075855872∧Hid (n' ≤ 40→n1 ≤ 40∧n'=n1 + xsN m.items k∧b'=b2 + xsB m.items k)∧New W1 wr) (fun _ _ t _=>li - (intOf t).toNat)
       case atStart=>exact ⟨0,n1,b2,Nat.zero_le _,rfl,rfl,rfl,by omega,hb2,Lib.hid (fun h=>⟨h,rfl,rfl⟩),hN2⟩
       case round =>
        clear hN2
        obtain ⟨k,n',b',hk,rfl,rfl,rfl,hn4,hb4,hE4,hN4⟩:=hrel
        replace c2:=hN4.cell C2.out id
        by_cases hkl:k < li
        ·have hkd2:decide ((k:Int) < (li:Int))=true:=decide_eq_true (by omega)
         by_cases hn4':n' ≤ 40
         ·have hnd:decide ((n':Int) ≤ 40)=true:=decide_eq_true (by omega)
          obtain ⟨f1,f2,f3⟩:=hE4.out hn4'
          obtain ⟨ip,q1,-,q3⟩:=HI1.out.new hN4
          obtain ⟨b3,o3,e,hrow⟩:=q1.at.2.2 k hkl
          subst e
          have hkx:k < m.items.length:=by rw [Hli.out];exact hkl
          have hp3:=q3 k hkx
          obtain ⟨xa,xc,hxe⟩:=hp3.slice
          rw [hxe] at hrow hp3
          obtain ⟨hxt,hxs⟩:=HSX.out k hkx
          have hxsb:=xsB_le HSX.out (show k ≤ m.items.length by omega)
          have hpsb:=psB_le HSP.out (Nat.le_refl _)
          rw [Hlp.out] at hpsb
          obtain ⟨x,hx⟩:∃ x,m.items.getD k Bare.noI=x:=⟨_,rfl⟩
          have Hx:=Lib.hid hx
          rw [hx] at hrow hp3 hxt hxs
          obtain ⟨lx,hlx⟩:∃ l,x.params.length=l:=⟨_,rfl⟩
          have Hlx:=Lib.hid hlx
          have hlx48:lx ≤ 281474976710656:=by have:=hp3.1.1;omega
          rw [hlx] at hrow
          have HXP0:=Lib.hid hp3
          rw [hlx] at HXP0
          have HXS:=Lib.hid hxs
          have hts:(tx x.bare.text).size=x.bare.text.length:=tx_size _
          unfold ics at hrow
          obtain ⟨ts,hts'⟩:∃ t,tx x.bare.text=t:=⟨_,rfl⟩
          rw [hts'] at hrow hts
          have HTs:=Lib.hid hts
          have hs47:S47=140737488355328:=rfl
          have hEX:=HX2.out f1
          have hm1:2 * S47 * lp ≤ 2 * S47 * 40:=Nat.mul_le_mul_left _ (by have:=Hn1.out;omega)
          have hm2:2 * S47 * (k + xsN m.items k) ≤ 2 * S47 * 80:=Nat.mul_le_mul_left _ (by have:=Hn1.out;omega)
          have hbd:b' ≤ 60000000000000000:=by omega
          have hzt:ts.size ≤ 140737488355328:=by omega
          have HRow:=Lib.hid hrow
          have hwn:IntKind.i64.wrap ((n':Int) + (lx:Int))=(n':Int) + (lx:Int):=by rw [IntKind.wrap_i64];omega
          have hwb2:IntKind.i64.wrap ((b':Int) + (ts.size:Int))=(b':Int) + (ts.size:Int):=by rw [IntKind.wrap_i64];omega
          have hA:=Lib.hid (fun (o:Obj)=>((Mods.refl (fun _=>False) wr).alloc o))
          have r8:=World.alloc_heap_new wr (.cells #[.int .u8 x.bare.kind,.int .i64 x.bare.int,.string ts,.bool x.bare.yes,.slice xa lx xc] 71)
          obtain ⟨n2,hn2⟩:∃ y,n' + lx=y:=⟨_,rfl⟩
          have Hn2:=Lib.hid hn2
          obtain ⟨b2',hb2'⟩:∃ y,b' + ts.size=y:=⟨_,rfl⟩
          have Hb2:=Lib.hid hb2'
          have hn2b:n2 ≤ 2251799813685248:=by omega
          have hb2b:b2' ≤ 61000000000000000:=by omega
          have hnc:(n':Int) + (lx:Int)=(n2:Int):=by omega
          clear q1 q3 hrow hp3 hxe hxt hxs hxsb hpsb hx hlx hts hts' hEX hm1 hm2 hn2 hb2' f1 f2 f3 hkx
          go_upto_region 15 with (refine op_value rfl (run_load_mid 71 (.tmp 103) rfl b3 (o3 + k * 5) rfl [.int .u8 x.bare.kind,.int .i64 x.bare.int,.string ts,.bool x.bare.yes,.slice xa lx xc] _ HRow.out Tryz.underlying71 rfl sizeX) ?_)
          have hN5:=hN4.trans (hA.out (.cells #[.int .u8 x.bare.kind,.int .i64 x.bare.int,.string ts,.bool x.bare.yes,.slice xa lx xc] 71))
          have HXP:=Lib.hid (HXP0.out.new (hA.out (.cells #[.int .u8 x.bare.kind,.int .i64 x.bare.int,.string ts,.bool x.bare.yes,.slice xa lx xc] 71)))
          obtain ⟨W5,hW5⟩:∃ V,wr.alloc (.cells #[.int .u8 x.bare.kind,.int .i64 x.bare.int,.string ts,.bool x.bare.yes,.slice xa lx xc] 71)=V:=⟨_,rfl⟩
          obtain ⟨B8,hB8⟩:∃ y,wr.heap.size=y:=⟨_,rfl⟩
          rw [hW5] at r8 hN5 HXP ⊢
          rw [hB8] at r8 ⊢
          clear hW5 hB8 HRow hA HXP0
          have q4:=cell_of_row _ _ 4 _ _ _ r8
          have q2:=cell_of_row _ _ 2 _ _ _ r8
          simp only [gS] at q4 q2
          go_wp2_with fail
          clear q4 q2
          go_loopw [4,9] (fun t4 t9 wr=>∃ j b3:Nat,j ≤ lx∧t4 = .int .i64 b3∧t9 = .int .i64 j∧b3 ≤ 144115188075855872∧Hid (n2 ≤ 40→b3=b2' + psB x.params j)∧wr.heap[B8]? = some (.cells #[.int .u8 x.bare.kind,.int .i64 x.bare.int,.string ts,.bool x.bare.yes,.slice xa lx xc] 71 (0,0))∧New W5 wr) (fun _ t _=>lx - (intOf t).toNat)
          case atStart=>exact ⟨0,b2',Nat.zero_le _,by rw [← Hb2.out,Int.natCast_add],rfl,by omega,Lib.hid (fun _=>rfl),r8,Mods.refl _ _⟩
          case round =>
           clear r8
           obtain ⟨j,b3,hj,rfl,rfl,hb3,hE6,r8,hN6⟩:=hrel
           have q4:=cell_of_row _ _ 4 _ _ _ r8
           simp only [gS] at q4
           by_cases hjl:j < lx
           ·have hjd:decide ((j:Int) < (lx:Int))=true:=decide_eq_true (by omega)
            by_cases hn2':n2 ≤ 40
            ·have hnd:decide ((n2:Int) ≤ 40)=true:=decide_eq_true (by omega)
             obtain ⟨b4,o4,e,hrow⟩:=(HXP.out.new hN6).1.at.2.2 j hjl
             subst e
             obtain ⟨d0,-,-,d3,-⟩:=cells5 hrow
             have hs:=HXS.out j (by rw [Hlx.out];exact hjl)
             have hpsb:=psB_le HXS.out (show j ≤ x.params.length by rw [Hlx.out];omega)
             have hs47:S47=140737488355328:=rfl
             have hE6':=hE6.out hn2'
             have hps1:psB x.params (j + 1)=psB x.params j + pB (x.params.getD j noP):=rfl
             have hpb:pB (x.params.getD j noP)=(x.params.getD j noP).key.length + (x.params.getD j noP).bare.text.length:=rfl
             have z1:(tx (x.params.getD j noP).key).size=(x.params.getD j noP).key.length:=tx_size _
             have z2:(tx (x.params.getD j noP).bare.text).size=(x.params.getD j noP).bare.text.length:=tx_size _
             obtain ⟨s1,hs1⟩:∃ s,tx (x.params.getD j noP).key=s:=⟨_,rfl⟩
             obtain ⟨s2,hs2⟩:∃ s,tx (x.params.getD j noP).bare.text=s:=⟨_,rfl⟩
             rw [hs1] at d0 z1
             rw [hs2] at d3 z2
             have hmul:2 * S47 * j ≤ 2 * S47 * 40:=Nat.mul_le_mul_left _ (by have:=Hn2.out;omega)
             have hbd:b3 ≤ 100000000000000000:=by omega
             have hz1:s1.size ≤ 140737488355328:=by omega
             have hz2:s2.size ≤ 140737488355328:=by omega
             have HREL:Hid (n2 ≤ 40→b3 + s1.size + s2.size=b2' + psB x.params (j + 1)):=Lib.hid (fun _=>by omega)
             have H8:=Lib.hid r8
             have hb3':b3 ≤ 144115188075855872:=by omega
             clear hE6' hps1 hpb z1 z2 hs1 hs2 hmul hpsb hs hrow r8
             go_upto_region 20 with fail
             refine piece (fun _=>_) (great20 _ rfl wr rfl rfl rfl hjl hb3' hz1 hz2 q4 d0 d3) ?_
             rintro a' W7 ⟨z,rfl,hN7⟩
             simp only [pS]
             have r8:=hN7.heap H8.out id
             have hN6':=hN6.trans hN7
             clear q4 d0 d3 hN7 H8 hN6
             go_wp2_with fail
             go_roundw
             case rel=>exact ⟨j + 1,b3 + s1.size + s2.size,by omega,rfl,by go_num,by omega,HREL,r8,hN6'⟩
             case measure=>simp [intOf];omega
            ·have hnd:decide ((n2:Int) ≤ 40)=false:=decide_eq_false (by omega)
             clear r8
             go_wp2_with fail
             go_roundw
             case rel=>exact ⟨k + 1,n2,b3,by omega,rfl,rfl,by go_num,by omega,hb3,Lib.hid (fun h40=>absurd h40 (by omega)),hN5.trans hN6⟩
             case measure=>simp [intOf];omega
           ·have hjd:decide ((j:Int) < (lx:Int))=false:=decide_eq_false (by omega)
            obtain rfl:lx=j:=by omega
            clear r8
            go_wp2_with fail
            go_roundw
            case rel=>exact ⟨k + 1,n2,b3,by omega,rfl,rfl,by go_num,by omega,hb3,Lib.hid (fun h40=>by
             obtain ⟨e1,e2,e3⟩:=hE4.out (by omega)
             have e4:=hE6.out h40
             have e5:xsN m.items (k + 1)=xsN m.items k + x.params.length:=by rw [← Hx.out];rfl
             have e6:xsB m.items (k + 1)=xsB m.items k + xB x:=by rw [← Hx.out];rfl
             have e7:xB x=x.bare.text.length + psB x.params x.params.length:=rfl
             have e8:=Hlx.out
             have e9:=HTs.out
             have e10:=Hn2.out
             have e11:=Hb2.out
             rw [e8] at e7
             refine ⟨e1,?_,?_⟩
             ·omega
             ·omega),hN5.trans hN6⟩
            case measure=>simp [intOf];omega
         ·have hnd:decide ((n':Int) ≤ 40)=false:=decide_eq_false (by omega)
          go_wp2_with fail
          go_roundw
          case rel=>exact ⟨i + 1,n',b',by omega,rfl,rfl,by go_num,hn4,hb4,Lib.hid (fun h40=>absurd h40 (by omega)),hNa.trans hN4⟩
          case measure=>simp [intOf];omega
        ·have hkd2:decide ((k:Int) < (li:Int))=false:=decide_eq_false (by omega)
         obtain rfl:li=k:=by omega
         go_wp2_with fail
         go_roundw
         case rel=>exact ⟨i + 1,n',b',by omega,rfl,rfl,by go_num,hn4,hb4,Lib.hid (fun h40=>by
           obtain ⟨e1,e2,e3⟩:=hE4.out h40
           have e4:=HX2.out e1
           have e5:=HT1.out
           have e6:=HT2.out
           have e7:mN m=m.items.length + m.params.length + xsN m.items m.items.length:=rfl
           have e8:mB m=m.key.length + psB m.params m.params.length + xsB m.items m.items.length:=rfl
           have e9:=Hli.out
           have e10:=Hlp.out
           rw [e9,e10] at e7 e8
           have e11:=HE1.out
           have e12:=HE2.out
           have e13:=Hn1.out
           have e14:=HKl.out
           refine ⟨?_,?_⟩
           ·omega
           ·omega),hNa.trans hN4⟩
         case measure=>simp [intOf];omega
     ·have hkd2:decide ((k:Int) < (lp:Int))=false:=decide_eq_false (by omega)
      obtain rfl:lp=k:=by omega
      have HX2:=hX2
      go_wp2_with fail
      go_loopw [3,4,7] (fun t3 t4 t7 wr=>∃ k n' b':Nat,k ≤ li∧t3 = .int .i64 n'∧t4 = .int .i64 b'∧t7 = .int .i64 k∧n' ≤ 2251799813685248∧b' ≤ 144115188075855872∧Hid (n' ≤ 40→n1 ≤ 40∧n'=n1 + xsN m.items k∧b'=b2 + xsB m.items k)∧New W1 wr) (fun _ _ t _=>li - (intOf t).toNat)
      case atStart=>exact ⟨0,n1,b2,Nat.zero_le _,rfl,rfl,rfl,by omega,hb2,Lib.hid (fun h=>⟨h,rfl,rfl⟩),hN2⟩
      case round =>
       clear hN2
       obtain ⟨k,n',b',hk,rfl,rfl,rfl,hn4,hb4,hE4,hN4⟩:=hrel
       replace c2:=hN4.cell C2.out id
       by_cases hkl:k < li
       ·have hkd2:decide ((k:Int) < (li:Int))=true:=decide_eq_true (by omega)
        by_cases hn4':n' ≤ 40
        ·have hnd:decide ((n':Int) ≤ 40)=true:=decide_eq_true (by omega)
         obtain ⟨f1,f2,f3⟩:=hE4.out hn4'
         obtain ⟨ip,q1,-,q3⟩:=HI1.out.new hN4
         obtain ⟨b3,o3,e,hrow⟩:=q1.at.2.2 k hkl
         subst e
         have hkx:k < m.items.length:=by rw [Hli.out];exact hkl
         have hp3:=q3 k hkx
         obtain ⟨xa,xc,hxe⟩:=hp3.slice
         rw [hxe] at hrow hp3
         obtain ⟨hxt,hxs⟩:=HSX.out k hkx
         have hxsb:=xsB_le HSX.out (show k ≤ m.items.length by omega)
         have hpsb:=psB_le HSP.out (Nat.le_refl _)
         rw [Hlp.out] at hpsb
         obtain ⟨x,hx⟩:∃ x,m.items.getD k Bare.noI=x:=⟨_,rfl⟩
         have Hx:=Lib.hid hx
         rw [hx] at hrow hp3 hxt hxs
         obtain ⟨lx,hlx⟩:∃ l,x.params.length=l:=⟨_,rfl⟩
         have Hlx:=Lib.hid hlx
         have hlx48:lx ≤ 281474976710656:=by have:=hp3.1.1;omega
         rw [hlx] at hrow
         have HXP0:=Lib.hid hp3
         rw [hlx] at HXP0
         have HXS:=Lib.hid hxs
         have hts:(tx x.bare.text).size=x.bare.text.length:=tx_size _
         unfold ics at hrow
         obtain ⟨ts,hts'⟩:∃ t,tx x.bare.text=t:=⟨_,rfl⟩
         rw [hts'] at hrow hts
         have HTs:=Lib.hid hts
         have hs47:S47=140737488355328:=rfl
         have hEX:=HX2.out f1
         have hm1:2 * S47 * lp ≤ 2 * S47 * 40:=Nat.mul_le_mul_left _ (by have:=Hn1.out;omega)
         have hm2:2 * S47 * (k + xsN m.items k) ≤ 2 * S47 * 80:=Nat.mul_le_mul_left _ (by have:=Hn1.out;omega)
         have hbd:b' ≤ 60000000000000000:=by omega
         have hzt:ts.size ≤ 140737488355328:=by omega
         have HRow:=Lib.hid hrow
         have hwn:IntKind.i64.wrap ((n':Int) + (lx:Int))=(n':Int) + (lx:Int):=by rw [IntKind.wrap_i64];omega
         have hwb2:IntKind.i64.wrap ((b':Int) + (ts.size:Int))=(b':Int) + (ts.size:Int):=by rw [IntKind.wrap_i64];omega
         have hA:=Lib.hid (fun (o:Obj)=>((Mods.refl (fun _=>False) wr).alloc o))
         have r8:=World.alloc_heap_new wr (.cells #[.int .u8 x.bare.kind,.int .i64 x.bare.int,.string ts,.bool x.bare.yes,.slice xa lx xc] 71)
         obtain ⟨n2,hn2⟩:∃ y,n' + lx=y:=⟨_,rfl⟩
         have Hn2:=Lib.hid hn2
         obtain ⟨b2',hb2'⟩:∃ y,b' + ts.size=y:=⟨_,rfl⟩
         have Hb2:=Lib.hid hb2'
         have hn2b:n2 ≤ 2251799813685248:=by omega
         have hb2b:b2' ≤ 61000000000000000:=by omega
         have hnc:(n':Int) + (lx:Int)=(n2:Int):=by omega
         clear q1 q3 hrow hp3 hxe hxt hxs hxsb hpsb hx hlx hts hts' hEX hm1 hm2 hn2 hb2' f1 f2 f3 hkx
         go_upto_region 15 with (refine op_value rfl (run_load_mid 71 (.tmp 103) rfl b3 (o3 + k * 5) rfl [.int .u8 x.bare.kind,.int .i64 x.bare.int,.string ts,.bool x.bare.yes,.slice xa lx xc] _ HRow.out Tryz.underlying71 rfl sizeX) ?_)
         have hN5:=hN4.trans (hA.out (.cells #[.int .u8 x.bare.kind,.int .i64 x.bare.int,.string ts,.bool x.bare.yes,.slice xa lx xc] 71))
         have HXP:=Lib.hid (HXP0.out.new (hA.out (.cells #[.int .u8 x.bare.kind,.int .i64 x.bare.int,.string ts,.bool x.bare.yes,.slice xa lx xc] 71)))
         obtain ⟨W5,hW5⟩:∃ V,wr.alloc (.cells #[.int .u8 x.bare.kind,.int .i64 x.bare.int,.string ts,.bool x.bare.yes,.slice xa lx xc] 71)=V:=⟨_,rfl⟩
         obtain ⟨B8,hB8⟩:∃ y,wr.heap.size=y:=⟨_,rfl⟩
         rw [hW5] at r8 hN5 HXP ⊢
         rw [hB8] at r8 ⊢
         clear hW5 hB8 HRow hA HXP0
         have q4:=cell_of_row _ _ 4 _ _ _ r8
         have q2:=cell_of_row _ _ 2 _ _ _ r8
         simp only [gS] at q4 q2
         go_wp2_with fail
         clear q4 q2
         go_loopw [4,9] (fun t4 t9 wr=>∃ j b3:Nat,j ≤ lx∧t4 = .int .i64 b3∧t9 = .int .i64 j∧b3 ≤ 144115188075855872∧Hid (n2 ≤ 40→b3=b2' + psB x.params j)∧wr.heap[B8]? = some (.cells #[.int .u8 x.bare.kind,.int .i64 x.bare.int,.string ts,.bool x.bare.yes,.slice xa lx xc] 71 (0,0))∧New W5 wr) (fun _ t _=>lx - (intOf t).toNat)
         case atStart=>exact ⟨0,b2',Nat.zero_le _,by rw [← Hb2.out,Int.natCast_add],rfl,by omega,Lib.hid (fun _=>rfl),r8,Mods.refl _ _⟩
         case round =>
          clear r8
          obtain ⟨j,b3,hj,rfl,rfl,hb3,hE6,r8,hN6⟩:=hrel
          have q4:=cell_of_row _ _ 4 _ _ _ r8
          simp only [gS] at q4
          by_cases hjl:j < lx
          ·have hjd:decide ((j:Int) < (lx:Int))=true:=decide_eq_true (by omega)
           by_cases hn2':n2 ≤ 40
           ·have hnd:decide ((n2:Int) ≤ 40)=true:=decide_eq_true (by omega)
            obtain ⟨b4,o4,e,hrow⟩:=(HXP.out.new hN6).1.at.2.2 j hjl
            subst e
            obtain ⟨d0,-,-,d3,-⟩:=cells5 hrow
            have hs:=HXS.out j (by rw [Hlx.out];exact hjl)
            have hpsb:=psB_le HXS.out (show j ≤ x.params.length by rw [Hlx.out];omega)
            have hs47:S47=140737488355328:=rfl
            have hE6':=hE6.out hn2'
            have hps1:psB x.params (j + 1)=psB x.params j + pB (x.params.getD j noP):=rfl
            have hpb:pB (x.params.getD j noP)=(x.params.getD j noP).key.length + (x.params.getD j noP).bare.text.length:=rfl
            have z1:(tx (x.params.getD j noP).key).size=(x.params.getD j noP).key.length:=tx_size _
            have z2:(tx (x.params.getD j noP).bare.text).size=(x.params.getD j noP).bare.text.length:=tx_size _
            obtain ⟨s1,hs1⟩:∃ s,tx (x.params.getD j noP).key=s:=⟨_,rfl⟩
            obtain ⟨s2,hs2⟩:∃ s,tx (x.params.getD j noP).bare.text=s:=⟨_,rfl⟩
            rw [hs1] at d0 z1
            rw [hs2] at d3 z2
            have hmul:2 * S47 * j ≤ 2 * S47 * 40:=Nat.mul_le_mul_left _ (by have:=Hn2.out;omega)
            have hbd:b3 ≤ 100000000000000000:=by omega
            have hz1:s1.size ≤ 140737488355328:=by omega
            have hz2:s2.size ≤ 140737488355328:=by omega
            have HREL:Hid (n2 ≤ 40→b3 + s1.size + s2.size=b2' + psB x.params (j + 1)):=Lib.hid (fun _=>by omega)
            have H8:=Lib.hid r8
            have hb3':b3 ≤ 144115188075855872:=by omega
            clear hE6' hps1 hpb z1 z2 hs1 hs2 hmul hpsb hs hrow r8
            go_upto_region 20 with fail
            refine piece (fun _=>_) (great20 _ rfl wr rfl rfl rfl hjl hb3' hz1 hz2 q4 d0 d3) ?_
            rintro a' W7 ⟨z,rfl,hN7⟩
            simp only [pS]
            have r8:=hN7.heap H8.out id
            have hN6':=hN6.trans hN7
            clear q4 d0 d3 hN7 H8 hN6
            go_wp2_with fail
            go_roundw
            case rel=>exact ⟨j + 1,b3 + s1.size + s2.size,by omega,rfl,by go_num,by omega,HREL,r8,hN6'⟩
            case measure=>simp [intOf];omega
           ·have hnd:decide ((n2:Int) ≤ 40)=false:=decide_eq_false (by omega)
            clear r8
            go_wp2_with fail
            go_roundw
            case rel=>exact ⟨k + 1,n2,b3,by omega,rfl,rfl,by go_num,by omega,hb3,Lib.hid (fun h40=>absurd h40 (by omega)),hN5.trans hN6⟩
            case measure=>simp [intOf];omega
          ·have hjd:decide ((j:Int) < (lx:Int))=false:=decide_eq_false (by omega)
           obtain rfl:lx=j:=by omega
           clear r8
           go_wp2_with fail
           go_roundw
           case rel=>exact ⟨k + 1,n2,b3,by omega,rfl,rfl,by go_num,by omega,hb3,Lib.hid (fun h40=>by
            obtain ⟨e1,e2,e3⟩:=hE4.out (by omega)
            have e4:=hE6.out h40
            have e5:xsN m.items (k + 1)=xsN m.items k + x.params.length:=by rw [← Hx.out];rfl
            have e6:xsB m.items (k + 1)=xsB m.items k + xB x:=by rw [← Hx.out];rfl
            have e7:xB x=x.bare.text.length + psB x.params x.params.length:=rfl
            have e8:=Hlx.out
            have e9:=HTs.out
            have e10:=Hn2.out
            have e11:=Hb2.out
            rw [e8] at e7
            refine ⟨e1,?_,?_⟩
            ·omega
            ·omega),hN5.trans hN6⟩
           case measure=>simp [intOf];omega
        ·have hnd:decide ((n':Int) ≤ 40)=false:=decide_eq_false (by omega)
         go_wp2_with fail
         go_roundw
         case rel=>exact ⟨i + 1,n',b',by omega,rfl,rfl,by go_num,hn4,hb4,Lib.hid (fun h40=>absurd h40 (by omega)),hNa.trans hN4⟩
         case measure=>simp [intOf];omega
       ·have hkd2:decide ((k:Int) < (li:Int))=false:=decide_eq_false (by omega)
        obtain rfl:li=k:=by omega
        go_wp2_with fail
        go_roundw
        case rel=>exact ⟨i + 1,n',b',by omega,rfl,rfl,by go_num,hn4,hb4,Lib.hid (fun h40=>by
          obtain ⟨e1,e2,e3⟩:=hE4.out h40
          have e4:=HX2.out e1
          have e5:=HT1.out
          have e6:=HT2.out
          have e7:mN m=m.items.length + m.params.length + xsN m.items m.items.length:=rfl
          have e8:mB m=m.key.length + psB m.params m.params.length + xsB m.items m.items.length:=rfl
          have e9:=Hli.out
          have e10:=Hlp.out
          rw [e9,e10] at e7 e8
          have e11:=HE1.out
          have e12:=HE2.out
          have e13:=Hn1.out
          have e14:=HKl.out
          refine ⟨?_,?_⟩
          ·omega
          ·omega),hNa.trans hN4⟩
        case measure=>simp [intOf];omega
   ·have hkd2:decide ((n:Int) ≤ 40)=false:=decide_eq_false (by omega)
    have hgt:decide ((40:Int) < (n:Int))=true:=decide_eq_true (by omega)
    go_wp2_with fail
    go_ret
    exact ⟨true,rfl,hN,fun h=>by cases h⟩
  ·have hkd:decide ((i:Int) < (nd:Int))=false:=decide_eq_false (by omega)
   obtain rfl:i=nd:=by omega
   by_cases hn40:40 < n
   ·have hgt:decide ((40:Int) < (n:Int))=true:=decide_eq_true (by omega)
    go_wp2_with fail
    go_ret
    exact ⟨true,rfl,hN,fun h=>by cases h⟩
   ·have hgt:decide ((40:Int) < (n:Int))=false:=decide_eq_false (by omega)
    by_cases hb:2000 < b
    ·have hgb:decide ((2000:Int) < (b:Int))=true:=decide_eq_true (by omega)
     go_wp2_with fail
     go_ret
     exact ⟨true,rfl,hN,fun h=>by cases h⟩
    ·have hgb:decide ((2000:Int) < (b:Int))=false:=decide_eq_false (by omega)
     go_wp2_with fail
     go_ret
     refine ⟨false,rfl,hN,fun _=>?_⟩
     obtain ⟨e1,e2⟩:=hE.out (by omega)
     omega
end Go.Proofs.YtkiiameibdhdfaaGreatDoor
namespace Go.Proofs.YtkiiameibdhdfaaGreatDoor


def lsum {α:Type} (f:α→Nat) (L:List α):Nat:=(L.map f).sum
theorem lsum_cons {α:Type} (f:α→Nat) (a:α) (L:List α):lsum f (a::L)=f a + lsum f L:=by simp [lsum]
theorem sumTo_cons {α:Type} (f:α→Nat) (a:α) (L:List α) (z:α):∀ n,sumTo (fun j=>f ((a::L).getD j z)) (n + 1)=f a + sumTo (fun j=>f (L.getD j z)) n
 | 0=>by simp [sumTo]
 | n + 1=>by
  have h:=sumTo_cons f a L z n
  show sumTo _ (n + 1) + f ((a::L).getD (n + 1) z) = _ + (sumTo _ n + f (L.getD n z))
  rw [h]
  simp [List.getD]
  omega
theorem sumTo_list {α:Type} (f:α→Nat) (z:α):∀ L:List α,sumTo (fun j=>f (L.getD j z)) L.length=lsum f L
 | []=>by simp [sumTo,lsum]
 | a::L=>by
  rw [lsum_cons,← sumTo_list f z L]
  exact sumTo_cons f a L z L.length
def wP (p:Bare.Par):Nat:=1 + (p.key.length + p.bare.text.length)
def wX (x:Bare.Itm):Nat:=1 + (x.bare.text.length + lsum wP x.params)
def wM (m:Bare.Mem):Nat:=1 + (m.key.length + (lsum wX m.items + lsum wP m.params))
def wD (d:List Bare.Mem):Nat:=lsum wM d
theorem lsum_le {α:Type} {f g:α→Nat} {L:List α} (h:∀ a ∈ L,f a ≤ g a):lsum f L ≤ lsum g L:=by
 induction L with
 | nil=>exact Nat.le_refl _
 | cons a L ih =>
  rw [lsum_cons,lsum_cons]
  have:=h a (by simp)
  have:=ih fun b hb=>h b (by simp [hb])
  omega
theorem lsum_mul {α:Type} (c:Nat) (f:α→Nat) (L:List α):lsum (fun a=>c * f a) L=c * lsum f L:=by
 induction L with
 | nil=>simp [lsum]
 | cons a L ih=>rw [lsum_cons,lsum_cons,ih,Nat.mul_add]
theorem lsum_one {α:Type} (L:List α):lsum (fun _=>1) L=L.length:=by
 induction L with
 | nil=>rfl
 | cons a L ih=>rw [lsum_cons,ih,List.length_cons];omega
theorem lsum_plus {α:Type} (f g:α→Nat) (L:List α):lsum (fun a=>f a + g a) L=lsum f L + lsum g L:=by
 induction L with
 | nil=>rfl
 | cons a L ih=>rw [lsum_cons,lsum_cons,lsum_cons,ih];omega
theorem told_w (L:List Bare.Par):(Bare.told L).length ≤ 102 * lsum wP L:=by
 induction L with
 | nil=>simp [Bare.told]
 | cons p L ih =>
  rw [Bare.told_cons,lsum_cons]
  have:=valued_len p.bare
  simp only [List.length_cons,List.length_append]
  have e:wP p=1 + (p.key.length + p.bare.text.length):=rfl
  omega
theorem toldI_w (x:Bare.Itm):(Bare.toldI x).length ≤ 102 * wX x:=by
 have:=told_w x.params
 have:=text_len x.bare
 unfold Bare.toldI wX
 rw [List.length_append]
 omega
theorem joinW_w (sep:Bare.Bs):∀ L:List Bare.Bs,(Bare.joinW sep L).length ≤ lsum (fun l=>l.length + sep.length) L
 | []=>by simp [Bare.joinW]
 | [a]=>by simp [Bare.joinW,lsum]
 | a::b::r=>by
  have h:=joinW_w sep (b::r)
  rw [lsum_cons]
  show (a ++ (sep ++ Bare.joinW sep (b::r))).length ≤ _
  rw [List.length_append,List.length_append]
  omega
theorem lsum_map {α β:Type} (f:β→Nat) (g:α→β) (L:List α):lsum f (L.map g)=lsum (fun a=>f (g a)) L:=by simp [lsum,Function.comp_def]
theorem toldM_w (m:Bare.Mem):(Bare.toldM m).length ≤ 103 * wM m:=by
 have h1:=told_w m.params
 unfold Bare.toldM
 split
 ·have h2:=joinW_w [32] (m.items.map Bare.toldI)
  rw [lsum_map] at h2
  have h3:lsum (fun a=>(Bare.toldI a).length + ([32]:Bare.Bs).length) m.items ≤ lsum (fun a=>103 * wX a) m.items:=lsum_le fun a _=>by
   have:=toldI_w a
   have:1 ≤ wX a:=by unfold wX;omega
   simp
   omega
  rw [lsum_mul] at h3
  simp only [List.length_append,List.length_cons]
  unfold wM
  omega
 ·have h2:=valued_len (m.items.headD Bare.noI).bare
  have h3:=told_w (m.items.headD Bare.noI).params
  rw [List.length_append,List.length_append]
  unfold wM
  cases hl:m.items with
  | nil =>
   rw [hl] at h2 h3
   simp only [List.headD_nil] at h2 h3 ⊢
   have e1:Bare.noI.bare.text.length=0:=rfl
   have e2:lsum wP Bare.noI.params=0:=rfl
   rw [e1] at h2
   rw [e2] at h3
   omega
  | cons x r =>
   rw [hl] at h2 h3
   simp only [List.headD_cons] at h2 h3 ⊢
   rw [lsum_cons]
   have:wX x=1 + (x.bare.text.length + lsum wP x.params):=rfl
   omega
theorem joinD_w (d:List Bare.Mem):(Bare.joinW [44,32] (d.map Bare.toldM)).length ≤ 105 * wD d:=by
 have h2:=joinW_w [44,32] (d.map Bare.toldM)
 rw [lsum_map] at h2
 have h3:lsum (fun a=>(Bare.toldM a).length + ([44,32]:Bare.Bs).length) d ≤ lsum (fun a=>105 * wM a) d:=lsum_le fun a _=>by
  have:=toldM_w a
  have:1 ≤ wM a:=by unfold wM;omega
  simp
  omega
 rw [lsum_mul] at h3
 unfold wD
 omega
theorem wD_sums (d:List Bare.Mem):wD d=dN d d.length + dB d d.length:=by
 have hp:∀ L:List Bare.Par,lsum wP L=L.length + psB L L.length:=fun L=>by
  unfold psB
  rw [sumTo_list pB noP L,← lsum_one L,← lsum_plus]
  rfl
 have hx:∀ x:Bare.Itm,wX x=1 + (x.params.length + xB x):=fun x=>by
  unfold wX xB
  rw [hp]
  omega
 have hX:∀ L:List Bare.Itm,lsum wX L=L.length + (xsN L L.length + xsB L L.length):=fun L=>by
  unfold xsN xsB
  rw [sumTo_list (fun x:Bare.Itm=>x.params.length) Bare.noI L,sumTo_list xB Bare.noI L,← lsum_one L,← lsum_plus,← lsum_plus]
  congr 1
  funext x
  exact hx x
 have hm:∀ m:Bare.Mem,wM m=1 + (mN m + mB m):=fun m=>by
  unfold wM mN mB
  rw [hX,hp]
  omega
 unfold wD dN dB
 rw [sumTo_list mN noM d,sumTo_list mB noM d,← lsum_one d,Nat.add_assoc,← lsum_plus,← lsum_plus]
 congr 1
 funext m
 exact hm m
end Go.Proofs.YtkiiameibdhdfaaGreatDoor
namespace Go.Proofs.YtkiiameibdhdfaaGreatDoor
open Go.RowKit Go.Shelf Go.Cs
attribute [local go_sem] Oper.semAt_some


def KindD (d:List Bare.Mem):Prop:=∀ m ∈ d,(∀ x ∈ m.items,0 ≤ x.bare.kind∧∀ p ∈ x.params,0 ≤ p.bare.kind)∧∀ p ∈ m.params,0 ≤ p.bare.kind
theorem prD_mk {d:List Bare.Mem} (hl:d.length ≤ 500) (hk:KindD d) (h:∀ m ∈ d,m.key.length ≤ 2000∧m.items.length ≤ 500∧m.params.length ≤ 500∧(∀ p ∈ m.params,p.key.length ≤ 2000∧p.bare.text.length ≤ 2000)∧∀ x ∈ m.items,x.bare.text.length ≤ 2000∧x.params.length ≤ 500∧∀ p ∈ x.params,p.key.length ≤ 2000∧p.bare.text.length ≤ 2000):PrD d:=by
 refine ⟨hl,fun m hm=>?_⟩
 obtain ⟨h1,h2,h3,h4,h5⟩:=h m hm
 obtain ⟨k1,k2⟩:=hk m hm
 have hx:∀ x ∈ m.items,PrX x:=fun x hx=>by
  obtain ⟨a1,a2,a3⟩:=h5 x hx
  obtain ⟨b1,b2⟩:=k1 x hx
  exact ⟨⟨b1,by omega,by omega,fun p hp=>⟨by have:=(a3 p hp).1;omega,b2 p hp,by have:=(a3 p hp).2;omega⟩⟩,a2⟩
 exact ⟨⟨by omega,by omega,by omega,fun x hm=>(hx x hm).1,fun p hp=>⟨by have:=(h4 p hp).1;omega,k2 p hp,by have:=(h4 p hp).2;omega⟩⟩,h2,h3,hx⟩
theorem InD.kinds {d:List Bare.Mem} (h:InD d):KindD d:=fun m hm=>by
 obtain ⟨-,-,h3,h4⟩:=h.2 m hm
 exact ⟨fun x hx=>⟨(h3 x hx).1.1.1,fun p hp=>((h3 x hx).2.2.2 p hp).1.1.1⟩,fun p hp=>(h4.2 p hp).1.1.1⟩
theorem InD.strs {d:List Bare.Mem} (h:InD d):Str47 d:=fun j hj=>by
 have hs:S47=140737488355328:=rfl
 obtain ⟨h1,-,h3,h4⟩:=h.2 _ (getD_mem (d:=noM) hj)
 have hp:∀ {L:List Bare.Par},InP L→Str47P L:=fun hL k hk=>by
  obtain ⟨-,a,b⟩:=hL.2 _ (getD_mem (d:=noP) hk)
  rw [reach_num] at a b
  exact ⟨by omega,by omega⟩
 rw [reach_num] at h1
 refine ⟨by omega,hp h4,fun k hk=>?_⟩
 obtain ⟨-,a,b⟩:=h3 _ (getD_mem (d:=Bare.noI) hk)
 rw [reach_num] at a
 exact ⟨by omega,hp b⟩
theorem small_pr {d:List Bare.Mem} (hk:KindD d) (hn:dN d d.length ≤ 40) (hb:dB d d.length ≤ 2000):PrD d∧(Bare.joinW [44,32] (d.map Bare.toldM)).length ≤ 300000:=by
 obtain ⟨h1,h2⟩:=small_parts hn hb
 refine ⟨prD_mk (by omega) hk fun m hm=>?_,?_⟩
 ·obtain ⟨a1,a2,a3,a4,a5⟩:=h2 m hm
  exact ⟨a1,by omega,by omega,a4,fun x hx=>by obtain ⟨b1,b2,b3⟩:=a5 x hx;exact ⟨b1,by omega,b3⟩⟩
 ·have:=joinD_w d
  have:=wD_sums d
  omega
end Go.Proofs.YtkiiameibdhdfaaGreatDoor
