/- Texts joined. -/
import Derived.Test.YtnknmmbnhoanfaaGreatDoorC13
import Derived.Test.YtnknmmbnhoanfaaGreatDoorC02
import Derived.Test.YtnknmmbnhoanfaaGreatDoorC04
import Derived.Lib.SlBytesRow
import Derived.Test.YtnknmmbnhoanfaaGreatDoorC03
import Derived.Test.YtnknmmbnhoanfaaGreatDoorC07
import Derived.Test.YtnknmmbnhoanfaaGreatDoorC06
set_option linter.unusedSimpArgs false
set_option linter.unusedVariables false
set_option maxHeartbeats 16000000
set_option maxRecDepth 100000
namespace Go.Proofs.YtnknmmbnhoanfaaGreatDoor
open Go.RowKit Go.Shelf Go.Cs
attribute [local go_sem] Oper.semAt_some


theorem wk13b (t:Array Value) (hs:t.size=224) (w0 w:World) {la oa na pa':Option Addr} {lc oc nc ic B7 ib io ub uo uc pm pcc:Nat} {Q:Exit→Act→World→Prop} (listed:Array Bool) (hl:listed = #[true,true,true,true,true,true,true,true,true,true,true,true,true,true,true,true,true,true,true,true,true,true,true,true,true,true,true,true,true,true,true,true,true,true,true,true,true,true,true,true,true,false,false,false,false,false,false,false,false,false,false,false,false,false,false,false,false,false,false,false,false,false,false,false,false,false,false,false,false,false,false,false,false,false,false,false,false,false,false,false,false,false,false,false,false,false,false,false,false,false,false,false,false,false,false,false,false,false,false,false,false,false,false,false,false,false,false,false,false,false,false,false,false,false,false,false,false,false,false,false,false,false,false,false])
  (hq1:t.getD 1 undef = .slice la 2 lc)
  (hq2:t.getD 2 undef = .int .i64 0)
  (hq3:t.getD 3 undef = .string ⟨#[117,61,49,44,32,105]⟩)
  (hq4:t.getD 4 undef = .int .i64 0)
  (hq5:t.getD 5 undef = .slice oa 1 oc)
  (hq6:t.getD 6 undef = .int .i64 0)
  (hq7:t.getD 7 undef = .pointer (some ⟨B7,0,none⟩))
  (hq8:t.getD 8 undef = .bool true)
  (hq10:t.getD 10 undef = .bool false)
  (hq12:t.getD 12 undef = .int .i64 130)
  (hq14:t.getD 14 undef = .int .i64 130)
  (hq16:t.getD 16 undef = .int .i64 130)
  (hq17:t.getD 17 undef = .slice na 0 nc)
  (hq18:t.getD 18 undef = .int .i64 0)
  (hq19:t.getD 19 undef = .slice (some ⟨ib,io,none⟩) 1 ic)
  (hq20:t.getD 20 undef = .int .i64 0)
  (hq22:t.getD 22 undef = .int .i64 2)
  (hq23:t.getD 23 undef = .string ⟨#[97,61,40,49,32,50,59,120,41,59,121]⟩)
  (hq24:t.getD 24 undef = .int .i64 0)
  (hq141:t.getD 141 undef = .bool true)
  (hS:New w0 w) (k2:w0.cell? ⟨B7,2,none⟩=some (.slice (some ⟨ub,uo,none⟩) 1 uc)) (u0:w0.cell? ⟨ub,uo,none⟩=some (.int .u8 1)) (u1:w0.cell? ⟨ub,uo + 1,none⟩=some (.int .i64 1)) (u2:w0.cell? ⟨ub,uo + 2,none⟩=some (.string ⟨#[]⟩)) (u3:w0.cell? ⟨ub,uo + 3,none⟩=some (.bool false))
  (i1:w0.cell? ⟨ib,io + 1,none⟩=some (.bool true)) (i3:w0.cell? ⟨ib,io + 3,none⟩=some (.slice pa' 1 pcc))
  (HO:Hid (RdD true w0 (.slice oa 1 oc) dwO)) (HI:Hid (RdD true w0 (.slice (some ⟨ib,io,none⟩) 1 ic) dwI))
  (HNP:∀ c a w,¬ Q (.panic c) a w) (HQ:∀ a' W',a'.tmps.size=224→a'.defers = []→a'.tmps.getD 0 undef = .bool true→New w0 W'→Q .normal a' W') :
  wpAnyH Tryz.prog .any (opsOf reg_causeylaw13_wakes_15) Q (fun W=>New w0 W) 83 listed ⟨t,[]⟩ w:=by
 subst hl
 conv=>arg 3;whnf
 obtain ⟨u,rfl⟩:=lit224 t hs
 have hq1:u 1 = _:=hq1
 have hq2:u 2 = _:=hq2
 have hq3:u 3 = _:=hq3
 have hq4:u 4 = _:=hq4
 have hq5:u 5 = _:=hq5
 have hq6:u 6 = _:=hq6
 have hq7:u 7 = _:=hq7
 have hq8:u 8 = _:=hq8
 have hq10:u 10 = _:=hq10
 have hq12:u 12 = _:=hq12
 have hq14:u 14 = _:=hq14
 have hq16:u 16 = _:=hq16
 have hq17:u 17 = _:=hq17
 have hq18:u 18 = _:=hq18
 have hq19:u 19 = _:=hq19
 have hq20:u 20 = _:=hq20
 have hq22:u 22 = _:=hq22
 have hq23:u 23 = _:=hq23
 have hq24:u 24 = _:=hq24
 have hq141:u 141 = _:=hq141
 rw [hq1,hq2,hq3,hq4,hq5,hq6,hq7,hq8,hq10,hq12,hq14,hq16,hq17,hq18,hq19,hq20,hq22,hq23,hq24,hq141]
 clear hq1 hq2 hq3 hq4 hq5 hq6 hq7 hq8 hq10 hq12 hq14 hq16 hq17 hq18 hq19 hq20 hq22 hq23 hq24 hq141 hs
 refine anyH_take 41 (some 142) (.bool false) rfl rfl (by kernel_rfl) (by kernel_rfl) (by kernel_rfl) (fun _ _ _ h=>(HNP _ _ _ h).elim) (.inl ⟨by rfl,fun W hW=>by go_simp⟩) hS ?_
 simp only [pS]
 refine anyH_take 42 (some 143) (.bool true) rfl rfl (by kernel_rfl) (by kernel_rfl) (by kernel_rfl) (fun _ _ _ h=>(HNP _ _ _ h).elim) (.inl ⟨by rfl,fun W hW=>by go_simp⟩) hS ?_
 simp only [pS]
 refine anyH_take 43 (some 144) (.bool true) rfl rfl (by kernel_rfl) (by kernel_rfl) (by kernel_rfl) (fun _ _ _ h=>(HNP _ _ _ h).elim) (.inl ⟨by rfl,fun W hW=>by go_simp⟩) hS ?_
 simp only [pS]
 refine anyH_take 44 (some 145) (.bool true) rfl rfl (by kernel_rfl) (by kernel_rfl) (by kernel_rfl) (fun _ _ _ h=>(HNP _ _ _ h).elim) (.inl ⟨by rfl,fun W hW=>by go_simp⟩) hS ?_
 simp only [pS]
 refine anyH_take 45 (some 146) (.int .i64 130) rfl rfl (by kernel_rfl) (by kernel_rfl) (by kernel_rfl) (fun _ _ _ h=>(HNP _ _ _ h).elim) (.inl ⟨by rfl,fun W hW=>by go_simp⟩) hS ?_
 simp only [pS]
 refine anyH_take 46 (some 147) (.bool true) rfl rfl (by kernel_rfl) (by kernel_rfl) (by kernel_rfl) (fun _ _ _ h=>(HNP _ _ _ h).elim) (.inl ⟨by rfl,fun W hW=>by go_simp⟩) hS ?_
 simp only [pS]
 refine anyH_take 47 (some 148) (.bool true) rfl rfl (by kernel_rfl) (by kernel_rfl) (by kernel_rfl) (fun _ _ _ h=>(HNP _ _ _ h).elim) (.inl ⟨by rfl,fun W hW=>by go_simp⟩) hS ?_
 simp only [pS]
 refine anyH_take 48 (some 149) (.bool true) rfl rfl (by kernel_rfl) (by kernel_rfl) (by kernel_rfl) (fun _ _ _ h=>(HNP _ _ _ h).elim) (.inl ⟨by rfl,fun W hW=>by go_simp⟩) hS ?_
 simp only [pS]
 refine anyH_take 49 (some 150) (.int .i64 130) rfl rfl (by kernel_rfl) (by kernel_rfl) (by kernel_rfl) (fun _ _ _ h=>(HNP _ _ _ h).elim) (.inl ⟨by rfl,fun W hW=>by go_simp⟩) hS ?_
 simp only [pS]
 refine anyH_take 50 (some 151) (.bool true) rfl rfl (by kernel_rfl) (by kernel_rfl) (by kernel_rfl) (fun _ _ _ h=>(HNP _ _ _ h).elim) (.inl ⟨by rfl,fun W hW=>by go_simp⟩) hS ?_
 simp only [pS]
 refine anyH_take 51 (some 152) (.bool true) rfl rfl (by kernel_rfl) (by kernel_rfl) (by kernel_rfl) (fun _ _ _ h=>(HNP _ _ _ h).elim) (.inl ⟨by rfl,fun W hW=>by go_simp⟩) hS ?_
 simp only [pS]
 refine anyH_take 52 (some 153) (.bool true) rfl rfl (by kernel_rfl) (by kernel_rfl) (by kernel_rfl) (fun _ _ _ h=>(HNP _ _ _ h).elim) (.inl ⟨by rfl,fun W hW=>by go_simp⟩) hS ?_
 simp only [pS]
 refine anyH_take 53 (some 154) (.int .i64 130) rfl rfl (by kernel_rfl) (by kernel_rfl) (by kernel_rfl) (fun _ _ _ h=>(HNP _ _ _ h).elim) (.inl ⟨by rfl,fun W hW=>by go_simp⟩) hS ?_
 simp only [pS]
 refine anyH_take 54 (some 155) (.bool true) rfl rfl (by kernel_rfl) (by kernel_rfl) (by kernel_rfl) (fun _ _ _ h=>(HNP _ _ _ h).elim) (.inl ⟨by rfl,fun W hW=>by go_simp⟩) hS ?_
 simp only [pS]
 refine anyH_take 55 (some 156) (.bool true) rfl rfl (by kernel_rfl) (by kernel_rfl) (by kernel_rfl) (fun _ _ _ h=>(HNP _ _ _ h).elim) (.inl ⟨by rfl,fun W hW=>by go_simp⟩) hS ?_
 simp only [pS]
 refine anyH_take 56 (some 157) (.bool true) rfl rfl (by kernel_rfl) (by kernel_rfl) (by kernel_rfl) (fun _ _ _ h=>(HNP _ _ _ h).elim) (.inl ⟨by rfl,fun W hW=>by go_simp⟩) hS ?_
 simp only [pS]
 refine anyH_take 57 (some 158) (.slice na 0 nc) rfl rfl (by kernel_rfl) (by kernel_rfl) (by kernel_rfl) (fun _ _ _ h=>(HNP _ _ _ h).elim) (.inl ⟨by rfl,fun W hW=>by go_simp⟩) hS ?_
 simp only [pS]
 refine anyH_take 58 (some 159) (.int .i64 0) rfl rfl (by kernel_rfl) (by kernel_rfl) (by kernel_rfl) (fun _ _ _ h=>(HNP _ _ _ h).elim) (.inl ⟨by rfl,fun W hW=>by go_simp⟩) hS ?_
 simp only [pS]
 refine anyH_take 59 (some 160) (.bool true) rfl rfl (by kernel_rfl) (by kernel_rfl) (by kernel_rfl) (fun _ _ _ h=>(HNP _ _ _ h).elim) (.inl ⟨by rfl,fun W hW=>by go_simp⟩) hS ?_
 simp only [pS]
 refine anyH_take 60 (some 161) (.bool true) rfl rfl (by kernel_rfl) (by kernel_rfl) (by kernel_rfl) (fun _ _ _ h=>(HNP _ _ _ h).elim) (.inl ⟨by rfl,fun W hW=>by go_simp⟩) hS ?_
 simp only [pS]
 refine anyH_take 61 (some 162) (.bool true) rfl rfl (by kernel_rfl) (by kernel_rfl) (by kernel_rfl) (fun _ _ _ h=>(HNP _ _ _ h).elim) (.inl ⟨by rfl,fun W hW=>by go_simp⟩) hS ?_
 simp only [pS]
 refine anyH_take 62 (some 163) (.int .i64 0) rfl rfl (by kernel_rfl) (by kernel_rfl) (by kernel_rfl) (fun _ _ _ h=>(HNP _ _ _ h).elim) (.inl ⟨by rfl,fun W hW=>by go_simp⟩) hS ?_
 simp only [pS]
 refine anyH_take 63 (some 164) (.bool true) rfl rfl (by kernel_rfl) (by kernel_rfl) (by kernel_rfl) (fun _ _ _ h=>(HNP _ _ _ h).elim) (.inl ⟨by rfl,fun W hW=>by go_simp⟩) hS ?_
 simp only [pS]
 refine anyH_take 64 (some 165) (.bool true) rfl rfl (by kernel_rfl) (by kernel_rfl) (by kernel_rfl) (fun _ _ _ h=>(HNP _ _ _ h).elim) (.inl ⟨by rfl,fun W hW=>by go_simp⟩) hS ?_
 simp only [pS]
 refine anyH_take 65 (some 166) (.bool true) rfl rfl (by kernel_rfl) (by kernel_rfl) (by kernel_rfl) (fun _ _ _ h=>(HNP _ _ _ h).elim) (.inl ⟨by rfl,fun W hW=>by go_simp⟩) hS ?_
 simp only [pS]
 refine anyH_take 66 (some 167) (.int .i64 0) rfl rfl (by kernel_rfl) (by kernel_rfl) (by kernel_rfl) (fun _ _ _ h=>(HNP _ _ _ h).elim) (.inl ⟨by rfl,fun W hW=>by go_simp⟩) hS ?_
 simp only [pS]
 refine anyH_take 67 (some 168) (.bool true) rfl rfl (by kernel_rfl) (by kernel_rfl) (by kernel_rfl) (fun _ _ _ h=>(HNP _ _ _ h).elim) (.inl ⟨by rfl,fun W hW=>by go_simp⟩) hS ?_
 simp only [pS]
 refine anyH_take 68 (some 169) (.bool true) rfl rfl (by kernel_rfl) (by kernel_rfl) (by kernel_rfl) (fun _ _ _ h=>(HNP _ _ _ h).elim) (.inl ⟨by rfl,fun W hW=>by go_simp⟩) hS ?_
 simp only [pS]
 exact wk13b2 (pm:=0) _ rfl w0 _ _ (by kernel_rfl) rfl rfl rfl rfl rfl rfl rfl rfl rfl rfl rfl rfl rfl rfl rfl rfl rfl rfl rfl rfl hS k2 u0 u1 u2 u3 i1 i3 HO HI HNP HQ


theorem wk13a (t:Array Value) (hs:t.size=224) (w0 w:World) {la oa na pa':Option Addr} {lc oc nc ic B7 ib io ub uo uc pm pcc:Nat} {Q:Exit→Act→World→Prop} (listed:Array Bool) (hl:listed = #[false,false,false,false,false,false,false,false,false,false,false,false,false,false,false,false,false,false,false,false,false,false,false,false,false,false,false,false,false,false,false,false,false,false,false,false,false,false,false,false,false,false,false,false,false,false,false,false,false,false,false,false,false,false,false,false,false,false,false,false,false,false,false,false,false,false,false,false,false,false,false,false,false,false,false,false,false,false,false,false,false,false,false,false,false,false,false,false,false,false,false,false,false,false,false,false,false,false,false,false,false,false,false,false,false,false,false,false,false,false,false,false,false,false,false,false,false,false,false,false,false,false,false,false])
  (hq1:t.getD 1 undef = .slice la 2 lc)
  (hq2:t.getD 2 undef = .int .i64 0)
  (hq3:t.getD 3 undef = .string ⟨#[117,61,49,44,32,105]⟩)
  (hq4:t.getD 4 undef = .int .i64 0)
  (hq5:t.getD 5 undef = .slice oa 1 oc)
  (hq6:t.getD 6 undef = .int .i64 0)
  (hq7:t.getD 7 undef = .pointer (some ⟨B7,0,none⟩))
  (hq8:t.getD 8 undef = .bool true)
  (hq10:t.getD 10 undef = .bool false)
  (hq12:t.getD 12 undef = .int .i64 130)
  (hq14:t.getD 14 undef = .int .i64 130)
  (hq16:t.getD 16 undef = .int .i64 130)
  (hq17:t.getD 17 undef = .slice na 0 nc)
  (hq18:t.getD 18 undef = .int .i64 0)
  (hq19:t.getD 19 undef = .slice (some ⟨ib,io,none⟩) 1 ic)
  (hq20:t.getD 20 undef = .int .i64 0)
  (hq22:t.getD 22 undef = .int .i64 2)
  (hq23:t.getD 23 undef = .string ⟨#[97,61,40,49,32,50,59,120,41,59,121]⟩)
  (hq24:t.getD 24 undef = .int .i64 0)
  (hS:New w0 w) (k2:w0.cell? ⟨B7,2,none⟩=some (.slice (some ⟨ub,uo,none⟩) 1 uc)) (u0:w0.cell? ⟨ub,uo,none⟩=some (.int .u8 1)) (u1:w0.cell? ⟨ub,uo + 1,none⟩=some (.int .i64 1)) (u2:w0.cell? ⟨ub,uo + 2,none⟩=some (.string ⟨#[]⟩)) (u3:w0.cell? ⟨ub,uo + 3,none⟩=some (.bool false))
  (i1:w0.cell? ⟨ib,io + 1,none⟩=some (.bool true)) (i3:w0.cell? ⟨ib,io + 3,none⟩=some (.slice pa' 1 pcc))
  (HO:Hid (RdD true w0 (.slice oa 1 oc) dwO)) (HI:Hid (RdD true w0 (.slice (some ⟨ib,io,none⟩) 1 ic) dwI))
  (HNP:∀ c a w,¬ Q (.panic c) a w) (HQ:∀ a' W',a'.tmps.size=224→a'.defers = []→a'.tmps.getD 0 undef = .bool true→New w0 W'→Q .normal a' W') :
  wpAnyH Tryz.prog .any (opsOf reg_causeylaw13_wakes_15) Q (fun W=>New w0 W) 124 listed ⟨t,[]⟩ w:=by
 subst hl
 conv=>arg 3;whnf
 obtain ⟨u,rfl⟩:=lit224 t hs
 have hq1:u 1 = _:=hq1
 have hq2:u 2 = _:=hq2
 have hq3:u 3 = _:=hq3
 have hq4:u 4 = _:=hq4
 have hq5:u 5 = _:=hq5
 have hq6:u 6 = _:=hq6
 have hq7:u 7 = _:=hq7
 have hq8:u 8 = _:=hq8
 have hq10:u 10 = _:=hq10
 have hq12:u 12 = _:=hq12
 have hq14:u 14 = _:=hq14
 have hq16:u 16 = _:=hq16
 have hq17:u 17 = _:=hq17
 have hq18:u 18 = _:=hq18
 have hq19:u 19 = _:=hq19
 have hq20:u 20 = _:=hq20
 have hq22:u 22 = _:=hq22
 have hq23:u 23 = _:=hq23
 have hq24:u 24 = _:=hq24
 rw [hq1,hq2,hq3,hq4,hq5,hq6,hq7,hq8,hq10,hq12,hq14,hq16,hq17,hq18,hq19,hq20,hq22,hq23,hq24]
 clear hq1 hq2 hq3 hq4 hq5 hq6 hq7 hq8 hq10 hq12 hq14 hq16 hq17 hq18 hq19 hq20 hq22 hq23 hq24 hs
 refine anyH_take 0 (some 101) (.int .i64 0) rfl rfl (by kernel_rfl) (by kernel_rfl) (by kernel_rfl) (fun _ _ _ h=>(HNP _ _ _ h).elim) (.inl ⟨by rfl,fun W hW=>by go_simp⟩) hS ?_
 simp only [pS]
 refine anyH_take 1 (some 102) (.bool true) rfl rfl (by kernel_rfl) (by kernel_rfl) (by kernel_rfl) (fun _ _ _ h=>(HNP _ _ _ h).elim) (.inl ⟨by rfl,fun W hW=>by go_simp⟩) hS ?_
 simp only [pS]
 refine anyH_take 2 (some 103) (.bool true) rfl rfl (by kernel_rfl) (by kernel_rfl) (by kernel_rfl) (fun _ _ _ h=>(HNP _ _ _ h).elim) (.inl ⟨by rfl,fun W hW=>by go_simp⟩) hS ?_
 simp only [pS]
 refine anyH_take 3 (some 104) (.slice la 2 lc) rfl rfl (by kernel_rfl) (by kernel_rfl) (by kernel_rfl) (fun _ _ _ h=>(HNP _ _ _ h).elim) (.inl ⟨by rfl,fun W hW=>by go_simp⟩) hS ?_
 simp only [pS]
 refine anyH_take 4 (some 105) (.int .i64 2) rfl rfl (by kernel_rfl) (by kernel_rfl) (by kernel_rfl) (fun _ _ _ h=>(HNP _ _ _ h).elim) (.inl ⟨by rfl,fun W hW=>by go_simp⟩) hS ?_
 simp only [pS]
 refine anyH_take 5 (some 106) (.bool true) rfl rfl (by kernel_rfl) (by kernel_rfl) (by kernel_rfl) (fun _ _ _ h=>(HNP _ _ _ h).elim) (.inl ⟨by rfl,fun W hW=>by go_simp⟩) hS ?_
 simp only [pS]
 refine anyH_take 6 (some 107) (.bool true) rfl rfl (by kernel_rfl) (by kernel_rfl) (by kernel_rfl) (fun _ _ _ h=>(HNP _ _ _ h).elim) (.inl ⟨by rfl,fun W hW=>by go_simp⟩) hS ?_
 simp only [pS]
 refine anyH_take 7 (some 108) (.bool true) rfl rfl (by kernel_rfl) (by kernel_rfl) (by kernel_rfl) (fun _ _ _ h=>(HNP _ _ _ h).elim) (.inl ⟨by rfl,fun W hW=>by go_simp⟩) hS ?_
 simp only [pS]
 refine anyH_take 8 (some 109) (.string ⟨#[117,61,49,44,32,105]⟩) rfl rfl (by kernel_rfl) (by kernel_rfl) (by kernel_rfl) (fun _ _ _ h=>(HNP _ _ _ h).elim) (.inl ⟨by rfl,fun W hW=>by go_simp⟩) hS ?_
 simp only [pS]
 refine anyH_take 9 (some 110) (.bool true) rfl rfl (by kernel_rfl) (by kernel_rfl) (by kernel_rfl) (fun _ _ _ h=>(HNP _ _ _ h).elim) (.inl ⟨by rfl,fun W hW=>by go_simp⟩) hS ?_
 simp only [pS]
 refine anyH_take 10 (some 111) (.bool true) rfl rfl (by kernel_rfl) (by kernel_rfl) (by kernel_rfl) (fun _ _ _ h=>(HNP _ _ _ h).elim) (.inl ⟨by rfl,fun W hW=>by go_simp⟩) hS ?_
 simp only [pS]
 refine anyH_take 11 (some 112) (.bool true) rfl rfl (by kernel_rfl) (by kernel_rfl) (by kernel_rfl) (fun _ _ _ h=>(HNP _ _ _ h).elim) (.inl ⟨by rfl,fun W hW=>by go_simp⟩) hS ?_
 simp only [pS]
 refine anyH_take 12 (some 113) (.int .i64 0) rfl rfl (by kernel_rfl) (by kernel_rfl) (by kernel_rfl) (fun _ _ _ h=>(HNP _ _ _ h).elim) (.inl ⟨by rfl,fun W hW=>by go_simp⟩) hS ?_
 simp only [pS]
 refine anyH_take 13 (some 114) (.bool true) rfl rfl (by kernel_rfl) (by kernel_rfl) (by kernel_rfl) (fun _ _ _ h=>(HNP _ _ _ h).elim) (.inl ⟨by rfl,fun W hW=>by go_simp⟩) hS ?_
 simp only [pS]
 refine anyH_take 14 (some 115) (.bool true) rfl rfl (by kernel_rfl) (by kernel_rfl) (by kernel_rfl) (fun _ _ _ h=>(HNP _ _ _ h).elim) (.inl ⟨by rfl,fun W hW=>by go_simp⟩) hS ?_
 simp only [pS]
 refine anyH_take 15 (some 116) (.bool true) rfl rfl (by kernel_rfl) (by kernel_rfl) (by kernel_rfl) (fun _ _ _ h=>(HNP _ _ _ h).elim) (.inl ⟨by rfl,fun W hW=>by go_simp⟩) hS ?_
 simp only [pS]
 refine anyH_take 16 (some 117) (.int .i64 0) rfl rfl (by kernel_rfl) (by kernel_rfl) (by kernel_rfl) (fun _ _ _ h=>(HNP _ _ _ h).elim) (.inl ⟨by rfl,fun W hW=>by go_simp⟩) hS ?_
 simp only [pS]
 refine anyH_take 17 (some 118) (.bool true) rfl rfl (by kernel_rfl) (by kernel_rfl) (by kernel_rfl) (fun _ _ _ h=>(HNP _ _ _ h).elim) (.inl ⟨by rfl,fun W hW=>by go_simp⟩) hS ?_
 simp only [pS]
 refine anyH_take 18 (some 119) (.bool true) rfl rfl (by kernel_rfl) (by kernel_rfl) (by kernel_rfl) (fun _ _ _ h=>(HNP _ _ _ h).elim) (.inl ⟨by rfl,fun W hW=>by go_simp⟩) hS ?_
 simp only [pS]
 refine anyH_take 19 (some 120) (.bool true) rfl rfl (by kernel_rfl) (by kernel_rfl) (by kernel_rfl) (fun _ _ _ h=>(HNP _ _ _ h).elim) (.inl ⟨by rfl,fun W hW=>by go_simp⟩) hS ?_
 simp only [pS]
 refine anyH_take 20 (some 121) (.slice oa 1 oc) rfl rfl (by kernel_rfl) (by kernel_rfl) (by kernel_rfl) (fun _ _ _ h=>(HNP _ _ _ h).elim) (.inl ⟨by rfl,fun W hW=>by go_simp⟩) hS ?_
 simp only [pS]
 refine tkO 21 ?_
 refine opH_call (some 122) rfl (by rfl) rfl 70 #[] (by go_simp) ((yes_w w).mono ?_)
 rintro e w21 ⟨rfl,hk⟩
 have hS:=hS.trans hk
 clear hk
 refine ⟨_,rfl,hS,?_⟩
 simp only [pS]
 refine anyH_take 22 (some 123) (.agg #[.int .u8 6,.int .i64 0,.string ⟨#[]⟩,.bool true,.slice none 0 0]) rfl rfl (by kernel_rfl) (by kernel_rfl) (by kernel_rfl) (fun _ _ _ h=>(HNP _ _ _ h).elim) (.inl ⟨by rfl,fun W hW=>by go_simp⟩) hS ?_
 simp only [pS]
 refine tkO 23 ?_
 refine opH_value (some 124) (v:=.slice (some ⟨w21.heap.size,0,none⟩) 1 1) (w':=w21.alloc (.cells #[.int .u8 6,.int .i64 0,.string ⟨#[]⟩,.bool true,.slice none 0 0] 85)) rfl (by rfl) rfl (by go_simp) ?_
 have hS:=hS.trans ((Mods.refl (fun _=>False) w21).alloc (.cells #[.int .u8 6,.int .i64 0,.string ⟨#[]⟩,.bool true,.slice none 0 0] 85))
 refine ⟨hS,?_⟩
 simp only [pS]
 refine anyH_take 24 (some 125) (.agg #[.string ⟨#[97]⟩,.bool false,.slice (some ⟨w21.heap.size,0,none⟩) 1 1,.slice none 0 0]) rfl rfl (by kernel_rfl) (by kernel_rfl) (by kernel_rfl) (fun _ _ _ h=>(HNP _ _ _ h).elim) (.inl ⟨by rfl,fun W hW=>by go_simp⟩) hS ?_
 simp only [pS]
 refine tkO 25 ?_
 refine opH_value (some 126) (v:=.slice (some ⟨w21.heap.size + 1,0,none⟩) 1 1) (w':=(w21.alloc (.cells #[.int .u8 6,.int .i64 0,.string ⟨#[]⟩,.bool true,.slice none 0 0] 85)).alloc (.cells #[.string ⟨#[97]⟩,.bool false,.slice (some ⟨w21.heap.size,0,none⟩) 1 1,.slice none 0 0] 44)) rfl (by rfl) rfl (by go_simp) ?_
 have hS:=hS.trans ((Mods.refl (fun _=>False) (w21.alloc (.cells #[.int .u8 6,.int .i64 0,.string ⟨#[]⟩,.bool true,.slice none 0 0] 85))).alloc (.cells #[.string ⟨#[97]⟩,.bool false,.slice (some ⟨w21.heap.size,0,none⟩) 1 1,.slice none 0 0] 44))
 refine ⟨hS,?_⟩
 simp only [pS]
 refine tkO 26 ?_
 refine opH_call (some 127) rfl (by rfl) rfl 27 #[.slice oa 1 oc,.slice (some ⟨w21.heap.size + 1,0,none⟩) 1 1] (by go_simp) (((rsame_d _ _ dwO dwO _ (HO.out.new hS) (one_d w21 [97] false Bare.yesI)).mono (R':=fun e w'=>e = .returned (.bool true)∧New _ w') (by rintro e w' ⟨rfl,h⟩;exact ⟨by rw [decide_eq_true rfl],h⟩)).mono ?_)
 rintro e w26 ⟨rfl,hk⟩
 have hS:=hS.trans hk
 clear hk
 refine ⟨_,rfl,hS,?_⟩
 simp only [pS]
 refine anyH_take 27 (some 128) (.bool true) rfl rfl (by kernel_rfl) (by kernel_rfl) (by kernel_rfl) (fun _ _ _ h=>(HNP _ _ _ h).elim) (.inl ⟨by rfl,fun W hW=>by go_simp⟩) hS ?_
 simp only [pS]
 refine anyH_take 28 (some 129) (.bool true) rfl rfl (by kernel_rfl) (by kernel_rfl) (by kernel_rfl) (fun _ _ _ h=>(HNP _ _ _ h).elim) (.inl ⟨by rfl,fun W hW=>by go_simp⟩) hS ?_
 simp only [pS]
 refine anyH_take 29 (some 130) (.bool true) rfl rfl (by kernel_rfl) (by kernel_rfl) (by kernel_rfl) (fun _ _ _ h=>(HNP _ _ _ h).elim) (.inl ⟨by rfl,fun W hW=>by go_simp⟩) hS ?_
 simp only [pS]
 refine anyH_take 30 (some 131) (.bool true) rfl rfl (by kernel_rfl) (by kernel_rfl) (by kernel_rfl) (fun _ _ _ h=>(HNP _ _ _ h).elim) (.inl ⟨by rfl,fun W hW=>by go_simp⟩) hS ?_
 simp only [pS]
 refine anyH_take 31 (some 132) (.bool true) rfl rfl (by kernel_rfl) (by kernel_rfl) (by kernel_rfl) (fun _ _ _ h=>(HNP _ _ _ h).elim) (.inl ⟨by rfl,fun W hW=>by go_simp⟩) hS ?_
 simp only [pS]
 refine anyH_take 32 (some 133) (.pointer (some ⟨B7,2,none⟩)) rfl rfl (by kernel_rfl) (by kernel_rfl) (by kernel_rfl) (fun _ _ _ h=>(HNP _ _ _ h).elim) (.inl ⟨by rfl,fun W hW=>by go_simp⟩) hS ?_
 simp only [pS]
 refine anyH_take 33 (some 134) (.slice (some ⟨ub,uo,none⟩) 1 uc) rfl rfl (by kernel_rfl) (by kernel_rfl) (by kernel_rfl) (fun _ _ _ h=>(HNP _ _ _ h).elim) (.inl ⟨by rfl,fun W hW=>by have hh:New w0 W:=hW;have q:=hh.cell k2 id;go_simp⟩) hS ?_
 simp only [pS]
 refine anyH_take 34 (some 135) (.pointer (some ⟨ub,uo,none⟩)) rfl rfl (by kernel_rfl) (by kernel_rfl) (by kernel_rfl) (fun _ _ _ h=>(HNP _ _ _ h).elim) (.inl ⟨by rfl,fun W hW=>by go_simp⟩) hS ?_
 simp only [pS]
 refine anyH_take 35 (some 136) (.pointer (some ⟨ub,uo,none⟩)) rfl rfl (by kernel_rfl) (by kernel_rfl) (by kernel_rfl) (fun _ _ _ h=>(HNP _ _ _ h).elim) (.inl ⟨by rfl,fun W hW=>by go_simp⟩) hS ?_
 simp only [pS]
 refine anyH_take 36 (some 137) (.agg #[.int .u8 1,.int .i64 1,.string ⟨#[]⟩,.bool false]) rfl rfl (by kernel_rfl) (by kernel_rfl) (by kernel_rfl) (fun _ _ _ h=>(HNP _ _ _ h).elim) (.inl ⟨by rfl,fun W hW=>by have hh:New w0 W:=hW;have q0:=hh.cell u0 id;have q1:=hh.cell u1 id;have q2:=hh.cell u2 id;have q3:=hh.cell u3 id;go_simp⟩) hS ?_
 simp only [pS]
 refine tkO 37 ?_
 refine opH_call (some 138) rfl (by rfl) rfl 71 #[.int .i64 1] (by go_simp) ((number_w 1 w26).mono ?_)
 rintro e w37 ⟨rfl,hk⟩
 have hS:=hS.trans hk
 clear hk
 refine ⟨_,rfl,hS,?_⟩
 simp only [pS]
 refine anyH_take 38 (some 139) (.bool true) rfl rfl (by kernel_rfl) (by kernel_rfl) (by kernel_rfl) (fun _ _ _ h=>(HNP _ _ _ h).elim) (.inl ⟨by rfl,fun W hW=>by have q:=binop_item ⟨1,1,[],false⟩ ⟨1,1,[],false⟩;simp only [decide_true] at q;have q':(binOp .eql 23 (.agg #[.int .u8 1,.int .i64 1,.string ⟨#[]⟩,.bool false]) (.agg #[.int .u8 1,.int .i64 1,.string ⟨#[]⟩,.bool false])).run Tryz.prog W = .ok (.bool true) W:=q W;clear q;go_simp⟩) hS ?_
 simp only [pS]
 refine anyH_take 39 (some 140) (.bool true) rfl rfl (by kernel_rfl) (by kernel_rfl) (by kernel_rfl) (fun _ _ _ h=>(HNP _ _ _ h).elim) (.inl ⟨by rfl,fun W hW=>by go_simp⟩) hS ?_
 simp only [pS]
 refine anyH_take 40 (some 141) (.bool true) rfl rfl (by kernel_rfl) (by kernel_rfl) (by kernel_rfl) (fun _ _ _ h=>(HNP _ _ _ h).elim) (.inl ⟨by rfl,fun W hW=>by go_simp⟩) hS ?_
 simp only [pS]
 exact wk13b (pm:=0) _ rfl w0 _ _ (by kernel_rfl) rfl rfl rfl rfl rfl rfl rfl rfl rfl rfl rfl rfl rfl rfl rfl rfl rfl rfl rfl rfl hS k2 u0 u1 u2 u3 i1 i3 HO HI HNP HQ
theorem wk13 (t:Array Value) (hs:t.size=224) (w:World) {la oa na pa':Option Addr} {lc oc nc ic B7 ib io ub uo uc pm pcc:Nat}
  (hq1:t.getD 1 undef = .slice la 2 lc)
  (hq2:t.getD 2 undef = .int .i64 0)
  (hq3:t.getD 3 undef = .string ⟨#[117,61,49,44,32,105]⟩)
  (hq4:t.getD 4 undef = .int .i64 0)
  (hq5:t.getD 5 undef = .slice oa 1 oc)
  (hq6:t.getD 6 undef = .int .i64 0)
  (hq7:t.getD 7 undef = .pointer (some ⟨B7,0,none⟩))
  (hq8:t.getD 8 undef = .bool true)
  (hq10:t.getD 10 undef = .bool false)
  (hq12:t.getD 12 undef = .int .i64 130)
  (hq14:t.getD 14 undef = .int .i64 130)
  (hq16:t.getD 16 undef = .int .i64 130)
  (hq17:t.getD 17 undef = .slice na 0 nc)
  (hq18:t.getD 18 undef = .int .i64 0)
  (hq19:t.getD 19 undef = .slice (some ⟨ib,io,none⟩) 1 ic)
  (hq20:t.getD 20 undef = .int .i64 0)
  (hq22:t.getD 22 undef = .int .i64 2)
  (hq23:t.getD 23 undef = .string ⟨#[97,61,40,49,32,50,59,120,41,59,121]⟩)
  (hq24:t.getD 24 undef = .int .i64 0)
  (k2:w.cell? ⟨B7,2,none⟩=some (.slice (some ⟨ub,uo,none⟩) 1 uc)) (u0:w.cell? ⟨ub,uo,none⟩=some (.int .u8 1)) (u1:w.cell? ⟨ub,uo + 1,none⟩=some (.int .i64 1)) (u2:w.cell? ⟨ub,uo + 2,none⟩=some (.string ⟨#[]⟩)) (u3:w.cell? ⟨ub,uo + 3,none⟩=some (.bool false))
  (i1:w.cell? ⟨ib,io + 1,none⟩=some (.bool true)) (i3:w.cell? ⟨ib,io + 3,none⟩=some (.slice pa' 1 pcc))
  (HO:Hid (RdD true w (.slice oa 1 oc) dwO)) (HI:Hid (RdD true w (.slice (some ⟨ib,io,none⟩) 1 ic) dwI)) :
  reg_causeylaw13_wakes_15.wp Tryz.prog (Only fun a' W'=>(a'.tmps.size=224∧a'.defers = []∧a'.tmps.getD 0 undef = .bool true)∧New w W') ⟨t,[]⟩ w:=by
 have hd:New w w.drew:=(Mods.refl _ _).drew
 conv=>arg 2;whnf
 refine wp_region_held (S:=fun W=>New w.drew W) (by kernel_rfl) ?_
 exact wk13a (pm:=0) t hs w.drew w.drew _ (by kernel_rfl) hq1 hq2 hq3 hq4 hq5 hq6 hq7 hq8 hq10 hq12 hq14 hq16 hq17 hq18 hq19 hq20 hq22 hq23 hq24 (Mods.refl _ _) k2 u0 u1 u2 u3 i1 i3 (Lib.hid (HO.out.new hd)) (Lib.hid (HI.out.new hd)) (fun _ _ _ h=>h) (fun a' W' h1 h2 h3 h4=>⟨⟨h1,h2,h3⟩,hd.trans h4⟩)


theorem parse_ok (s:ByteArray) (d:List Bare.Mem) (n:Nat) (h:Bare.parseD (bl s)=some d) (hn:d.length=n) (w:World) (hs:s.size ≤ 1000000) (hT:Tab w) :
  Calls Tryz.prog 21 #[.string s] w fun e w'=>∃ a c,e = .returned (.tuple #[.slice a n c,.int .i64 0])∧RdD true w' (.slice a n c) d∧New w w' :=
 (parse_d s w hs hT).mono fun e w' ⟨v,z,he,hN,hp⟩=>by
  rw [h] at hp
  obtain ⟨rfl,hd,-⟩:=hp
  obtain ⟨a,c,rfl⟩:=hd.slice
  subst hn
  exact ⟨a,c,he,hd,hN⟩
theorem parse_no (s:ByteArray) (h:Bare.parseD (bl s)=none) (w:World) (hs:s.size ≤ 1000000) (hT:Tab w) :
  Calls Tryz.prog 21 #[.string s] w fun e w'=>e = .returned (.tuple #[.slice none 0 0,.int .i64 130])∧New w w' :=
 (parse_d s w hs hT).mono fun e w' ⟨v,z,he,hN,hp⟩=>by
  rw [h] at hp
  obtain ⟨rfl,rfl⟩:=hp
  exact ⟨he,hN⟩
theorem prA:PrD dwA:=by
 have h:=prioD_print (u:=1) (i:=true) (by decide)
 exact h
theorem prI:PrD dwI:=by
 refine ⟨by decide,fun m hm=>⟨smI m hm,?_⟩⟩
 unfold dwI at hm
 rw [List.mem_singleton] at hm
 subst hm
 refine ⟨by decide,by decide,fun x hx=>?_⟩
 have hs:=(smI _ (List.mem_singleton.2 rfl)).2.2.2.1 x hx
 refine ⟨hs,?_⟩
 simp only [List.mem_cons,List.not_mem_nil,or_false] at hx
 rcases hx with rfl | rfl <;> decide
theorem prB:PrD [⟨[65],false,[],[]⟩]:=by
 refine ⟨by decide,fun m hm=>?_⟩
 rw [List.mem_singleton] at hm
 subst hm
 refine ⟨⟨by decide,by decide,by decide,fun x hx=>?_,fun p hp=>?_⟩,by decide,by decide,fun x hx=>?_⟩
 ·cases hx
 ·cases hp
 ·cases hx
theorem fitsA:∀ m ∈ dwA,Fits m:=fits_of_sz (n:=100) (by decide) (parse_sz (by decide) (by decide) dw1)
theorem wakes_d (w:World) (hT:Tab w):Calls Tryz.prog 20 #[] w fun e w'=>e = .returned (.bool true)∧New w w':=by
 have hN:New w w:=Mods.refl _ _
 have H1:=Lib.hid (fun W (hN:New w W)=>parse_ok ⟨#[117,61,49,44,32,105]⟩ dwA 2 dw1 rfl W (by decide) (hT.new hN))
 have H3:=Lib.hid (fun W (hN:New w W)=>parse_ok ⟨#[32,97,61,40,49,32,50,59,120,41,59,121,9,44,32,9,97,32]⟩ dwO 1 dw3 rfl W (by decide) (hT.new hN))
 have H6:=Lib.hid (fun W (hN:New w W)=>parse_no ⟨#[97,44]⟩ dw6 W (by decide) (hT.new hN))
 have H7:=Lib.hid (fun W (hN:New w W)=>parse_no ⟨#[97,9]⟩ dw7 W (by decide) (hT.new hN))
 have H8:=Lib.hid (fun W (hN:New w W)=>parse_no ⟨#[97,61,40,49,9,50,41]⟩ dw8 W (by decide) (hT.new hN))
 have H9:=Lib.hid (fun W (hN:New w W)=>parse_ok ⟨#[32,32]⟩ [] 0 dw9 rfl W (by decide) (hT.new hN))
 have H10:=Lib.hid (fun W (hN:New w W)=>parse_ok ⟨#[97,61,40,49,32,50,59,120,41,59,121]⟩ dwI 1 dw10 rfl W (by decide) (hT.new hN))
 have H2:=Lib.hid (fun (v:Value) W (hN:New w W) {τ:Bool} (hv:RdD τ W v dwA)=>(print_d v _ W hv prA (hT.new hN)).mono (R':=fun e w'=>e = .returned (.tuple #[.string ⟨#[117,61,49,44,32,105]⟩,.int .i64 0])∧New W w') (by rintro e w' ⟨rfl,h⟩;exact ⟨by rw [dw2];rfl,h⟩))
 have H11:=Lib.hid (fun (v:Value) W (hN:New w W) {τ:Bool} (hv:RdD τ W v [⟨[65],false,[],[]⟩])=>(print_d v _ W hv prB (hT.new hN)).mono (R':=fun e w'=>e = .returned (.tuple #[.string ⟨#[]⟩,.int .i64 2])∧New W w') (by rintro e w' ⟨rfl,h⟩;exact ⟨by rw [dw11];rfl,h⟩))
 have H12:=Lib.hid (fun (v:Value) W (hN:New w W) {τ:Bool} (hv:RdD τ W v dwI)=>(print_d v _ W hv prI (hT.new hN)).mono (R':=fun e w'=>e = .returned (.tuple #[.string ⟨#[97,61,40,49,32,50,59,120,41,59,121]⟩,.int .i64 0])∧New W w') (by rintro e w' ⟨rfl,h⟩;exact ⟨by rw [dw12];rfl,h⟩))
 have H4:=Lib.hid (fun (v:Value) W (hv:RdD true W v dwA)=>(find_any v ⟨#[117]⟩ dwA W hv fitsA).mono (R':=fun e w'=>∃ ja pa jc pc,∃ ip:Nat→Value,e = .returned (.tuple #[.agg #[.string ⟨#[117]⟩,.bool false,.slice ja 1 jc,.slice pa 0 pc],.bool true])∧OwX W.heap.size w' (.slice ja 1 jc) 1 (fun i=>ics (([⟨⟨1,1,[],false⟩,[]⟩]:List Bare.Itm).getD i Bare.noI) (ip i))∧New W w') (by
  rintro e w' ⟨v',rfl,ho,h⟩
  rw [show bl ⟨#[117]⟩ = [117] from rfl,dw4] at ho ⊢
  obtain ⟨ja,pa,jc,pc,ip,rfl,h1,-,-⟩:=ho
  exact ⟨ja,pa,jc,pc,ip,rfl,h1,h⟩))
 have H5:=Lib.hid (fun (v:Value) W (hv:RdD true W v dwA)=>(find_any v ⟨#[120]⟩ dwA W hv fitsA).mono (R':=fun e w'=>∃ ja pa jc pc,e = .returned (.tuple #[.agg #[.string ⟨#[]⟩,.bool false,.slice ja 0 jc,.slice pa 0 pc],.bool false])∧New W w') (by
  rintro e w' ⟨v',rfl,ho,h⟩
  rw [show bl ⟨#[120]⟩ = [120] from rfl,dw5] at ho ⊢
  obtain ⟨ja,pa,jc,pc,ip,rfl,h1,-,-⟩:=ho
  exact ⟨ja,pa,jc,pc,rfl,h⟩))
 clear hT
 go_enter Tryz.func20,Tryz.ntmps20
 go_wp2_with fail
 refine (H1.out _ hN).mono ?_
 rintro e wz ⟨la,lc,rfl,hA,hk⟩
 replace hN:=hN.trans hk
 have HA:=Lib.hid hA
 clear hA
 clear hk
 go_wp2_with fail
 refine (H2.out _ _ hN HA.out).mono ?_
 rintro e wz ⟨rfl,hk⟩
 replace hN:=hN.trans hk
 have HA:=Lib.hid (HA.out.new hk)
 clear hk
 go_wp2_with fail
 refine (H3.out _ hN).mono ?_
 rintro e wz ⟨oa,oc,rfl,hO,hk⟩
 replace hN:=hN.trans hk
 have HA:=Lib.hid (HA.out.new hk)
 have HO:=Lib.hid hO
 clear hO
 clear hk
 go_wp2_with fail
 refine (H4.out _ _ HA.out).mono ?_
 rintro e wz ⟨ja,pa,jc,pc,ip,rfl,hX,hk⟩
 replace hN:=hN.trans hk
 have HA:=Lib.hid (HA.out.new hk)
 have HO:=Lib.hid (HO.out.new hk)
 have HX:=Lib.hid hX
 clear hX
 clear hk
 go_upto_region 5 with fail
 have rB7:=World.alloc_heap_new wz (.cells #[.string ⟨#[117]⟩,.bool false,.slice ja 1 jc,.slice pa 0 pc] 44)
 have hk:New wz (wz.alloc (.cells #[.string ⟨#[117]⟩,.bool false,.slice ja 1 jc,.slice pa 0 pc] 44)):=(Mods.refl _ _).alloc _
 obtain ⟨w4,hw4⟩:∃ V,wz.alloc (.cells #[.string ⟨#[117]⟩,.bool false,.slice ja 1 jc,.slice pa 0 pc] 44)=V:=⟨_,rfl⟩
 obtain ⟨B7,hB⟩:∃ b,wz.heap.size=b:=⟨_,rfl⟩
 rw [hw4] at rB7 hk ⊢
 rw [hB] at rB7 ⊢
 clear hw4 hB
 replace hN:=hN.trans hk
 have HA:=Lib.hid (HA.out.new hk)
 have HO:=Lib.hid (HO.out.new hk)
 have HX:=Lib.hid (HX.out.new hk)
 clear hk
 go_wp2_with fail
 refine (H5.out _ _ HA.out).mono ?_
 rintro e wz ⟨ja5,pa5,jc5,pc5,rfl,hk⟩
 replace hN:=hN.trans hk
 have HA:=Lib.hid (HA.out.new hk)
 have HO:=Lib.hid (HO.out.new hk)
 have HX:=Lib.hid (HX.out.new hk)
 replace rB7:=hk.heap rB7 id
 clear hk
 go_upto_region 6 with fail
 have rB9:=World.alloc_heap_new wz (.cells #[.string ⟨#[]⟩,.bool false,.slice ja5 0 jc5,.slice pa5 0 pc5] 44)
 have hk:New wz (wz.alloc (.cells #[.string ⟨#[]⟩,.bool false,.slice ja5 0 jc5,.slice pa5 0 pc5] 44)):=(Mods.refl _ _).alloc _
 obtain ⟨w5,hw5⟩:∃ V,wz.alloc (.cells #[.string ⟨#[]⟩,.bool false,.slice ja5 0 jc5,.slice pa5 0 pc5] 44)=V:=⟨_,rfl⟩
 obtain ⟨B9,hB⟩:∃ b,wz.heap.size=b:=⟨_,rfl⟩
 rw [hw5] at rB9 hk ⊢
 rw [hB] at rB9 ⊢
 clear hw5 hB
 replace hN:=hN.trans hk
 have HA:=Lib.hid (HA.out.new hk)
 have HO:=Lib.hid (HO.out.new hk)
 have HX:=Lib.hid (HX.out.new hk)
 replace rB7:=hk.heap rB7 id
 clear hk
 go_wp2_with fail
 refine (H6.out _ hN).mono ?_
 rintro e wz ⟨rfl,hk⟩
 replace hN:=hN.trans hk
 have HA:=Lib.hid (HA.out.new hk)
 have HO:=Lib.hid (HO.out.new hk)
 have HX:=Lib.hid (HX.out.new hk)
 replace rB7:=hk.heap rB7 id
 clear hk
 go_wp2_with fail
 refine (H7.out _ hN).mono ?_
 rintro e wz ⟨rfl,hk⟩
 replace hN:=hN.trans hk
 have HA:=Lib.hid (HA.out.new hk)
 have HO:=Lib.hid (HO.out.new hk)
 have HX:=Lib.hid (HX.out.new hk)
 replace rB7:=hk.heap rB7 id
 clear hk
 go_wp2_with fail
 refine (H8.out _ hN).mono ?_
 rintro e wz ⟨rfl,hk⟩
 replace hN:=hN.trans hk
 have HA:=Lib.hid (HA.out.new hk)
 have HO:=Lib.hid (HO.out.new hk)
 have HX:=Lib.hid (HX.out.new hk)
 replace rB7:=hk.heap rB7 id
 clear hk
 go_wp2_with fail
 refine (H9.out _ hN).mono ?_
 rintro e wz ⟨na,nc,rfl,-,hk⟩
 replace hN:=hN.trans hk
 have HA:=Lib.hid (HA.out.new hk)
 have HO:=Lib.hid (HO.out.new hk)
 have HX:=Lib.hid (HX.out.new hk)
 replace rB7:=hk.heap rB7 id
 clear hk
 go_wp2_with fail
 refine (H10.out _ hN).mono ?_
 rintro e wz ⟨ia,ic,rfl,hI,hk⟩
 replace hN:=hN.trans hk
 have HA:=Lib.hid (HA.out.new hk)
 have HO:=Lib.hid (HO.out.new hk)
 have HX:=Lib.hid (HX.out.new hk)
 replace rB7:=hk.heap rB7 id
 have HI:=Lib.hid hI
 clear hI
 clear hk
 go_wp2_with fail
 have hbd:=bare_d wz [65]
 rw [show tx [65]=⟨#[65]⟩ from rfl] at hbd
 have hk0:New wz (wz.alloc (.cells #[.string ⟨#[65]⟩,.bool false,.slice none 0 0,.slice none 0 0] 44)):=(Mods.refl _ _).alloc _
 refine (H11.out _ _ (hN.trans hk0) hbd).mono ?_
 rintro e w11 ⟨rfl,hk1⟩
 have hk:=hk0.trans hk1
 clear hk0 hk1 hbd
 replace hN:=hN.trans hk
 have HA:=Lib.hid (HA.out.new hk)
 have HO:=Lib.hid (HO.out.new hk)
 have HX:=Lib.hid (HX.out.new hk)
 replace rB7:=hk.heap rB7 id
 have HI:=Lib.hid (HI.out.new hk)
 clear hk
 go_wp2_with fail
 refine (H12.out _ _ hN HI.out).mono ?_
 rintro e w12 ⟨rfl,hk⟩
 replace hN:=hN.trans hk
 have HA:=Lib.hid (HA.out.new hk)
 have HO:=Lib.hid (HO.out.new hk)
 have HX:=Lib.hid (HX.out.new hk)
 replace rB7:=hk.heap rB7 id
 have HI:=Lib.hid (HI.out.new hk)
 clear hk
 clear H1 H2 H3 H4 H5 H6 H7 H8 H9 H10 H11 H12
 obtain ⟨ub,uo,e,hu⟩:=(HX.out.row (by decide)).at.2.2 0 (by decide)
 subst e
 obtain ⟨u0,u1,u2,u3,-⟩:=cells5 hu
 simp only [Nat.zero_mul,Nat.add_zero] at u0 u1 u2 u3
 obtain ⟨iv,pv,q1,-,q3⟩:=HI.out
 obtain ⟨ib,io,e,hi⟩:=q1.at.2.2 0 (by decide)
 subst e
 obtain ⟨i0,i1,i2,i3⟩:=cells4 hi
 obtain ⟨q4,q5⟩:=q3 0 (by decide)
 obtain ⟨xa,xc,hx⟩:=q4.slice
 obtain ⟨ya,yc,hy⟩:=q5.slice
 rw [hx] at i2
 rw [hy] at i3
 simp only [Nat.zero_mul,Nat.add_zero] at i1 i2 i3
 have k2:=cell_of_row _ _ 2 _ _ _ rB7
 simp only [gS] at k2
 have i1':w12.cell? ⟨ib,io + 1,none⟩=some (.bool true):=i1
 have i2':w12.cell? ⟨ib,io + 2,none⟩=some (.slice xa 2 xc):=i2
 have i3':w12.cell? ⟨ib,io + 3,none⟩=some (.slice ya 1 yc):=i3
 have u0':w12.cell? ⟨ub,uo,none⟩=some (.int .u8 1):=u0
 have u1':w12.cell? ⟨ub,uo + 1,none⟩=some (.int .i64 1):=u1
 have u2':w12.cell? ⟨ub,uo + 2,none⟩=some (.string ⟨#[]⟩):=u2
 have u3':w12.cell? ⟨ub,uo + 3,none⟩=some (.bool false):=u3
 clear hu u0 u1 u2 u3 q1 q3 hi i0 i1 i2 i3 q4 q5 hx hy iv pv
 go_upto_region 15 with fail
 clear HX rB7
 refine piece (fun _=>_) (wk13 (pm:=0) _ rfl w12 rfl rfl rfl rfl rfl rfl rfl rfl rfl rfl rfl rfl rfl rfl rfl rfl rfl rfl rfl k2 u0' u1' u2' u3' i1' i3' HO HI) ?_
 rintro ⟨z,dfs⟩ w15 ⟨⟨hs,hd,hq0⟩,hN15⟩
 simp only at hs hd hq0
 subst hd
 obtain ⟨u,rfl⟩:=lit224 z hs
 have hp0:u 0 = .bool true:=hq0
 rw [hp0]
 clear hp0 hq0 hs
 go_wp2_with fail
 go_ret
 exact ⟨rfl,hN.trans hN15⟩


theorem digit_r:PredB 58 #[] Bare.digB:=by
 intro c w
 unfold Bare.digB
 obtain ⟨n,hn⟩:∃ n,c.toNat=n:=⟨_,rfl⟩
 rw [hn]
 clear hn
 by_cases h1:48 ≤ n
 ·by_cases h2:n ≤ 57
  ·go_enter Tryz.func58,Tryz.ntmps58
   go_wp2_with fail
   go_ret
   refine ⟨congrArg (fun b=>Ending.returned (.bool b)) ?_,rfl⟩
   rw [Bool.eq_iff_iff]
   first | done | (simp;done) | (simp;omega) | (constructor <;> intro h <;> simp_all <;> omega)
  ·go_enter Tryz.func58,Tryz.ntmps58
   go_wp2_with fail
   go_ret
   refine ⟨congrArg (fun b=>Ending.returned (.bool b)) ?_,rfl⟩
   rw [Bool.eq_iff_iff]
   first | done | (simp;done) | (simp;omega) | (constructor <;> intro h <;> simp_all <;> omega)
 ·go_enter Tryz.func58,Tryz.ntmps58
  go_wp2_with fail
  go_ret
  refine ⟨congrArg (fun b=>Ending.returned (.bool b)) ?_,rfl⟩
  rw [Bool.eq_iff_iff]
  first | done | (simp;done) | (simp;omega) | (constructor <;> intro h <;> simp_all <;> omega)
theorem letter_r:PredB 61 #[] Bare.letB:=by
 intro c w
 unfold Bare.letB
 obtain ⟨n,hn⟩:∃ n,c.toNat=n:=⟨_,rfl⟩
 rw [hn]
 clear hn
 have hcase:(97 ≤ n∧n ≤ 122) ∨ (97 ≤ n∧122 < n) ∨ (n < 97∧90 < n) ∨ (65 ≤ n∧n ≤ 90) ∨ n < 65:=by omega
 rcases hcase with ⟨h1,h2⟩ | ⟨h1,h2⟩ | ⟨h1,h2⟩ | ⟨h1,h2⟩ | h1
 all_goals
  go_enter Tryz.func61,Tryz.ntmps61
  go_wp2_with fail
  go_ret
  refine ⟨congrArg (fun b=>Ending.returned (.bool b)) ?_,rfl⟩
  rw [Bool.eq_iff_iff]
  first | done | (simp;done) | (simp;omega) | (constructor <;> intro h <;> simp_all <;> omega)
theorem mark_r:PredB 66 #[] (fun c=>Bare.marks.contains c):=by
 intro c w
 obtain ⟨r,hr⟩:∃ r,Bare.marks.contains c=r:=⟨_,rfl⟩
 have hy:∀ k,k < 17→gb (tx Bare.marks) k=c→r=true:=fun k hk hg=>by
  rw [← hr,← hg,List.contains_iff_mem]
  have:=gb_get (tx Bare.marks) k hk
  rw [bl_tx] at this
  exact List.mem_of_getElem? this
 have hn:(∀ k,k < 17→gb (tx Bare.marks) k ≠ c)→r=false:=fun h=>by
  rw [← hr,Bool.eq_false_iff]
  intro hc
  rw [List.contains_iff_mem] at hc
  obtain ⟨k,hk⟩:=List.mem_iff_getElem?.1 hc
  have hk1:k < 17:=(List.getElem?_eq_some_iff.1 hk).1
  have:=gb_get (tx Bare.marks) k hk1
  rw [bl_tx,hk] at this
  exact h k hk1 (Option.some.inj this).symm
 show Calls _ _ (#[Value.int .u8 (c.toNat:Nat)] ++ #[]) w fun e w'=>e = .returned (.bool (Bare.marks.contains c))∧w'=w
 rw [hr]
 clear hr
 have hi:∀ k,k < 17→∀ W,(Instr.index 9 (.string ⟨#[33,35,36,37,38,39,42,43,45,46,94,95,96,124,126,58,47]⟩) (.int .i64 (k:Nat))).run Tryz.prog W = .ok (.int .u8 ((gb (tx Bare.marks) k).toNat:Nat)) W:=fun k hk=>run_idx (tx Bare.marks) k hk
 go_enter Tryz.func66,Tryz.ntmps66
 go_wp2_with fail
 go_loop [4] (fun c'=>∃ k:Nat,k ≤ 17∧c' = .int .i64 k∧Hid (∀ j,j < k→gb (tx Bare.marks) j ≠ c)) (fun c=>17 - (intOf c).toNat)
 case atStart=>exact ⟨0,Nat.zero_le _,rfl,Lib.hid fun i hi=>by omega⟩
 case round =>
  obtain ⟨k,hk,rfl,hbef⟩:=hrel
  by_cases hlt:k < 17
  ·have hix:=hi k hlt
   have hnext:gb (tx Bare.marks) k ≠ c→Hid (∀ j,j < k + 1→gb (tx Bare.marks) j ≠ c):=fun hg=>Lib.hid fun i hi=>by
    by_cases hik:i < k
    ·exact hbef.out i hik
    ·obtain rfl:i=k:=by omega
     exact hg
   have hstop:=hy k hlt
   by_cases hg:gb (tx Bare.marks) k=c
   ·have hh:=hstop hg
    rw [hg] at hix
    clear hnext hstop hg hbef hi hy hn
    subst hh
    obtain ⟨n,hn⟩:∃ n,c.toNat=n:=⟨_,rfl⟩
    rw [hn] at hix ⊢
    go_wp2_with fail
    go_ret
    exact ⟨rfl,rfl⟩
   ·have hh:=hnext hg
    have hne:((gb (tx Bare.marks) k).toNat:Int) ≠ (c.toNat:Int):=fun e=>hg (UInt8.toNat_inj.1 (Int.ofNat_inj.1 e))
    obtain ⟨m,hm⟩:∃ m,(gb (tx Bare.marks) k).toNat=m:=⟨_,rfl⟩
    rw [hm] at hix hne
    obtain ⟨n,hn⟩:∃ n,c.toNat=n:=⟨_,rfl⟩
    rw [hn] at hne ⊢
    have heq:((m:Int) == (n:Int))=false:=by simpa using hne
    clear hnext hstop hg hbef hi hy hm hne
    go_wp2_with fail
    go_round
    case rel=>exact ⟨k + 1,by omega,by go_num,hh⟩
    case measure=>simp [intOf];omega
  ·obtain rfl:k=17:=by omega
   have hh:=hn hbef.out
   clear hi hy hn hbef
   subst hh
   go_wp2_with fail
   go_ret
   exact ⟨rfl,rfl⟩


theorem run_r (s:ByteArray) (w:World) (hs:s.size ≤ 9223372036854775807) :
  Calls Tryz.prog 112 #[.string s] w fun e w'=>e = .returned (.int .i64 (((bl s).takeWhile Bare.digB).length:Nat))∧w'=w:=by
 have HB:=Lib.hid (Bare.while_at Bare.digB (bl s))
 obtain ⟨r,hr⟩:∃ r,((bl s).takeWhile Bare.digB).length=r:=⟨_,rfl⟩
 rw [hr] at HB ⊢
 clear hr
 go_enter Tryz.func112,Tryz.ntmps112
 go_wp2_with fail
 go_loop [3] (fun c=>∃ k:Nat,k ≤ s.size∧c = .int .i64 k∧Hid (∀ j,j < k→Bare.digB (gb s j)=true)) (fun c=>s.size - (intOf c).toNat)
 case atStart=>exact ⟨0,Nat.zero_le _,rfl,Lib.hid fun i hi=>by omega⟩
 case round =>
  obtain ⟨k,hk,rfl,hbef⟩:=hrel
  by_cases hlt:k < s.size
  ·have hix:=run_idx s k hlt
   have HP:=Lib.hid (digit_r (gb s k))
   obtain ⟨T,hT⟩:∃ x,Bare.digB (gb s k)=x:=⟨_,rfl⟩
   have hnext:T=true→Hid (∀ j,j < k + 1→Bare.digB (gb s j)=true):=fun hg=>Lib.hid fun i hi=>by
    by_cases hik:i < k
    ·exact hbef.out i hik
    ·obtain rfl:i=k:=by omega
     rw [hT];exact hg
   have hstop:T=false→r=k:=fun hg=>by
    refine HB.out k (by rw [bl_len];exact hk) (fun j hj c hc=>?_) (fun c hc=>?_)
    ·obtain ⟨_,rfl⟩:=get_gb hc
     exact hbef.out j hj
    ·obtain ⟨_,rfl⟩:=get_gb hc
     rw [hT];exact hg
   rw [hT] at HP
   obtain ⟨n,hn⟩:∃ x,(gb s k).toNat=x:=⟨_,rfl⟩
   rw [hn] at HP hix
   clear hT hn hbef
   cases T with
   | true =>
    have hh:=hnext rfl
    clear hnext hstop
    go_wp2_with (go_at_call 58;refine (HP.out _).mono ?_;rintro e w' ⟨rfl,rfl⟩)
    go_round
    case rel=>exact ⟨k + 1,by omega,by go_num,hh⟩
    case measure=>simp [intOf];omega
   | false =>
    have hh:=hstop rfl
    clear hnext hstop
    subst hh
    go_wp2_with (go_at_call 58;refine (HP.out _).mono ?_;rintro e w' ⟨rfl,rfl⟩)
    go_ret
    exact ⟨rfl,rfl⟩
  ·obtain rfl:k=s.size:=by omega
   have hh:=HB.out s.size (by rw [bl_len];exact Nat.le_refl _) (fun j hj c hc=>by obtain ⟨_,rfl⟩:=get_gb hc;exact hbef.out j hj) (fun c hc=>by obtain ⟨h1,_⟩:=get_gb hc;omega)
   clear HB hbef
   subst hh
   go_wp2_with fail
   go_ret
   exact ⟨rfl,rfl⟩
theorem val_take (s:ByteArray) (k:Nat) (h:k < s.size):Bare.valD ((bl s).take (k + 1))=Bare.valD ((bl s).take k) * 10 + ((gb s k).toNat - 48):=by
 have:=gb_get s k h
 rw [List.take_add_one,this]
 unfold Bare.valD
 rw [List.foldl_append]
 rfl
theorem value_r (s:ByteArray) (w:World) (hs:s.size ≤ 18) (hd:(bl s).all Bare.digB=true) :
  Calls Tryz.prog 113 #[.string s] w fun e w'=>e = .returned (.int .i64 (Bare.valD (bl s):Nat))∧w'=w:=by
 have HV:∀ k,k ≤ s.size→Bare.valD ((bl s).take k) < 1000000000000000000:=fun k hk=>by
  have h1:=Bare.valD_lt (l:=(bl s).take k) (List.all_eq_true.2 fun c hc=>List.all_eq_true.1 hd c (List.mem_of_mem_take hc))
  have h2:((bl s).take k).length ≤ 18:=by rw [List.length_take];omega
  have h3:=Nat.pow_le_pow_right (show 1 ≤ 10 by decide) h2
  exact Nat.lt_of_lt_of_le h1 h3
 have HG:∀ k,k < s.size→48 ≤ (gb s k).toNat∧(gb s k).toNat ≤ 57:=fun k hk=>by
  have:=List.all_eq_true.1 hd (gb s k) (List.mem_of_getElem? (gb_get s k hk))
  unfold Bare.digB at this
  simpa using this
 have HS:=Lib.hid (fun k h=>val_take s k h)
 have hend:(bl s).take s.size=bl s:=by rw [← bl_len];exact List.take_length
 obtain ⟨V,hV⟩:∃ v,Bare.valD (bl s)=v:=⟨_,rfl⟩
 replace hend:Bare.valD ((bl s).take s.size)=V:=by rw [hend,hV]
 rw [hV]
 clear hV
 replace hend:=Lib.hid hend
 replace HV:=Lib.hid HV
 replace HG:=Lib.hid HG
 clear hd
 go_enter Tryz.func113,Tryz.ntmps113
 go_wp2_with fail
 go_loop [3,4] (fun v c=>∃ k N:Nat,k ≤ s.size∧c = .int .i64 k∧v = .int .i64 N∧Hid (N=Bare.valD ((bl s).take k))) (fun _ c=>s.size - (intOf c).toNat)
 case atStart=>exact ⟨0,0,Nat.zero_le _,rfl,rfl,Lib.hid rfl⟩
 case round =>
  obtain ⟨k,N,hk,rfl,rfl,hN⟩:=hrel
  by_cases hlt:k < s.size
  ·have hix:=run_idx s k hlt
   have hN1:=HV.out k hk
   rw [← hN.out] at hN1
   have hN2:=HV.out (k + 1) hlt
   have hS:=HS.out k hlt
   rw [← hN.out] at hS
   obtain ⟨hg1,hg2⟩:=HG.out k hlt
   obtain ⟨c,hc⟩:∃ c,(gb s k).toNat=c:=⟨_,rfl⟩
   rw [hc] at hix hS hg1 hg2
   rw [hS] at hN2
   have hS:Hid (N * 10 + (c - 48)=Bare.valD ((bl s).take (k + 1))):=Lib.hid hS.symm
   clear hN hc
   go_wp2_with fail
   go_round
   case rel=>exact ⟨k + 1,N * 10 + (c - 48),by omega,by go_num,by first | (go_num;done) | (go_num;omega),hS⟩
   case measure=>simp [intOf];omega
  ·obtain rfl:k=s.size:=by omega
   have hN:=hN.out
   rw [hend.out] at hN
   clear HS HV HG hend
   subst hN
   go_wp2_with fail
   go_ret
   exact ⟨rfl,rfl⟩


theorem padD_len:∀ (m n l:Nat),n + l ≤ m→(Bare.padD n l).length ≤ n + l
 | 0,n,l,h=>by
  obtain rfl:n=0:=by omega
  obtain rfl:l=0:=by omega
  rw [Bare.padD_done];simp
 | m + 1,n,l,h=>by
  by_cases h0:n=0∧l=0
  ·rw [h0.1,h0.2,Bare.padD_done];simp
  ·rw [Bare.padD_step h0,List.length_append]
   have:=padD_len m (n / 10) (l - 1) (by omega)
   simp
   omega
theorem run_one (W:World) (d:UInt8) (z:Int) (hz:z=(d.toNat:Nat)) :
  (convert 62 9 (.slice (some ⟨W.heap.size,0,none⟩) 1 1)).run Tryz.prog (W.alloc (.cells #[.int .u8 z] 5)) = .ok (.string (tx [d])) (W.alloc (.cells #[.int .u8 z] 5)):=by
 subst hz
 have h:=Lib.run_convert_whole (P:=Tryz.prog) (W.alloc (.cells #[.int .u8 (d.toNat:Nat)] 5)) 62 5 9 (by kernel_rfl) (by kernel_rfl) (by kernel_rfl) W.heap.size 0 (tx [d]) (fun i hi=>by
  rw [tx_size] at hi
  have hi:i < 1:=hi
  obtain rfl:i=0:=by omega
  have hr:=World.alloc_heap_new W (.cells #[.int .u8 (d.toNat:Nat)] 5)
  have hc:(W.alloc (.cells #[.int .u8 (d.toNat:Nat)] 5)).cell? ⟨W.heap.size,0,none⟩=some (.int .u8 (d.toNat:Nat)):=by
   simp only [World.cell?,hr]
   rfl
  exact hc) 1
 exact h
theorem digits_r (n l:Nat) (hn:n ≤ 999999999999999) (hl:l ≤ 3) (w:World) :
  Calls Tryz.prog 49 #[.int .i64 n,.int .i64 l] w fun e w'=>e = .returned (.string (tx (Bare.padD n l)))∧New w w':=by
 have hlen:=padD_len _ n l (Nat.le_refl _)
 have hN0:New w w:=Mods.refl _ _
 obtain ⟨F,hF⟩:∃ F,Bare.padD n l=F:=⟨_,rfl⟩
 rw [hF] at hlen ⊢
 have hFl:F.length ≤ 1000000000000010:=by omega
 go_enter Tryz.func49,Tryz.ntmps49
 go_wp2_with fail
 go_loopw [0,1,5] (fun a b o wr=>∃ (n':Nat) (li:Int) (out:Bare.Bs),n' ≤ 999999999999999∧a = .int .i64 n'∧b = .int .i64 li∧o = .string (tx out)∧li ≤ 3∧Hid (F=Bare.padD n' li.toNat ++ out)∧-1000000000000010 ≤ li + 0∧(li + out.length=l)∧New w wr) (fun a b _ _=>(intOf a).toNat + (intOf b).toNat)
 case atStart=>exact ⟨n,l,[],hn,rfl,rfl,rfl,by omega,Lib.hid (by rw [← hF];simp),by omega,by simp,hN0⟩
 case round =>
  obtain ⟨n',li,out,hn',rfl,rfl,rfl,hl3,hp,hlo,hlen',hN⟩:=hrel
  by_cases hstop:n'=0∧li ≤ 0
  ·obtain ⟨rfl,hl0⟩:=hstop
   have hp:=hp.out
   rw [show li.toNat=0 by omega,Bare.padD_done,List.nil_append] at hp
   subst hp
   go_wp2_with fail
   go_ret
   exact ⟨rfl,hN⟩
  ·have hlo1:out.length + 1 ≤ F.length:=by
    rw [hp.out,Bare.padD_step (by omega),List.length_append,List.length_append];show _ ≤ _ + 1 + _;omega
   have hos:(tx out).size=out.length:=tx_size out
   have hm:(n':Int) % 10=((n' % 10:Nat):Int):=by omega
   have hcv:=run_one wr (UInt8.ofNat (48 + n' % 10)) (48 + (n':Int) % 10) (by simp;omega)
   have hds:(tx [UInt8.ofNat (48 + n' % 10)]).size=1:=tx_size _
   have hA:=hN.alloc (.cells #[.int .u8 (48 + (n':Int) % 10)] 5)
   have hp2:Hid (F=Bare.padD (n' / 10) (li - 1).toNat ++ ([UInt8.ofNat (48 + n' % 10)] ++ out)):=Lib.hid (by
    rw [hp.out,Bare.padD_step (by omega),show (li - 1).toNat=li.toNat - 1 by omega,List.append_assoc])
   have hjo:tx [UInt8.ofNat (48 + n' % 10)] ++ tx out=tx ([UInt8.ofNat (48 + n' % 10)] ++ out):=by rw [cat_bl,bl_tx,bl_tx]
   obtain ⟨d,hd⟩:∃ d,UInt8.ofNat (48 + n' % 10)=d:=⟨_,rfl⟩
   rw [hd] at hcv hds hp2 hjo
   clear hm hp hd
   by_cases hz:0 < n'
   ·clear hstop
    go_wp2_with fail
    go_round
    case rel=>exact ⟨n' / 10,li - 1,[d] ++ out,by omega,by go_num,rfl,rfl,by omega,hp2,by omega,by simp;omega,hA⟩
    case measure=>simp [intOf];omega
   ·have hl1:0 < li:=by omega
    clear hstop
    go_wp2_with fail
    go_round
    case rel=>exact ⟨n' / 10,li - 1,[d] ++ out,by omega,by go_num,rfl,rfl,by omega,hp2,by omega,by simp;omega,hA⟩
    case measure=>simp [intOf];omega


theorem tok_bad2 (k:Nat) (c:UInt8):((k == 0 && (!Bare.letB c && !(c == 42))) || (!Bare.letB c && (!Bare.digB c && !Bare.marks.contains c))) = !tokAt k c:=by
 have h42:c=42→Bare.marks.contains c=true:=by rintro rfl;decide
 unfold tokAt Bare.headTok Bare.inTok
 by_cases hk:k=0
 ·subst hk
  by_cases h:c=42
  ·have hm:=h42 h
   have hb:(c == 42)=true:=by simpa using h
   rw [hm,hb,if_pos rfl]
   cases Bare.letB c <;> cases Bare.digB c <;> rfl
  ·have hb:(c == 42)=false:=by simpa using h
   rw [hb,if_pos rfl]
   cases Bare.letB c <;> cases Bare.digB c <;> cases Bare.marks.contains c <;> rfl
 ·have:(k == 0)=false:=by simpa using hk
  rw [if_neg hk,this]
  cases Bare.letB c <;> cases Bare.digB c <;> cases Bare.marks.contains c <;> rfl
theorem token_r (s:ByteArray) (w:World) (hs:s.size ≤ 9223372036854775807) :
    Calls Tryz.prog 16 #[.string s] w fun e w'=>e = .returned (.bool (Bare.tokB (bl s)))∧w'=w:=by
  have HB:=Lib.hid (tokB_at (bl s))
  obtain ⟨r,hr⟩:∃ r,Bare.tokB (bl s)=r:=⟨_,rfl⟩
  rw [hr] at HB ⊢
  clear hr
  go_enter Tryz.func16,Tryz.ntmps16
  go_wp2_with fail
  go_loop [3,4] (fun c _=>∃ k:Nat,k ≤ s.size∧c = .int .i64 k∧Hid (∀ j,j < k→tokAt j (gb s j)=true)) (fun c _=>s.size - (intOf c).toNat)
  case atStart=>exact ⟨0,Nat.zero_le _,rfl,Lib.hid fun i hi=>by omega⟩
  case round =>
    obtain ⟨k,hk,rfl,hbef⟩:=hrel
    by_cases hlt:k < s.size
    · have hix:=run_idx s k hlt
      have hnext:tokAt k (gb s k)=true→Hid (∀ j,j < k + 1→tokAt j (gb s j)=true):=fun hg=>Lib.hid fun i hi=>by
        by_cases hik:i < k
        · exact hbef.out i hik
        · obtain rfl:i=k:=by omega
          exact hg
      have hstop:tokAt k (gb s k)=false→r=false:=fun hg=>by
        rw [Bool.eq_false_iff]
        intro h
        have:=(HB.out.1 h).2 k _ (gb_get s k hlt)
        rw [hg] at this;cases this
      have Hbad:=Lib.hid (tok_bad2 k (gb s k))
      have HL:=Lib.hid (letter_r (gb s k))
      have HD:=Lib.hid (digit_r (gb s k))
      have HM:∀ W,Calls Tryz.prog 66 (#[Value.int .u8 ((gb s k).toNat:Nat)] ++ #[]) W fun e w'=>e = .returned (.bool (Bare.marks.contains (gb s k)))∧w'=W:=mark_r (gb s k)
      replace HM:=Lib.hid HM
      have hEM:(gb s k == 42)=true→Bare.marks.contains (gb s k)=true:=fun h=>by rw [eq_of_beq h];decide
      have h42:((gb s k) == 42)=decide (((gb s k).toNat:Int)=42):=by
        rw [Bool.eq_iff_iff,beq_iff_eq,decide_eq_true_eq,← UInt8.toNat_inj]
        show (gb s k).toNat=42 ↔ _
        omega
      have hk0:(k == 0)=decide ((k:Int)=0):=by
        rw [Bool.eq_iff_iff,beq_iff_eq,decide_eq_true_eq];omega
      rw [h42,hk0] at Hbad
      rw [h42] at hEM
      clear hbef h42 hk0
      obtain ⟨T,hT⟩:∃ x,tokAt k (gb s k)=x:=⟨_,rfl⟩
      obtain ⟨L,hL⟩:∃ x,Bare.letB (gb s k)=x:=⟨_,rfl⟩
      obtain ⟨D,hD⟩:∃ x,Bare.digB (gb s k)=x:=⟨_,rfl⟩
      obtain ⟨M,hM⟩:∃ x,Bare.marks.contains (gb s k)=x:=⟨_,rfl⟩
      rw [hT] at Hbad hnext hstop
      rw [hL] at Hbad HL
      rw [hD] at Hbad HD
      rw [hM] at Hbad HM hEM
      obtain ⟨n,hn⟩:∃ x,(gb s k).toNat=x:=⟨_,rfl⟩
      rw [hn] at HL HD HM Hbad hix hEM
      clear hT hL hD hM hn
      obtain ⟨E,hE⟩:∃ x,decide ((n:Int)=42)=x:=⟨_,rfl⟩
      have hE2:((n:Int) == 42)=E:=hE
      have hE3:((n:Int) != 42) = !E:=by rw [← hE2];rfl
      obtain ⟨Z,hZ⟩:∃ x,decide ((k:Int)=0)=x:=⟨_,rfl⟩
      have hZ2:((k:Int) == 0)=Z:=hZ
      rw [hE,hZ] at Hbad
      rw [hE] at hEM
      have hcase:(Z=true∧L=true∧T=true) ∨ (Z=false∧L=true∧T=true) ∨ (Z=true∧L=false∧E=true∧D=true∧T=true) ∨ (Z=true∧L=false∧E=true∧D=false∧M=true∧T=true) ∨ (Z=true∧L=false∧E=false∧T=false) ∨ (Z=false∧L=false∧D=true∧T=true) ∨ (Z=false∧L=false∧D=false∧M=true∧T=true) ∨ (Z=false∧L=false∧D=false∧M=false∧T=false):=by
        have:=Hbad.out
        revert this hEM
        cases L <;> cases E <;> cases Z <;> cases D <;> cases M <;> cases T <;> simp
      clear Hbad hEM
      rcases hcase with ⟨rfl,rfl,rfl⟩ | ⟨rfl,rfl,rfl⟩ | ⟨rfl,rfl,rfl,rfl,rfl⟩ | ⟨rfl,rfl,rfl,rfl,rfl,rfl⟩ | ⟨rfl,rfl,rfl,rfl⟩ | ⟨rfl,rfl,rfl,rfl⟩ | ⟨rfl,rfl,rfl,rfl,rfl⟩ | ⟨rfl,rfl,rfl,rfl,rfl⟩
      all_goals
        try simp only [Bool.not_true,Bool.not_false] at hE3
        first
        | (have hh:=hnext rfl
           clear hnext hstop
           go_wp2_with (first | (go_at_call 61;refine (HL.out _).mono ?_;rintro e w' ⟨rfl,rfl⟩) | (go_at_call 58;refine (HD.out _).mono ?_;rintro e w' ⟨rfl,rfl⟩) | (go_at_call 66;refine (HM.out _).mono ?_;rintro e w' ⟨rfl,rfl⟩))
           go_round
           case rel=>exact ⟨k + 1,by omega,by go_num,hh⟩
           case measure=>simp [intOf];omega)
        | (have hh:=hstop rfl
           clear hnext hstop
           subst hh
           go_wp2_with (first | (go_at_call 61;refine (HL.out _).mono ?_;rintro e w' ⟨rfl,rfl⟩) | (go_at_call 58;refine (HD.out _).mono ?_;rintro e w' ⟨rfl,rfl⟩) | (go_at_call 66;refine (HM.out _).mono ?_;rintro e w' ⟨rfl,rfl⟩))
           go_ret
           exact ⟨rfl,rfl⟩)
    · obtain rfl:k=s.size:=by omega
      have hr:r=decide (0 < s.size):=by
        rw [Bool.eq_iff_iff,HB.out,decide_eq_true_eq]
        have hl:=bl_len s
        constructor
        · rintro ⟨h,-⟩
          have:=List.length_pos_iff.2 h
          omega
        · intro h
          refine ⟨fun e=>by rw [e] at hl;simp at hl;omega,fun k c hk=>?_⟩
          obtain ⟨h1,rfl⟩:=get_gb hk
          exact hbef.out k h1
      subst hr
      clear HB hbef
      by_cases h0:0 < s.size
      · go_wp2_with fail
        go_ret
        exact ⟨by simp [h0],rfl⟩
      · go_wp2_with fail
        go_ret
        exact ⟨by simp [h0],rfl⟩


theorem right_r (b:Bare.It) (hl:b.text.length ≤ 100000000) (w:World) :
  Calls Tryz.prog 14 #[bv b] w fun e w'=>e = .returned (.bool (Bare.rightI b))∧New w w':=by
 obtain ⟨k,n,t,y⟩:=b
 obtain ⟨hN,hr⟩:=box_row w ⟨k,n,t,y⟩
 unfold bv bcs at *
 simp only at hN hr hl ⊢
 have ht:=tx_empty t
 have HT:=Lib.hid (fun W=>token_r (tx t) W (by rw [tx_size];omega))
 have HA:=Lib.hid (all_gb (tx t) Bare.plnB)
 have hts:(tx t).size ≤ 100000000:=by rw [tx_size];exact hl
 rw [bl_tx] at HT HA
 unfold Bare.rightI
 simp only
 obtain ⟨z,hz⟩:∃ z,t.isEmpty=z:=⟨_,rfl⟩
 rw [hz] at ht ⊢
 obtain ⟨T,hT⟩:∃ T,Bare.tokB t=T:=⟨_,rfl⟩
 rw [hT] at HT ⊢
 obtain ⟨P,hP⟩:∃ P,t.all Bare.plnB=P:=⟨_,rfl⟩
 rw [hP] at HA ⊢
 obtain ⟨s,hs⟩:∃ s,tx t=s:=⟨_,rfl⟩
 rw [hs] at hr hN ht HT HA hts ⊢
 clear hs hz hT hP hl
 obtain ⟨W,hW⟩:∃ W,w.alloc (.cells #[.int .u8 k,.int .i64 n,.string s,.bool y] 23)=W:=⟨_,rfl⟩
 have hW2:=Lib.hid hW
 have hN2:=hN
 rw [hW] at hN2
 obtain ⟨B,hB⟩:∃ B,w.heap.size=B:=⟨_,rfl⟩
 have hr2:=hr
 rw [hW,hB] at hr2
 have hB2:=Lib.hid hB
 obtain ⟨⟨c0,c1,c2,c3⟩,-⟩:=row_facts hr2
 clear hr hN hr2 hW hB
 by_cases h1:k=1
 ·subst h1
  rw [if_pos (.inl rfl)]
  clear HA HT
  have hc:(decide (-999999999999999 ≤ n)=false) ∨ (decide (-999999999999999 ≤ n)=true∧decide (n ≤ 999999999999999)=false) ∨ (decide (-999999999999999 ≤ n)=true∧decide (n ≤ 999999999999999)=true∧z=false) ∨ (decide (-999999999999999 ≤ n)=true∧decide (n ≤ 999999999999999)=true∧z=true):=by
   cases decide (-999999999999999 ≤ n) <;> cases decide (n ≤ 999999999999999) <;> cases z <;> simp
  unfold Bare.most
  rcases hc with d1 | ⟨d1,d2⟩ | ⟨d1,d2,rfl⟩ | ⟨d1,d2,rfl⟩
  all_goals
   (first | rw [d1,d2] | rw [d1])
   go_enter Tryz.func14,Tryz.ntmps14
   go_upto_region 1 with fail
   rw [hW2.out,hB2.out]
   clear hW2 hB2
   go_wp2_with fail
   go_ret
   exact ⟨rfl,hN2⟩
 by_cases h2:k=2
 ·subst h2
  rw [if_pos (.inr rfl)]
  clear HA HT
  have hc:(decide (-999999999999999 ≤ n)=false) ∨ (decide (-999999999999999 ≤ n)=true∧decide (n ≤ 999999999999999)=false) ∨ (decide (-999999999999999 ≤ n)=true∧decide (n ≤ 999999999999999)=true∧z=false) ∨ (decide (-999999999999999 ≤ n)=true∧decide (n ≤ 999999999999999)=true∧z=true):=by
   cases decide (-999999999999999 ≤ n) <;> cases decide (n ≤ 999999999999999) <;> cases z <;> simp
  unfold Bare.most
  rcases hc with d1 | ⟨d1,d2⟩ | ⟨d1,d2,rfl⟩ | ⟨d1,d2,rfl⟩
  all_goals
   (first | rw [d1,d2] | rw [d1])
   go_enter Tryz.func14,Tryz.ntmps14
   go_upto_region 1 with fail
   rw [hW2.out,hB2.out]
   clear hW2 hB2
   go_wp2_with fail
   go_ret
   exact ⟨rfl,hN2⟩
 rw [if_neg (by omega)]
 by_cases h3:k=3
 ·subst h3
  rw [if_pos rfl]
  clear HT ht
  obtain ⟨R,hR⟩:∃ R,(decide (n=0) && (!y && P))=R:=⟨_,rfl⟩
  rw [hR]
  replace hR:=Lib.hid hR
  go_enter Tryz.func14,Tryz.ntmps14
  go_upto_region 1 with fail
  rw [hW2.out,hB2.out]
  clear hW2 hB2
  go_upto_region 7 with fail
  go_loop [3] (fun c=>∃ k:Nat,k ≤ s.size∧c = .int .i64 k∧Hid (∀ j,j < k→Bare.plnB (gb s j)=true)) (fun c=>s.size - (intOf c).toNat)
  case atStart=>exact ⟨0,Nat.zero_le _,rfl,Lib.hid fun i hi=>by omega⟩
  case round =>
   obtain ⟨k,hk,rfl,hbef⟩:=hrel
   by_cases hlt:k < s.size
   ·have hix:=run_idx s k hlt
    have hnext:Bare.plnB (gb s k)=true→Hid (∀ j,j < k + 1→Bare.plnB (gb s j)=true):=fun hg=>Lib.hid fun i hi=>by
     by_cases hik:i < k
     ·exact hbef.out i hik
     ·obtain rfl:i=k:=by omega
      exact hg
    have hstop:Bare.plnB (gb s k)=false→R=false:=fun hg=>by
     have:P=false:=by
      rw [Bool.eq_false_iff]
      intro h
      have:=HA.out.1 h k hlt
      rw [hg] at this;cases this
     rw [← hR.out,this,Bool.and_false,Bool.and_false]
    have hpl:Bare.plnB (gb s k)=(decide (32 ≤ (gb s k).toNat) && decide ((gb s k).toNat ≤ 126)):=rfl
    rw [hpl] at hnext hstop
    obtain ⟨m,hm⟩:∃ m,(gb s k).toNat=m:=⟨_,rfl⟩
    rw [hm] at hix hnext hstop
    clear hpl hm hbef
    by_cases h1:m < 32
    ·have hh:=hstop (by simp;omega)
     clear hstop hnext
     subst hh
     go_wp2_with fail
     go_ret
     exact ⟨rfl,hN2⟩
    by_cases h2:126 < m
    ·have hh:=hstop (by simp;omega)
     clear hstop hnext
     subst hh
     go_wp2_with fail
     go_ret
     exact ⟨rfl,hN2⟩
    have hh:=hnext (by simp;omega)
    clear hstop hnext
    go_wp2_with fail
    go_round
    case rel=>exact ⟨k + 1,by omega,by go_num,hh⟩
    case measure=>simp [intOf];omega
   ·obtain rfl:k=s.size:=by omega
    have hP:=HA.out.2 hbef.out
    have hR:=hR.out
    subst hP
    clear HA hbef
    have hc:decide (n=0)=false ∨ (decide (n=0)=true∧y=true) ∨ (decide (n=0)=true∧y=false):=by
     cases decide (n=0) <;> cases y <;> simp
    have d2:(n == 0)=decide (n=0):=rfl
    rcases hc with d1 | ⟨d1,rfl⟩ | ⟨d1,rfl⟩
    all_goals
     rw [d1] at d2 hR
     subst hR
     go_wp2_with fail
     go_ret
     exact ⟨by simp,hN2⟩
 rw [if_neg h3]
 by_cases h4:k=4
 ·subst h4
  rw [if_pos rfl]
  clear HA ht
  have hc:T=false ∨ (T=true∧decide (n=0)=false) ∨ (T=true∧decide (n=0)=true∧y=true) ∨ (T=true∧decide (n=0)=true∧y=false):=by
   cases T <;> cases decide (n=0) <;> cases y <;> simp
  have d2:(n == 0)=decide (n=0):=rfl
  rcases hc with rfl | ⟨rfl,d1⟩ | ⟨rfl,d1,rfl⟩ | ⟨rfl,d1,rfl⟩
  ·rw [Bool.and_false,Bool.and_false]
   clear d2
   go_enter Tryz.func14,Tryz.ntmps14
   go_upto_region 1 with fail
   rw [hW2.out,hB2.out]
   clear hW2 hB2
   go_wp2_with (go_at_call 16;refine (HT.out _).mono ?_;rintro e w' ⟨rfl,rfl⟩)
   go_ret
   exact ⟨rfl,hN2⟩
  all_goals
   rw [d1] at d2 ⊢
   go_enter Tryz.func14,Tryz.ntmps14
   go_upto_region 1 with fail
   rw [hW2.out,hB2.out]
   clear hW2 hB2
   go_wp2_with (go_at_call 16;refine (HT.out _).mono ?_;rintro e w' ⟨rfl,rfl⟩)
   go_ret
   exact ⟨by simp,hN2⟩
 rw [if_neg h4]
 by_cases h5:k=5
 ·subst h5
  rw [if_pos rfl]
  clear HA ht HT
  have hc:decide (n=0)=false ∨ (decide (n=0)=true∧y=true) ∨ (decide (n=0)=true∧y=false):=by
   cases decide (n=0) <;> cases y <;> simp
  have d2:(n == 0)=decide (n=0):=rfl
  rcases hc with d1 | ⟨d1,rfl⟩ | ⟨d1,rfl⟩
  all_goals
   rw [d1] at d2 ⊢
   go_enter Tryz.func14,Tryz.ntmps14
   go_upto_region 1 with fail
   rw [hW2.out,hB2.out]
   clear hW2 hB2
   go_wp2_with fail
   go_ret
   exact ⟨by simp,hN2⟩
 rw [if_neg h5]
 by_cases h6:k=6
 ·subst h6
  rw [if_pos rfl]
  clear HA HT
  have hc:decide (n=0)=false ∨ (decide (n=0)=true∧z=true) ∨ (decide (n=0)=true∧z=false):=by
   cases decide (n=0) <;> cases z <;> simp
  have d2:(n == 0)=decide (n=0):=rfl
  rcases hc with d1 | ⟨d1,rfl⟩ | ⟨d1,rfl⟩
  all_goals
   rw [d1] at d2 ⊢
   go_enter Tryz.func14,Tryz.ntmps14
   go_upto_region 1 with fail
   rw [hW2.out,hB2.out]
   clear hW2 hB2
   go_wp2_with fail
   go_ret
   exact ⟨by simp,hN2⟩
 rw [if_neg h6]
 clear HA HT ht
 have g1:(k == 1)=false:=by simpa using h1
 have g2:(k == 2)=false:=by simpa using h2
 have g3:(k == 3)=false:=by simpa using h3
 have g4:(k == 4)=false:=by simpa using h4
 have g5:(k == 5)=false:=by simpa using h5
 have g6:(k == 6)=false:=by simpa using h6
 clear h1 h2 h3 h4 h5 h6
 go_enter Tryz.func14,Tryz.ntmps14
 go_upto_region 1 with fail
 rw [hW2.out,hB2.out]
 clear hW2 hB2
 go_wp2_with fail
 go_ret
 exact ⟨rfl,hN2⟩


theorem read_end0 {fn:Func} {R:Ending→World→Prop} {tmps:Array Value} {W:World} {B:Nat} {a b c d v v2:Value} (hf:fn.results = #[.cell 0 23,.tmp 1,.tmp 2]) (hp:tmps.getD 0 undef = .pointer (some ⟨B,0,none⟩)) (hq:tmps.getD 1 undef=v) (hr:tmps.getD 2 undef=v2)
  (hg:W.heap[B]? = some (.cells #[a,b,c,d] 23 (0,0))) (hR:R (.returned (.tuple #[.agg #[a,b,c,d],v,v2])) W):bodyPost Tryz.prog fn R .ret ⟨tmps,[]⟩ W :=
 bodyPost_ret (results_row3 (p:=0) (q:=1) (r:=2) hf tmps W B 23 #[a,b,c,d] (0,0) _ hp hg Tryz.underlying23 rfl info_bare hq hr) rfl hR
theorem none_r (w:World):Calls Tryz.prog 57 #[] w (ReadP none w):=by
 unfold ReadP bv bcs noIt
 simp only
 obtain ⟨hN,hr⟩:=no_row w
 go_enter Tryz.func57,Tryz.ntmps57
 go_upto_region 1 with fail
 obtain ⟨W,hW⟩:∃ W,w.alloc (.cells #[.int .u8 0,.int .i64 0,.string ⟨#[]⟩,.bool false] 23)=W:=⟨_,rfl⟩
 rw [hW] at hN hr ⊢
 obtain ⟨B,hB⟩:∃ B,w.heap.size=B:=⟨_,rfl⟩
 have hBw:w.heap.size ≤ B:=by omega
 rw [hB] at hr ⊢
 clear hW hB
 obtain ⟨⟨c0,c1,c2,c3⟩,f0,f1,f2,f3⟩:=row_facts hr
 go_wp2_with fail
 obtain ⟨hN2,hr2⟩:=set4 hN hBw hr (.int .u8 0) (.int .i64 0) (.string ⟨#[]⟩) (.bool false)
 obtain ⟨W2,hW2⟩:∃ W2,((((W.setCell ⟨B,0,none⟩ (.int .u8 0)).setCell ⟨B,1,none⟩ (.int .i64 0)).setCell ⟨B,2,none⟩ (.string ⟨#[]⟩)).setCell ⟨B,3,none⟩ (.bool false))=W2:=⟨_,rfl⟩
 rw [hW2] at hN2 hr2 ⊢
 exact read_end0 (by kernel_rfl) rfl rfl rfl hr2 ⟨rfl,hN2⟩


theorem quoted_r (s:ByteArray) (w:World) (hs:s.size ≤ 1000000) (h0:0 < s.size) :
  Calls Tryz.prog 60 #[.string s] w (ReadP (Bare.quoted [] ((bl s).drop 1)) w):=by
 obtain ⟨i0,hi,hz0,hz1,hz2⟩:=info_parts infoB'
 have HNo:=Lib.hid (fun W=>none_r W)
 unfold ReadP bv bcs noIt at HNo
 simp only at HNo
 obtain ⟨r,hr'⟩:∃ r,Bare.quoted [] ((bl s).drop 1)=r:=⟨_,rfl⟩
 have HR:=Lib.hid hr'
 rw [hr']
 clear hr'
 obtain ⟨hN,hr⟩:=no_row w
 go_enter Tryz.func60,Tryz.ntmps60
 go_upto_region 1 with fail
 obtain ⟨W0,hW⟩:∃ W,w.alloc (.cells #[.int .u8 0,.int .i64 0,.string ⟨#[]⟩,.bool false] 23)=W:=⟨_,rfl⟩
 rw [hW] at hN hr ⊢
 obtain ⟨B,hB⟩:∃ B,w.heap.size=B:=⟨_,rfl⟩
 have hBw:w.heap.size ≤ B:=by omega
 rw [hB] at hr ⊢
 clear hW hB
 go_upto_region 3 with fail
 go_loopw [5,6,7] (fun v i _ W=>∃ (k:Nat) (acc:Bare.Bs),k ≤ s.size∧i = .int .i64 k∧acc.length ≤ k∧W.ownsRow (B + 1) 5 1 v acc.length (u8s acc)∧W.heap[B]? = some (.cells #[.int .u8 0,.int .i64 0,.string ⟨#[]⟩,.bool false] 23 (0,0))∧New w W∧Hid (Bare.quoted acc ((bl s).drop k)=r)) (fun _ i _ _=>s.size - (intOf i).toNat)
 case atStart=>exact ⟨1,[],by omega,rfl,by simp,World.ownsRow_nil _ _ _ _,hr,hN,HR⟩
 case round =>
  clear hr hN HR
  obtain ⟨W,hWW⟩:∃ W,W=wr:=⟨_,rfl⟩
  subst hWW
  obtain ⟨k,acc,hk,rfl,hacc,hown,hr,hN,HR⟩:=hrel
  obtain ⟨⟨c0,c1,c2,c3⟩,f0,f1,f2,f3⟩:=row_facts hr
  have hBl:B < W.heap.size:=(Array.getElem?_eq_some_iff.1 hr).1
  by_cases hlt:k < s.size
  ·have hix:=run_idx s k hlt
   have hqa:=quoted_at acc s k hlt
   rw [HR.out] at hqa
   obtain ⟨n,hn⟩:∃ n,(gb s k).toNat=n:=⟨_,rfl⟩
   obtain ⟨t34,t34n⟩:=byte_test (gb s k) 34 (by decide) n hn
   obtain ⟨t92,t92n⟩:=byte_test (gb s k) 92 (by decide) n hn
   rw [show UInt8.ofNat 34=34 from rfl] at t34
   rw [show UInt8.ofNat 92=92 from rfl] at t92
   have t34:((n:Int) == 34)=decide (gb s k=34):=t34
   have t92:((n:Int) == 92)=decide (gb s k=92):=t92
   have hnc:(gb s k).toNat=n:=hn
   have hp:Bare.plnB (gb s k)=(decide (32 ≤ n) && decide (n ≤ 126)):=by unfold Bare.plnB;rw [hn]
   rw [hn] at hix
   clear t34n t92n HR hn
   have hkb:(k:Int) ≤ 1000000:=by omega
   by_cases h34:gb s k=34
   ·have hp34:Bare.plnB (gb s k)=true:=by rw [h34];decide
    rw [hp34,if_neg (by decide),if_pos h34] at hqa
    rw [decide_eq_true h34] at t34
    clear hp34
    have hcv:=conv_own (w:=W.drew) hown
    have hsl:∀ W,(Instr.slice 9 (.string s) (some (.int .i64 ((k:Int) + 1))) none none).run Tryz.prog W = .ok (.string (tx ((bl s).drop (k + 1)))) W:=fun W=>run_sl_l s (k + 1) (by omega) W
    subst hqa
    unfold ReadP bv bcs
    simp only
    obtain ⟨x,hx⟩:∃ x,tx acc=x:=⟨_,rfl⟩
    obtain ⟨y,hy⟩:∃ y,tx ((bl s).drop (k + 1))=y:=⟨_,rfl⟩
    rw [hx] at hcv ⊢
    rw [hy] at hsl ⊢
    clear hx hy hp h34 t92 hacc hk
    go_upto_region 7 with fail
    go_region
    obtain ⟨hN2,hr2⟩:=set4 hN hBw hr (.int .u8 3) (.int .i64 0) (.string x) (.bool false)
    have hN2:=hN2.drew
    have hr2:((((W.setCell ⟨B,0,none⟩ (.int .u8 3)).setCell ⟨B,1,none⟩ (.int .i64 0)).setCell ⟨B,2,none⟩ (.string x)).setCell ⟨B,3,none⟩ (.bool false)).drew.heap[B]? = some (.cells #[(.int .u8 3),(.int .i64 0),(.string x),(.bool false)] 23 (0,0)):=hr2
    obtain ⟨W2,hW2⟩:∃ W2,((((W.setCell ⟨B,0,none⟩ (.int .u8 3)).setCell ⟨B,1,none⟩ (.int .i64 0)).setCell ⟨B,2,none⟩ (.string x)).setCell ⟨B,3,none⟩ (.bool false)).drew=W2:=⟨_,rfl⟩
    rw [hW2] at hN2 hr2 ⊢
    go_wp2_with fail
    exact read_end (by kernel_rfl) rfl rfl rfl hr2 ⟨rfl,hN2⟩
   rw [decide_eq_false h34] at t34
   by_cases h92:gb s k=92
   ·have hp92:Bare.plnB (gb s k)=true:=by rw [h92];decide
    rw [hp92,if_neg (by decide),if_neg h34,if_pos h92] at hqa
    rw [decide_eq_true h92] at t92
    clear hp92
    by_cases hk1:k + 1 < s.size
    ·have hge1:¬ (s.size:Int) ≤ (k:Int) + 1:=by omega
     have hix2:∀ W,(Instr.index 9 (.string s) (.int .i64 ((k:Int) + 1))).run Tryz.prog W = .ok (.int .u8 ((gb s (k + 1)).toNat:Nat)) W:=fun W=>run_idx s (k + 1) hk1 W
     obtain ⟨m,hm⟩:∃ m,(gb s (k + 1)).toNat=m:=⟨_,rfl⟩
     obtain ⟨-,m34⟩:=byte_test (gb s (k + 1)) 34 (by decide) m hm
     obtain ⟨-,m92⟩:=byte_test (gb s (k + 1)) 92 (by decide) m hm
     rw [show UInt8.ofNat 34=34 from rfl] at m34
     rw [show UInt8.ofNat 92=92 from rfl] at m92
     have m34:((m:Int) != 34) = !decide (gb s (k + 1)=34):=m34
     have m92:((m:Int) != 92) = !decide (gb s (k + 1)=92):=m92
     have hmc:(gb s (k + 1)).toNat=m:=hm
     rw [hm] at hix2
     by_cases hok:gb s (k + 1)=34 ∨ gb s (k + 1)=92
     ·rw [if_pos ⟨hk1,hok⟩] at hqa
      have hm32:32 ≤ m∧m ≤ 126:=by rw [← hmc];rcases hok with h | h <;> rw [h] <;> decide
      obtain ⟨hm32,hm126⟩:=hm32
      obtain ⟨a,ha⟩:∃ a,decide (gb s (k + 1)=34)=a:=⟨_,rfl⟩
      obtain ⟨b,hb⟩:∃ b,decide (gb s (k + 1)=92)=b:=⟨_,rfl⟩
      have hab:a=true ∨ (a=false∧b=true):=by
       rw [← ha,← hb]
       by_cases h:gb s (k + 1)=34
       ·exact .inl (decide_eq_true h)
       ·exact .inr ⟨decide_eq_false h,decide_eq_true (hok.resolve_left h)⟩
      rw [ha] at m34
      rw [hb] at m92
      clear ha hb hok hm hp h34 h92
      rcases hab with rfl | ⟨rfl,rfl⟩
      ·have m34:((m:Int) != 34)=false:=m34
       clear m92
       go_upto_region 15 with fail
       go_wp2_with (at_builtin;refine wpList_append_own _ rfl _ _ 62 rfl (B + 1) 5 i0 _ 1 1 Tryz.underlying62 hi hz0 hz1 hz2 rfl (by decide) _ _ _ rfl (hown.alloc _) ⟨W.heap.size,0,none⟩ 1 1 [.int .u8 (m:Nat)] rfl rfl (cell_one_new _ _ _) (by simp [Value.oneCell']) (by unfold maxLen;omega) (by have:=hown.1;simp;omega) (by simp;omega) ?_)
       intro v' W2 hown' hgrow _
       have hk2:New W (W.alloc (.cells #[.int .u8 (m:Nat)] 5)):=(Mods.refl _ _).alloc _
       have hN3:New w W2:=(hN.alloc _).grown hgrow (fun g hg=>.inl (by have:=(hown.lt g hg).1;omega))
       have hr3:W2.heap[B]? = some (.cells #[.int .u8 0,.int .i64 0,.string ⟨#[]⟩,.bool false] 23 (0,0)):=by
        have h2:=hk2.heap hr id
        have h3:Mods (fun b=>B + 1 ≤ b) (W.alloc (.cells #[.int .u8 (m:Nat)] 5)) W2:=(Mods.refl _ _).grown hgrow (fun g hg=>.inr ⟨(hown.lt g hg).1,own_cells (hown.alloc _) hg⟩)
        exact h3.heap h2 (by omega)
       have hown3:W2.ownsRow (B + 1) 5 1 v' (acc ++ [gb s (k + 1)]).length (u8s (acc ++ [gb s (k + 1)])):=by
        have:u8s (acc ++ [gb s (k + 1)])=u8s acc ++ [.int .u8 (m:Nat)]:=by rw [u8s_snoc,hmc]
        rw [this,List.length_append]
        exact hown'
       clear hown hown' hgrow c0 c1 c2 c3 f0 f1 f2 f3 hk2
       go_wp2_with fail
       go_round
       case rel=>exact ⟨k + 2,acc ++ [gb s (k + 1)],by omega,by go_num,by rw [List.length_append];show acc.length + 1 ≤ _;omega,hown3,hr3,hN3,Lib.hid hqa.symm⟩
       case measure=>simp [intOf];omega
      ·have m34:((m:Int) != 34)=true:=m34
       have m92:((m:Int) != 92)=false:=m92
       go_upto_region 15 with fail
       go_wp2_with (at_builtin;refine wpList_append_own _ rfl _ _ 62 rfl (B + 1) 5 i0 _ 1 1 Tryz.underlying62 hi hz0 hz1 hz2 rfl (by decide) _ _ _ rfl (hown.alloc _) ⟨W.heap.size,0,none⟩ 1 1 [.int .u8 (m:Nat)] rfl rfl (cell_one_new _ _ _) (by simp [Value.oneCell']) (by unfold maxLen;omega) (by have:=hown.1;simp;omega) (by simp;omega) ?_)
       intro v' W2 hown' hgrow _
       have hk2:New W (W.alloc (.cells #[.int .u8 (m:Nat)] 5)):=(Mods.refl _ _).alloc _
       have hN3:New w W2:=(hN.alloc _).grown hgrow (fun g hg=>.inl (by have:=(hown.lt g hg).1;omega))
       have hr3:W2.heap[B]? = some (.cells #[.int .u8 0,.int .i64 0,.string ⟨#[]⟩,.bool false] 23 (0,0)):=by
        have h2:=hk2.heap hr id
        have h3:Mods (fun b=>B + 1 ≤ b) (W.alloc (.cells #[.int .u8 (m:Nat)] 5)) W2:=(Mods.refl _ _).grown hgrow (fun g hg=>.inr ⟨(hown.lt g hg).1,own_cells (hown.alloc _) hg⟩)
        exact h3.heap h2 (by omega)
       have hown3:W2.ownsRow (B + 1) 5 1 v' (acc ++ [gb s (k + 1)]).length (u8s (acc ++ [gb s (k + 1)])):=by
        have:u8s (acc ++ [gb s (k + 1)])=u8s acc ++ [.int .u8 (m:Nat)]:=by rw [u8s_snoc,hmc]
        rw [this,List.length_append]
        exact hown'
       clear hown hown' hgrow c0 c1 c2 c3 f0 f1 f2 f3 hk2
       go_wp2_with fail
       go_round
       case rel=>exact ⟨k + 2,acc ++ [gb s (k + 1)],by omega,by go_num,by rw [List.length_append];show acc.length + 1 ≤ _;omega,hown3,hr3,hN3,Lib.hid hqa.symm⟩
       case measure=>simp [intOf];omega
     ·rw [if_neg (fun h=>hok h.2)] at hqa
      have n34:((m:Int) != 34)=true:=by rw [m34,decide_eq_false (fun h=>hok (.inl h))];rfl
      have n92:((m:Int) != 92)=true:=by rw [m92,decide_eq_false (fun h=>hok (.inr h))];rfl
      clear m34 m92
      subst hqa
      unfold ReadP bv bcs noIt
      simp only
      clear hok hm hmc hp h34 h92
      go_wp2_with fail
      refine (HNo.out _).mono ?_
      rintro e wn ⟨rfl,hNn⟩
      have hN:=hN.trans hNn
      have hr:=hNn.heap hr id
      clear c0 c1 c2 c3 f0 f1 f2 f3 hNn
      obtain ⟨⟨c0,c1,c2,c3⟩,f0,f1,f2,f3⟩:=row_facts hr
      go_wp2_with fail
      obtain ⟨hN2,hr2⟩:=set4 hN hBw hr (.int .u8 0) (.int .i64 0) (.string ⟨#[]⟩) (.bool false)
      obtain ⟨W2,hW2⟩:∃ W2,((((wn.setCell ⟨B,0,none⟩ (.int .u8 0)).setCell ⟨B,1,none⟩ (.int .i64 0)).setCell ⟨B,2,none⟩ (.string ⟨#[]⟩)).setCell ⟨B,3,none⟩ (.bool false))=W2:=⟨_,rfl⟩
      rw [hW2] at hN2 hr2 ⊢
      exact read_end (by kernel_rfl) rfl rfl rfl hr2 ⟨rfl,hN2⟩
    ·have hge1':(s.size:Int) ≤ (k:Int) + 1:=by omega
     rw [if_neg (fun h=>hk1 h.1)] at hqa
     subst hqa
     unfold ReadP bv bcs noIt
     simp only
     clear hp h34 h92 hk1
     go_wp2_with fail
     refine (HNo.out _).mono ?_
     rintro e wn ⟨rfl,hNn⟩
     have hN:=hN.trans hNn
     have hr:=hNn.heap hr id
     clear c0 c1 c2 c3 f0 f1 f2 f3 hNn
     obtain ⟨⟨c0,c1,c2,c3⟩,f0,f1,f2,f3⟩:=row_facts hr
     go_wp2_with fail
     obtain ⟨hN2,hr2⟩:=set4 hN hBw hr (.int .u8 0) (.int .i64 0) (.string ⟨#[]⟩) (.bool false)
     obtain ⟨W2,hW2⟩:∃ W2,((((wn.setCell ⟨B,0,none⟩ (.int .u8 0)).setCell ⟨B,1,none⟩ (.int .i64 0)).setCell ⟨B,2,none⟩ (.string ⟨#[]⟩)).setCell ⟨B,3,none⟩ (.bool false))=W2:=⟨_,rfl⟩
     rw [hW2] at hN2 hr2 ⊢
     exact read_end (by kernel_rfl) rfl rfl rfl hr2 ⟨rfl,hN2⟩
   rw [decide_eq_false h92] at t92
   by_cases h32:n < 32
   ·have hpf:Bare.plnB (gb s k)=false:=by rw [hp];simp;omega
    rw [hpf,if_pos rfl] at hqa
    subst hqa
    unfold ReadP bv bcs noIt
    simp only
    clear hp h34 h92 hpf
    go_wp2_with fail
    refine (HNo.out _).mono ?_
    rintro e wn ⟨rfl,hNn⟩
    have hN:=hN.trans hNn
    have hr:=hNn.heap hr id
    clear c0 c1 c2 c3 f0 f1 f2 f3 hNn
    obtain ⟨⟨c0,c1,c2,c3⟩,f0,f1,f2,f3⟩:=row_facts hr
    go_wp2_with fail
    obtain ⟨hN2,hr2⟩:=set4 hN hBw hr (.int .u8 0) (.int .i64 0) (.string ⟨#[]⟩) (.bool false)
    obtain ⟨W2,hW2⟩:∃ W2,((((wn.setCell ⟨B,0,none⟩ (.int .u8 0)).setCell ⟨B,1,none⟩ (.int .i64 0)).setCell ⟨B,2,none⟩ (.string ⟨#[]⟩)).setCell ⟨B,3,none⟩ (.bool false))=W2:=⟨_,rfl⟩
    rw [hW2] at hN2 hr2 ⊢
    exact read_end (by kernel_rfl) rfl rfl rfl hr2 ⟨rfl,hN2⟩
   by_cases h126:126 < n
   ·have hpf:Bare.plnB (gb s k)=false:=by rw [hp];simp;omega
    rw [hpf,if_pos rfl] at hqa
    subst hqa
    unfold ReadP bv bcs noIt
    simp only
    clear hp h34 h92 hpf
    go_wp2_with fail
    refine (HNo.out _).mono ?_
    rintro e wn ⟨rfl,hNn⟩
    have hN:=hN.trans hNn
    have hr:=hNn.heap hr id
    clear c0 c1 c2 c3 f0 f1 f2 f3 hNn
    obtain ⟨⟨c0,c1,c2,c3⟩,f0,f1,f2,f3⟩:=row_facts hr
    go_wp2_with fail
    obtain ⟨hN2,hr2⟩:=set4 hN hBw hr (.int .u8 0) (.int .i64 0) (.string ⟨#[]⟩) (.bool false)
    obtain ⟨W2,hW2⟩:∃ W2,((((wn.setCell ⟨B,0,none⟩ (.int .u8 0)).setCell ⟨B,1,none⟩ (.int .i64 0)).setCell ⟨B,2,none⟩ (.string ⟨#[]⟩)).setCell ⟨B,3,none⟩ (.bool false))=W2:=⟨_,rfl⟩
    rw [hW2] at hN2 hr2 ⊢
    exact read_end (by kernel_rfl) rfl rfl rfl hr2 ⟨rfl,hN2⟩
   have hpt:Bare.plnB (gb s k)=true:=by rw [hp];simp;omega
   rw [hpt,if_neg (by decide),if_neg h34,if_neg h92] at hqa
   clear hp h34 h92 hpt
   go_upto_region 15 with fail
   go_wp2_with (at_builtin;refine wpList_append_own _ rfl _ _ 62 rfl (B + 1) 5 i0 _ 1 1 Tryz.underlying62 hi hz0 hz1 hz2 rfl (by decide) _ _ _ rfl (hown.alloc _) ⟨W.heap.size,0,none⟩ 1 1 [.int .u8 (n:Nat)] rfl rfl (cell_one_new _ _ _) (by simp [Value.oneCell']) (by unfold maxLen;omega) (by have:=hown.1;simp;omega) (by simp;omega) ?_)
   intro v' W2 hown' hgrow _
   have hk2:New W (W.alloc (.cells #[.int .u8 (n:Nat)] 5)):=(Mods.refl _ _).alloc _
   have hN3:New w W2:=(hN.alloc _).grown hgrow (fun g hg=>.inl (by have:=(hown.lt g hg).1;omega))
   have hr3:W2.heap[B]? = some (.cells #[.int .u8 0,.int .i64 0,.string ⟨#[]⟩,.bool false] 23 (0,0)):=by
    have h2:=hk2.heap hr id
    have h3:Mods (fun b=>B + 1 ≤ b) (W.alloc (.cells #[.int .u8 (n:Nat)] 5)) W2:=(Mods.refl _ _).grown hgrow (fun g hg=>.inr ⟨(hown.lt g hg).1,own_cells (hown.alloc _) hg⟩)
    exact h3.heap h2 (by omega)
   have hown3:W2.ownsRow (B + 1) 5 1 v' (acc ++ [gb s k]).length (u8s (acc ++ [gb s k])):=by
    have:u8s (acc ++ [gb s k])=u8s acc ++ [.int .u8 (n:Nat)]:=by rw [u8s_snoc,hnc]
    rw [this,List.length_append]
    exact hown'
   clear hown hown' hgrow c0 c1 c2 c3 f0 f1 f2 f3 hk2
   go_wp2_with fail
   go_round
   case rel=>exact ⟨k + 1,acc ++ [gb s k],by omega,by go_num,by rw [List.length_append];show acc.length + 1 ≤ _;omega,hown3,hr3,hN3,Lib.hid hqa.symm⟩
   case measure=>simp [intOf];omega
  ·have hqa:=quoted_end acc s k (by omega)
   rw [HR.out] at hqa
   clear HR
   subst hqa
   unfold ReadP bv bcs noIt
   simp only
   go_wp2_with fail
   refine (HNo.out _).mono ?_
   rintro e wn ⟨rfl,hNn⟩
   have hN:=hN.trans hNn
   have hr:=hNn.heap hr id
   clear c0 c1 c2 c3 f0 f1 f2 f3 hNn
   obtain ⟨⟨c0,c1,c2,c3⟩,f0,f1,f2,f3⟩:=row_facts hr
   go_wp2_with fail
   obtain ⟨hN2,hr2⟩:=set4 hN hBw hr (.int .u8 0) (.int .i64 0) (.string ⟨#[]⟩) (.bool false)
   obtain ⟨W2,hW2⟩:∃ W2,((((wn.setCell ⟨B,0,none⟩ (.int .u8 0)).setCell ⟨B,1,none⟩ (.int .i64 0)).setCell ⟨B,2,none⟩ (.string ⟨#[]⟩)).setCell ⟨B,3,none⟩ (.bool false))=W2:=⟨_,rfl⟩
   rw [hW2] at hN2 hr2 ⊢
   exact read_end (by kernel_rfl) rfl rfl rfl hr2 ⟨rfl,hN2⟩
end Go.Proofs.YtnknmmbnhoanfaaGreatDoor
