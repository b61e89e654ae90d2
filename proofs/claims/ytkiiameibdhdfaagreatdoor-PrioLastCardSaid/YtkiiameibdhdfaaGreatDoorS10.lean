/- Texts joined. -/
import Derived.Test.YtkiiameibdhdfaaGreatDoorS09
import Derived.Test.YtkiiameibdhdfaaGreatDoorS04
import Derived.Test.YtkiiameibdhdfaaGreatDoorS00
import Derived.Test.YtkiiameibdhdfaaGreatDoorS05
import Derived.Test.YtkiiameibdhdfaaGreatDoorS08
import Derived.Test.YtkiiameibdhdfaaGreatDoorS03
import Derived.Test.YtkiiameibdhdfaaGreatDoorS06
import Derived.OrdersHeld
set_option linter.unusedSimpArgs false
set_option linter.unusedVariables false
set_option maxHeartbeats 16000000
set_option maxRecDepth 100000
namespace Go.Proofs.YtkiiameibdhdfaaGreatDoor
open Go.RowKit Go.Shelf Go.Cs
attribute [local go_sem] Oper.semAt_some


theorem run_lenMap {o:Oper} {a:Act} {w:World} {s:Operand} {M n:Nat} {f:Int→Option Value} (hop:o.op = .call { callee:=.builtin .len,args:=#[s],argTypes:=#[88] })
  (hs:a.eval s = .map (some M)) (h:MapD (k1 .i64) w M n f):(execOp a.eval o).run Tryz.prog w = .ok (.value (.int .i64 n)) w:=by
 obtain ⟨es,c,h1,rfl,-⟩:=h
 have hg:=MapKept.run_getObj_map (P:=Tryz.prog) h1
 simp [execOp,hop,resolve,invoke,builtin,hs,Builtin.len_,hg,Result.andThen,Sem.run_bind]
 rfl
theorem lit48 (t:Array Value) (h:t.size=48):∃ u:Nat→Value,t=(u 0::u 1::u 2::u 3::u 4::u 5::u 6::u 7::u 8::u 9::u 10::u 11::u 12::u 13::u 14::u 15::u 16::u 17::u 18::u 19::u 20::u 21::u 22::u 23::u 24::u 25::u 26::u 27::u 28::u 29::u 30::u 31::u 32::u 33::u 34::u 35::u 36::u 37::u 38::u 39::u 40::u 41::u 42::u 43::u 44::u 45::u 46::u 47::([]:List Value)).toArray:=⟨fun i=>t.getD i undef,range_lit t 48 h⟩
noncomputable def reg_prio_Right_1:Code:=((Tryz.f43.body.bind (regionOf 1)).getD .skip)
theorem right1_bad (t:Array Value) (hs:t.size=48) (w:World) {B n cap:Nat} {l:Int} {ao:Option Addr}
    (hq1:t.getD 1 undef = .pointer (some ⟨B,0,none⟩))
    (p0:w.cell? ⟨B,0,none⟩=some (.int .i64 l)) (p1:w.cell? ⟨B,1,none⟩=some (.slice ao n cap))
    (hz:¬ l=0) (ho:oddP l=false)
     :
    reg_prio_Right_1.wp Tryz.prog (Only fun a' W'=>∃ z:Nat→Value,a'=⟨((pz t z [5,6,7,8,9,10,11,12,13,14,15,16,17,18,19,20,21,22,23,24,25,26,27]).setIfInBounds 28 (.bool true)),[]⟩∧New w W') ⟨t,[]⟩ w:=by
  conv=>arg 2;whnf
  obtain ⟨u,rfl⟩:=lit48 t hs
  have hq1:u 1 = _:=hq1
  rw [hq1]
  clear hq1 hs
  refine wp_region_held (S:=fun W=>New w W) (by kernel_rfl) ?_
  show wpAnyH _ _ _ _ _ 24 _ _ w.drew
  have hN:New w w.drew:=(Mods.refl _ _).drew
  have hS:New w w.drew:=(Mods.refl _ _).drew
  refine tkI 0 (some 5) (.pointer (some ⟨B,0,none⟩)) hS ?_
  simp only [pS]
  refine tkA 1 rfl (some 6) (.int .i64 l) (.inl ⟨by rfl,fun W hW=>by have q:=hW.cell p0 id;go_simp⟩) hS ?_
  simp only [pS]
  refine tkA 2 rfl (some 7) (.bool true) (.inl ⟨by rfl,fun W hW=>by go_simp;first | done | exact hz⟩) hS ?_
  simp only [pS]
  refine tkI 3 (some 8) (.bool true) hS ?_
  simp only [pS]
  refine tkI 4 (some 9) (.pointer (some ⟨B,0,none⟩)) hS ?_
  simp only [pS]
  refine tkA 5 rfl (some 10) (.int .i64 l) (.inl ⟨by rfl,fun W hW=>by have q:=hW.cell p0 id;go_simp⟩) hS ?_
  simp only [pS]
  refine tkO 6 ?_
  refine opH_call (some 11) rfl (by rfl) rfl 51 #[.int .i64 l] (by go_simp) ((((odd_p l _).mono (R':=fun e w'=>e = .returned (.bool false)∧New _ w') (by rintro e w' ⟨rfl,rfl⟩;exact ⟨by rw [ho],Mods.refl _ _⟩))).mono ?_)
  rintro e w6 ⟨rfl,hk⟩
  have hS:=hS.trans hk
  have hN:=hN.trans hk
  clear hk
  refine ⟨_,rfl,hS,?_⟩
  simp only [pS]
  refine tkI 7 (some 12) (.bool true) hS ?_
  simp only [pS]
  refine tkI 8 (some 13) (.bool true) hS ?_
  simp only [pS]
  refine tkI 9 (some 14) (.bool true) hS ?_
  simp only [pS]
  refine tkU 10 (some 15) hS ?_
  simp only [pS]
  refine tkU 11 (some 16) hS ?_
  simp only [pS]
  refine tkU 12 (some 17) hS ?_
  simp only [pS]
  refine tkU 13 (some 18) hS ?_
  simp only [pS]
  refine tkI 14 (some 19) (.bool true) hS ?_
  simp only [pS]
  refine tkI 15 (some 20) (.bool true) hS ?_
  simp only [pS]
  refine tkU 16 (some 21) hS ?_
  simp only [pS]
  refine tkU 17 (some 22) hS ?_
  simp only [pS]
  refine tkU 18 (some 23) hS ?_
  simp only [pS]
  refine tkU 19 (some 24) hS ?_
  simp only [pS]
  refine tkU 20 (some 25) hS ?_
  simp only [pS]
  refine tkU 21 (some 26) hS ?_
  simp only [pS]
  refine tkU 22 (some 27) hS ?_
  simp only [pS]
  refine tkI 23 (some 28) (.bool true) hS ?_
  simp only [pS]
  refine wpAnyH_done (by kernel_rfl) ?_ _
  exact zc rfl hN
theorem right1_long0 (t:Array Value) (hs:t.size=48) (w:World) {B n cap:Nat} {l:Int} {ao:Option Addr}
  (hq1:t.getD 1 undef = .pointer (some ⟨B,0,none⟩))
  (p0:w.cell? ⟨B,0,none⟩=some (.int .i64 0)) (p1:w.cell? ⟨B,1,none⟩=some (.slice ao n cap))
  (hgt:decide ((4:Int) < (n:Int))=true) :
  reg_prio_Right_1.wp Tryz.prog (Only fun a' W'=>∃ z:Nat→Value,a'=⟨((pz t z [5,6,7,8,9,10,11,12,13,14,15,16,17,18,19,20,21,22,23,24,25,26,27]).setIfInBounds 28 (.bool true)),[]⟩∧New w W') ⟨t,[]⟩ w:=by
 conv=>arg 2;whnf
 obtain ⟨u,rfl⟩:=lit48 t hs
 have hq1:u 1 = _:=hq1
 rw [hq1]
 clear hq1 hs
 refine wp_region_held (S:=fun W=>New w W) (by kernel_rfl) ?_
 show wpAnyH _ _ _ _ _ 24 _ _ w.drew
 have hN:New w w.drew:=(Mods.refl _ _).drew
 have hS:New w w.drew:=(Mods.refl _ _).drew
 refine tkI 0 (some 5) (.pointer (some ⟨B,0,none⟩)) hS ?_
 simp only [pS]
 refine tkA 1 rfl (some 6) (.int .i64 0) (.inl ⟨by rfl,fun W hW=>by have q:=hW.cell p0 id;go_simp⟩) hS ?_
 simp only [pS]
 refine tkI 2 (some 7) (.bool false) hS ?_
 simp only [pS]
 refine tkI 3 (some 8) (.bool false) hS ?_
 simp only [pS]
 refine tkU 4 (some 9) hS ?_
 simp only [pS]
 refine tkU 5 (some 10) hS ?_
 simp only [pS]
 refine tkU 6 (some 11) hS ?_
 simp only [pS]
 refine tkU 7 (some 12) hS ?_
 simp only [pS]
 refine tkI 8 (some 13) (.bool false) hS ?_
 simp only [pS]
 refine tkI 9 (some 14) (.bool false) hS ?_
 simp only [pS]
 refine tkI 10 (some 15) (.pointer (some ⟨B,1,none⟩)) hS ?_
 simp only [pS]
 refine tkA 11 rfl (some 16) (.slice ao n cap) (.inl ⟨by rfl,fun W hW=>by have q:=hW.cell p1 id;go_simp⟩) hS ?_
 simp only [pS]
 refine tkI 12 (some 17) (.int .i64 n) hS ?_
 simp only [pS]
 refine tkI 13 (some 18) (.bool true) hS ?_
 simp only [pS]
 refine tkI 14 (some 19) (.bool true) hS ?_
 simp only [pS]
 refine tkI 15 (some 20) (.bool true) hS ?_
 simp only [pS]
 refine tkU 16 (some 21) hS ?_
 simp only [pS]
 refine tkU 17 (some 22) hS ?_
 simp only [pS]
 refine tkU 18 (some 23) hS ?_
 simp only [pS]
 refine tkU 19 (some 24) hS ?_
 simp only [pS]
 refine tkU 20 (some 25) hS ?_
 simp only [pS]
 refine tkU 21 (some 26) hS ?_
 simp only [pS]
 refine tkU 22 (some 27) hS ?_
 simp only [pS]
 refine tkI 23 (some 28) (.bool true) hS ?_
 simp only [pS]
 refine wpAnyH_done (by kernel_rfl) ?_ _
 exact zc rfl hN
theorem right1_long (t:Array Value) (hs:t.size=48) (w:World) {B n cap:Nat} {l:Int} {ao:Option Addr}
  (hq1:t.getD 1 undef = .pointer (some ⟨B,0,none⟩))
  (p0:w.cell? ⟨B,0,none⟩=some (.int .i64 l)) (p1:w.cell? ⟨B,1,none⟩=some (.slice ao n cap))
  (hz:¬ l=0) (ho:oddP l=true)
  (hgt:decide ((4:Int) < (n:Int))=true) :
  reg_prio_Right_1.wp Tryz.prog (Only fun a' W'=>∃ z:Nat→Value,a'=⟨((pz t z [5,6,7,8,9,10,11,12,13,14,15,16,17,18,19,20,21,22,23,24,25,26,27]).setIfInBounds 28 (.bool true)),[]⟩∧New w W') ⟨t,[]⟩ w:=by
 conv=>arg 2;whnf
 obtain ⟨u,rfl⟩:=lit48 t hs
 have hq1:u 1 = _:=hq1
 rw [hq1]
 clear hq1 hs
 refine wp_region_held (S:=fun W=>New w W) (by kernel_rfl) ?_
 show wpAnyH _ _ _ _ _ 24 _ _ w.drew
 have hN:New w w.drew:=(Mods.refl _ _).drew
 have hS:New w w.drew:=(Mods.refl _ _).drew
 refine tkI 0 (some 5) (.pointer (some ⟨B,0,none⟩)) hS ?_
 simp only [pS]
 refine tkA 1 rfl (some 6) (.int .i64 l) (.inl ⟨by rfl,fun W hW=>by have q:=hW.cell p0 id;go_simp⟩) hS ?_
 simp only [pS]
 refine tkA 2 rfl (some 7) (.bool true) (.inl ⟨by rfl,fun W hW=>by go_simp;first | done | exact hz⟩) hS ?_
 simp only [pS]
 refine tkI 3 (some 8) (.bool true) hS ?_
 simp only [pS]
 refine tkI 4 (some 9) (.pointer (some ⟨B,0,none⟩)) hS ?_
 simp only [pS]
 refine tkA 5 rfl (some 10) (.int .i64 l) (.inl ⟨by rfl,fun W hW=>by have q:=hW.cell p0 id;go_simp⟩) hS ?_
 simp only [pS]
 refine tkO 6 ?_
 refine opH_call (some 11) rfl (by rfl) rfl 51 #[.int .i64 l] (by go_simp) ((((odd_p l _).mono (R':=fun e w'=>e = .returned (.bool true)∧New _ w') (by rintro e w' ⟨rfl,rfl⟩;exact ⟨by rw [ho],Mods.refl _ _⟩))).mono ?_)
 rintro e w6 ⟨rfl,hk⟩
 have hS:=hS.trans hk
 have hN:=hN.trans hk
 clear hk
 refine ⟨_,rfl,hS,?_⟩
 simp only [pS]
 refine tkI 7 (some 12) (.bool false) hS ?_
 simp only [pS]
 refine tkI 8 (some 13) (.bool false) hS ?_
 simp only [pS]
 refine tkI 9 (some 14) (.bool false) hS ?_
 simp only [pS]
 refine tkI 10 (some 15) (.pointer (some ⟨B,1,none⟩)) hS ?_
 simp only [pS]
 refine tkA 11 rfl (some 16) (.slice ao n cap) (.inl ⟨by rfl,fun W hW=>by have q:=hW.cell p1 id;go_simp⟩) hS ?_
 simp only [pS]
 refine tkI 12 (some 17) (.int .i64 n) hS ?_
 simp only [pS]
 refine tkI 13 (some 18) (.bool true) hS ?_
 simp only [pS]
 refine tkI 14 (some 19) (.bool true) hS ?_
 simp only [pS]
 refine tkI 15 (some 20) (.bool true) hS ?_
 simp only [pS]
 refine tkU 16 (some 21) hS ?_
 simp only [pS]
 refine tkU 17 (some 22) hS ?_
 simp only [pS]
 refine tkU 18 (some 23) hS ?_
 simp only [pS]
 refine tkU 19 (some 24) hS ?_
 simp only [pS]
 refine tkU 20 (some 25) hS ?_
 simp only [pS]
 refine tkU 21 (some 26) hS ?_
 simp only [pS]
 refine tkU 22 (some 27) hS ?_
 simp only [pS]
 refine tkI 23 (some 28) (.bool true) hS ?_
 simp only [pS]
 refine wpAnyH_done (by kernel_rfl) ?_ _
 exact zc rfl hN
theorem right1_map0 (t:Array Value) (hs:t.size=48) (w:World) {B n cap:Nat} {l:Int} {ao:Option Addr} {m:Nat} {y:Bool} {f:Int→Option Value}
  (hq1:t.getD 1 undef = .pointer (some ⟨B,0,none⟩))
  (p0:w.cell? ⟨B,0,none⟩=some (.int .i64 0)) (p1:w.cell? ⟨B,1,none⟩=some (.slice ao n cap))
  (hgt:decide ((4:Int) < (n:Int))=false) (hm:((m:Int) != (n:Int))=y)
  (HK:Hid (∀ W,New w W→Calls Tryz.prog 55 #[.agg #[.int .i64 0,.slice ao n cap]] W fun e w'=>∃ M,e = .returned (.map (some M))∧MapD (k1 .i64) w' M m f∧New W w')) :
  reg_prio_Right_1.wp Tryz.prog (Only fun a' W'=>∃ z:Nat→Value,a'=⟨((pz t z [5,6,7,8,9,10,11,12,13,14,15,16,17,18,19,20,21,22,23,24,25,26,27]).setIfInBounds 28 (.bool y)),[]⟩∧New w W') ⟨t,[]⟩ w:=by
 conv=>arg 2;whnf
 obtain ⟨u,rfl⟩:=lit48 t hs
 have hq1:u 1 = _:=hq1
 rw [hq1]
 clear hq1 hs
 refine wp_region_held (S:=fun W=>New w W) (by kernel_rfl) ?_
 show wpAnyH _ _ _ _ _ 24 _ _ w.drew
 have hN:New w w.drew:=(Mods.refl _ _).drew
 have hS:New w w.drew:=(Mods.refl _ _).drew
 refine tkI 0 (some 5) (.pointer (some ⟨B,0,none⟩)) hS ?_
 simp only [pS]
 refine tkA 1 rfl (some 6) (.int .i64 0) (.inl ⟨by rfl,fun W hW=>by have q:=hW.cell p0 id;go_simp⟩) hS ?_
 simp only [pS]
 refine tkI 2 (some 7) (.bool false) hS ?_
 simp only [pS]
 refine tkI 3 (some 8) (.bool false) hS ?_
 simp only [pS]
 refine tkU 4 (some 9) hS ?_
 simp only [pS]
 refine tkU 5 (some 10) hS ?_
 simp only [pS]
 refine tkU 6 (some 11) hS ?_
 simp only [pS]
 refine tkU 7 (some 12) hS ?_
 simp only [pS]
 refine tkI 8 (some 13) (.bool false) hS ?_
 simp only [pS]
 refine tkI 9 (some 14) (.bool false) hS ?_
 simp only [pS]
 refine tkI 10 (some 15) (.pointer (some ⟨B,1,none⟩)) hS ?_
 simp only [pS]
 refine tkA 11 rfl (some 16) (.slice ao n cap) (.inl ⟨by rfl,fun W hW=>by have q:=hW.cell p1 id;go_simp⟩) hS ?_
 simp only [pS]
 refine tkI 12 (some 17) (.int .i64 n) hS ?_
 simp only [pS]
 refine tkI 13 (some 18) (.bool false) hS ?_
 simp only [pS]
 refine tkI 14 (some 19) (.bool false) hS ?_
 simp only [pS]
 refine tkI 15 (some 20) (.bool false) hS ?_
 simp only [pS]
 refine tkA 16 rfl (some 21) (.agg #[.int .i64 0,.slice ao n cap]) (.inl ⟨by rfl,fun W hW=>by have q0:=hW.cell p0 id;have q1:=hW.cell p1 id;go_simp⟩) hS ?_
 simp only [pS]
 refine tkI 19 (some 24) (.pointer (some ⟨B,1,none⟩)) hS ?_
 simp only [pS]
 refine tkA 20 rfl (some 25) (.slice ao n cap) (.inl ⟨by rfl,fun W hW=>by have q:=hW.cell p1 id;go_simp⟩) hS ?_
 simp only [pS]
 refine tkI 21 (some 26) (.int .i64 n) hS ?_
 simp only [pS]
 refine tkO 17 ?_
 refine opH_call (some 22) rfl (by rfl) rfl 55 #[.agg #[.int .i64 0,.slice ao n cap]] (by go_simp) ((HK.out _ hN).mono ?_)
 rintro e w17 ⟨M,rfl,hM,hk⟩
 have hS:=hS.trans hk
 have hN:=hN.trans hk
 clear hk
 refine ⟨_,rfl,hS,?_⟩
 simp only [pS]
 refine tkO 18 ?_
 refine opH_value (some 23) rfl (by rfl) rfl (v:=.int .i64 m) (w':=w17) (run_lenMap (s:=.tmp 22) rfl rfl hM) ?_
 refine ⟨hS,?_⟩
 simp only [pS]
 refine tkA 22 rfl (some 27) (.bool y) (.inl ⟨by rfl,fun W hW=>by go_simp;first | done | exact hm⟩) hS ?_
 simp only [pS]
 refine tkI 23 (some 28) (.bool y) hS ?_
 simp only [pS]
 refine wpAnyH_done (by kernel_rfl) ?_ _
 exact zc rfl hN
theorem right1_map (t:Array Value) (hs:t.size=48) (w:World) {B n cap:Nat} {l:Int} {ao:Option Addr} {m:Nat} {y:Bool} {f:Int→Option Value}
  (hq1:t.getD 1 undef = .pointer (some ⟨B,0,none⟩))
  (p0:w.cell? ⟨B,0,none⟩=some (.int .i64 l)) (p1:w.cell? ⟨B,1,none⟩=some (.slice ao n cap))
  (hz:¬ l=0) (ho:oddP l=true)
  (hgt:decide ((4:Int) < (n:Int))=false) (hm:((m:Int) != (n:Int))=y)
  (HK:Hid (∀ W,New w W→Calls Tryz.prog 55 #[.agg #[.int .i64 l,.slice ao n cap]] W fun e w'=>∃ M,e = .returned (.map (some M))∧MapD (k1 .i64) w' M m f∧New W w')) :
  reg_prio_Right_1.wp Tryz.prog (Only fun a' W'=>∃ z:Nat→Value,a'=⟨((pz t z [5,6,7,8,9,10,11,12,13,14,15,16,17,18,19,20,21,22,23,24,25,26,27]).setIfInBounds 28 (.bool y)),[]⟩∧New w W') ⟨t,[]⟩ w:=by
 conv=>arg 2;whnf
 obtain ⟨u,rfl⟩:=lit48 t hs
 have hq1:u 1 = _:=hq1
 rw [hq1]
 clear hq1 hs
 refine wp_region_held (S:=fun W=>New w W) (by kernel_rfl) ?_
 show wpAnyH _ _ _ _ _ 24 _ _ w.drew
 have hN:New w w.drew:=(Mods.refl _ _).drew
 have hS:New w w.drew:=(Mods.refl _ _).drew
 refine tkI 0 (some 5) (.pointer (some ⟨B,0,none⟩)) hS ?_
 simp only [pS]
 refine tkA 1 rfl (some 6) (.int .i64 l) (.inl ⟨by rfl,fun W hW=>by have q:=hW.cell p0 id;go_simp⟩) hS ?_
 simp only [pS]
 refine tkA 2 rfl (some 7) (.bool true) (.inl ⟨by rfl,fun W hW=>by go_simp;first | done | exact hz⟩) hS ?_
 simp only [pS]
 refine tkI 3 (some 8) (.bool true) hS ?_
 simp only [pS]
 refine tkI 4 (some 9) (.pointer (some ⟨B,0,none⟩)) hS ?_
 simp only [pS]
 refine tkA 5 rfl (some 10) (.int .i64 l) (.inl ⟨by rfl,fun W hW=>by have q:=hW.cell p0 id;go_simp⟩) hS ?_
 simp only [pS]
 refine tkO 6 ?_
 refine opH_call (some 11) rfl (by rfl) rfl 51 #[.int .i64 l] (by go_simp) ((((odd_p l _).mono (R':=fun e w'=>e = .returned (.bool true)∧New _ w') (by rintro e w' ⟨rfl,rfl⟩;exact ⟨by rw [ho],Mods.refl _ _⟩))).mono ?_)
 rintro e w6 ⟨rfl,hk⟩
 have hS:=hS.trans hk
 have hN:=hN.trans hk
 clear hk
 refine ⟨_,rfl,hS,?_⟩
 simp only [pS]
 refine tkI 7 (some 12) (.bool false) hS ?_
 simp only [pS]
 refine tkI 8 (some 13) (.bool false) hS ?_
 simp only [pS]
 refine tkI 9 (some 14) (.bool false) hS ?_
 simp only [pS]
 refine tkI 10 (some 15) (.pointer (some ⟨B,1,none⟩)) hS ?_
 simp only [pS]
 refine tkA 11 rfl (some 16) (.slice ao n cap) (.inl ⟨by rfl,fun W hW=>by have q:=hW.cell p1 id;go_simp⟩) hS ?_
 simp only [pS]
 refine tkI 12 (some 17) (.int .i64 n) hS ?_
 simp only [pS]
 refine tkI 13 (some 18) (.bool false) hS ?_
 simp only [pS]
 refine tkI 14 (some 19) (.bool false) hS ?_
 simp only [pS]
 refine tkI 15 (some 20) (.bool false) hS ?_
 simp only [pS]
 refine tkA 16 rfl (some 21) (.agg #[.int .i64 l,.slice ao n cap]) (.inl ⟨by rfl,fun W hW=>by have q0:=hW.cell p0 id;have q1:=hW.cell p1 id;go_simp⟩) hS ?_
 simp only [pS]
 refine tkI 19 (some 24) (.pointer (some ⟨B,1,none⟩)) hS ?_
 simp only [pS]
 refine tkA 20 rfl (some 25) (.slice ao n cap) (.inl ⟨by rfl,fun W hW=>by have q:=hW.cell p1 id;go_simp⟩) hS ?_
 simp only [pS]
 refine tkI 21 (some 26) (.int .i64 n) hS ?_
 simp only [pS]
 refine tkO 17 ?_
 refine opH_call (some 22) rfl (by rfl) rfl 55 #[.agg #[.int .i64 l,.slice ao n cap]] (by go_simp) ((HK.out _ hN).mono ?_)
 rintro e w17 ⟨M,rfl,hM,hk⟩
 have hS:=hS.trans hk
 have hN:=hN.trans hk
 clear hk
 refine ⟨_,rfl,hS,?_⟩
 simp only [pS]
 refine tkO 18 ?_
 refine opH_value (some 23) rfl (by rfl) rfl (v:=.int .i64 m) (w':=w17) (run_lenMap (s:=.tmp 22) rfl rfl hM) ?_
 refine ⟨hS,?_⟩
 simp only [pS]
 refine tkA 22 rfl (some 27) (.bool y) (.inl ⟨by rfl,fun W hW=>by go_simp;first | done | exact hm⟩) hS ?_
 simp only [pS]
 refine tkI 23 (some 28) (.bool y) hS ?_
 simp only [pS]
 refine wpAnyH_done (by kernel_rfl) ?_ _
 exact zc rfl hN


def okW (l:Int) (x:WP):Bool:=withinP l x.s && decide (x.u ≤ 7)
def rightP (l:Int) (d:List WP):Bool:=(decide (l=0) || oddP l) && (decide (d.length ≤ 4) && (decide (kN d d.length=d.length) && d.all (okW l)))
theorem odd_facts {l:Int} (h:oddP l=true):0 < l∧l < 2147483648∧l % 2=1:=of_decide_eq_true h
theorem right_p (l:Int) (v:Value) (d:List WP) (w:World) (h:RdW w v d) (hu:∀ x ∈ d,x.u < 256) :
  Calls Tryz.prog 43 #[.agg #[.int .i64 l,v]] w fun e w'=>e = .returned (.bool (rightP l d))∧New w w':=by
 have H:=Lib.hid h
 have HU:=Lib.hid hu
 have HK:=Lib.hid (fun W (hN:New w W)=>known_p l v d W (h.new hN))
 have hn1:d.length ≤ 281474976710656:=h.1
 obtain ⟨ao,cap,rfl⟩:=h.slice
 obtain ⟨m,hm⟩:∃ m,kN d d.length=m:=⟨_,rfl⟩
 obtain ⟨f,hf⟩:∃ f,kF d=f:=⟨_,rfl⟩
 rw [hm,hf] at HK
 obtain ⟨n,hn⟩:∃ n,d.length=n:=⟨_,rfl⟩
 obtain ⟨z,hz⟩:∃ z,rightP l d=z:=⟨_,rfl⟩
 have hz':((decide (l=0) || oddP l) && (decide (n ≤ 4) && (decide (m=n) && d.all (okW l))))=z:=by
  rw [← hz,← hm,← hn];rfl
 rw [hn] at H hn1 HK
 have Hn:=Lib.hid hn
 rw [hz,hn]
 clear h hn hz hm hf hu
 have r0:=World.alloc_heap_new w (.cells #[.int .i64 l,.slice ao n cap] 26)
 have hA:New w (w.alloc (.cells #[.int .i64 l,.slice ao n cap] 26)):=(Mods.refl _ _).alloc _
 obtain ⟨W0,hW0⟩:∃ W,w.alloc (.cells #[.int .i64 l,.slice ao n cap] 26)=W:=⟨_,rfl⟩
 obtain ⟨B,hB⟩:∃ B,w.heap.size=B:=⟨_,rfl⟩
 have hB':W0.heap.size=B + 1:=by rw [← hW0,← hB];simp
 rw [hW0] at r0 hA
 rw [hB] at r0
 obtain ⟨⟨p0,p1⟩,-⟩:=pc_facts r0
 have HZZ:=Lib.hid hz'
 clear hz'
 go_enter Tryz.func43,Tryz.ntmps43
 go_upto_region 1 with fail
 refine wp_scope_fwd 0 (fun a W=>(a.tmps.size=48∧a.defers = [])∧Hid (z=false)∧New w W) rfl ?first ?pass
 case pass =>
  rintro ⟨y,dfs⟩ W ⟨⟨hs,hd⟩,hrn,hN⟩
  simp only at hs hd
  subst hd
  obtain ⟨u,rfl⟩:=lit48 y hs
  obtain rfl:=hrn.out
  clear hs hrn HZZ
  go_wp2_with fail
  rw [Exit.noGoto_ret]
  go_ret
  exact ⟨rfl,hN⟩
 case first =>
 have hz':=HZZ.out
 clear HZZ
 by_cases hl:l=0
 ·subst hl
  by_cases hgt:4 < n
  ·have hg:decide ((4:Int) < (n:Int))=true:=decide_eq_true (by omega)
   have hz2:z=false:=by rw [← hz',decide_eq_false (show ¬ n ≤ 4 by omega)];simp
   subst hz2
   clear hz'
   go_upto_region 1 with fail
   refine piece (fun _=>_) (right1_long0 (l:=0) _ rfl W0 rfl p0 p1 hg) ?_
   rintro a' w1 ⟨zz,rfl,hN1⟩
   simp only [pS]
   go_wp2_with fail
   exact wp_goto (And.intro rfl ⟨⟨rfl,rfl⟩,Lib.hid rfl,hA.trans hN1⟩)
  ·have hg:decide ((4:Int) < (n:Int))=false:=decide_eq_false (by omega)
   have HK0:=Lib.hid (fun W (hN:New W0 W)=>HK.out W (hA.trans hN))
   by_cases hmn:m=n
   ·have hm1:((m:Int) != (n:Int))=false:=by subst hmn;simp
    have hz2:d.all (okW 0)=z:=by rw [← hz',decide_eq_true (show n ≤ 4 by omega),decide_eq_true hmn];simp
    clear hz' HK
    go_upto_region 1 with fail
    refine piece (fun _=>_) (right1_map0 (l:=0) _ rfl W0 rfl p0 p1 hg hm1 HK0) ?_
    rintro a' w1 ⟨zz,rfl,hN1⟩
    simp only [pS]
    replace r0:=hN1.heap r0 id
    clear p0 p1
    obtain ⟨⟨p0,p1⟩,-⟩:=pc_facts r0
    have hN:=hA.trans hN1
    clear HK0 hA hN1
    go_upto_region 3 with fail
    have HZ:=Lib.hid hz2
    have r0':=Lib.hid r0
    clear hz2 r0
    go_loopw [32] (fun t wr=>∃ k:Nat,k ≤ n∧t = .int .i64 k∧Hid (∀ j,j < k→okW 0 (d.getD j noW)=true)∧New w wr∧New w1 wr) (fun t _=>n - (intOf t).toNat)
    case atStart=>exact ⟨0,Nat.zero_le _,rfl,Lib.hid fun i hi=>by omega,hN,Mods.refl _ _⟩
    case round =>
     clear hN
     obtain ⟨k,hk,rfl,hbef,hN,hN1⟩:=hrel
     have r0:=hN1.heap r0'.out id
     clear p0 p1
     obtain ⟨⟨p0,p1⟩,-⟩:=pc_facts r0
     by_cases hlt:k < n
     ·have hkd:decide ((k:Int) < (n:Int))=true:=decide_eq_true (by omega)
      obtain ⟨b1,o1,rfl,hrow⟩:=(H.out.new hN).at.2.2 k hlt
      obtain ⟨x,hx⟩:∃ x,d.getD k noW=x:=⟨_,rfl⟩
      have hrow:wr.rangeAt b1 (o1 + k * 3) (wcs x):=by rw [← hx];exact hrow
      obtain ⟨q0,q1,q2⟩:=cells3w hrow
      have hxm:x ∈ d:=by rw [← hx];exact getD_mem (by have:=Hn.out;omega)
      have hxu:=HU.out x hxm
      clear hrow
      have r1:=World.alloc_heap_new wr (.cells #[.int .i64 x.s,.int .u8 x.u,.bool x.i] 40)
      have hAx:New wr (wr.alloc (.cells #[.int .i64 x.s,.int .u8 x.u,.bool x.i] 40)):=(Mods.refl _ _).alloc _
      obtain ⟨W2,hW2⟩:∃ W,wr.alloc (.cells #[.int .i64 x.s,.int .u8 x.u,.bool x.i] 40)=W:=⟨_,rfl⟩
      obtain ⟨X,hX⟩:∃ X,wr.heap.size=X:=⟨_,rfl⟩
      go_upto_region 5 with fail
      rw [hW2] at hAx r1
      rw [hX] at r1
      replace hN:=hN.trans hAx
      replace hN1:=hN1.trans hAx
      replace r0:=hAx.heap r0 id
      clear q0 q1 q2 p0 p1 hW2 hX hAx
      obtain ⟨⟨p0,p1⟩,-⟩:=pc_facts r0
      have q0:=cell_of_row _ _ 0 _ _ _ r1
      simp only [List.getElem?_toArray,List.getElem?_cons_zero,List.getElem?_cons_succ] at q0
      have HWi:=Lib.hid (within_p 0 x.s (.slice (some ⟨b1,o1,none⟩) n cap) W2 (by decide) (by decide))
      cases hwi:withinP 0 x.s with
      | false =>
       rw [hwi] at HWi
       obtain rfl:z=false:=by
        rw [← HZ.out]
        refine Bool.eq_false_iff.2 fun h=>?_
        have:=List.all_eq_true.1 h x hxm
        unfold okW at this
        rw [hwi] at this
        cases this
       clear hbef r0 hx
       go_wp2_with fail
       refine HWi.out.mono ?_
       rintro e w2 ⟨rfl,hk2⟩
       go_wp2_with fail
       exact wp_goto (And.intro rfl ⟨⟨rfl,rfl⟩,Lib.hid rfl,hN.trans hk2⟩)
      | true =>
       rw [hwi] at HWi
       have HRu:=Lib.hid (fun W=>right_pr x.u x.i hxu W)
       unfold prV at HRu
       by_cases h7:x.u ≤ 7
       ·rw [decide_eq_true h7] at HRu
        have hok:okW 0 x=true:=by unfold okW;rw [hwi,decide_eq_true h7];rfl
        have hh:Hid (∀ j,j < k + 1→okW 0 (d.getD j noW)=true):=Lib.hid fun i hi=>by
         by_cases hik:i < k
         ·exact hbef.out i hik
         ·obtain rfl:i=k:=by omega
          rw [hx];exact hok
        clear hbef r0 hx hok
        go_wp2_with fail
        refine HWi.out.mono ?_
        rintro e w2 ⟨rfl,hk2⟩
        replace hN:=hN.trans hk2
        replace hN1:=hN1.trans hk2
        replace r1:=hk2.heap r1 id
        clear q0 p0 p1 hk2
        have q0:=cell_of_row _ _ 0 _ _ _ r1
        have q1:=cell_of_row _ _ 1 _ _ _ r1
        have q2:=cell_of_row _ _ 2 _ _ _ r1
        simp only [List.getElem?_toArray,List.getElem?_cons_zero,List.getElem?_cons_succ] at q0 q1 q2
        clear r1
        go_wp2_with fail
        refine (HRu.out _).mono ?_
        rintro e w3 ⟨rfl,hk2⟩
        replace hN:=hN.trans hk2
        replace hN1:=hN1.trans hk2
        clear q0 q1 q2 hk2
        go_wp2_with fail
        go_roundw
        case rel=>exact ⟨k + 1,by omega,by go_num,hh,hN,hN1⟩
        case measure=>simp [intOf];omega
       ·rw [decide_eq_false h7] at HRu
        obtain rfl:z=false:=by
         rw [← HZ.out]
         refine Bool.eq_false_iff.2 fun h=>?_
         have:=List.all_eq_true.1 h x hxm
         unfold okW at this
         rw [hwi,decide_eq_false h7] at this
         cases this
        clear hbef r0 hx
        go_wp2_with fail
        refine HWi.out.mono ?_
        rintro e w2 ⟨rfl,hk2⟩
        replace hN:=hN.trans hk2
        replace r1:=hk2.heap r1 id
        clear q0 p0 p1 hk2
        have q0:=cell_of_row _ _ 0 _ _ _ r1
        have q1:=cell_of_row _ _ 1 _ _ _ r1
        have q2:=cell_of_row _ _ 2 _ _ _ r1
        simp only [List.getElem?_toArray,List.getElem?_cons_zero,List.getElem?_cons_succ] at q0 q1 q2
        clear r1
        go_wp2_with fail
        refine (HRu.out _).mono ?_
        rintro e w3 ⟨rfl,hk2⟩
        replace hN:=hN.trans hk2
        clear q0 q1 q2 hk2
        go_wp2_with fail
        exact wp_goto (And.intro rfl ⟨⟨rfl,rfl⟩,Lib.hid rfl,hN⟩)
     ·have hkd:decide ((k:Int) < (n:Int))=false:=decide_eq_false (by omega)
      obtain rfl:z=true:=by
       rw [← HZ.out]
       refine List.all_eq_true.2 fun x hx=>?_
       obtain ⟨i,hi⟩:=List.getElem?_of_mem hx
       have hil:=(List.getElem?_eq_some_iff.1 hi).1
       have:=hbef.out i (by have:=Hn.out;omega)
       rw [List.getD_eq_getElem?_getD,hi] at this
       exact this
      clear hbef r0
      go_wp2_with fail
      simp only [Exit.jump]
      go_ret
      exact ⟨rfl,hN⟩
   ·have hm1:((m:Int) != (n:Int))=true:=bne_iff_ne.2 (by omega)
    have hz2:z=false:=by rw [← hz',decide_eq_false hmn];simp
    subst hz2
    clear hz' HK
    go_upto_region 1 with fail
    refine piece (fun _=>_) (right1_map0 (l:=0) _ rfl W0 rfl p0 p1 hg hm1 HK0) ?_
    rintro a' w1 ⟨zz,rfl,hN1⟩
    simp only [pS]
    go_wp2_with fail
    exact wp_goto (And.intro rfl ⟨⟨rfl,rfl⟩,Lib.hid rfl,hA.trans hN1⟩)
 ·have hlz:decide (l=0)=false:=decide_eq_false hl
  rw [hlz,Bool.false_or] at hz'
  cases ho:oddP l with
  | false =>
   rw [ho,Bool.false_and] at hz'
   subst hz'
   go_upto_region 1 with fail
   refine piece (fun _=>_) (right1_bad _ rfl W0 rfl p0 p1 hl ho) ?_
   rintro a' w1 ⟨z,rfl,hN1⟩
   simp only [pS]
   go_wp2_with fail
   exact wp_goto (And.intro rfl ⟨⟨rfl,rfl⟩,Lib.hid rfl,hA.trans hN1⟩)
  | true =>
   rw [ho,Bool.true_and] at hz'
   have hb:=odd_facts ho
   by_cases hgt:4 < n
   ·have hg:decide ((4:Int) < (n:Int))=true:=decide_eq_true (by omega)
    have hz2:z=false:=by rw [← hz',decide_eq_false (show ¬ n ≤ 4 by omega)];simp
    subst hz2
    clear hz'
    go_upto_region 1 with fail
    refine piece (fun _=>_) (right1_long _ rfl W0 rfl p0 p1 hl ho hg) ?_
    rintro a' w1 ⟨zz,rfl,hN1⟩
    simp only [pS]
    go_wp2_with fail
    exact wp_goto (And.intro rfl ⟨⟨rfl,rfl⟩,Lib.hid rfl,hA.trans hN1⟩)
   ·have hg:decide ((4:Int) < (n:Int))=false:=decide_eq_false (by omega)
    have HK0:=Lib.hid (fun W (hN:New W0 W)=>HK.out W (hA.trans hN))
    by_cases hmn:m=n
    ·have hm1:((m:Int) != (n:Int))=false:=by subst hmn;simp
     have hz2:d.all (okW l)=z:=by rw [← hz',decide_eq_true (show n ≤ 4 by omega),decide_eq_true hmn];simp
     clear hz' HK
     go_upto_region 1 with fail
     refine piece (fun _=>_) (right1_map _ rfl W0 rfl p0 p1 hl ho hg hm1 HK0) ?_
     rintro a' w1 ⟨zz,rfl,hN1⟩
     simp only [pS]
     replace r0:=hN1.heap r0 id
     clear p0 p1
     obtain ⟨⟨p0,p1⟩,-⟩:=pc_facts r0
     have hN:=hA.trans hN1
     clear HK0 hA hN1
     go_upto_region 3 with fail
     have HZ:=Lib.hid hz2
     have r0':=Lib.hid r0
     clear hz2 r0
     go_loopw [32] (fun t wr=>∃ k:Nat,k ≤ n∧t = .int .i64 k∧Hid (∀ j,j < k→okW l (d.getD j noW)=true)∧New w wr∧New w1 wr) (fun t _=>n - (intOf t).toNat)
     case atStart=>exact ⟨0,Nat.zero_le _,rfl,Lib.hid fun i hi=>by omega,hN,Mods.refl _ _⟩
     case round =>
      clear hN
      obtain ⟨k,hk,rfl,hbef,hN,hN1⟩:=hrel
      have r0:=hN1.heap r0'.out id
      clear p0 p1
      obtain ⟨⟨p0,p1⟩,-⟩:=pc_facts r0
      by_cases hlt:k < n
      ·have hkd:decide ((k:Int) < (n:Int))=true:=decide_eq_true (by omega)
       obtain ⟨b1,o1,rfl,hrow⟩:=(H.out.new hN).at.2.2 k hlt
       obtain ⟨x,hx⟩:∃ x,d.getD k noW=x:=⟨_,rfl⟩
       have hrow:wr.rangeAt b1 (o1 + k * 3) (wcs x):=by rw [← hx];exact hrow
       obtain ⟨q0,q1,q2⟩:=cells3w hrow
       have hxm:x ∈ d:=by rw [← hx];exact getD_mem (by have:=Hn.out;omega)
       have hxu:=HU.out x hxm
       clear hrow
       have r1:=World.alloc_heap_new wr (.cells #[.int .i64 x.s,.int .u8 x.u,.bool x.i] 40)
       have hAx:New wr (wr.alloc (.cells #[.int .i64 x.s,.int .u8 x.u,.bool x.i] 40)):=(Mods.refl _ _).alloc _
       obtain ⟨W2,hW2⟩:∃ W,wr.alloc (.cells #[.int .i64 x.s,.int .u8 x.u,.bool x.i] 40)=W:=⟨_,rfl⟩
       obtain ⟨X,hX⟩:∃ X,wr.heap.size=X:=⟨_,rfl⟩
       go_upto_region 5 with fail
       rw [hW2] at hAx r1
       rw [hX] at r1
       replace hN:=hN.trans hAx
       replace hN1:=hN1.trans hAx
       replace r0:=hAx.heap r0 id
       clear q0 q1 q2 p0 p1 hW2 hX hAx
       obtain ⟨⟨p0,p1⟩,-⟩:=pc_facts r0
       have q0:=cell_of_row _ _ 0 _ _ _ r1
       simp only [List.getElem?_toArray,List.getElem?_cons_zero,List.getElem?_cons_succ] at q0
       have HWi:=Lib.hid (within_p l x.s (.slice (some ⟨b1,o1,none⟩) n cap) W2 (by omega) (by omega))
       cases hwi:withinP l x.s with
       | false =>
        rw [hwi] at HWi
        obtain rfl:z=false:=by
         rw [← HZ.out]
         refine Bool.eq_false_iff.2 fun h=>?_
         have:=List.all_eq_true.1 h x hxm
         unfold okW at this
         rw [hwi] at this
         cases this
        clear hbef r0 hx
        go_wp2_with fail
        refine HWi.out.mono ?_
        rintro e w2 ⟨rfl,hk2⟩
        go_wp2_with fail
        exact wp_goto (And.intro rfl ⟨⟨rfl,rfl⟩,Lib.hid rfl,hN.trans hk2⟩)
       | true =>
        rw [hwi] at HWi
        have HRu:=Lib.hid (fun W=>right_pr x.u x.i hxu W)
        unfold prV at HRu
        by_cases h7:x.u ≤ 7
        ·rw [decide_eq_true h7] at HRu
         have hok:okW l x=true:=by unfold okW;rw [hwi,decide_eq_true h7];rfl
         have hh:Hid (∀ j,j < k + 1→okW l (d.getD j noW)=true):=Lib.hid fun i hi=>by
          by_cases hik:i < k
          ·exact hbef.out i hik
          ·obtain rfl:i=k:=by omega
           rw [hx];exact hok
         clear hbef r0 hx hok
         go_wp2_with fail
         refine HWi.out.mono ?_
         rintro e w2 ⟨rfl,hk2⟩
         replace hN:=hN.trans hk2
         replace hN1:=hN1.trans hk2
         replace r1:=hk2.heap r1 id
         clear q0 p0 p1 hk2
         have q0:=cell_of_row _ _ 0 _ _ _ r1
         have q1:=cell_of_row _ _ 1 _ _ _ r1
         have q2:=cell_of_row _ _ 2 _ _ _ r1
         simp only [List.getElem?_toArray,List.getElem?_cons_zero,List.getElem?_cons_succ] at q0 q1 q2
         clear r1
         go_wp2_with fail
         refine (HRu.out _).mono ?_
         rintro e w3 ⟨rfl,hk2⟩
         replace hN:=hN.trans hk2
         replace hN1:=hN1.trans hk2
         clear q0 q1 q2 hk2
         go_wp2_with fail
         go_roundw
         case rel=>exact ⟨k + 1,by omega,by go_num,hh,hN,hN1⟩
         case measure=>simp [intOf];omega
        ·rw [decide_eq_false h7] at HRu
         obtain rfl:z=false:=by
          rw [← HZ.out]
          refine Bool.eq_false_iff.2 fun h=>?_
          have:=List.all_eq_true.1 h x hxm
          unfold okW at this
          rw [hwi,decide_eq_false h7] at this
          cases this
         clear hbef r0 hx
         go_wp2_with fail
         refine HWi.out.mono ?_
         rintro e w2 ⟨rfl,hk2⟩
         replace hN:=hN.trans hk2
         replace r1:=hk2.heap r1 id
         clear q0 p0 p1 hk2
         have q0:=cell_of_row _ _ 0 _ _ _ r1
         have q1:=cell_of_row _ _ 1 _ _ _ r1
         have q2:=cell_of_row _ _ 2 _ _ _ r1
         simp only [List.getElem?_toArray,List.getElem?_cons_zero,List.getElem?_cons_succ] at q0 q1 q2
         clear r1
         go_wp2_with fail
         refine (HRu.out _).mono ?_
         rintro e w3 ⟨rfl,hk2⟩
         replace hN:=hN.trans hk2
         clear q0 q1 q2 hk2
         go_wp2_with fail
         exact wp_goto (And.intro rfl ⟨⟨rfl,rfl⟩,Lib.hid rfl,hN⟩)
      ·have hkd:decide ((k:Int) < (n:Int))=false:=decide_eq_false (by omega)
       obtain rfl:z=true:=by
        rw [← HZ.out]
        refine List.all_eq_true.2 fun x hx=>?_
        obtain ⟨i,hi⟩:=List.getElem?_of_mem hx
        have hil:=(List.getElem?_eq_some_iff.1 hi).1
        have:=hbef.out i (by have:=Hn.out;omega)
        rw [List.getD_eq_getElem?_getD,hi] at this
        exact this
       clear hbef r0
       go_wp2_with fail
       simp only [Exit.jump]
       go_ret
       exact ⟨rfl,hN⟩
    ·have hm1:((m:Int) != (n:Int))=true:=bne_iff_ne.2 (by omega)
     have hz2:z=false:=by rw [← hz',decide_eq_false hmn];simp
     subst hz2
     clear hz' HK
     go_upto_region 1 with fail
     refine piece (fun _=>_) (right1_map _ rfl W0 rfl p0 p1 hl ho hg hm1 HK0) ?_
     rintro a' w1 ⟨zz,rfl,hN1⟩
     simp only [pS]
     go_wp2_with fail
     exact wp_goto (And.intro rfl ⟨⟨rfl,rfl⟩,Lib.hid rfl,hA.trans hN1⟩)


def waitP (l:Int) (d:List WP) (s:Int):Option WP:=if rightP l d then d.reverse.find? (fun x=>decide (x.s=s)) else none
def waitV (o:Option WP):Value:=.tuple #[(o.map pv).getD (prV 3 false),.bool o.isSome]
theorem waiting_p (l:Int) (v:Value) (d:List WP) (s:Int) (w:World) (h:RdW w v d) (hu:∀ x ∈ d,x.u < 256) :
  Calls Tryz.prog 22 #[.agg #[.int .i64 l,v],.int .i64 s] w fun e w'=>e = .returned (waitV (waitP l d s))∧New w w':=by
 have HR:=Lib.hid (fun W (hN:New w W)=>right_p l v d W (h.new hN) hu)
 have HK:=Lib.hid (fun W (hN:New w W)=>known_p l v d W (h.new hN))
 obtain ⟨ao,cap,rfl⟩:=h.slice
 obtain ⟨n,hn⟩:∃ n,d.length=n:=⟨_,rfl⟩
 obtain ⟨o,ho⟩:∃ o,waitP l d s=o:=⟨_,rfl⟩
 have HO:=Lib.hid ho
 rw [ho]
 obtain ⟨f,hf⟩:∃ f,kF d=f:=⟨_,rfl⟩
 have HF:=Lib.hid hf
 rw [hn] at HR HK ⊢
 rw [hf] at HK
 clear h hu hn ho hf
 have r0:=World.alloc_heap_new w (.cells #[.int .i64 l,.slice ao n cap] 26)
 have hA0:New w (w.alloc (.cells #[.int .i64 l,.slice ao n cap] 26)):=(Mods.refl _ _).alloc _
 have hs0:(w.alloc (.cells #[.int .i64 l,.slice ao n cap] 26)).heap.size=w.heap.size + 1:=by simp
 obtain ⟨W0,hW0⟩:∃ W,w.alloc (.cells #[.int .i64 l,.slice ao n cap] 26)=W:=⟨_,rfl⟩
 rw [hW0] at r0 hA0 hs0
 have r1:=World.alloc_heap_new W0 (.cells #[.int .u8 0,.bool false] 31)
 have hA1:New W0 (W0.alloc (.cells #[.int .u8 0,.bool false] 31)):=(Mods.refl _ _).alloc _
 obtain ⟨W1,hW1⟩:∃ W,W0.alloc (.cells #[.int .u8 0,.bool false] 31)=W:=⟨_,rfl⟩
 rw [hW1] at r1 hA1
 replace r0:=hA1.heap r0 id
 obtain ⟨B,hB⟩:∃ B,w.heap.size=B:=⟨_,rfl⟩
 rw [hB] at r0 hs0
 rw [hs0] at r1
 have hN:=hA0.trans hA1
 have hwB:w.heap.size ≤ B:=by omega
 go_enter Tryz.func22,Tryz.ntmps22
 go_upto_region 1 with fail
 clear hA0 hA1 hW0 hW1 hs0 hB
 obtain ⟨⟨p0,p1⟩,-⟩:=pc_facts r0
 cases hr:rightP l d with
 | false =>
  obtain rfl:o=none:=by rw [← HO.out];unfold waitP;rw [hr];rfl
  rw [hr] at HR
  clear hr HO HK
  go_wp2_with fail
  refine (HR.out _ hN).mono ?_
  rintro e w1 ⟨rfl,hk⟩
  replace hN:=hN.trans hk
  replace r1:=hk.heap r1 id
  clear hk
  go_wp2_with fail
  refine (first_u _).mono ?_
  rintro e w3 ⟨rfl,hk⟩
  unfold prV
  replace hN:=hN.trans hk
  replace r1:=hk.heap r1 id
  go_wp2_with (refine op_skip rfl (run_store_row 31 (.tmp 4) (.tmp 20) rfl (B + 1) rfl 31 [.int .u8 0,.bool false] [.int .u8 3,.bool false] rfl r1 sizePr rfl (by decide)) ?_)
  have hrow:=setRow_heap w3 (B + 1) _ #[.int .u8 3,.bool false] _ _ r1
  refine bodyPost_ret (v:=.tuple #[.agg #[.int .u8 3,.bool false],.bool false]) (results_row2 rfl _ _ (B + 1) 31 _ (0,0) _ rfl hrow Tryz.underlying31 rfl sizePr rfl) rfl ?_
  exact ⟨rfl,hN.setRow (by omega) _⟩
 | true =>
  have hof:o.map pv=f s:=by rw [← HO.out,← HF.out];unfold waitP kF;rw [hr,if_pos rfl]
  rw [hr] at HR
  clear hr HO
  go_wp2_with fail
  refine (HR.out _ hN).mono ?_
  rintro e w1 ⟨rfl,hk⟩
  replace hN:=hN.trans hk
  replace r0:=hk.heap r0 id
  replace r1:=hk.heap r1 id
  clear hk p0 p1
  obtain ⟨⟨p0,p1⟩,-⟩:=pc_facts r0
  go_wp2_with fail
  refine (HK.out _ hN).mono ?_
  rintro e w2 ⟨M,rfl,hM,hk⟩
  replace hN:=hN.trans hk
  replace r1:=hk.heap r1 id
  clear hk p0 p1 r0
  have hlook:=hM.fn.look keyW Tryz.underlying88 (z:=.agg #[.int .u8 0,.bool false]) (by go_simp) s true
  rw [← hof] at hlook
  unfold k1 at hlook
  cases o with
  | none =>
   have hlook:(Instr.lookup 88 (.map (some M)) (.agg #[.int .i64 s]) true).run Tryz.prog w2 = .ok (.tuple #[.agg #[.int .u8 0,.bool false],.bool false]) w2:=hlook
   have hAx:New w2 (w2.alloc (.cells #[.int .u8 0,.bool false] 31)):=(Mods.refl _ _).alloc _
   go_wp2_with fail
   refine (first_u _).mono ?_
   rintro e w3 ⟨rfl,hk⟩
   unfold prV
   replace hN:=(hN.trans hAx).trans hk
   replace r1:=hk.heap (hAx.heap r1 id) id
   clear hk hAx
   go_wp2_with (refine op_skip rfl (run_store_row 31 (.tmp 4) (.tmp 20) rfl (B + 1) rfl 31 [.int .u8 0,.bool false] [.int .u8 3,.bool false] rfl r1 sizePr rfl (by decide)) ?_)
   have hrow:=setRow_heap w3 (B + 1) _ #[.int .u8 3,.bool false] _ _ r1
   refine bodyPost_ret (v:=.tuple #[.agg #[.int .u8 3,.bool false],.bool false]) (results_row2 rfl _ _ (B + 1) 31 _ (0,0) _ rfl hrow Tryz.underlying31 rfl sizePr rfl) rfl ?_
   exact ⟨rfl,hN.setRow (by omega) _⟩
  | some x =>
   have hlook:(Instr.lookup 88 (.map (some M)) (.agg #[.int .i64 s]) true).run Tryz.prog w2 = .ok (.tuple #[.agg #[.int .u8 x.u,.bool x.i],.bool true]) w2:=hlook
   have hAx:New w2 (w2.alloc (.cells #[.int .u8 x.u,.bool x.i] 31)):=(Mods.refl _ _).alloc _
   have rx:=World.alloc_heap_new w2 (.cells #[.int .u8 x.u,.bool x.i] 31)
   go_upto_region 4 with fail
   replace hN:=hN.trans hAx
   replace r1:=hAx.heap r1 id
   obtain ⟨w3,hw3⟩:∃ W,w2.alloc (.cells #[.int .u8 x.u,.bool x.i] 31)=W:=⟨_,rfl⟩
   rw [hw3] at hN r1 rx ⊢
   obtain ⟨⟨q0,q1⟩,-⟩:=pr_facts rx
   clear hAx hw3 rx
   go_wp2_with (refine op_skip rfl (run_store_row 31 (.tmp 4) (.tmp 19) rfl (B + 1) rfl 31 [.int .u8 0,.bool false] [.int .u8 x.u,.bool x.i] rfl r1 sizePr rfl (by intro v hv;simp only [List.mem_cons,List.not_mem_nil,or_false] at hv;rcases hv with rfl | rfl <;> rfl)) ?_)
   have hrow:=setRow_heap w3 (B + 1) _ #[.int .u8 x.u,.bool x.i] _ _ r1
   refine bodyPost_ret (v:=.tuple #[.agg #[.int .u8 x.u,.bool x.i],.bool true]) (results_row2 rfl _ _ (B + 1) 31 _ (0,0) _ rfl hrow Tryz.underlying31 rfl sizePr rfl) rfl ?_
   exact ⟨rfl,hN.setRow (by omega) _⟩
end Go.Proofs.YtkiiameibdhdfaaGreatDoor
namespace Go.Cs
open Go.RowKit
variable {P:Program}
theorem wp_rangeListA {g:Operand} {ps:Array Tmp} {assign body:Code} {Q:Exit→Act→World→Prop} {a:Act} {w:World}
  {gf:Nat} {lb:Array Value} (hg:a.eval g = .func (.func gf) #[] lb) (eg:∀ args w,(callFunc gf args).run P w = .ok (.enter gf args) w)
  (L:List (Array Value)) (S:Nat→Prop) (hit:∀ W,New w W→IterAt P gf lb L S W) (hps:∀ x ∈ L,x.size=ps.size)
  (I:Nat→World→Prop) (Ix:Code→Nat→World→Prop) (hI:∀ k,Stab w.heap.size (I k)) (hIx:∀ c k,Stab w.heap.size (Ix c k)) (h0:I 0 w)
  (hround:∀ (l k:Nat) (x:Array Value) (W:World),L[k]? = some x→w.heap.size ≤ l→(∃ r,W.heap[l]? = some (.loop r))→I k W →
   assign.wpIn (Fr (some l)) 0 P (Exit.then (fun a1 W1=>Mods S W W1∧∀ W2,Quiet w.heap.size W1 W2→(∃ r,W2.heap[l]? = some (.loop r))→body.wpIn (Fr (some l)) 0 P (roundQ S I Ix (k + 1) W2) a1 W2) (fun _ _ _=>False))
    { tmps:=(ps.zip x).foldl (fun t (p,v)=>t.setIfInBounds p v) a.tmps,defers:=[] } W)
  (hdone:∀ W,I L.length W→W.heap[w.heap.size]? = some (.deferred (some []))→Q .normal { a with defers:={ target:=.collected w.heap.size,args:=#[] }::a.defers } W)
  (hstop:∀ c k W,k ≤ L.length→Ix c k W→W.heap[w.heap.size]? = some (.deferred (some []))→c.wp P Q { a with defers:={ target:=.collected w.heap.size,args:=#[] }::a.defers } W) :
  (Code.rangeFunc g ps assign body).wp P Q a w:=by
 refine (wpIn_wide (n:=0)).1 ?_
 refine rangeList_core (P:=P) none hg eg L S hit hps (w.alloc (.deferred (some []))) ((Mods.refl _ _).alloc _) [{ target:=.collected w.heap.size,args:=#[] }] w.heap.size ?_ I Ix hI hIx h0 hround ?_ ?_
 ·intro fn
  rw [World.size_alloc]
  exact run_enterLoop_outer _ _ _ _ _
 ·intro W hi ho
  exact hdone W hi (ho _ _ (World.alloc_heap_new w _) rfl)
 ·intro c k W hk hi ho
  exact (wpIn_wide (n:=0)).2 (hstop c k W hk hi (ho _ _ (World.alloc_heap_new w _) rfl))
end Go.Cs
namespace Go.Proofs.YtkiiameibdhdfaaGreatDoor
open Go.RowKit Go.Shelf Go.Cs
attribute [local go_sem] Oper.semAt_some


theorem left_any (v fv:Value) (ao:Option Addr) (n cap:Nat) (g:Nat) (fb:Array Value) (hv:v = .slice ao n cap) (hf:fv = .func (.func g) #[] fb) (w:World) :
  Calls Tryz.prog 91 #[v,fv] w fun e w'=>e = .returned (.func (.func 138) #[] #[.pointer (some ⟨w.heap.size,0,none⟩),.pointer (some ⟨w.heap.size + 1,0,none⟩)])∧(w.alloc (.cells #[v] 24)).alloc (.cells #[fv] 85)=w':=by
 subst hv hf
 go_enter Tryz.func91,Tryz.ntmps91
 go_wp2
 go_ret
 exact ⟨rfl,rfl⟩
def SoAt (g:Nat) (fb:Array Value) (p:Int→Bool) (W:World):Prop:=∀ s,Calls Tryz.prog g (#[.int .i64 s] ++ fb) W fun e w'=>e = .returned (.bool (p s))∧w'=W
theorem so_ne (X:Nat) (t:Int) (W:World) (hb:Boxed W X 3 (.int .i64 t)):SoAt 49 #[.pointer (some ⟨X,0,none⟩)] (fun s=>!decide (s=t)) W:=fun s=>by
 obtain ⟨c,-⟩:=hb.both
 simp only [List.append_toArray,List.cons_append,List.nil_append]
 go_enter Tryz.func49,Tryz.ntmps49
 go_wp2
 go_ret
 first | exact ⟨rfl,rfl⟩ | (refine ⟨?_,rfl⟩;congr 2;rw [Bool.eq_iff_iff];simp)
theorem so_gt (X:Nat) (t:Int) (W:World) (hb:Boxed W X 3 (.int .i64 t)):SoAt 52 #[.pointer (some ⟨X,0,none⟩)] (fun s=>decide (t < s)) W:=fun s=>by
 obtain ⟨c,-⟩:=hb.both
 simp only [List.append_toArray,List.cons_append,List.nil_append]
 go_enter Tryz.func52,Tryz.ntmps52
 go_wp2
 go_ret
 exact ⟨rfl,rfl⟩
theorem filter_step {d:List WP} {p:WP→Bool} {k:Nat} (hk:k < d.length):(d.take (k + 1)).filter p=(d.take k).filter p ++ (if p (d.getD k noW) then [d.getD k noW] else []):=by
 have e:d.take (k + 1)=d.take k ++ [d.getD k noW]:=by
  rw [List.take_add_one,List.getElem?_eq_getElem hk,List.getD_eq_getElem?_getD,List.getElem?_eq_getElem hk]
  rfl
 rw [e,List.filter_append,List.filter_cons]
 rfl
theorem filter_at {d:List WP} {p:WP→Bool} {k:Nat} (hk:k < d.length) (hp:p (d.getD k noW)=true):(d.filter p)[((d.take k).filter p).length]? = some (d.getD k noW):=by
 have e:d=d.take (k + 1) ++ d.drop (k + 1):=(List.take_append_drop _ _).symm
 have e2:d.filter p=(d.take k).filter p ++ ([d.getD k noW] ++ (d.drop (k + 1)).filter p):=by
  conv=>lhs;rw [e]
  rw [List.filter_append,filter_step hk,hp,if_pos rfl,List.append_assoc]
 rw [e2,List.getElem?_append_right (Nat.le_refl _),Nat.sub_self]
 rfl
theorem filter_le {d:List WP} {p:WP→Bool} {k:Nat}:((d.take k).filter p).length ≤ (d.filter p).length:=by
 conv=>rhs;rw [← List.take_append_drop k d]
 rw [List.filter_append,List.length_append]
 omega
theorem left_iter {B C:Nat} (v:Value) (d:List WP) (g:Nat) (fb:Array Value) (p:Int→Bool) (w:World) (hd:RdW w v d) (S:Nat→Prop) (W:World) (hN:New w W) (hB:Boxed W B 24 v) (hC:Boxed W C 85 (.func (.func g) #[] fb))
  (eg:∀ args w,(callFunc g args).run Tryz.prog w = .ok (.enter g args) w) (hso:∀ W',Mods S W W'→SoAt g fb p W') (hSB:¬ S B) (hSC:¬ S C) (hS:∀ b,S b→w.heap.size ≤ b) :
  IterAt Tryz.prog 138 #[.pointer (some ⟨B,0,none⟩),.pointer (some ⟨C,0,none⟩)] ((d.filter fun x=>p x.s).map fun x=>#[.agg (wcs x).toArray]) S W:=by
 intro l J Jx hJ hJx hY h0
 refine (callsIn_wide (n:=0)).1 (callsIn_of_wp Tryz.func138 rfl trivial ?_ rfl)
 simp only [Tryz.ntmps138,List.size_toArray,List.length_cons,List.length_nil,Nat.reduceAdd,Nat.reduceSub,Array.replicate_succ,Array.replicate_zero,List.push_toArray,List.append_toArray,List.nil_append,List.cons_append]
 obtain ⟨c1,f1⟩:=hB.both
 have HC:=Lib.hid hC
 have HR:=Lib.hid hd
 have HS:=Lib.hid hso
 obtain ⟨ao,cap,rfl⟩:=hd.slice
 have hn1:d.length ≤ 281474976710656:=hd.1
 obtain ⟨n,hn⟩:∃ n,d.length=n:=⟨_,rfl⟩
 rw [hn] at HR hn1 c1
 have Hn:=Lib.hid hn
 clear hd hB hC hso hn
 have hN:=Lib.hid hN
 gi_wp2
 gi_loopw [8] (fun t wr=>∃ k:Nat,k ≤ n∧t = .int .i64 k∧J ((d.take k).filter fun x=>p x.s).length wr∧Mods S W wr) (fun t _=>n - (intOf t).toNat)
 case atStart=>exact ⟨0,Nat.zero_le _,rfl,by simpa using h0,.refl _ _⟩
 case round =>
  obtain ⟨k,hk,rfl,hJk,hm⟩:=hrel
  by_cases hlt:k < n
  ·have hkd:decide ((k:Int) < (n:Int))=true:=decide_eq_true (by omega)
   have hrow:=(RowR.kept (RowR.new HR.out hN.out) hm (fun h0 g hg hs=>by
    have:=hS g hs
    have:=RowR.lt (c:=fun i=>.int .i64 (d.getD i noW).s) HR.out h0 hg
    omega)).at.2.2 k hlt
   obtain ⟨b,o,rfl,hrow⟩:=hrow
   obtain ⟨x,hx⟩:∃ x,d.getD k noW=x:=⟨_,rfl⟩
   have hrow:wr.rangeAt b (o + k * 3) (wcs x):=by rw [← hx];exact hrow
   obtain ⟨k0,k1,k2⟩:=cells3w hrow
   have HJ:=Lib.hid (fun A' (h:New wr A')=>hJ _ wr A' hJk h)
   have hst:=filter_step (d:=d) (p:=fun x=>p x.s) (k:=k) (by have:=Hn.out;omega)
   have hat:=fun h=>filter_at (d:=d) (p:=fun x=>p x.s) (k:=k) (by have:=Hn.out;omega) h
   rw [hx] at hst hat
   obtain ⟨c2,f2⟩:=(hm.boxed HC.out hSC).both
   clear hrow hJk hx
   gi_upto_region 3 with fail
   obtain ⟨W2,hW2⟩:∃ W2,wr.alloc (.cells #[.int .i64 x.s,.int .u8 x.u,.bool x.i] 40)=W2:=⟨_,rfl⟩
   have hA:New wr W2:=by rw [← hW2];exact (Mods.refl _ _).alloc _
   have r9:W2.heap[wr.heap.size]? = some (.cells #[.int .i64 x.s,.int .u8 x.u,.bool x.i] 40 (0,0)):=by rw [← hW2];exact World.alloc_heap_new wr _
   rw [hW2]
   obtain ⟨X,hX⟩:∃ X,wr.heap.size=X:=⟨_,rfl⟩
   rw [hX] at r9 ⊢
   have hm2:=hm.trans (Mods.ofNew hA)
   have c2:=hA.cell c2 id
   clear k0 k1 k2
   have k0:=cell_of_row _ _ 0 _ _ _ r9
   have k1:=cell_of_row _ _ 1 _ _ _ r9
   have k2:=cell_of_row _ _ 2 _ _ _ r9
   simp only [gS] at k0 k1 k2
   have HSo:=Lib.hid (HS.out W2 hm2 x.s)
   have hfl:=filter_le (d:=d) (p:=fun x=>p x.s) (k:=k + 1)
   have HFl:=Lib.hid hfl
   have HSt:=Lib.hid hst
   have HAt:=Lib.hid hat
   have HY:=Lib.hid hY
   clear hst hat hfl hY r9 hW2 hX
   gi_wp2
   refine at_round (r:=none) HSo.out ?_
   rintro e w3 ⟨rfl,rfl⟩
   cases hp:p x.s with
   | false =>
    have hJ2:J ((d.take (k + 1)).filter fun x=>p x.s).length w3:=by
     rw [HSt.out,hp,if_neg (by decide),List.append_nil]
     exact HJ.out _ hA
    clear HSt HAt HFl HSo
    gi_wp2
    refine ⟨fun _ h=>(by cases h),?_⟩
    gi_wp2
    go_roundw
    case rel=>exact ⟨k + 1,by omega,by go_num,hJ2,hm2⟩
    case measure=>simp [intOf];omega
   | true =>
    have hlen:((d.take (k + 1)).filter fun x=>p x.s).length=((d.take k).filter fun x=>p x.s).length + 1:=by
     rw [HSt.out,hp,if_pos rfl,List.length_append]
     rfl
    have hget:((d.filter fun x=>p x.s).map fun x=>(#[.agg (wcs x).toArray]:Array Value))[((d.take k).filter fun x=>p x.s).length]? = some #[.agg (wcs x).toArray]:=by
     rw [List.getElem?_map,HAt.out hp]
     rfl
    obtain ⟨fn,tmps,assign,body,hy,hR⟩:=HY.out _ _ w3 hget (HJ.out w3 hA) hm2
    rw [← hlen] at hR
    have hfl:=HFl.out
    unfold wcs at hy
    clear HSt HAt HFl HSo hlen hget
    gi_wp2
    refine ⟨rfl,hR.mono ?_⟩
    rintro e W3 (⟨rfl,hJ3,hm3⟩ | ⟨rfl,hJx3⟩)
    ·gi_wp2
     go_roundw
     case rel=>exact ⟨k + 1,by omega,by go_num,hJ3,hm2.trans hm3⟩
     case measure=>simp [intOf];omega
    ·gi_wp2
     refine bodyPost_ret (results_none rfl _ _ _) rfl ?_
     exact ⟨⟨_,rfl⟩,.inr ⟨_,by rw [List.length_map];exact hfl,hJx3⟩⟩
  ·obtain rfl:k=n:=by omega
   have hkd:decide ((k:Int) < (k:Int))=false:=decide_eq_false (by omega)
   gi_wp2_with fail
   go_end0
   exact ⟨⟨_,rfl⟩,.inl (by rw [List.take_of_length_le (by have:=Hn.out;omega)] at hJk;rw [List.length_map];exact hJk)⟩


theorem OwW.quiet {base B:Nat} {W W':World} {v:Value} {n:Nat} {f:Nat→List Value} (h:OwW base W v n f) (q:Quiet B W W'):OwW base W' v n f :=
 ⟨h.1,h.2.1,h.2.2.1,h.2.2.2.imp id fun ⟨g,cap,cur,e,hb,hc,r⟩=>⟨g,cap,cur,e,hb,q.block _ _ hc (.inr rfl),r⟩⟩
theorem results_box_s {fn:Func} {p:Tmp} {ty:TypeId} {e:TypeId} (hu:Tryz.prog.underlying ty=some (.slice e)) (h:fn.results = #[.cell p ty]) (tmps:Array Value) (w:World) (B:Nat) (v:Value) (hp:tmps.getD p undef = .pointer (some ⟨B,0,none⟩)) (hb:Boxed w B ty v) :
  (results fn tmps).run Tryz.prog w = .ok v w:=by
 have hp':tmps[p]?.getD undef = .pointer (some ⟨B,0,none⟩):=by simpa using hp
 have c:=hb.cell
 have hagg:(isAgg ty).run Tryz.prog w = .ok false w:=by
  unfold isAgg
  rw [Sem.run_bind,run_underlying hu w]
  simp
 simp [results,h,hp',asAddr,loadVar,c,go_sem,hu,hagg]
theorem those_p (v:Value) (d:List WP) (g:Nat) (fb:Array Value) (p:Int→Bool) (w:World) (hd:RdW w v d) (hl:d.length ≤ 1000000)
  (eg:∀ args w,(callFunc g args).run Tryz.prog w = .ok (.enter g args) w) (hso:∀ W' S,(∀ b,S b→w.heap.size ≤ b)→Mods S w W'→SoAt g fb p W') :
  Calls Tryz.prog 48 #[v,.func (.func g) #[] fb] w fun e w'=>∃ v',e = .returned v'∧OwW w.heap.size w' v' (d.filter fun x=>p x.s).length (wf (d.filter fun x=>p x.s))∧New w w':=by
 have HD0:=Lib.hid hd
 obtain ⟨ao,cap,rfl⟩:=hd.slice
 have HS:=Lib.hid hso
 have HL:=Lib.hid (fun W=>left_any (.slice ao d.length cap) (.func (.func g) #[] fb) ao d.length cap g fb rfl rfl W)
 obtain ⟨n,hn⟩:∃ n,d.length=n:=⟨_,rfl⟩
 have Hn:=Lib.hid hn
 rw [hn] at HD0 HL hl ⊢
 obtain ⟨L,hL⟩:∃ L,(d.filter fun x=>p x.s)=L:=⟨_,rfl⟩
 have HLL:=Lib.hid hL
 have hLn:L.length ≤ 1000000:=by rw [← hL];have:=List.length_filter_le (fun x:WP=>p x.s) d;omega
 rw [hL]
 clear hd hso hL
 refine calls_of_marks Tryz.func48 rfl ?_
 simp only [Tryz.ntmps48,List.size_toArray,List.length_cons,List.length_nil,Nat.reduceAdd,Nat.reduceSub,Array.replicate_succ,Array.replicate_zero,List.push_toArray,List.append_toArray,List.nil_append,List.cons_append]
 have hN0:New w (w.alloc (.cells #[.slice none 0 0] 24)):=(Mods.refl _ _).alloc _
 have r0:=Boxed.new w 24 (.slice none 0 0)
 go_upto_region 1 with fail
 obtain ⟨w1,hw1⟩:∃ W,w.alloc (.cells #[.slice none 0 0] 24)=W:=⟨_,rfl⟩
 have hs1:w1.heap.size=w.heap.size + 1:=by rw [← hw1];simp
 obtain ⟨R,hR⟩:∃ b,w.heap.size=b:=⟨_,rfl⟩
 rw [hw1] at hN0 r0 ⊢
 rw [hR] at r0 hs1 ⊢
 have hwR:w.heap.size ≤ R:=by omega
 clear hw1
 go_wp2_with (go_at_call 91;refine (HL.out _).mono ?_;rintro e w3 ⟨rfl,hw3⟩)
 have hN3:New w1 w3:=by rw [← hw3];exact ((Mods.refl _ _).alloc _).alloc _
 have hb1:Boxed w3 (R + 1) 24 (.slice ao n cap):=by rw [← hw3,← hs1];exact ((Mods.refl (fun _=>False) _).alloc _).boxed (Boxed.new w1 _ _) id
 have hb2:Boxed w3 (R + 1 + 1) 85 (.func (.func g) #[] fb):=by rw [← hw3,← hs1];exact boxed1 w1 _ _ _
 have hs3:w3.heap.size=R + 3:=by rw [← hw3];simp;omega
 replace r0:=hN3.boxed r0 id
 replace hN0:=hN0.trans hN3
 clear hw3 hN3 hs1 HL
 refine wp_rangeListA (gf:=138) (lb:=#[.pointer (some ⟨R + 1,0,none⟩),.pointer (some ⟨R + 1 + 1,0,none⟩)]) rfl (enters_of Tryz.func138 (by kernel_rfl) rfl) (L.map fun x=>#[.agg (wcs x).toArray]) (fun b=>b=R ∨ w3.heap.size ≤ b)
  (fun W hW=>by
   have:=left_iter (B:=R + 1) (C:=R + 1 + 1) _ d g fb p w HD0.out (fun b=>b=R ∨ w3.heap.size ≤ b) W (hN0.trans hW) (hW.boxed hb1 id) (hW.boxed hb2 id) eg (fun W' hm=>HS.out W' _ (fun b hb=>by omega) ((Mods.ofNew (hN0.trans hW)).trans hm)) (by omega) (by omega) (fun b hb=>by omega)
   rw [HLL.out] at this
   exact this) ?hps
  (fun k W=>∃ v,Boxed W R 24 v∧OwW w3.heap.size W v k (wf L)∧Mods (fun b=>b=R) w3 W)
  (fun c k W=>False) ?hI (fun c k=>.pure _) ⟨_,r0,OwW.nil _ _ _ (wf_len L),.refl _ _⟩ ?round ?done (fun c k W hk hf=>hf.elim)
 case hps =>
  intro x hx
  obtain ⟨p,_,rfl⟩:=List.mem_map.1 hx
  rfl
 case hI=>exact fun k W W' ⟨v,h1,h2,h3⟩ q=>⟨v,Stab.boxed (B:=w3.heap.size) _ _ _ W W' h1 q,h2.quiet q,Stab.mods (Nat.le_refl _) W W' h3 q⟩
 case round =>
  rintro l k x W hx hl3 hlr ⟨va,hb,ho,hm⟩
  rw [List.getElem?_map] at hx
  obtain ⟨x,hp,rfl⟩:=Option.map_eq_some_iff.1 hx
  have hkl:=(List.getElem?_eq_some_iff.1 hp).1
  have hg:L.getD k noW=x:=by rw [List.getD_eq_getElem?_getD,hp];rfl
  have Hg:=Lib.hid hg
  clear hx hp hg
  unfold wcs
  have hRV:R < w3.heap.size:=by omega
  clear hs3
  gi_upto_region 3 with fail
  have hN1:New W (W.alloc (.cells #[.int .i64 x.s,.int .u8 x.u,.bool x.i] 40)):=(Mods.refl _ _).alloc _
  refine ⟨Mods.ofNew hN1,fun V hq hlr3=>?_⟩
  have r5:=hq.block _ _ (World.alloc_heap_new W (.cells #[.int .i64 x.s,.int .u8 x.u,.bool x.i] 40)) (.inr rfl)
  have ho2:=(ho.new hN1).quiet hq
  have hb2':=Stab.boxed (B:=w3.heap.size) _ _ _ _ _ (hN1.boxed hb id) hq
  have hm2:=Stab.mods (Nat.le_refl _) _ _ (hm.trans (Mods.ofNew hN1)) hq
  obtain ⟨X,hX⟩:∃ X,W.heap.size=X:=⟨_,rfl⟩
  rw [hX] at r5 ⊢
  obtain ⟨c0,f0⟩:=hb2'.both
  have HB2:=Lib.hid hb2'
  have k0:=cell_of_row _ _ 0 _ _ _ r5
  have k1:=cell_of_row _ _ 1 _ _ _ r5
  have k2:=cell_of_row _ _ 2 _ _ _ r5
  simp only [gS] at k0 k1 k2
  obtain ⟨oa,oc,rfl⟩:=ho2.slice
  have HO2:=Lib.hid ho2
  have HM2:=Lib.hid hm2
  have hrun:∀ (o:Oper) (a:Act),o.op = .call { callee:=.builtin .append,args:=#[.tmp 10,.tmp 12],argTypes:=#[24,24] }→a.eval (.tmp 10) = .slice oa k oc→a.eval (.tmp 12) = .slice (some ⟨V.heap.size,0,none⟩) 1 1→∃ v' W',(execOp a.eval o).run Tryz.prog (V.alloc (.cells #[.int .i64 x.s,.int .u8 x.u,.bool x.i] 40)) = .ok (.value v') W'∧(OwW w3.heap.size W' v' (k + 1) (fun i=>if i=k then wcs x else wf L i)∧∀ (w0:World) (S:Nat→Prop),Mods S w0 V→(∀ g,(Value.slice oa k oc).ownBlock=some g→w0.heap.size ≤ g ∨ S g)→Mods S w0 W'):=fun o a h1 h2 h3 =>
   run_append_W (c:=wcs x) h1 h2 h3 rfl rfl (wcs_one x) HO2.out (by omega) HM2.out.size
  clear hb ho hm hN1 hq hlr hlr3 hX hb2' ho2 hm2 r5
  gi_wp2_with (first | (gi_at_builtin;refine opIn_got1 rfl rfl (hrun _ _ rfl rfl rfl) ?_;rintro v' W' ⟨ho',hm'⟩;obtain ⟨a',c',rfl⟩:=ho'.slice;have hb4:=(hm' V (fun b=>Value.ownBlock (.slice oa k oc)=some b) (Mods.refl _ _) (fun g hg=>.inr hg)).boxed HB2.out (fun hg=>by have:=(HO2.out.lt hg).1;omega);obtain ⟨c4,f4⟩:=hb4.both))
  obtain ⟨Y,hY⟩:∃ Y,(Value.slice a' (k + 1) c')=Y:=⟨_,rfl⟩
  rw [hY] at ho' ⊢
  refine ⟨(hm' V _ (Mods.refl _ _) (fun g hg=>.inr (.inr (by have:=(HO2.out.lt hg).1;omega)))).trans ((setMods W' R 0 Y).mono fun b hb=>.inl hb),Y,hb4.set Y,?_,(hm' w3 _ HM2.out (fun g hg=>.inl (HO2.out.lt hg).1)).trans (setMods W' R 0 Y)⟩
  exact (ho'.congr (wf_len L) (fun i hi=>by
   by_cases e:i=k
   ·subst e
    rw [if_pos rfl,← Hg.out]
    rfl
   ·rw [if_neg e])).mods (setMods W' R 0 Y) (fun g hg e=>by have:=(ho'.lt hg).1;omega)
 case done =>
  rintro W ⟨va,hb,ho,hm⟩ hDf
  rw [List.length_map] at ho
  obtain ⟨oa,oc,rfl⟩:=ho.slice
  have HO:=Lib.hid ho
  have HB:=Lib.hid hb
  have HDf:=Lib.hid hDf
  obtain ⟨c0,f0⟩:=hb.both
  have hNW:New w W:=((Mods.ofNew hN0).trans hm).new (by rintro b rfl;exact hwR)
  have HS3:=Lib.hid hs3
  clear hb ho hm hDf hs3
  simp only [Exit.inBlock,Exit.then]
  go_wp2_with fail
  have hs3:=HS3.out
  obtain ⟨Y,hY⟩:∃ Y,(Value.slice oa L.length oc)=Y:=⟨_,rfl⟩
  rw [hY] at HB HO ⊢
  have hbs:=HB.out.set Y
  have hbp:Boxed ((W.setCell ⟨R,0,none⟩ Y).putObj w3.heap.size (.deferred none)) R 24 Y:=(World.putObj_heap_other (by omega)).trans hbs
  have hDs:=(setMods W R 0 Y).heap HDf.out (by omega)
  have ho2:=HO.out.mods (setMods W R 0 Y) (fun g hg e=>by have:=(HO.out.lt hg).1;omega)
  have ho3:=ho2.quiet (Quiet.putObj (.deferred none) hDs rfl (Nat.le_refl _))
  refine marks_one rfl hDs (v:=Y) (results_box_s Tryz.underlying24 rfl _ _ R _ rfl hbp) ?_
  exact ⟨_,rfl,ho3.mono (by omega),(hNW.setCell (p:=⟨R,0,none⟩) (.inl hwR) _).putObj (by omega) _⟩
end Go.Proofs.YtkiiameibdhdfaaGreatDoor
namespace Go.Proofs.YtkiiameibdhdfaaGreatDoor


theorem quoted_txt:∀ (n:Nat) (s acc rest:Bare.Bs) (b:Bare.It),s.length ≤ n→Bare.quoted acc s=some (b,rest)→b.text.length ≤ acc.length + s.length
 | _,[],_,_,_,_,h=>by cases h
 | 0,c::r,_,_,_,hn,_=>by simp at hn
 | n + 1,c::r,acc,rest,b,hn,h=>by
  rw [Bare.quoted_cons] at h
  split at h
  ·cases h
  ·split at h
   ·cases h
    simp
   ·split at h
    ·cases r with
     | nil=>cases h
     | cons d r' =>
      simp only at h
      split at h
      ·have:=quoted_txt n r' (acc ++ [d]) rest b (by simp at hn;omega) h
       simp at this ⊢
       omega
      ·cases h
    ·have:=quoted_txt n r (acc ++ [c]) rest b (by simp at hn;omega) h
     simp at this ⊢
     omega
theorem number_txt {s rest:Bare.Bs} {b:Bare.It} (h:Bare.number s=some (b,rest)):b.text = []:=by
 unfold Bare.number at h
 simp only at h
 split at h
 ·split at h
  ·cases h
  ·split at h
   ·cases h;rfl
   ·split at h
    ·cases h
    ·cases h;rfl
 ·split at h
  ·cases h
  ·split at h
   ·cases h;rfl
   ·split at h
    ·cases h
    ·cases h;rfl
theorem unsix_ln {l t:Bare.Bs} (h:Bare.unsix l=some t):t.length ≤ l.length:=by
 have:=Bare.sixes_len t
 rw [Bare.sixes_unsix h] at this
 omega
theorem parse_txt {s rest:Bare.Bs} {b:Bare.It} (h:Bare.parseI s=some (b,rest)):b.text.length ≤ s.length:=by
 cases s with
 | nil=>cases h
 | cons c r =>
  rw [Bare.parseI_cons] at h
  split at h
  ·rw [number_txt h];simp
  split at h
  ·simp only [Option.some.injEq,Prod.mk.injEq] at h
   obtain ⟨rfl,rfl⟩:=h
   exact Bare.takeWhile_len _ _
  split at h
  ·have:=quoted_txt r.length r [] rest b (Nat.le_refl _) h
   simp at this ⊢
   omega
  split at h
  ·unfold Bare.packed at h
   have hl:=Bare.takeWhile_len (· != 58) r
   obtain ⟨i,hi⟩:∃ x,r.takeWhile (· != 58)=x:=⟨_,rfl⟩
   rw [hi] at hl
   simp only [hi] at h
   split at h
   ·cases h
   ·cases hu:Bare.unsix i with
    | none=>rw [hu] at h;cases h
    | some t =>
     rw [hu] at h
     simp only [Option.map_some,Option.some.injEq,Prod.mk.injEq] at h
     obtain ⟨rfl,rfl⟩:=h
     have:=unsix_ln hu
     simp
     omega
  split at h
  ·cases r with
   | nil=>cases h
   | cons d r' =>
    simp only at h
    split at h
    ·simp only [Option.some.injEq,Prod.mk.injEq] at h
     obtain ⟨rfl,rfl⟩:=h
     simp
    ·cases h
  ·cases h
def SzP (n:Nat) (ps:List Bare.Par):Prop:=ps.length ≤ n∧∀ p ∈ ps,p.key.length ≤ n∧p.bare.text.length ≤ n
def SzX (n:Nat) (x:Bare.Itm):Prop:=x.bare.text.length ≤ n∧SzP n x.params
def SzM (n:Nat) (m:Bare.Mem):Prop:=m.key.length ≤ n∧m.items.length ≤ n∧SzP n m.params∧∀ x ∈ m.items,SzX n x
def SzD (n:Nat) (d:List Bare.Mem):Prop:=d.length ≤ n∧∀ m ∈ d,SzM n m
theorem readKey_txt {s k r:Bare.Bs} (h:Bare.readKey s=some (k,r)):k.length ≤ s.length:=by
 unfold Bare.readKey at h
 simp only at h
 split at h
 ·cases h
 ·cases h
  cases s with
  | nil=>simp [Bare.keyOf]
  | cons c l =>
   show (if Bare.smlB c then c::l.takeWhile Bare.inKey else []).length ≤ _
   split
   ·have:=Bare.takeWhile_len Bare.inKey l
    simp
    omega
   ·simp
theorem readVal_txt {s r:Bare.Bs} {b:Bare.It} (h:Bare.readVal s=some (b,r)):b.text.length ≤ s.length:=by
 unfold Bare.readVal at h
 split at h
 ·have:=parse_txt h
  simp
  omega
 ·cases h;simp [Bare.yesI]
theorem setP_sz (l:List Bare.Par) (p:Bare.Par):(Bare.setP l p).length ≤ l.length + 1∧∀ q ∈ Bare.setP l p,q ∈ l ∨ q=p:=by
 unfold Bare.setP
 split
 ·refine ⟨by simp,fun q hq=>?_⟩
  obtain ⟨x,hx,e⟩:=List.mem_map.1 hq
  split at e
  ·exact .inr e.symm
  ·exact .inl (e ▸ hx)
 ·exact ⟨by simp,fun q hq=>by simpa [or_comm] using hq⟩
theorem setM_sz (l:List Bare.Mem) (p:Bare.Mem):(Bare.setM l p).length ≤ l.length + 1∧∀ q ∈ Bare.setM l p,q ∈ l ∨ q=p:=by
 unfold Bare.setM
 split
 ·refine ⟨by simp,fun q hq=>?_⟩
  obtain ⟨x,hx,e⟩:=List.mem_map.1 hq
  split at e
  ·exact .inr e.symm
  ·exact .inl (e ▸ hx)
 ·exact ⟨by simp,fun q hq=>by simpa [or_comm] using hq⟩
theorem readParams_sz (N:Nat):∀ (n:Nat) (s:Bare.Bs) (l ps:List Bare.Par) (r:Bare.Bs),s.length ≤ n→s.length ≤ N→(∀ p ∈ l,p.key.length ≤ N∧p.bare.text.length ≤ N)→Bare.readParams l s=some (ps,r) →
  ps.length + r.length ≤ l.length + s.length∧∀ p ∈ ps,p.key.length ≤ N∧p.bare.text.length ≤ N:=by
 intro n
 induction n with
 | zero =>
  intro s l ps r hn hN hl h
  have:s = []:=List.length_eq_zero_iff.1 (by omega)
  subst this
  rw [Bare.readParams_end l [] (by simp)] at h
  cases h;exact ⟨Nat.le_refl _,hl⟩
 | succ n ih =>
  intro s l ps r hn hN hl h
  rw [Bare.readParams.eq_def] at h
  split at h
  ·rename_i r0
   split at h
   ·cases h
   ·rename_i k r1 h1
    split at h
    ·cases h
    ·rename_i b r2 h2
     have a1:=Bare.readKey_len h1
     have a2:=Bare.readVal_len h2
     have a3:=Bare.skip_len [32] r0
     have t1:=readKey_txt h1
     have t2:=readVal_txt h2
     simp only [List.length_cons] at hn hN
     obtain ⟨s1,s2⟩:=setP_sz l ⟨k,b⟩
     obtain ⟨i1,i2⟩:=ih r2 _ ps r (by omega) (by omega) (fun p hp=>by
      rcases s2 p hp with hp | rfl
      ·exact hl p hp
      ·exact ⟨by show k.length ≤ N;omega,by show b.text.length ≤ N;omega⟩) h
     exact ⟨by simp only [List.length_cons];omega,i2⟩
  ·cases h;exact ⟨Nat.le_refl _,hl⟩
theorem readParams_nil (N:Nat) {s r:Bare.Bs} {ps:List Bare.Par} (hN:s.length ≤ N) (h:Bare.readParams [] s=some (ps,r)):SzP N ps:=by
 obtain ⟨h1,h2⟩:=readParams_sz N _ s [] ps r (Nat.le_refl _) hN (fun p hp=>by cases hp) h
 simp at h1
 exact ⟨by omega,h2⟩
theorem readItem_sz (N:Nat) {s r:Bare.Bs} {x:Bare.Itm} (hN:s.length ≤ N) (h:Bare.readItem s=some (x,r)):SzX N x:=by
 unfold Bare.readItem at h
 split at h
 ·cases h
 ·rename_i b r1 h1
  split at h
  ·cases h
  ·rename_i ps r2 h2
   cases h
   have t1:=parse_txt h1
   have a1:=Bare.parseI_len h1
   exact ⟨by show b.text.length ≤ N;omega,readParams_nil N (by omega) h2⟩
theorem readInner_sz (N:Nat):∀ (n:Nat) (s:Bare.Bs) (l ps:List Bare.Itm) (r:Bare.Bs),s.length ≤ n→s.length ≤ N→(∀ x ∈ l,SzX N x)→Bare.readInner l s=some (ps,r) →
  ps.length + r.length ≤ l.length + s.length∧∀ x ∈ ps,SzX N x:=by
 intro n
 induction n with
 | zero =>
  intro s l ps r hn hN hl h
  have:s = []:=List.length_eq_zero_iff.1 (by omega)
  subst this
  rw [Bare.readInner.eq_def] at h
  simp [Bare.skipB,Bare.readItem,Bare.parseI] at h
 | succ n ih =>
  intro s l ps r hn hN hl h
  have a2:=Bare.skip_len [32] s
  rw [Bare.readInner.eq_def] at h
  split at h
  ·rename_i r0 h0
   cases h
   rw [h0] at a2
   simp only [List.length_cons] at a2
   exact ⟨by omega,hl⟩
  ·split at h
   ·cases h
   ·rename_i x r1 h1
    have a1:=Bare.readItem_len h1
    have b1:=readItem_sz N (by omega) h1
    split at h
    ·obtain ⟨i1,i2⟩:=ih r1 _ ps r (by omega) (by omega) (fun y hy=>by
      rcases List.mem_append.1 hy with hy | hy
      ·exact hl y hy
      ·rw [List.mem_singleton] at hy;exact hy ▸ b1) h
     rw [List.length_append] at i1
     simp only [List.length_singleton] at i1
     exact ⟨by omega,i2⟩
    ·cases h
theorem readMem_sz (N:Nat) {s r:Bare.Bs} {m:Bare.Mem} (h1:1 ≤ N) (hN:s.length ≤ N) (h:Bare.readMem s=some (m,r)):SzM N m:=by
 unfold Bare.readMem at h
 split at h
 ·cases h
 ·rename_i k r0 h0
  have a0:=Bare.readKey_len h0
  have t0:=readKey_txt h0
  unfold Bare.readRest at h
  split at h
  ·rename_i r1
   split at h
   ·cases h
   ·rename_i items r2 h2
    split at h
    ·cases h
    ·rename_i ps r3 h3
     cases h
     simp only [List.length_cons] at a0
     obtain ⟨i1,i2⟩:=readInner_sz N _ r1 [] items r2 (Nat.le_refl _) (by omega) (fun x hx=>by cases hx) h2
     simp at i1
     exact ⟨by show k.length ≤ N;omega,by show items.length ≤ N;omega,readParams_nil N (by omega) h3,i2⟩
  ·rename_i r1 _
   split at h
   ·cases h
   ·rename_i x r2 h2
    cases h
    simp only [List.length_cons] at a0
    refine ⟨by show k.length ≤ N;omega,by show 1 ≤ N;omega,⟨Nat.zero_le _,fun p hp=>by cases hp⟩,fun y hy=>?_⟩
    rw [List.mem_singleton] at hy
    exact hy ▸ readItem_sz N (by omega) h2
  ·split at h
   ·cases h
   ·rename_i ps r2 h2
    cases h
    refine ⟨by show k.length ≤ N;omega,by show 1 ≤ N;omega,⟨Nat.zero_le _,fun p hp=>by cases hp⟩,fun y hy=>?_⟩
    rw [List.mem_singleton] at hy
    exact hy ▸ ⟨by simp [Bare.yesI],readParams_nil N (by omega) h2⟩
theorem readD_sz (N:Nat) (h1:1 ≤ N):∀ (n:Nat) (s:Bare.Bs) (d e:List Bare.Mem),s.length ≤ n→s.length ≤ N→(∀ m ∈ d,SzM N m)→Bare.readD d s=some e→e.length ≤ d.length + s.length∧∀ m ∈ e,SzM N m:=by
 intro n
 induction n with
 | zero =>
  intro s d e hn hN hd h
  have:s = []:=List.length_eq_zero_iff.1 (by omega)
  subst this
  rw [Bare.readD.eq_def] at h
  cases h;exact ⟨Nat.le_refl _,hd⟩
 | succ n ih =>
  intro s d e hn hN hd h
  rw [Bare.readD.eq_def] at h
  split at h
  ·cases h;exact ⟨Nat.le_refl _,hd⟩
  ·rename_i c l
   split at h
   ·cases h
   ·rename_i m r h2
    have hm:=readMem_sz N h1 hN h2
    have a1:=Bare.readMem_len h2
    obtain ⟨s1,s2⟩:=setM_sz d m
    have hset:∀ q ∈ Bare.setM d m,SzM N q:=fun q hq=>by
     rcases s2 q hq with hq | rfl
     ·exact hd q hq
     ·exact hm
    split at h
    ·cases h
     simp only [List.length_cons] at a1 ⊢
     exact ⟨by omega,hset⟩
    ·split at h
     ·rename_i r2 h3
      simp only at h
      split at h
      ·cases h
      ·have a2:=Bare.skip_len [32,9] r
       rw [h3] at a2
       have a3:=Bare.skip_len [32,9] r2
       simp only [List.length_cons] at a1 a2 hn hN
       obtain ⟨i1,i2⟩:=ih _ _ e (by omega) (by omega) hset h
       exact ⟨by simp only [List.length_cons];omega,i2⟩
     ·cases h
theorem parse_sz {N:Nat} {s:Bare.Bs} {d:List Bare.Mem} (h1:1 ≤ N) (hN:s.length ≤ N) (h:Bare.parseD s=some d):SzD N d:=by
 unfold Bare.parseD at h
 have a1:=Bare.skip_len [32] s
 have a2:(Bare.trimR 32 (Bare.skipB [32] s)).length ≤ (Bare.skipB [32] s).length:=by
  have:∀ l:Bare.Bs,(Bare.trimR 32 l).length ≤ l.length:=fun l=>by
   unfold Bare.trimR
   simp only [List.length_reverse]
   have:=Bare.drop_len (fun x=>x == 32) l.reverse
   simp at this
   exact this
  exact this _
 obtain ⟨i1,i2⟩:=readD_sz N h1 _ _ [] d (Nat.le_refl _) (by omega) (fun m hm=>by cases hm) h
 simp at i1
 exact ⟨by omega,i2⟩
end Go.Proofs.YtkiiameibdhdfaaGreatDoor
namespace Go.Proofs.YtkiiameibdhdfaaGreatDoor
open Go.RowKit Go.Shelf Go.Cs
attribute [local go_sem] Oper.semAt_some


theorem fits_of_sz {n:Nat} {d:List Bare.Mem} (hn:n ≤ 1000000) (h:SzD n d):∀ m ∈ d,Fits m:=fun m hm=>by
 obtain ⟨-,h2,h3,h4⟩:=h.2 m hm
 refine ⟨by omega,by have:=h3.1;omega,fun i hi=>?_⟩
 have:=(h4 _ (getD_mem (d:=Bare.noI) hi)).2.1
 omega
end Go.Proofs.YtkiiameibdhdfaaGreatDoor
namespace Go.Cs
open Go.RowKit
variable {P:Program} {ops:Array Oper} {Q:Exit→Act→World→Prop} {md:Region.Mode} {r:Option Nat}
def subs:List Nat→List (List Nat)
 | []=>[[]]
 | i::l=>subs l ++ (subs l).map (i::·)
theorem filter_subs (p:Nat→Bool):∀ l,l.filter p ∈ subs l
 | []=>by simp [subs]
 | i::l=>by
  have ih:=filter_subs p l
  unfold subs
  rw [List.mem_append,List.filter_cons]
  split
  ·exact .inr (List.mem_map.2 ⟨_,ih,rfl⟩)
  ·exact .inl ih
def mark (base:Array Bool) (D:List Nat):Array Bool:=base.mapIdx fun i b=>b || D.contains i
theorem mark_congr (base:Array Bool) {D S:List Nat} (h:∀ i,i ∈ D ↔ i ∈ S):mark base D=mark base S:=by
 unfold mark
 congr 1
 funext i b
 have:D.contains i=S.contains i:=by
  rw [Bool.eq_iff_iff];simp [h]
 rw [this]
theorem mark_set (base:Array Bool) (D:List Nat) (i:Nat):(mark base D).setIfInBounds i true=mark base (i::D):=by
 apply Array.ext
 ·simp [mark]
 ·intro j h1 h2
  simp only [mark,Array.size_setIfInBounds,Array.size_mapIdx] at h1
  rw [Array.getElem_setIfInBounds (by simpa [mark] using h1)]
  by_cases e:i=j
  ·subst e;simp [mark]
  ·simp [mark,e,Ne.symm e]
theorem nodup_le:∀ {l m:List Nat},l.Nodup→(∀ x ∈ l,x ∈ m)→l.length ≤ m.length
 | [],m,_,_=>by simp
 | x::l,m,hn,hs=>by
  have hx:=hs x (by simp)
  have hn':=List.nodup_cons.1 hn
  have ih:=nodup_le (m:=m.erase x) hn'.2 fun y hy=>(List.mem_erase_of_ne (by rintro rfl;exact hn'.1 hy)).2 (hs y (by simp [hy]))
  rw [List.length_erase_of_mem hx] at ih
  have:0 < m.length:=List.length_pos_of_mem hx
  simp
  omega
theorem any_set (idx:List Nat) (base:Array Bool) (fuel:Nat) (J:List Nat→World→Prop) (a:Act)
  (hready:((subs idx).all fun S=>decide (S.length=idx.length) || decide (Region.ready md ops (mark base S)=idx.filter fun i=>!S.contains i))=true)
  (hnd:idx.Nodup)
  (hstep:∀ D i W,(∀ j ∈ D,j ∈ idx)→i ∈ idx→i ∉ D→J D W→∀ K:Act→World→Prop,(∀ W',J (i::D) W'→K a W')→wpOpIn (Fr r) 0 P ops Q i K a W)
  (hend:∀ D W,(∀ j,j ∈ D ↔ j ∈ idx)→D.length=idx.length→J D W→wpAnyIn (Fr r) 0 P md ops Q fuel (mark base idx) a W) :
  ∀ (n:Nat) (D:List Nat) (W:World),(∀ j ∈ D,j ∈ idx)→D.Nodup→n + D.length=idx.length→J D W→wpAnyIn (Fr r) 0 P md ops Q (fuel + n) (mark base D) a W:=by
 intro n
 induction n with
 | zero =>
  intro D W hD hn hl hJ
  have hiff:∀ j,j ∈ D ↔ j ∈ idx:=by
   intro j
   refine ⟨hD j,fun hj=>?_⟩
   by_cases hjD:j ∈ D
   ·exact hjD
   ·have:=nodup_le (l:=j::D) (m:=idx) (List.nodup_cons.2 ⟨hjD,hn⟩) (fun x hx=>by
     rcases List.mem_cons.1 hx with rfl | hx
     ·exact hj
     ·exact hD x hx)
    simp at this
    omega
  rw [mark_congr base hiff]
  exact hend D W hiff (by omega) hJ
 | succ n ih =>
  intro D W hD hn hl hJ
  have hS:∀ j,j ∈ idx.filter (fun i=>D.contains i) ↔ j ∈ D:=fun j=>by
   rw [List.mem_filter]
   simp
   exact fun h=>hD j h
  have hsub:=filter_subs (fun i=>D.contains i) idx
  have hr:=List.all_eq_true.1 hready _ hsub
  have hlen:(idx.filter fun i=>D.contains i).length=D.length:=by
   have h1:(idx.filter fun i=>D.contains i).Perm D:=(List.perm_ext_iff_of_nodup (hnd.filter _) hn).2 hS
   exact h1.length_eq
  rw [Bool.or_eq_true,decide_eq_true_eq,decide_eq_true_eq] at hr
  rcases hr with hr | hr
  ·omega
  ·rw [mark_congr base hS] at hr
   have hc:∀ i,(idx.filter fun i=>D.contains i).contains i=D.contains i:=fun i=>by
    rw [Bool.eq_iff_iff]
    simp only [List.contains_iff_mem]
    exact hS i
   simp only [hc] at hr
   refine wpAnyIn_all hr ?_ ?_
   ·intro h0
    rw [List.filter_eq_nil_iff] at h0
    have:idx.length ≤ D.length:=by
     refine nodup_le hnd fun j hj=>?_
     have:=h0 j hj
     simpa using this
    omega
   ·intro i hi
    rw [List.mem_filter] at hi
    have hiD:i ∉ D:=by simpa using hi.2
    refine hstep D i W hD hi.1 hiD hJ _ fun W' hJ'=>?_
    rw [mark_set]
    exact ih (i::D) W' (fun j hj=>by
     rcases List.mem_cons.1 hj with rfl | hj
     ·exact hi.1
     ·exact hD j hj) (List.nodup_cons.2 ⟨hiD,hn⟩) (by simp;omega) hJ'
theorem any_inserts {k:TypeId} {α:Type} [DecidableEq α] {enc:α→Value} (K:KeyLike P k enc) {t e:TypeId} (ht:P.underlying t=some (.map k e)) (idx:List Nat) (base:Array Bool) (fuel:Nat) (key:Nat→α) (val:Nat→Value) (a:Act) (B:Nat) (J:World→Prop) {nn:Nat} {listed:Array Bool}
  (hready:((subs idx).all fun S=>decide (S.length=idx.length) || decide (Region.ready md ops (mark base S)=idx.filter fun i=>!S.contains i))=true)
  (hnd:idx.Nodup) (hinj:∀ i ∈ idx,∀ j ∈ idx,key i=key j→i=j) (hf:nn=fuel + idx.length) (hl:listed=mark base [])
  (hop:∀ i ∈ idx,∃ (o:Oper) (m x v:Operand),ops[i]? = some o∧o.op = .insert t m x v∧o.dst=none∧o.guard=none∧a.eval m = .map (some B)∧a.eval x=enc (key i)∧a.eval v=val i)
  (hJ:∀ W o,o.isCells=false→J W→J (W.putObj B o))
  {W:World} (hW:J W) (hm:W.heap[B]? = some (.map #[] 0))
  (hend:∀ W,J W→MapFn enc W B idx.length (fun q=>(idx.find? fun i=>decide (key i=q)).map val)→wpAnyIn (Fr r) 0 P md ops Q fuel (mark base idx) a W) :
  wpAnyIn (Fr r) 0 P md ops Q nn listed a W:=by
 subst hf hl
 have hfind:∀ (D:List Nat) (q:α) (i:Nat),(∀ j ∈ D,j ∈ idx)→i ∈ idx→key i=q→(D.find? fun i=>decide (key i=q))=if i ∈ D then some i else none:=by
  intro D q i hD hi hq
  induction D with
  | nil=>simp
  | cons j D ih =>
   have ih:=ih fun x hx=>hD x (by simp [hx])
   rw [List.find?_cons]
   by_cases e:key j=q
   ·have:j=i:=hinj j (hD j (by simp)) i hi (e.trans hq.symm)
    subst this
    simp [e]
   ·have hne:i ≠ j:=by rintro rfl;exact e hq
    simp [e,ih,hne]
 refine any_set idx base fuel (fun D W=>J W∧MapFn enc W B D.length (fun q=>(D.find? fun i=>decide (key i=q)).map val)) a hready hnd ?_ ?_ idx.length [] W (fun _ h=>by cases h) List.nodup_nil rfl ⟨hW,?_⟩
 ·rintro D i W hD hi hiD ⟨hJW,hM⟩ K' hK
  obtain ⟨o,m,x,v,h1,h2,h3,h4,h5,h6,h7⟩:=hop i hi
  have hnone:(D.find? fun j=>decide (key j=key i)).map val=none:=by
   rw [hfind D (key i) i hD hi rfl,if_neg hiD]
   rfl
  obtain ⟨ob,hrun,hob,hM'⟩:=hM.put K ht (key i) (val i) hnone
  refine opIn_skip none (by simp [plainOp,h2]) h1 h4 h3 (w':=W.putObj B ob) ?_ ?_
  ·unfold execOp
   simp only [h2,h5,h6,h7,Sem.run_bind,hrun]
   rfl
  ·refine hK _ ⟨hJ _ _ hob hJW,hM'.congr fun q=>?_⟩
   by_cases e:q=key i
   ·subst e
    rw [if_pos rfl,List.find?_cons]
    simp
   ·rw [if_neg e,List.find?_cons]
    have:¬ key i=q:=fun h=>e h.symm
    simp [this]
 ·rintro D W hiff hlen ⟨hJW,hM⟩
  refine hend W hJW ?_
  obtain ⟨es,c,g1,g2,g3,g4⟩:=hM
  have hfe:∀ q,((D.find? fun i=>decide (key i=q)).map val)=((idx.find? fun i=>decide (key i=q)).map val):=by
   intro q
   by_cases hex:∃ i ∈ idx,key i=q
   ·obtain ⟨i,hi,hq⟩:=hex
    rw [hfind D q i (fun j hj=>(hiff j).1 hj) hi hq,hfind idx q i (fun _ h=>h) hi hq,if_pos ((hiff i).2 hi),if_pos hi]
   ·have h1:(D.find? fun i=>decide (key i=q))=none:=by
     rw [List.find?_eq_none]
     intro i hi
     simpa using fun h=>hex ⟨i,(hiff i).1 hi,h⟩
    have h2:(idx.find? fun i=>decide (key i=q))=none:=by
     rw [List.find?_eq_none]
     intro i hi
     simpa using fun h=>hex ⟨i,hi,h⟩
    rw [h1,h2]
  exact ⟨es,c,g1,by omega,fun e he=>by
   obtain ⟨b,hb,hv⟩:=g3 e he
   exact ⟨b,hb,(hfe b).symm.trans hv⟩,fun b v hv=>g4 b v ((hfe b).trans hv)⟩
 ·exact MapFn.made hm
end Go.Cs
namespace Go.Proofs.YtkiiameibdhdfaaGreatDoor
open Go.RowKit Go.Shelf Go.Cs
attribute [local go_sem] Oper.semAt_some


theorem info5:∃ i,Tryz.prog.info? 5=some i:=info_of_underlying Tryz.underlying5
theorem keyB1:KeyLike Tryz.prog 128 (k1 .u8):=by
 obtain ⟨i,hi⟩:=info5
 exact key_one Tryz.underlying128 Tryz.underlying5 hi (by kernel_rfl)
def cKey (i:Nat):Int:=if i=2 then 117 else 105
def cVal (i:Nat):Value:=if i=2 then .func (.func 136) #[] #[] else .func (.func 137) #[] #[]
def cntF (q:Int):Option Value:=([2,4].find? fun i=>decide (cKey i=q)).map cVal
theorem cntF_u:cntF 117=some (.func (.func 136) #[] #[]):=by simp [cntF,cKey,cVal]
theorem cntF_i:cntF 105=some (.func (.func 137) #[] #[]):=by simp [cntF,cKey,cVal]
theorem counts_any (w:World):Calls Tryz.prog 88 #[] w fun e w'=>∃ M,e = .returned (.map (some M))∧MapFn (k1 .u8) w' M 2 cntF∧New w w':=by
 go_enter Tryz.func88,Tryz.ntmps88
 go_wp2_with fail
 refine piece (fun a' a'' Wq=>∃ M,a''=(a'.put (some 2) (k1 .u8 117) |>.put (some 3) (k1 .u8 105) |>.put (some 1) (.map (some M)) |>.put (some 4) (.map (some M)) |>.put (some 0) (.map (some M)))∧MapFn (k1 .u8) Wq M 2 cntF∧New w Wq) ?_ ?_
 ·refine (wpIn_wide (n:=0)).1 ?_
  refine wpIn_region_any (by kernel_rfl) ?_
  show wpAnyIn _ _ _ _ _ _ 7 _ _ w.drew
  refine any_take 1 (some 2) (k1 .u8 117) rfl rfl (by kernel_rfl) (by kernel_rfl) (by kernel_rfl) (fun _ _ _ h=>h.elim) (.value rfl fun w=>by go_simp;rfl) ?_
  refine any_take 3 (some 3) (k1 .u8 105) rfl rfl (by kernel_rfl) (by kernel_rfl) (by kernel_rfl) (fun _ _ _ h=>h.elim) (.value rfl fun w=>by go_simp;rfl) ?_
  simp only [pS]
  refine wpAnyIn_all (rs:=[0]) (by kernel_rfl) (by simp) ?_
  simp only [List.mem_cons,List.not_mem_nil,or_false,forall_eq]
  refine opIn_value (some 1) (v:=.map (some w.drew.heap.size)) (w':=w.drew.alloc (.map #[] 0)) rfl rfl rfl rfl (by have hmm:=@run_makeMap Tryz.prog;go_simp) ?_
  have hm:=World.alloc_heap_new w.drew (.map #[] 0)
  have hN1:New w (w.drew.alloc (.map #[] 0)):=(Mods.refl _ _).drew.alloc _
  have hM1:w.heap.size ≤ w.drew.heap.size:=Nat.le_refl _
  obtain ⟨M,hM⟩:∃ M,w.drew.heap.size=M:=⟨_,rfl⟩
  obtain ⟨W1,hW1⟩:∃ W,w.drew.alloc (.map #[] 0)=W:=⟨_,rfl⟩
  rw [hW1] at hm hN1 ⊢
  rw [hM] at hm hM1 ⊢
  clear hM hW1
  simp only [pS]
  refine any_inserts keyB1 Tryz.underlying130 [2,4] #[true,true,false,true,false,false,false] 2 cKey cVal _ M (fun W=>New w W) (by kernel_rfl) (by decide) (by decide +kernel) rfl (by kernel_rfl) ?_ ?_ hN1 hm ?_
  ·intro i hi
   simp only [List.mem_cons,List.not_mem_nil,or_false] at hi
   rcases hi with rfl | rfl
   ·exact ⟨_,_,_,_,rfl,rfl,rfl,rfl,rfl,rfl,rfl⟩
   ·exact ⟨_,_,_,_,rfl,rfl,rfl,rfl,rfl,rfl,rfl⟩
  ·intro W o _ hW
   exact hW.putObj hM1 o
  ·intro W hW hMap
   refine wpAnyIn_all (rs:=[5]) (by kernel_rfl) (by simp) ?_
   simp only [List.mem_cons,List.not_mem_nil,or_false,forall_eq]
   refine opIn_value (some 4) (v:=.map (some M)) (w':=W) rfl rfl rfl rfl (by go_simp) ?_
   refine wpAnyIn_all (rs:=[6]) (by kernel_rfl) (by simp) ?_
   simp only [List.mem_cons,List.not_mem_nil,or_false,forall_eq]
   refine opIn_value (some 0) (v:=.map (some M)) (w':=W) rfl rfl rfl rfl (by go_simp) ?_
   refine wpAnyIn_done (by kernel_rfl) ?_ _
   exact ⟨M,rfl,hMap,hW⟩
 ·rintro a' Wz ⟨M,rfl,hMap,hN⟩
  simp only [pS]
  go_wp2_with fail
  go_ret
  exact ⟨M,rfl,hMap,hN⟩
end Go.Proofs.YtkiiameibdhdfaaGreatDoor
namespace Go.Cs
open Go.RowKit
variable {P:Program} {ops:Array Oper} {Q:Exit→Act→World→Prop}
theorem opIn_yield {i:Nat} {o:Oper} (d:Option Tmp) {l:Nat} {fn:FuncId} {tmps:Array Value} {assign body:Code} {a:Act} {w w':World} {K R:_} (hp:plainOp o=true) (hi:ops[i]? = some o) (hg:o.guard=none) (hd:o.dst=d)
  (h:(execOp a.eval o).run P w = .ok (.round l fn tmps assign body) w') (hR:RoundIn Fence.wide 0 P l fn tmps assign body w' R) (hK:∀ e w'',R e w''→∃ v,e = .returned v∧K (a.put d v) w''):wpOpIn (Fr none) 0 P ops Q i K a w:=by
 subst hd
 unfold Go.wpOpIn
 simp only [hi,Region.wanted,hg,if_true,Oper.wpIn,semAt_plain hp,h,Oper.uponIn_round]
 refine ⟨fun _ _=>trivial,(fun h=>by simp [Fence.wide] at h),hR.mono ?_⟩
 rintro e w'' hh
 obtain ⟨v,rfl,hk⟩:=hK e w'' hh
 exact hk
end Go.Cs
