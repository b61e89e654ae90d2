/- Texts joined. -/
import Derived.Test.YtkiiameibdhdfaaGreatDoorS13
import Derived.Test.YtkiiameibdhdfaaGreatDoorS01
import Derived.Test.YtkiiameibdhdfaaGreatDoorS04
set_option linter.unusedSimpArgs false
set_option linter.unusedVariables false
set_option maxHeartbeats 16000000
set_option maxRecDepth 100000
namespace Go.Proofs.YtkiiameibdhdfaaGreatDoor
open Go.RowKit Go.Shelf Go.Cs
attribute [local go_sem] Oper.semAt_some


theorem eq_flt (d:Nat) (b c:Bool) (s t u v:Int) (w:World):(Op.equalIn (d + 2) 34 (.agg #[.bool b,.int .i64 s,.int .u32 u]) (.agg #[.bool c,.int .i64 t,.int .u32 v])).run Tryz.prog w = .ok (decide (b=c) && (decide (s=t) && decide (u=v))) w:=by
 rw [show d + 2=(d + 1) + 1 from rfl,run_equalIn_agg w (d + 1) 34 _ _ (by unfold Program.fieldsOf;rw [Tryz.underlying34]) (by kernel_rfl)]
 unfold Program.fieldsOf
 rw [Tryz.underlying34]
 have h0:=fun (k:Bool) (y z:Int) w=>partAt 4 _ Tryz.underlying4 rfl #[.bool k,.int .i64 y,.int .u32 z] 0 (.bool k) w rfl
 have h1:=fun (k:Bool) (y z:Int) w=>partAt 3 _ Tryz.underlying3 rfl #[.bool k,.int .i64 y,.int .u32 z] 1 (.int .i64 y) w rfl
 have h2:=fun (k:Bool) (y z:Int) w=>partAt 32 _ Tryz.underlying32 rfl #[.bool k,.int .i64 y,.int .u32 z] 2 (.int .u32 z) w rfl
 have e4:=fun w (a b:Bool)=>run_equalIn_bool w d 4 a b Tryz.underlying4
 have e3:=fun w (a b:Int)=>run_equalIn_int w d 3 .i64 .i64 a b Tryz.underlying3
 have e5:=fun w (a b:Int)=>run_equalIn_int w d 32 .u32 .u32 a b Tryz.underlying32
 have n1 : ("Whole" ≠ "_") = True := by simp
 have n2 : ("Stream" ≠ "_") = True := by simp
 have n3 : ("Code" ≠ "_") = True := by simp
 simp only [Op.eqFields,n1,n2,n3,if_true,Sem.run_bind,h0,e4,Result.andThen_ok]
 by_cases hb:b=c <;> by_cases hs:s=t <;> by_cases hu:u=v <;> simp [hb,hs,hu,Sem.run_bind,h1,h2,e3,e5]
theorem binop_flt (b c:Bool) (s t u v:Int) (w:World):(binOp .eql 34 (.agg #[.bool b,.int .i64 s,.int .u32 u]) (.agg #[.bool c,.int .i64 t,.int .u32 v])).run Tryz.prog w = .ok (.bool (decide (b=c) && (decide (s=t) && decide (u=v)))) w:=by
 have h:=eq_flt 9998 b c s t u v w
 simp only [binOp]
 simp [Op.equal,Op.maxDepth,h]
def pwA:List WP:=[⟨3,1,false⟩]
def pwB:List WP:=[⟨3,2,false⟩]
theorem pwR:rightP 0 pwB=true:=by decide +kernel
theorem pwR2:rightP 2 []=false:=by decide +kernel
theorem bound_one {n u:Nat} {s:Int} {i:Bool} (h:u < n):∀ x ∈ [(⟨s,u,i⟩:WP)],x.u < n:=fun x hx=>by rw [List.mem_singleton] at hx;subst hx;exact h
theorem lit188 (t:Array Value) (h:t.size=188):∃ u:Nat→Value,t=(u 0::u 1::u 2::u 3::u 4::u 5::u 6::u 7::u 8::u 9::u 10::u 11::u 12::u 13::u 14::u 15::u 16::u 17::u 18::u 19::u 20::u 21::u 22::u 23::u 24::u 25::u 26::u 27::u 28::u 29::u 30::u 31::u 32::u 33::u 34::u 35::u 36::u 37::u 38::u 39::u 40::u 41::u 42::u 43::u 44::u 45::u 46::u 47::u 48::u 49::u 50::u 51::u 52::u 53::u 54::u 55::u 56::u 57::u 58::u 59::u 60::u 61::u 62::u 63::u 64::u 65::u 66::u 67::u 68::u 69::u 70::u 71::u 72::u 73::u 74::u 75::u 76::u 77::u 78::u 79::u 80::u 81::u 82::u 83::u 84::u 85::u 86::u 87::u 88::u 89::u 90::u 91::u 92::u 93::u 94::u 95::u 96::u 97::u 98::u 99::u 100::u 101::u 102::u 103::u 104::u 105::u 106::u 107::u 108::u 109::u 110::u 111::u 112::u 113::u 114::u 115::u 116::u 117::u 118::u 119::u 120::u 121::u 122::u 123::u 124::u 125::u 126::u 127::u 128::u 129::u 130::u 131::u 132::u 133::u 134::u 135::u 136::u 137::u 138::u 139::u 140::u 141::u 142::u 143::u 144::u 145::u 146::u 147::u 148::u 149::u 150::u 151::u 152::u 153::u 154::u 155::u 156::u 157::u 158::u 159::u 160::u 161::u 162::u 163::u 164::u 165::u 166::u 167::u 168::u 169::u 170::u 171::u 172::u 173::u 174::u 175::u 176::u 177::u 178::u 179::u 180::u 181::u 182::u 183::u 184::u 185::u 186::u 187::([]:List Value)).toArray:=⟨fun i=>t.getD i undef,range_lit t 188 h⟩
noncomputable def reg_causeylaw24_wakes_10:Code:=((Tryz.f13.body.bind (regionOf 10)).getD .skip)
theorem pk13c (t:Array Value) (hs:t.size=188) (w0 w:World) {P1 P5 P7 P16 P17 P18 P22 P25 P27 ac bc dc:Nat} {aa ba da:Option Addr} {Q:Exit→Act→World→Prop} (listed:Array Bool) (hl:listed=(true::true::true::true::true::true::true::true::true::true::true::true::true::true::true::true::true::true::true::true::true::true::true::true::true::true::true::true::true::true::true::true::true::true::true::true::true::true::true::true::true::true::true::true::true::true::true::true::true::true::true::true::true::true::true::true::true::true::true::true::true::true::true::true::true::true::true::true::false::false::false::false::false::false::false::false::false::false::false::false::false::false::false::false::false::false::false::false::false::([]:List Bool)).toArray)
  (hq1:t.getD 1 undef = .pointer (some ⟨P1,0,none⟩))
  (hq2:t.getD 2 undef = .int .u8 1)
  (hq5:t.getD 5 undef = .pointer (some ⟨P5,0,none⟩))
  (hq6:t.getD 6 undef = .int .u8 1)
  (hq7:t.getD 7 undef = .pointer (some ⟨P7,0,none⟩))
  (hq10:t.getD 10 undef = .int .u8 0)
  (hq16:t.getD 16 undef = .pointer (some ⟨P16,0,none⟩))
  (hq17:t.getD 17 undef = .pointer (some ⟨P17,0,none⟩))
  (hq18:t.getD 18 undef = .pointer (some ⟨P18,0,none⟩))
  (hq19:t.getD 19 undef = .bool true)
  (hq21:t.getD 21 undef = .int .u8 2)
  (hq22:t.getD 22 undef = .pointer (some ⟨P22,0,none⟩))
  (hq25:t.getD 25 undef = .pointer (some ⟨P25,0,none⟩))
  (hq26:t.getD 26 undef = .bool false)
  (hq27:t.getD 27 undef = .pointer (some ⟨P27,0,none⟩))
  (hq28:t.getD 28 undef = .bool true)
  (hq29:t.getD 29 undef = .bool true)
  (hq167:t.getD 167 undef = .bool true)
  (hS:New w0 w) (a0:w0.cell? ⟨P1,0,none⟩=some (.int .i64 0)) (a1:w0.cell? ⟨P1,1,none⟩=some (.slice aa 1 ac)) (b0:w0.cell? ⟨P5,0,none⟩=some (.int .i64 0)) (b1:w0.cell? ⟨P5,1,none⟩=some (.slice ba 1 bc)) (c0:w0.cell? ⟨P7,0,none⟩=some (.int .u8 2)) (d0:w0.cell? ⟨P16,0,none⟩=some (.bool true)) (d1:w0.cell? ⟨P16,1,none⟩=some (.int .i64 0)) (d2:w0.cell? ⟨P16,2,none⟩=some (.int .u32 1)) (e0:w0.cell? ⟨P17,0,none⟩=some (.int .i64 3)) (e1:w0.cell? ⟨P17,1,none⟩=some (.slice da 0 dc)) (f0:w0.cell? ⟨P18,0,none⟩=some (.int .u8 2)) (g1:w0.cell? ⟨P22,1,none⟩=some (.bool true)) (h0:w0.cell? ⟨P25,0,none⟩=some (.int .u8 3)) (i0:w0.cell? ⟨P27,0,none⟩=some (.int .u8 2))
  (HA:Hid (RdW w0 (.slice aa 1 ac) pwA)) (HB:Hid (RdW w0 (.slice ba 1 bc) pwB))
  (HNP:∀ c a w,¬ Q (.panic c) a w) (HQ:∀ a' W',a'.tmps.size=188→a'.defers = []→a'.tmps.getD 0 undef = .bool true→New w0 W'→Q .normal a' W') :
  wpAnyH Tryz.prog .any (opsOf reg_causeylaw24_wakes_10) Q (fun W=>New w0 W) 21 listed ⟨t,[]⟩ w:=by
 subst hl
 conv=>arg 3;whnf
 obtain ⟨u,rfl⟩:=lit188 t hs
 have hq1:u 1 = _:=hq1
 have hq2:u 2 = _:=hq2
 have hq5:u 5 = _:=hq5
 have hq6:u 6 = _:=hq6
 have hq7:u 7 = _:=hq7
 have hq10:u 10 = _:=hq10
 have hq16:u 16 = _:=hq16
 have hq17:u 17 = _:=hq17
 have hq18:u 18 = _:=hq18
 have hq19:u 19 = _:=hq19
 have hq21:u 21 = _:=hq21
 have hq22:u 22 = _:=hq22
 have hq25:u 25 = _:=hq25
 have hq26:u 26 = _:=hq26
 have hq27:u 27 = _:=hq27
 have hq28:u 28 = _:=hq28
 have hq29:u 29 = _:=hq29
 have hq167:u 167 = _:=hq167
 rw [hq1,hq2,hq5,hq6,hq7,hq10,hq16,hq17,hq18,hq19,hq21,hq22,hq25,hq26,hq27,hq28,hq29,hq167]
 clear hq1 hq2 hq5 hq6 hq7 hq10 hq16 hq17 hq18 hq19 hq21 hq22 hq25 hq26 hq27 hq28 hq29 hq167 hs
 refine anyH_take 68 (some 168) (.agg #[.int .i64 0,.slice ba 1 bc]) rfl rfl (by kernel_rfl) (by kernel_rfl) (by kernel_rfl) (fun _ _ _ h=>(HNP _ _ _ h).elim) (.inl ⟨by rfl,fun W hW=>by have hh:New w0 W:=hW;have q0:=hh.cell b0 id;have q1:=hh.cell b1 id;go_simp⟩) hS ?_
 simp only [pS]
 refine tkO 69 ?_
 refine opH_call (some 169) rfl (by rfl) rfl 43 #[.agg #[.int .i64 0,.slice ba 1 bc]] (by go_simp) (((right_p 0 _ pwB _ (HB.out.new hS) (bound_one (by decide))).mono (R':=fun e w'=>e = .returned (.bool true)∧New _ w') (by rintro e w' ⟨rfl,h⟩;exact ⟨by rw [pwR],h⟩)).mono ?_)
 rintro e w69 ⟨rfl,hk⟩
 have hS:=hS.trans hk
 clear hk
 refine ⟨_,rfl,hS,?_⟩
 simp only [pS]
 refine anyH_take 70 (some 170) (.bool true) rfl rfl (by kernel_rfl) (by kernel_rfl) (by kernel_rfl) (fun _ _ _ h=>(HNP _ _ _ h).elim) (.inl ⟨by rfl,fun W hW=>by go_simp⟩) hS ?_
 simp only [pS]
 refine anyH_take 71 (some 171) (.bool true) rfl rfl (by kernel_rfl) (by kernel_rfl) (by kernel_rfl) (fun _ _ _ h=>(HNP _ _ _ h).elim) (.inl ⟨by rfl,fun W hW=>by go_simp⟩) hS ?_
 simp only [pS]
 refine anyH_take 72 (some 172) (.agg #[.int .i64 0,.slice ba 1 bc]) rfl rfl (by kernel_rfl) (by kernel_rfl) (by kernel_rfl) (fun _ _ _ h=>(HNP _ _ _ h).elim) (.inl ⟨by rfl,fun W hW=>by have hh:New w0 W:=hW;have q0:=hh.cell b0 id;have q1:=hh.cell b1 id;go_simp⟩) hS ?_
 simp only [pS]
 refine anyH_take 74 (some 174) (.agg #[.int .i64 0,.slice ba 1 bc]) rfl rfl (by kernel_rfl) (by kernel_rfl) (by kernel_rfl) (fun _ _ _ h=>(HNP _ _ _ h).elim) (.inl ⟨by rfl,fun W hW=>by have hh:New w0 W:=hW;have q0:=hh.cell b0 id;have q1:=hh.cell b1 id;go_simp⟩) hS ?_
 simp only [pS]
 refine tkO 73 ?_
 refine opH_call (some 173) rfl (by rfl) rfl 45 #[.agg #[.int .i64 0,.slice ba 1 bc]] (by go_simp) (((own_p 0 _ pwB _ (HB.out.new hS) (by decide)).mono (R':=fun e w'=>∃ oa oc,e = .returned (.agg #[.int .i64 0,.slice oa 1 oc])∧RdW w' (.slice oa 1 oc) pwB∧New _ w') (by rintro e w' ⟨v',rfl,hO,h⟩;obtain ⟨oa,oc,rfl⟩:=hO.slice;exact ⟨oa,oc,rfl,hO.reads (by decide),h⟩)).mono ?_)
 rintro e w73 ⟨oa,oc,rfl,hOb,hk⟩
 have hS:=hS.trans hk
 clear hk
 refine ⟨_,rfl,hS,?_⟩
 simp only [pS]
 refine tkO 75 ?_
 refine opH_call (some 175) rfl (by rfl) rfl 44 #[.agg #[.int .i64 0,.slice oa 1 oc],.agg #[.int .i64 0,.slice ba 1 bc]] (by go_simp) (((same_p 0 0 _ _ pwB pwB _ hOb (HB.out.new hS)).mono (R':=fun e w'=>e = .returned (.bool true)∧New _ w') (by rintro e w' ⟨rfl,h⟩;exact ⟨by rw [decide_eq_true rfl,decide_eq_true rfl];rfl,h⟩)).mono ?_)
 rintro e w75 ⟨rfl,hk⟩
 have hS:=hS.trans hk
 clear hk
 refine ⟨_,rfl,hS,?_⟩
 simp only [pS]
 refine anyH_take 76 (some 176) (.bool true) rfl rfl (by kernel_rfl) (by kernel_rfl) (by kernel_rfl) (fun _ _ _ h=>(HNP _ _ _ h).elim) (.inl ⟨by rfl,fun W hW=>by go_simp⟩) hS ?_
 simp only [pS]
 refine anyH_take 77 (some 177) (.bool true) rfl rfl (by kernel_rfl) (by kernel_rfl) (by kernel_rfl) (fun _ _ _ h=>(HNP _ _ _ h).elim) (.inl ⟨by rfl,fun W hW=>by go_simp⟩) hS ?_
 simp only [pS]
 refine anyH_take 78 (some 178) (.agg #[.int .i64 0,.slice aa 1 ac]) rfl rfl (by kernel_rfl) (by kernel_rfl) (by kernel_rfl) (fun _ _ _ h=>(HNP _ _ _ h).elim) (.inl ⟨by rfl,fun W hW=>by have hh:New w0 W:=hW;have q0:=hh.cell a0 id;have q1:=hh.cell a1 id;go_simp⟩) hS ?_
 simp only [pS]
 refine anyH_take 79 (some 179) (.agg #[.int .i64 0,.slice ba 1 bc]) rfl rfl (by kernel_rfl) (by kernel_rfl) (by kernel_rfl) (fun _ _ _ h=>(HNP _ _ _ h).elim) (.inl ⟨by rfl,fun W hW=>by have hh:New w0 W:=hW;have q0:=hh.cell b0 id;have q1:=hh.cell b1 id;go_simp⟩) hS ?_
 simp only [pS]
 refine tkO 80 ?_
 refine opH_call (some 180) rfl (by rfl) rfl 44 #[.agg #[.int .i64 0,.slice aa 1 ac],.agg #[.int .i64 0,.slice ba 1 bc]] (by go_simp) (((same_p 0 0 _ _ pwA pwB _ (HA.out.new hS) (HB.out.new hS)).mono (R':=fun e w'=>e = .returned (.bool false)∧New _ w') (by rintro e w' ⟨rfl,h⟩;exact ⟨by rw [show decide (pwA=pwB)=false by decide +kernel,Bool.and_false],h⟩)).mono ?_)
 rintro e w80 ⟨rfl,hk⟩
 have hS:=hS.trans hk
 clear hk
 refine ⟨_,rfl,hS,?_⟩
 simp only [pS]
 refine anyH_take 81 (some 181) (.bool true) rfl rfl (by kernel_rfl) (by kernel_rfl) (by kernel_rfl) (fun _ _ _ h=>(HNP _ _ _ h).elim) (.inl ⟨by rfl,fun W hW=>by go_simp⟩) hS ?_
 simp only [pS]
 refine anyH_take 82 (some 182) (.bool true) rfl rfl (by kernel_rfl) (by kernel_rfl) (by kernel_rfl) (fun _ _ _ h=>(HNP _ _ _ h).elim) (.inl ⟨by rfl,fun W hW=>by go_simp⟩) hS ?_
 simp only [pS]
 refine anyH_take 83 (some 183) (.bool true) rfl rfl (by kernel_rfl) (by kernel_rfl) (by kernel_rfl) (fun _ _ _ h=>(HNP _ _ _ h).elim) (.inl ⟨by rfl,fun W hW=>by go_simp⟩) hS ?_
 simp only [pS]
 refine anyH_take 84 (some 184) (.agg #[.int .i64 2,.slice none 0 0]) rfl rfl (by kernel_rfl) (by kernel_rfl) (by kernel_rfl) (fun _ _ _ h=>(HNP _ _ _ h).elim) (.inl ⟨by rfl,fun W hW=>by go_simp⟩) hS ?_
 simp only [pS]
 refine tkO 85 ?_
 refine opH_call (some 185) rfl (by rfl) rfl 43 #[.agg #[.int .i64 2,.slice none 0 0]] (by go_simp) (((right_p 2 (.slice none 0 0) [] _ (RowR.nil _ _ _ _ _) (fun x hx=>by cases hx)).mono (R':=fun e w'=>e = .returned (.bool false)∧New _ w') (by rintro e w' ⟨rfl,h⟩;exact ⟨by rw [pwR2],h⟩)).mono ?_)
 rintro e w85 ⟨rfl,hk⟩
 have hS:=hS.trans hk
 clear hk
 refine ⟨_,rfl,hS,?_⟩
 simp only [pS]
 refine anyH_take 86 (some 186) (.bool true) rfl rfl (by kernel_rfl) (by kernel_rfl) (by kernel_rfl) (fun _ _ _ h=>(HNP _ _ _ h).elim) (.inl ⟨by rfl,fun W hW=>by go_simp⟩) hS ?_
 simp only [pS]
 refine anyH_take 87 (some 187) (.bool true) rfl rfl (by kernel_rfl) (by kernel_rfl) (by kernel_rfl) (fun _ _ _ h=>(HNP _ _ _ h).elim) (.inl ⟨by rfl,fun W hW=>by go_simp⟩) hS ?_
 simp only [pS]
 refine anyH_take 88 (some 0) (.bool true) rfl rfl (by kernel_rfl) (by kernel_rfl) (by kernel_rfl) (fun _ _ _ h=>(HNP _ _ _ h).elim) (.inl ⟨by rfl,fun W hW=>by go_simp⟩) hS ?_
 simp only [pS]
 refine wpAnyH_done (by kernel_rfl) ?_ _
 exact HQ _ _ rfl rfl rfl hS
theorem pk13b (t:Array Value) (hs:t.size=188) (w0 w:World) {P1 P5 P7 P16 P17 P18 P22 P25 P27 ac bc dc:Nat} {aa ba da:Option Addr} {Q:Exit→Act→World→Prop} (listed:Array Bool) (hl:listed=(true::true::true::true::true::true::true::true::true::true::true::true::true::true::true::true::true::true::true::true::true::true::true::true::true::true::true::true::true::true::true::true::true::true::false::false::false::false::false::false::false::false::false::false::false::false::false::false::false::false::false::false::false::false::false::false::false::false::false::false::false::false::false::false::false::false::false::false::false::false::false::false::false::false::false::false::false::false::false::false::false::false::false::false::false::false::false::false::false::([]:List Bool)).toArray)
  (hq1:t.getD 1 undef = .pointer (some ⟨P1,0,none⟩))
  (hq2:t.getD 2 undef = .int .u8 1)
  (hq5:t.getD 5 undef = .pointer (some ⟨P5,0,none⟩))
  (hq6:t.getD 6 undef = .int .u8 1)
  (hq7:t.getD 7 undef = .pointer (some ⟨P7,0,none⟩))
  (hq10:t.getD 10 undef = .int .u8 0)
  (hq16:t.getD 16 undef = .pointer (some ⟨P16,0,none⟩))
  (hq17:t.getD 17 undef = .pointer (some ⟨P17,0,none⟩))
  (hq18:t.getD 18 undef = .pointer (some ⟨P18,0,none⟩))
  (hq19:t.getD 19 undef = .bool true)
  (hq21:t.getD 21 undef = .int .u8 2)
  (hq22:t.getD 22 undef = .pointer (some ⟨P22,0,none⟩))
  (hq25:t.getD 25 undef = .pointer (some ⟨P25,0,none⟩))
  (hq26:t.getD 26 undef = .bool false)
  (hq27:t.getD 27 undef = .pointer (some ⟨P27,0,none⟩))
  (hq28:t.getD 28 undef = .bool true)
  (hq29:t.getD 29 undef = .bool true)
  (hq131:t.getD 131 undef = .bool true)
  (hq133:t.getD 133 undef = .int .i64 3)
  (hS:New w0 w) (a0:w0.cell? ⟨P1,0,none⟩=some (.int .i64 0)) (a1:w0.cell? ⟨P1,1,none⟩=some (.slice aa 1 ac)) (b0:w0.cell? ⟨P5,0,none⟩=some (.int .i64 0)) (b1:w0.cell? ⟨P5,1,none⟩=some (.slice ba 1 bc)) (c0:w0.cell? ⟨P7,0,none⟩=some (.int .u8 2)) (d0:w0.cell? ⟨P16,0,none⟩=some (.bool true)) (d1:w0.cell? ⟨P16,1,none⟩=some (.int .i64 0)) (d2:w0.cell? ⟨P16,2,none⟩=some (.int .u32 1)) (e0:w0.cell? ⟨P17,0,none⟩=some (.int .i64 3)) (e1:w0.cell? ⟨P17,1,none⟩=some (.slice da 0 dc)) (f0:w0.cell? ⟨P18,0,none⟩=some (.int .u8 2)) (g1:w0.cell? ⟨P22,1,none⟩=some (.bool true)) (h0:w0.cell? ⟨P25,0,none⟩=some (.int .u8 3)) (i0:w0.cell? ⟨P27,0,none⟩=some (.int .u8 2))
  (HA:Hid (RdW w0 (.slice aa 1 ac) pwA)) (HB:Hid (RdW w0 (.slice ba 1 bc) pwB))
  (HNP:∀ c a w,¬ Q (.panic c) a w) (HQ:∀ a' W',a'.tmps.size=188→a'.defers = []→a'.tmps.getD 0 undef = .bool true→New w0 W'→Q .normal a' W') :
  wpAnyH Tryz.prog .any (opsOf reg_causeylaw24_wakes_10) Q (fun W=>New w0 W) 55 listed ⟨t,[]⟩ w:=by
 subst hl
 conv=>arg 3;whnf
 obtain ⟨u,rfl⟩:=lit188 t hs
 have hq1:u 1 = _:=hq1
 have hq2:u 2 = _:=hq2
 have hq5:u 5 = _:=hq5
 have hq6:u 6 = _:=hq6
 have hq7:u 7 = _:=hq7
 have hq10:u 10 = _:=hq10
 have hq16:u 16 = _:=hq16
 have hq17:u 17 = _:=hq17
 have hq18:u 18 = _:=hq18
 have hq19:u 19 = _:=hq19
 have hq21:u 21 = _:=hq21
 have hq22:u 22 = _:=hq22
 have hq25:u 25 = _:=hq25
 have hq26:u 26 = _:=hq26
 have hq27:u 27 = _:=hq27
 have hq28:u 28 = _:=hq28
 have hq29:u 29 = _:=hq29
 have hq131:u 131 = _:=hq131
 have hq133:u 133 = _:=hq133
 rw [hq1,hq2,hq5,hq6,hq7,hq10,hq16,hq17,hq18,hq19,hq21,hq22,hq25,hq26,hq27,hq28,hq29,hq131,hq133]
 clear hq1 hq2 hq5 hq6 hq7 hq10 hq16 hq17 hq18 hq19 hq21 hq22 hq25 hq26 hq27 hq28 hq29 hq131 hq133 hs
 refine anyH_take 34 (some 134) (.bool true) rfl rfl (by kernel_rfl) (by kernel_rfl) (by kernel_rfl) (fun _ _ _ h=>(HNP _ _ _ h).elim) (.inl ⟨by rfl,fun W hW=>by go_simp⟩) hS ?_
 simp only [pS]
 refine anyH_take 35 (some 135) (.bool true) rfl rfl (by kernel_rfl) (by kernel_rfl) (by kernel_rfl) (fun _ _ _ h=>(HNP _ _ _ h).elim) (.inl ⟨by rfl,fun W hW=>by go_simp⟩) hS ?_
 simp only [pS]
 refine anyH_take 36 (some 136) (.bool true) rfl rfl (by kernel_rfl) (by kernel_rfl) (by kernel_rfl) (fun _ _ _ h=>(HNP _ _ _ h).elim) (.inl ⟨by rfl,fun W hW=>by go_simp⟩) hS ?_
 simp only [pS]
 refine anyH_take 37 (some 137) (.pointer (some ⟨P17,1,none⟩)) rfl rfl (by kernel_rfl) (by kernel_rfl) (by kernel_rfl) (fun _ _ _ h=>(HNP _ _ _ h).elim) (.inl ⟨by rfl,fun W hW=>by go_simp⟩) hS ?_
 simp only [pS]
 refine anyH_take 38 (some 138) (.slice da 0 dc) rfl rfl (by kernel_rfl) (by kernel_rfl) (by kernel_rfl) (fun _ _ _ h=>(HNP _ _ _ h).elim) (.inl ⟨by rfl,fun W hW=>by have hh:New w0 W:=hW;have q:=hh.cell e1 id;go_simp⟩) hS ?_
 simp only [pS]
 refine anyH_take 39 (some 139) (.int .i64 0) rfl rfl (by kernel_rfl) (by kernel_rfl) (by kernel_rfl) (fun _ _ _ h=>(HNP _ _ _ h).elim) (.inl ⟨by rfl,fun W hW=>by go_simp⟩) hS ?_
 simp only [pS]
 refine anyH_take 40 (some 140) (.bool true) rfl rfl (by kernel_rfl) (by kernel_rfl) (by kernel_rfl) (fun _ _ _ h=>(HNP _ _ _ h).elim) (.inl ⟨by rfl,fun W hW=>by go_simp⟩) hS ?_
 simp only [pS]
 refine anyH_take 41 (some 141) (.bool true) rfl rfl (by kernel_rfl) (by kernel_rfl) (by kernel_rfl) (fun _ _ _ h=>(HNP _ _ _ h).elim) (.inl ⟨by rfl,fun W hW=>by go_simp⟩) hS ?_
 simp only [pS]
 refine anyH_take 42 (some 142) (.bool true) rfl rfl (by kernel_rfl) (by kernel_rfl) (by kernel_rfl) (fun _ _ _ h=>(HNP _ _ _ h).elim) (.inl ⟨by rfl,fun W hW=>by go_simp⟩) hS ?_
 simp only [pS]
 refine anyH_take 43 (some 143) (.int .u8 2) rfl rfl (by kernel_rfl) (by kernel_rfl) (by kernel_rfl) (fun _ _ _ h=>(HNP _ _ _ h).elim) (.inl ⟨by rfl,fun W hW=>by go_simp⟩) hS ?_
 simp only [pS]
 refine anyH_take 44 (some 144) (.bool true) rfl rfl (by kernel_rfl) (by kernel_rfl) (by kernel_rfl) (fun _ _ _ h=>(HNP _ _ _ h).elim) (.inl ⟨by rfl,fun W hW=>by go_simp⟩) hS ?_
 simp only [pS]
 refine anyH_take 45 (some 145) (.bool true) rfl rfl (by kernel_rfl) (by kernel_rfl) (by kernel_rfl) (fun _ _ _ h=>(HNP _ _ _ h).elim) (.inl ⟨by rfl,fun W hW=>by go_simp⟩) hS ?_
 simp only [pS]
 refine anyH_take 46 (some 146) (.bool true) rfl rfl (by kernel_rfl) (by kernel_rfl) (by kernel_rfl) (fun _ _ _ h=>(HNP _ _ _ h).elim) (.inl ⟨by rfl,fun W hW=>by go_simp⟩) hS ?_
 simp only [pS]
 refine anyH_take 47 (some 147) (.pointer (some ⟨P22,1,none⟩)) rfl rfl (by kernel_rfl) (by kernel_rfl) (by kernel_rfl) (fun _ _ _ h=>(HNP _ _ _ h).elim) (.inl ⟨by rfl,fun W hW=>by go_simp⟩) hS ?_
 simp only [pS]
 refine anyH_take 48 (some 148) (.bool true) rfl rfl (by kernel_rfl) (by kernel_rfl) (by kernel_rfl) (fun _ _ _ h=>(HNP _ _ _ h).elim) (.inl ⟨by rfl,fun W hW=>by have hh:New w0 W:=hW;have q:=hh.cell g1 id;go_simp⟩) hS ?_
 simp only [pS]
 refine anyH_take 49 (some 149) (.bool true) rfl rfl (by kernel_rfl) (by kernel_rfl) (by kernel_rfl) (fun _ _ _ h=>(HNP _ _ _ h).elim) (.inl ⟨by rfl,fun W hW=>by go_simp⟩) hS ?_
 simp only [pS]
 refine anyH_take 50 (some 150) (.bool true) rfl rfl (by kernel_rfl) (by kernel_rfl) (by kernel_rfl) (fun _ _ _ h=>(HNP _ _ _ h).elim) (.inl ⟨by rfl,fun W hW=>by go_simp⟩) hS ?_
 simp only [pS]
 refine anyH_take 51 (some 151) (.bool false) rfl rfl (by kernel_rfl) (by kernel_rfl) (by kernel_rfl) (fun _ _ _ h=>(HNP _ _ _ h).elim) (.inl ⟨by rfl,fun W hW=>by go_simp⟩) hS ?_
 simp only [pS]
 refine anyH_take 52 (some 152) (.bool true) rfl rfl (by kernel_rfl) (by kernel_rfl) (by kernel_rfl) (fun _ _ _ h=>(HNP _ _ _ h).elim) (.inl ⟨by rfl,fun W hW=>by go_simp⟩) hS ?_
 simp only [pS]
 refine anyH_take 53 (some 153) (.bool true) rfl rfl (by kernel_rfl) (by kernel_rfl) (by kernel_rfl) (fun _ _ _ h=>(HNP _ _ _ h).elim) (.inl ⟨by rfl,fun W hW=>by go_simp⟩) hS ?_
 simp only [pS]
 refine anyH_take 54 (some 154) (.bool true) rfl rfl (by kernel_rfl) (by kernel_rfl) (by kernel_rfl) (fun _ _ _ h=>(HNP _ _ _ h).elim) (.inl ⟨by rfl,fun W hW=>by go_simp⟩) hS ?_
 simp only [pS]
 refine anyH_take 55 (some 155) (.pointer (some ⟨P25,0,none⟩)) rfl rfl (by kernel_rfl) (by kernel_rfl) (by kernel_rfl) (fun _ _ _ h=>(HNP _ _ _ h).elim) (.inl ⟨by rfl,fun W hW=>by go_simp⟩) hS ?_
 simp only [pS]
 refine anyH_take 56 (some 156) (.int .u8 3) rfl rfl (by kernel_rfl) (by kernel_rfl) (by kernel_rfl) (fun _ _ _ h=>(HNP _ _ _ h).elim) (.inl ⟨by rfl,fun W hW=>by have hh:New w0 W:=hW;have q:=hh.cell h0 id;go_simp⟩) hS ?_
 simp only [pS]
 refine anyH_take 57 (some 157) (.bool true) rfl rfl (by kernel_rfl) (by kernel_rfl) (by kernel_rfl) (fun _ _ _ h=>(HNP _ _ _ h).elim) (.inl ⟨by rfl,fun W hW=>by go_simp⟩) hS ?_
 simp only [pS]
 refine anyH_take 58 (some 158) (.bool true) rfl rfl (by kernel_rfl) (by kernel_rfl) (by kernel_rfl) (fun _ _ _ h=>(HNP _ _ _ h).elim) (.inl ⟨by rfl,fun W hW=>by go_simp⟩) hS ?_
 simp only [pS]
 refine anyH_take 59 (some 159) (.bool true) rfl rfl (by kernel_rfl) (by kernel_rfl) (by kernel_rfl) (fun _ _ _ h=>(HNP _ _ _ h).elim) (.inl ⟨by rfl,fun W hW=>by go_simp⟩) hS ?_
 simp only [pS]
 refine anyH_take 60 (some 160) (.bool true) rfl rfl (by kernel_rfl) (by kernel_rfl) (by kernel_rfl) (fun _ _ _ h=>(HNP _ _ _ h).elim) (.inl ⟨by rfl,fun W hW=>by go_simp⟩) hS ?_
 simp only [pS]
 refine anyH_take 61 (some 161) (.bool true) rfl rfl (by kernel_rfl) (by kernel_rfl) (by kernel_rfl) (fun _ _ _ h=>(HNP _ _ _ h).elim) (.inl ⟨by rfl,fun W hW=>by go_simp⟩) hS ?_
 simp only [pS]
 refine anyH_take 62 (some 162) (.bool true) rfl rfl (by kernel_rfl) (by kernel_rfl) (by kernel_rfl) (fun _ _ _ h=>(HNP _ _ _ h).elim) (.inl ⟨by rfl,fun W hW=>by go_simp⟩) hS ?_
 simp only [pS]
 refine anyH_take 63 (some 163) (.pointer (some ⟨P27,0,none⟩)) rfl rfl (by kernel_rfl) (by kernel_rfl) (by kernel_rfl) (fun _ _ _ h=>(HNP _ _ _ h).elim) (.inl ⟨by rfl,fun W hW=>by go_simp⟩) hS ?_
 simp only [pS]
 refine anyH_take 64 (some 164) (.int .u8 2) rfl rfl (by kernel_rfl) (by kernel_rfl) (by kernel_rfl) (fun _ _ _ h=>(HNP _ _ _ h).elim) (.inl ⟨by rfl,fun W hW=>by have hh:New w0 W:=hW;have q:=hh.cell i0 id;go_simp⟩) hS ?_
 simp only [pS]
 refine anyH_take 65 (some 165) (.bool true) rfl rfl (by kernel_rfl) (by kernel_rfl) (by kernel_rfl) (fun _ _ _ h=>(HNP _ _ _ h).elim) (.inl ⟨by rfl,fun W hW=>by go_simp⟩) hS ?_
 simp only [pS]
 refine anyH_take 66 (some 166) (.bool true) rfl rfl (by kernel_rfl) (by kernel_rfl) (by kernel_rfl) (fun _ _ _ h=>(HNP _ _ _ h).elim) (.inl ⟨by rfl,fun W hW=>by go_simp⟩) hS ?_
 simp only [pS]
 refine anyH_take 67 (some 167) (.bool true) rfl rfl (by kernel_rfl) (by kernel_rfl) (by kernel_rfl) (fun _ _ _ h=>(HNP _ _ _ h).elim) (.inl ⟨by rfl,fun W hW=>by go_simp⟩) hS ?_
 simp only [pS]
 exact pk13c _ rfl w0 _ _ (by kernel_rfl) rfl rfl rfl rfl rfl rfl rfl rfl rfl rfl rfl rfl rfl rfl rfl rfl rfl rfl hS a0 a1 b0 b1 c0 d0 d1 d2 e0 e1 f0 g1 h0 i0 HA HB HNP HQ
theorem pk13a (t:Array Value) (hs:t.size=188) (w0 w:World) {P1 P5 P7 P16 P17 P18 P22 P25 P27 ac bc dc:Nat} {aa ba da:Option Addr} {Q:Exit→Act→World→Prop} (listed:Array Bool) (hl:listed=(false::false::false::false::false::false::false::false::false::false::false::false::false::false::false::false::false::false::false::false::false::false::false::false::false::false::false::false::false::false::false::false::false::false::false::false::false::false::false::false::false::false::false::false::false::false::false::false::false::false::false::false::false::false::false::false::false::false::false::false::false::false::false::false::false::false::false::false::false::false::false::false::false::false::false::false::false::false::false::false::false::false::false::false::false::false::false::false::false::([]:List Bool)).toArray)
  (hq1:t.getD 1 undef = .pointer (some ⟨P1,0,none⟩))
  (hq2:t.getD 2 undef = .int .u8 1)
  (hq5:t.getD 5 undef = .pointer (some ⟨P5,0,none⟩))
  (hq6:t.getD 6 undef = .int .u8 1)
  (hq7:t.getD 7 undef = .pointer (some ⟨P7,0,none⟩))
  (hq10:t.getD 10 undef = .int .u8 0)
  (hq16:t.getD 16 undef = .pointer (some ⟨P16,0,none⟩))
  (hq17:t.getD 17 undef = .pointer (some ⟨P17,0,none⟩))
  (hq18:t.getD 18 undef = .pointer (some ⟨P18,0,none⟩))
  (hq19:t.getD 19 undef = .bool true)
  (hq21:t.getD 21 undef = .int .u8 2)
  (hq22:t.getD 22 undef = .pointer (some ⟨P22,0,none⟩))
  (hq25:t.getD 25 undef = .pointer (some ⟨P25,0,none⟩))
  (hq26:t.getD 26 undef = .bool false)
  (hq27:t.getD 27 undef = .pointer (some ⟨P27,0,none⟩))
  (hq28:t.getD 28 undef = .bool true)
  (hq29:t.getD 29 undef = .bool true)
  (hS:New w0 w) (a0:w0.cell? ⟨P1,0,none⟩=some (.int .i64 0)) (a1:w0.cell? ⟨P1,1,none⟩=some (.slice aa 1 ac)) (b0:w0.cell? ⟨P5,0,none⟩=some (.int .i64 0)) (b1:w0.cell? ⟨P5,1,none⟩=some (.slice ba 1 bc)) (c0:w0.cell? ⟨P7,0,none⟩=some (.int .u8 2)) (d0:w0.cell? ⟨P16,0,none⟩=some (.bool true)) (d1:w0.cell? ⟨P16,1,none⟩=some (.int .i64 0)) (d2:w0.cell? ⟨P16,2,none⟩=some (.int .u32 1)) (e0:w0.cell? ⟨P17,0,none⟩=some (.int .i64 3)) (e1:w0.cell? ⟨P17,1,none⟩=some (.slice da 0 dc)) (f0:w0.cell? ⟨P18,0,none⟩=some (.int .u8 2)) (g1:w0.cell? ⟨P22,1,none⟩=some (.bool true)) (h0:w0.cell? ⟨P25,0,none⟩=some (.int .u8 3)) (i0:w0.cell? ⟨P27,0,none⟩=some (.int .u8 2))
  (HA:Hid (RdW w0 (.slice aa 1 ac) pwA)) (HB:Hid (RdW w0 (.slice ba 1 bc) pwB))
  (HNP:∀ c a w,¬ Q (.panic c) a w) (HQ:∀ a' W',a'.tmps.size=188→a'.defers = []→a'.tmps.getD 0 undef = .bool true→New w0 W'→Q .normal a' W') :
  wpAnyH Tryz.prog .any (opsOf reg_causeylaw24_wakes_10) Q (fun W=>New w0 W) 89 listed ⟨t,[]⟩ w:=by
 subst hl
 conv=>arg 3;whnf
 obtain ⟨u,rfl⟩:=lit188 t hs
 have hq1:u 1 = _:=hq1
 have hq2:u 2 = _:=hq2
 have hq5:u 5 = _:=hq5
 have hq6:u 6 = _:=hq6
 have hq7:u 7 = _:=hq7
 have hq10:u 10 = _:=hq10
 have hq16:u 16 = _:=hq16
 have hq17:u 17 = _:=hq17
 have hq18:u 18 = _:=hq18
 have hq19:u 19 = _:=hq19
 have hq21:u 21 = _:=hq21
 have hq22:u 22 = _:=hq22
 have hq25:u 25 = _:=hq25
 have hq26:u 26 = _:=hq26
 have hq27:u 27 = _:=hq27
 have hq28:u 28 = _:=hq28
 have hq29:u 29 = _:=hq29
 rw [hq1,hq2,hq5,hq6,hq7,hq10,hq16,hq17,hq18,hq19,hq21,hq22,hq25,hq26,hq27,hq28,hq29]
 clear hq1 hq2 hq5 hq6 hq7 hq10 hq16 hq17 hq18 hq19 hq21 hq22 hq25 hq26 hq27 hq28 hq29 hs
 refine anyH_take 0 (some 100) (.bool true) rfl rfl (by kernel_rfl) (by kernel_rfl) (by kernel_rfl) (fun _ _ _ h=>(HNP _ _ _ h).elim) (.inl ⟨by rfl,fun W hW=>by go_simp⟩) hS ?_
 simp only [pS]
 refine anyH_take 1 (some 101) (.bool true) rfl rfl (by kernel_rfl) (by kernel_rfl) (by kernel_rfl) (fun _ _ _ h=>(HNP _ _ _ h).elim) (.inl ⟨by rfl,fun W hW=>by go_simp⟩) hS ?_
 simp only [pS]
 refine anyH_take 2 (some 102) (.int .u8 1) rfl rfl (by kernel_rfl) (by kernel_rfl) (by kernel_rfl) (fun _ _ _ h=>(HNP _ _ _ h).elim) (.inl ⟨by rfl,fun W hW=>by go_simp⟩) hS ?_
 simp only [pS]
 refine anyH_take 3 (some 103) (.bool true) rfl rfl (by kernel_rfl) (by kernel_rfl) (by kernel_rfl) (fun _ _ _ h=>(HNP _ _ _ h).elim) (.inl ⟨by rfl,fun W hW=>by go_simp⟩) hS ?_
 simp only [pS]
 refine anyH_take 4 (some 104) (.bool true) rfl rfl (by kernel_rfl) (by kernel_rfl) (by kernel_rfl) (fun _ _ _ h=>(HNP _ _ _ h).elim) (.inl ⟨by rfl,fun W hW=>by go_simp⟩) hS ?_
 simp only [pS]
 refine anyH_take 5 (some 105) (.bool true) rfl rfl (by kernel_rfl) (by kernel_rfl) (by kernel_rfl) (fun _ _ _ h=>(HNP _ _ _ h).elim) (.inl ⟨by rfl,fun W hW=>by go_simp⟩) hS ?_
 simp only [pS]
 refine anyH_take 6 (some 106) (.int .u8 1) rfl rfl (by kernel_rfl) (by kernel_rfl) (by kernel_rfl) (fun _ _ _ h=>(HNP _ _ _ h).elim) (.inl ⟨by rfl,fun W hW=>by go_simp⟩) hS ?_
 simp only [pS]
 refine anyH_take 7 (some 107) (.bool true) rfl rfl (by kernel_rfl) (by kernel_rfl) (by kernel_rfl) (fun _ _ _ h=>(HNP _ _ _ h).elim) (.inl ⟨by rfl,fun W hW=>by go_simp⟩) hS ?_
 simp only [pS]
 refine anyH_take 8 (some 108) (.bool true) rfl rfl (by kernel_rfl) (by kernel_rfl) (by kernel_rfl) (fun _ _ _ h=>(HNP _ _ _ h).elim) (.inl ⟨by rfl,fun W hW=>by go_simp⟩) hS ?_
 simp only [pS]
 refine anyH_take 9 (some 109) (.bool true) rfl rfl (by kernel_rfl) (by kernel_rfl) (by kernel_rfl) (fun _ _ _ h=>(HNP _ _ _ h).elim) (.inl ⟨by rfl,fun W hW=>by go_simp⟩) hS ?_
 simp only [pS]
 refine anyH_take 10 (some 110) (.pointer (some ⟨P7,0,none⟩)) rfl rfl (by kernel_rfl) (by kernel_rfl) (by kernel_rfl) (fun _ _ _ h=>(HNP _ _ _ h).elim) (.inl ⟨by rfl,fun W hW=>by go_simp⟩) hS ?_
 simp only [pS]
 refine anyH_take 11 (some 111) (.int .u8 2) rfl rfl (by kernel_rfl) (by kernel_rfl) (by kernel_rfl) (fun _ _ _ h=>(HNP _ _ _ h).elim) (.inl ⟨by rfl,fun W hW=>by have hh:New w0 W:=hW;have q:=hh.cell c0 id;go_simp⟩) hS ?_
 simp only [pS]
 refine anyH_take 12 (some 112) (.bool true) rfl rfl (by kernel_rfl) (by kernel_rfl) (by kernel_rfl) (fun _ _ _ h=>(HNP _ _ _ h).elim) (.inl ⟨by rfl,fun W hW=>by go_simp⟩) hS ?_
 simp only [pS]
 refine anyH_take 13 (some 113) (.bool true) rfl rfl (by kernel_rfl) (by kernel_rfl) (by kernel_rfl) (fun _ _ _ h=>(HNP _ _ _ h).elim) (.inl ⟨by rfl,fun W hW=>by go_simp⟩) hS ?_
 simp only [pS]
 refine anyH_take 14 (some 114) (.bool true) rfl rfl (by kernel_rfl) (by kernel_rfl) (by kernel_rfl) (fun _ _ _ h=>(HNP _ _ _ h).elim) (.inl ⟨by rfl,fun W hW=>by go_simp⟩) hS ?_
 simp only [pS]
 refine anyH_take 15 (some 115) (.int .u8 0) rfl rfl (by kernel_rfl) (by kernel_rfl) (by kernel_rfl) (fun _ _ _ h=>(HNP _ _ _ h).elim) (.inl ⟨by rfl,fun W hW=>by go_simp⟩) hS ?_
 simp only [pS]
 refine anyH_take 16 (some 116) (.bool true) rfl rfl (by kernel_rfl) (by kernel_rfl) (by kernel_rfl) (fun _ _ _ h=>(HNP _ _ _ h).elim) (.inl ⟨by rfl,fun W hW=>by go_simp⟩) hS ?_
 simp only [pS]
 refine anyH_take 17 (some 117) (.bool true) rfl rfl (by kernel_rfl) (by kernel_rfl) (by kernel_rfl) (fun _ _ _ h=>(HNP _ _ _ h).elim) (.inl ⟨by rfl,fun W hW=>by go_simp⟩) hS ?_
 simp only [pS]
 refine anyH_take 18 (some 118) (.bool true) rfl rfl (by kernel_rfl) (by kernel_rfl) (by kernel_rfl) (fun _ _ _ h=>(HNP _ _ _ h).elim) (.inl ⟨by rfl,fun W hW=>by go_simp⟩) hS ?_
 simp only [pS]
 refine anyH_take 19 (some 119) (.agg #[.bool true,.int .i64 0,.int .u32 1]) rfl rfl (by kernel_rfl) (by kernel_rfl) (by kernel_rfl) (fun _ _ _ h=>(HNP _ _ _ h).elim) (.inl ⟨by rfl,fun W hW=>by have hh:New w0 W:=hW;have q0:=hh.cell d0 id;have q1:=hh.cell d1 id;have q2:=hh.cell d2 id;go_simp⟩) hS ?_
 simp only [pS]
 refine anyH_take 20 (some 120) (.agg #[.bool true,.int .i64 0,.int .u32 1]) rfl rfl (by kernel_rfl) (by kernel_rfl) (by kernel_rfl) (fun _ _ _ h=>(HNP _ _ _ h).elim) (.inl ⟨by rfl,fun W hW=>by go_simp⟩) hS ?_
 simp only [pS]
 refine anyH_take 21 (some 121) (.bool true) rfl rfl (by kernel_rfl) (by kernel_rfl) (by kernel_rfl) (fun _ _ _ h=>(HNP _ _ _ h).elim) (.inl ⟨by rfl,fun W hW=>by have q:=binop_flt true true 0 0 1 1;simp only [decide_true,Bool.and_self] at q;have q':(binOp .eql 34 (.agg #[.bool true,.int .i64 0,.int .u32 1]) (.agg #[.bool true,.int .i64 0,.int .u32 1])).run Tryz.prog W = .ok (.bool true) W:=q W;clear q;go_simp⟩) hS ?_
 simp only [pS]
 refine anyH_take 22 (some 122) (.bool true) rfl rfl (by kernel_rfl) (by kernel_rfl) (by kernel_rfl) (fun _ _ _ h=>(HNP _ _ _ h).elim) (.inl ⟨by rfl,fun W hW=>by go_simp⟩) hS ?_
 simp only [pS]
 refine anyH_take 23 (some 123) (.bool true) rfl rfl (by kernel_rfl) (by kernel_rfl) (by kernel_rfl) (fun _ _ _ h=>(HNP _ _ _ h).elim) (.inl ⟨by rfl,fun W hW=>by go_simp⟩) hS ?_
 simp only [pS]
 refine anyH_take 24 (some 124) (.bool true) rfl rfl (by kernel_rfl) (by kernel_rfl) (by kernel_rfl) (fun _ _ _ h=>(HNP _ _ _ h).elim) (.inl ⟨by rfl,fun W hW=>by go_simp⟩) hS ?_
 simp only [pS]
 refine anyH_take 25 (some 125) (.bool true) rfl rfl (by kernel_rfl) (by kernel_rfl) (by kernel_rfl) (fun _ _ _ h=>(HNP _ _ _ h).elim) (.inl ⟨by rfl,fun W hW=>by go_simp⟩) hS ?_
 simp only [pS]
 refine anyH_take 26 (some 126) (.bool true) rfl rfl (by kernel_rfl) (by kernel_rfl) (by kernel_rfl) (fun _ _ _ h=>(HNP _ _ _ h).elim) (.inl ⟨by rfl,fun W hW=>by go_simp⟩) hS ?_
 simp only [pS]
 refine anyH_take 27 (some 127) (.pointer (some ⟨P18,0,none⟩)) rfl rfl (by kernel_rfl) (by kernel_rfl) (by kernel_rfl) (fun _ _ _ h=>(HNP _ _ _ h).elim) (.inl ⟨by rfl,fun W hW=>by go_simp⟩) hS ?_
 simp only [pS]
 refine anyH_take 28 (some 128) (.int .u8 2) rfl rfl (by kernel_rfl) (by kernel_rfl) (by kernel_rfl) (fun _ _ _ h=>(HNP _ _ _ h).elim) (.inl ⟨by rfl,fun W hW=>by have hh:New w0 W:=hW;have q:=hh.cell f0 id;go_simp⟩) hS ?_
 simp only [pS]
 refine anyH_take 29 (some 129) (.bool true) rfl rfl (by kernel_rfl) (by kernel_rfl) (by kernel_rfl) (fun _ _ _ h=>(HNP _ _ _ h).elim) (.inl ⟨by rfl,fun W hW=>by go_simp⟩) hS ?_
 simp only [pS]
 refine anyH_take 30 (some 130) (.bool true) rfl rfl (by kernel_rfl) (by kernel_rfl) (by kernel_rfl) (fun _ _ _ h=>(HNP _ _ _ h).elim) (.inl ⟨by rfl,fun W hW=>by go_simp⟩) hS ?_
 simp only [pS]
 refine anyH_take 31 (some 131) (.bool true) rfl rfl (by kernel_rfl) (by kernel_rfl) (by kernel_rfl) (fun _ _ _ h=>(HNP _ _ _ h).elim) (.inl ⟨by rfl,fun W hW=>by go_simp⟩) hS ?_
 simp only [pS]
 refine anyH_take 32 (some 132) (.pointer (some ⟨P17,0,none⟩)) rfl rfl (by kernel_rfl) (by kernel_rfl) (by kernel_rfl) (fun _ _ _ h=>(HNP _ _ _ h).elim) (.inl ⟨by rfl,fun W hW=>by go_simp⟩) hS ?_
 simp only [pS]
 refine anyH_take 33 (some 133) (.int .i64 3) rfl rfl (by kernel_rfl) (by kernel_rfl) (by kernel_rfl) (fun _ _ _ h=>(HNP _ _ _ h).elim) (.inl ⟨by rfl,fun W hW=>by have hh:New w0 W:=hW;have q:=hh.cell e0 id;go_simp⟩) hS ?_
 simp only [pS]
 exact pk13b _ rfl w0 _ _ (by kernel_rfl) rfl rfl rfl rfl rfl rfl rfl rfl rfl rfl rfl rfl rfl rfl rfl rfl rfl rfl rfl hS a0 a1 b0 b1 c0 d0 d1 d2 e0 e1 f0 g1 h0 i0 HA HB HNP HQ
theorem pk13 (t:Array Value) (hs:t.size=188) (w:World) {P1 P5 P7 P16 P17 P18 P22 P25 P27 ac bc dc:Nat} {aa ba da:Option Addr}
  (hq1:t.getD 1 undef = .pointer (some ⟨P1,0,none⟩))
  (hq2:t.getD 2 undef = .int .u8 1)
  (hq5:t.getD 5 undef = .pointer (some ⟨P5,0,none⟩))
  (hq6:t.getD 6 undef = .int .u8 1)
  (hq7:t.getD 7 undef = .pointer (some ⟨P7,0,none⟩))
  (hq10:t.getD 10 undef = .int .u8 0)
  (hq16:t.getD 16 undef = .pointer (some ⟨P16,0,none⟩))
  (hq17:t.getD 17 undef = .pointer (some ⟨P17,0,none⟩))
  (hq18:t.getD 18 undef = .pointer (some ⟨P18,0,none⟩))
  (hq19:t.getD 19 undef = .bool true)
  (hq21:t.getD 21 undef = .int .u8 2)
  (hq22:t.getD 22 undef = .pointer (some ⟨P22,0,none⟩))
  (hq25:t.getD 25 undef = .pointer (some ⟨P25,0,none⟩))
  (hq26:t.getD 26 undef = .bool false)
  (hq27:t.getD 27 undef = .pointer (some ⟨P27,0,none⟩))
  (hq28:t.getD 28 undef = .bool true)
  (hq29:t.getD 29 undef = .bool true)
  (a0:w.cell? ⟨P1,0,none⟩=some (.int .i64 0)) (a1:w.cell? ⟨P1,1,none⟩=some (.slice aa 1 ac)) (b0:w.cell? ⟨P5,0,none⟩=some (.int .i64 0)) (b1:w.cell? ⟨P5,1,none⟩=some (.slice ba 1 bc)) (c0:w.cell? ⟨P7,0,none⟩=some (.int .u8 2)) (d0:w.cell? ⟨P16,0,none⟩=some (.bool true)) (d1:w.cell? ⟨P16,1,none⟩=some (.int .i64 0)) (d2:w.cell? ⟨P16,2,none⟩=some (.int .u32 1)) (e0:w.cell? ⟨P17,0,none⟩=some (.int .i64 3)) (e1:w.cell? ⟨P17,1,none⟩=some (.slice da 0 dc)) (f0:w.cell? ⟨P18,0,none⟩=some (.int .u8 2)) (g1:w.cell? ⟨P22,1,none⟩=some (.bool true)) (h0:w.cell? ⟨P25,0,none⟩=some (.int .u8 3)) (i0:w.cell? ⟨P27,0,none⟩=some (.int .u8 2))
  (HA:Hid (RdW w (.slice aa 1 ac) pwA)) (HB:Hid (RdW w (.slice ba 1 bc) pwB)) :
  reg_causeylaw24_wakes_10.wp Tryz.prog (Only fun a' W'=>(a'.tmps.size=188∧a'.defers = []∧a'.tmps.getD 0 undef = .bool true)∧New w W') ⟨t,[]⟩ w:=by
 have hd:New w w.drew:=(Mods.refl _ _).drew
 conv=>arg 2;whnf
 refine wp_region_held (S:=fun W=>New w.drew W) (by kernel_rfl) ?_
 exact pk13a t hs w.drew w.drew _ (by kernel_rfl) hq1 hq2 hq5 hq6 hq7 hq10 hq16 hq17 hq18 hq19 hq21 hq22 hq25 hq26 hq27 hq28 hq29 (Mods.refl _ _) a0 a1 b0 b1 c0 d0 d1 d2 e0 e1 f0 g1 h0 i0 (Lib.hid (HA.out.new hd)) (Lib.hid (HB.out.new hd)) (fun _ _ _ h=>h) (fun a' W' h1 h2 h3 h4=>⟨⟨h1,h2,h3⟩,hd.trans h4⟩)


theorem upd_at {l s:Int} {v:Value} {d:List WP} {T:ByteArray} {w:World} (h:RdW w v d) (hu:∀ x ∈ d,x.u < 256) (hd:d.length ≤ 1000) (hs:T.size ≤ 1000000) (hT:Tab w) {d':List WP} {what u code:Nat} {i wh:Bool} (hE:updP l d s (readP T)=(d',what,(u,i),(wh,code))) {n:Nat} (hn:d'.length=n) :
  Calls Tryz.prog 15 #[.agg #[.int .i64 l,v],.int .i64 s,.string T] w fun e w'=>∃ oa oc,e = .returned (.tuple #[.agg #[.int .i64 l,.slice oa n oc],.int .u8 what,.agg #[.int .u8 u,.bool i],.agg #[.bool wh,.int .i64 0,.int .u32 code]])∧RdW w' (.slice oa n oc) d'∧New w w' :=
 (update_p l s v d T w h hu hd hs hT).mono fun e w' ⟨v',he,hr,hN⟩=>by
  rw [hE] at he hr
  obtain ⟨oa,oc,rfl⟩:=hr.slice
  rw [hn] at he hr
  exact ⟨oa,oc,he,hr,hN⟩
theorem open_at {l s:Int} {v:Value} {d:List WP} {T:ByteArray} {has:Bool} {w:World} (h:RdW w v d) (hu:∀ x ∈ d,x.u < 256) (hd:d.length ≤ 1000) (hs:T.size ≤ 1000000) (hT:Tab w) {l':Int} {d':List WP} {u:Nat} {i y:Bool} (hE:openP l d s has (readP T)=(l',d',(u,i),y)) {n:Nat} (hn:d'.length=n) :
  Calls Tryz.prog 18 #[.agg #[.int .i64 l,v],.int .i64 s,.string T,.bool has] w fun e w'=>∃ oa oc,e = .returned (.tuple #[.agg #[.int .i64 l',.slice oa n oc],.agg #[.int .u8 u,.bool i],.bool y])∧RdW w' (.slice oa n oc) d'∧New w w' :=
 (open_p l s v d T has w h hu hd hs hT).mono fun e w' ⟨v',he,hr,hN⟩=>by
  rw [hE] at he hr
  obtain ⟨oa,oc,rfl⟩:=hr.slice
  rw [hn] at he hr
  exact ⟨oa,oc,he,hr,hN⟩
theorem alloc3 (W:World) (a b c:Obj):New W (((W.alloc a).alloc b).alloc c)∧(((W.alloc a).alloc b).alloc c).heap[W.heap.size]? = some a∧(((W.alloc a).alloc b).alloc c).heap[W.heap.size + 1]? = some b∧(((W.alloc a).alloc b).alloc c).heap[W.heap.size + 2]? = some c:=by
 have r1:=World.alloc_heap_new W a
 have r2:=World.alloc_heap_new (W.alloc a) b
 have r3:=World.alloc_heap_new ((W.alloc a).alloc b) c
 have s1:(W.alloc a).heap.size=W.heap.size + 1:=by simp
 have s2:((W.alloc a).alloc b).heap.size=W.heap.size + 2:=by simp
 rw [s1] at r2
 rw [s2] at r3
 have n2:New (W.alloc a) ((W.alloc a).alloc b):=(Mods.refl _ _).alloc _
 have n3:New ((W.alloc a).alloc b) (((W.alloc a).alloc b).alloc c):=(Mods.refl _ _).alloc _
 exact ⟨(((Mods.refl _ _).alloc _).alloc _).alloc _,n3.heap (n2.heap r1 id) id,n3.heap r2 id,r3⟩
theorem alloc2 (W:World) (a b:Obj):New W ((W.alloc a).alloc b)∧((W.alloc a).alloc b).heap[W.heap.size]? = some a∧((W.alloc a).alloc b).heap[W.heap.size + 1]? = some b:=by
 have r1:=World.alloc_heap_new W a
 have r2:=World.alloc_heap_new (W.alloc a) b
 have s1:(W.alloc a).heap.size=W.heap.size + 1:=by simp
 rw [s1] at r2
 have n2:New (W.alloc a) ((W.alloc a).alloc b):=(Mods.refl _ _).alloc _
 exact ⟨((Mods.refl _ _).alloc _).alloc _,n2.heap r1 id,r2⟩
theorem pr1:readP ⟨#[117,61,49]⟩=some (1,false):=by decide +kernel
theorem pr2:readP ⟨#[117,61,50]⟩=some (2,false):=by decide +kernel
theorem pr5:readP ⟨#[117,61,53]⟩=some (5,false):=by decide +kernel
theorem pri:readP ⟨#[105]⟩=some (3,true):=by decide +kernel
theorem pr0:readP ⟨#[]⟩=some (3,false):=by decide +kernel
theorem pu1:updP 0 [] 3 (readP ⟨#[117,61,49]⟩)=(pwA,1,(1,false),(false,0)):=by rw [pr1];decide +kernel
theorem pu2:updP 0 pwA 3 (readP ⟨#[117,61,50]⟩)=(pwB,1,(2,false),(false,0)):=by rw [pr2];decide +kernel
theorem pu3:updP 0 pwB 17 (readP ⟨#[117,61,49]⟩)=(pwB,0,(3,false),(false,0)):=by rw [pr1];decide +kernel
theorem pu4:updP 0 pwB 4 (readP ⟨#[117,61,49]⟩)=(pwB,0,(3,false),(true,1)):=by rw [pr1];decide +kernel
theorem pu5:openP 0 pwB 3 true (readP ⟨#[117,61,53]⟩)=(3,[],(2,false),true):=by rw [pr5];decide +kernel
theorem pu6:updP 3 [] 1 (readP ⟨#[105]⟩)=([],2,(3,true),(false,0)):=by rw [pri];decide +kernel
theorem pu7:openP 3 [] 3 false (readP ⟨#[]⟩)=(3,[],(3,false),false):=by rw [pr0];decide +kernel
theorem pu8:waitV (waitP 0 pwB 3) = .tuple #[.agg #[.int .u8 2,.bool false],.bool true]:=by
 rw [show waitP 0 pwB 3=some ⟨3,2,false⟩ by decide +kernel];rfl
theorem wakes_p (w:World) (hT:Tab w):Calls Tryz.prog 13 #[] w fun e w'=>e = .returned (.bool true)∧New w w':=by
 have hN:New w w:=Mods.refl _ _
 have H1:Hid (∀ W v,New w W→RdW W v []→Calls Tryz.prog 15 #[.agg #[.int .i64 0,v],.int .i64 3,.string ⟨#[117,61,49]⟩] W fun e w'=>∃ oa oc,e = .returned (.tuple #[.agg #[.int .i64 0,.slice oa 1 oc],.int .u8 1,.agg #[.int .u8 1,.bool false],.agg #[.bool false,.int .i64 0,.int .u32 0]])∧RdW w' (.slice oa 1 oc) pwA∧New W w') :=
  Lib.hid fun W v hN h=>(upd_at h (fun x hx=>by cases hx) (by decide) (by decide) (hT.new hN) pu1 rfl).mono fun e w' ⟨oa,oc,he,h1,h2⟩=>⟨oa,oc,he,h1,h2⟩
 have H2:Hid (∀ W v,New w W→RdW W v pwA→Calls Tryz.prog 15 #[.agg #[.int .i64 0,v],.int .i64 3,.string ⟨#[117,61,50]⟩] W fun e w'=>∃ oa oc,e = .returned (.tuple #[.agg #[.int .i64 0,.slice oa 1 oc],.int .u8 1,.agg #[.int .u8 2,.bool false],.agg #[.bool false,.int .i64 0,.int .u32 0]])∧RdW w' (.slice oa 1 oc) pwB∧New W w') :=
  Lib.hid fun W v hN h=>(upd_at h (bound_one (by decide)) (by decide) (by decide) (hT.new hN) pu2 rfl).mono fun e w' ⟨oa,oc,he,h1,h2⟩=>⟨oa,oc,he,h1,h2⟩
 have H3:Hid (∀ W v,New w W→RdW W v pwB→Calls Tryz.prog 15 #[.agg #[.int .i64 0,v],.int .i64 17,.string ⟨#[117,61,49]⟩] W fun e w'=>∃ oa oc,e = .returned (.tuple #[.agg #[.int .i64 0,.slice oa 1 oc],.int .u8 0,.agg #[.int .u8 3,.bool false],.agg #[.bool false,.int .i64 0,.int .u32 0]])∧RdW w' (.slice oa 1 oc) pwB∧New W w') :=
  Lib.hid fun W v hN h=>(upd_at h (bound_one (by decide)) (by decide) (by decide) (hT.new hN) pu3 rfl).mono fun e w' ⟨oa,oc,he,h1,h2⟩=>⟨oa,oc,he,h1,h2⟩
 have H4:Hid (∀ W v,New w W→RdW W v pwB→Calls Tryz.prog 15 #[.agg #[.int .i64 0,v],.int .i64 4,.string ⟨#[117,61,49]⟩] W fun e w'=>∃ oa oc,e = .returned (.tuple #[.agg #[.int .i64 0,.slice oa 1 oc],.int .u8 0,.agg #[.int .u8 3,.bool false],.agg #[.bool true,.int .i64 0,.int .u32 1]])∧RdW w' (.slice oa 1 oc) pwB∧New W w') :=
  Lib.hid fun W v hN h=>(upd_at h (bound_one (by decide)) (by decide) (by decide) (hT.new hN) pu4 rfl).mono fun e w' ⟨oa,oc,he,h1,h2⟩=>⟨oa,oc,he,h1,h2⟩
 have H5:Hid (∀ W v,New w W→RdW W v pwB→Calls Tryz.prog 18 #[.agg #[.int .i64 0,v],.int .i64 3,.string ⟨#[117,61,53]⟩,.bool true] W fun e w'=>∃ oa oc,e = .returned (.tuple #[.agg #[.int .i64 3,.slice oa 0 oc],.agg #[.int .u8 2,.bool false],.bool true])∧RdW w' (.slice oa 0 oc) []∧New W w') :=
  Lib.hid fun W v hN h=>(open_at h (bound_one (by decide)) (by decide) (by decide) (hT.new hN) pu5 rfl).mono fun e w' ⟨oa,oc,he,h1,h2⟩=>⟨oa,oc,he,h1,h2⟩
 have H6:Hid (∀ W v,New w W→RdW W v []→Calls Tryz.prog 15 #[.agg #[.int .i64 3,v],.int .i64 1,.string ⟨#[105]⟩] W fun e w'=>∃ oa oc,e = .returned (.tuple #[.agg #[.int .i64 3,.slice oa 0 oc],.int .u8 2,.agg #[.int .u8 3,.bool true],.agg #[.bool false,.int .i64 0,.int .u32 0]])∧RdW w' (.slice oa 0 oc) []∧New W w') :=
  Lib.hid fun W v hN h=>(upd_at h (fun x hx=>by cases hx) (by decide) (by decide) (hT.new hN) pu6 rfl).mono fun e w' ⟨oa,oc,he,h1,h2⟩=>⟨oa,oc,he,h1,h2⟩
 have H7:Hid (∀ W v,New w W→RdW W v []→Calls Tryz.prog 18 #[.agg #[.int .i64 3,v],.int .i64 3,.string ⟨#[]⟩,.bool false] W fun e w'=>∃ oa oc,e = .returned (.tuple #[.agg #[.int .i64 3,.slice oa 0 oc],.agg #[.int .u8 3,.bool false],.bool false])∧RdW w' (.slice oa 0 oc) []∧New W w') :=
  Lib.hid fun W v hN h=>(open_at h (fun x hx=>by cases hx) (by decide) (by decide) (hT.new hN) pu7 rfl).mono fun e w' ⟨oa,oc,he,h1,h2⟩=>⟨oa,oc,he,h1,h2⟩
 have H8:Hid (∀ W v,RdW W v pwB→Calls Tryz.prog 22 #[.agg #[.int .i64 0,v],.int .i64 3] W fun e w'=>e = .returned (.tuple #[.agg #[.int .u8 2,.bool false],.bool true])∧New W w') :=
  Lib.hid fun W v h=>(waiting_p 0 v pwB 3 W h (bound_one (by decide))).mono fun e w' ⟨he,h1⟩=>⟨by rw [he,pu8],h1⟩
 clear hT
 go_enter Tryz.func13,Tryz.ntmps13
 go_wp2_with fail
 refine (new_p _).mono ?_
 rintro e wz ⟨rfl,hk⟩
 replace hN:=hN.trans hk
 clear hk
 go_wp2_with fail
 refine (H1.out _ _ hN (RowR.nil _ _ _ _ _)).mono ?_
 rintro e wz ⟨aa,ac,rfl,HA,hk⟩
 replace hN:=hN.trans hk
 clear hk
 replace HA:=Lib.hid HA
 go_upto_region 2 with fail
 have ha:=alloc3 wz (.cells #[.int .i64 0,.slice aa 1 ac] 26) (.cells #[.int .u8 1,.bool false] 31) (.cells #[.bool false,.int .i64 0,.int .u32 0] 34)
 obtain ⟨w1,hw⟩:∃ V,(((wz.alloc (.cells #[.int .i64 0,.slice aa 1 ac] 26)).alloc (.cells #[.int .u8 1,.bool false] 31)).alloc (.cells #[.bool false,.int .i64 0,.int .u32 0] 34))=V:=⟨_,rfl⟩
 obtain ⟨B1,hB⟩:∃ b,wz.heap.size=b:=⟨_,rfl⟩
 rw [hw,hB] at ha
 simp only [hw,hB,Nat.add_assoc,Nat.reduceAdd]
 obtain ⟨hk,r1,r3,r4⟩:=ha
 clear hw hB
 replace hN:=hN.trans hk
 replace HA:=Lib.hid (HA.out.new hk)
 clear hk
 obtain ⟨⟨k0,k1⟩,-⟩:=pc_facts r1
 go_wp2_with fail
 refine (H2.out _ _ hN HA.out).mono ?_
 rintro e wz ⟨ba,bc,rfl,HB,hk⟩
 clear k0 k1
 replace hN:=hN.trans hk
 replace r1:=hk.heap r1 id
 replace r3:=hk.heap r3 id
 replace r4:=hk.heap r4 id
 replace HA:=Lib.hid (HA.out.new hk)
 clear hk
 replace HB:=Lib.hid HB
 go_upto_region 3 with fail
 have ha:=alloc3 wz (.cells #[.int .i64 0,.slice ba 1 bc] 26) (.cells #[.int .u8 2,.bool false] 31) (.cells #[.bool false,.int .i64 0,.int .u32 0] 34)
 obtain ⟨w2,hw⟩:∃ V,(((wz.alloc (.cells #[.int .i64 0,.slice ba 1 bc] 26)).alloc (.cells #[.int .u8 2,.bool false] 31)).alloc (.cells #[.bool false,.int .i64 0,.int .u32 0] 34))=V:=⟨_,rfl⟩
 obtain ⟨B5,hB⟩:∃ b,wz.heap.size=b:=⟨_,rfl⟩
 rw [hw,hB] at ha
 simp only [hw,hB,Nat.add_assoc,Nat.reduceAdd]
 obtain ⟨hk,r5,r7,r8⟩:=ha
 clear hw hB
 replace hN:=hN.trans hk
 replace r1:=hk.heap r1 id
 replace r3:=hk.heap r3 id
 replace r4:=hk.heap r4 id
 replace HA:=Lib.hid (HA.out.new hk)
 replace HB:=Lib.hid (HB.out.new hk)
 clear hk
 obtain ⟨⟨k0,k1⟩,-⟩:=pc_facts r5
 go_wp2_with fail
 refine (H3.out _ _ hN HB.out).mono ?_
 rintro e wz ⟨ca,cc,rfl,HC,hk⟩
 clear k0 k1
 replace hN:=hN.trans hk
 replace r1:=hk.heap r1 id
 replace r3:=hk.heap r3 id
 replace r4:=hk.heap r4 id
 replace r5:=hk.heap r5 id
 replace r7:=hk.heap r7 id
 replace r8:=hk.heap r8 id
 replace HA:=Lib.hid (HA.out.new hk)
 replace HB:=Lib.hid (HB.out.new hk)
 clear hk
 replace HC:=Lib.hid HC
 go_upto_region 4 with fail
 have ha:=alloc3 wz (.cells #[.int .i64 0,.slice ca 1 cc] 26) (.cells #[.int .u8 3,.bool false] 31) (.cells #[.bool false,.int .i64 0,.int .u32 0] 34)
 obtain ⟨w3,hw⟩:∃ V,(((wz.alloc (.cells #[.int .i64 0,.slice ca 1 cc] 26)).alloc (.cells #[.int .u8 3,.bool false] 31)).alloc (.cells #[.bool false,.int .i64 0,.int .u32 0] 34))=V:=⟨_,rfl⟩
 obtain ⟨B9,hB⟩:∃ b,wz.heap.size=b:=⟨_,rfl⟩
 rw [hw,hB] at ha
 simp only [hw,hB,Nat.add_assoc,Nat.reduceAdd]
 obtain ⟨hk,r9,r11,r12⟩:=ha
 clear hw hB
 replace hN:=hN.trans hk
 replace r1:=hk.heap r1 id
 replace r3:=hk.heap r3 id
 replace r4:=hk.heap r4 id
 replace r5:=hk.heap r5 id
 replace r7:=hk.heap r7 id
 replace r8:=hk.heap r8 id
 replace HA:=Lib.hid (HA.out.new hk)
 replace HB:=Lib.hid (HB.out.new hk)
 replace HC:=Lib.hid (HC.out.new hk)
 clear hk
 obtain ⟨⟨k0,k1⟩,-⟩:=pc_facts r5
 go_wp2_with fail
 refine (H4.out _ _ hN HB.out).mono ?_
 rintro e wz ⟨xa,xc,rfl,-,hk⟩
 clear k0 k1
 replace hN:=hN.trans hk
 replace r1:=hk.heap r1 id
 replace r3:=hk.heap r3 id
 replace r4:=hk.heap r4 id
 replace r5:=hk.heap r5 id
 replace r7:=hk.heap r7 id
 replace r8:=hk.heap r8 id
 replace r9:=hk.heap r9 id
 replace r11:=hk.heap r11 id
 replace r12:=hk.heap r12 id
 replace HA:=Lib.hid (HA.out.new hk)
 replace HB:=Lib.hid (HB.out.new hk)
 replace HC:=Lib.hid (HC.out.new hk)
 clear hk
 go_upto_region 5 with fail
 have ha:=alloc3 wz (.cells #[.int .i64 0,.slice xa 1 xc] 26) (.cells #[.int .u8 3,.bool false] 31) (.cells #[.bool true,.int .i64 0,.int .u32 1] 34)
 obtain ⟨w4,hw⟩:∃ V,(((wz.alloc (.cells #[.int .i64 0,.slice xa 1 xc] 26)).alloc (.cells #[.int .u8 3,.bool false] 31)).alloc (.cells #[.bool true,.int .i64 0,.int .u32 1] 34))=V:=⟨_,rfl⟩
 obtain ⟨B13,hB⟩:∃ b,wz.heap.size=b:=⟨_,rfl⟩
 rw [hw,hB] at ha
 simp only [hw,hB,Nat.add_assoc,Nat.reduceAdd]
 obtain ⟨hk,r13,r15,r16⟩:=ha
 clear hw hB
 replace hN:=hN.trans hk
 replace r1:=hk.heap r1 id
 replace r3:=hk.heap r3 id
 replace r4:=hk.heap r4 id
 replace r5:=hk.heap r5 id
 replace r7:=hk.heap r7 id
 replace r8:=hk.heap r8 id
 replace r9:=hk.heap r9 id
 replace r11:=hk.heap r11 id
 replace r12:=hk.heap r12 id
 replace HA:=Lib.hid (HA.out.new hk)
 replace HB:=Lib.hid (HB.out.new hk)
 replace HC:=Lib.hid (HC.out.new hk)
 clear hk
 obtain ⟨⟨k0,k1⟩,-⟩:=pc_facts r9
 go_wp2_with fail
 refine (H5.out _ _ hN HC.out).mono ?_
 rintro e wz ⟨da,dc,rfl,HD,hk⟩
 clear k0 k1
 replace hN:=hN.trans hk
 replace r1:=hk.heap r1 id
 replace r3:=hk.heap r3 id
 replace r4:=hk.heap r4 id
 replace r5:=hk.heap r5 id
 replace r7:=hk.heap r7 id
 replace r8:=hk.heap r8 id
 replace r9:=hk.heap r9 id
 replace r11:=hk.heap r11 id
 replace r12:=hk.heap r12 id
 replace r13:=hk.heap r13 id
 replace r15:=hk.heap r15 id
 replace r16:=hk.heap r16 id
 replace HA:=Lib.hid (HA.out.new hk)
 replace HB:=Lib.hid (HB.out.new hk)
 replace HC:=Lib.hid (HC.out.new hk)
 clear hk
 replace HD:=Lib.hid HD
 go_upto_region 6 with fail
 have ha:=alloc2 wz (.cells #[.int .i64 3,.slice da 0 dc] 26) (.cells #[.int .u8 2,.bool false] 31)
 obtain ⟨w5,hw⟩:∃ V,((wz.alloc (.cells #[.int .i64 3,.slice da 0 dc] 26)).alloc (.cells #[.int .u8 2,.bool false] 31))=V:=⟨_,rfl⟩
 obtain ⟨B17,hB⟩:∃ b,wz.heap.size=b:=⟨_,rfl⟩
 rw [hw,hB] at ha
 simp only [hw,hB,Nat.add_assoc,Nat.reduceAdd]
 obtain ⟨hk,r17,r18⟩:=ha
 clear hw hB
 replace hN:=hN.trans hk
 replace r1:=hk.heap r1 id
 replace r3:=hk.heap r3 id
 replace r4:=hk.heap r4 id
 replace r5:=hk.heap r5 id
 replace r7:=hk.heap r7 id
 replace r8:=hk.heap r8 id
 replace r9:=hk.heap r9 id
 replace r11:=hk.heap r11 id
 replace r12:=hk.heap r12 id
 replace r13:=hk.heap r13 id
 replace r15:=hk.heap r15 id
 replace r16:=hk.heap r16 id
 replace HA:=Lib.hid (HA.out.new hk)
 replace HB:=Lib.hid (HB.out.new hk)
 replace HC:=Lib.hid (HC.out.new hk)
 replace HD:=Lib.hid (HD.out.new hk)
 clear hk
 obtain ⟨⟨k0,k1⟩,-⟩:=pc_facts r17
 go_wp2_with fail
 refine (H6.out _ _ hN HD.out).mono ?_
 rintro e wz ⟨ya,yc,rfl,-,hk⟩
 clear k0 k1
 replace hN:=hN.trans hk
 replace r1:=hk.heap r1 id
 replace r3:=hk.heap r3 id
 replace r4:=hk.heap r4 id
 replace r5:=hk.heap r5 id
 replace r7:=hk.heap r7 id
 replace r8:=hk.heap r8 id
 replace r9:=hk.heap r9 id
 replace r11:=hk.heap r11 id
 replace r12:=hk.heap r12 id
 replace r13:=hk.heap r13 id
 replace r15:=hk.heap r15 id
 replace r16:=hk.heap r16 id
 replace r17:=hk.heap r17 id
 replace r18:=hk.heap r18 id
 replace HA:=Lib.hid (HA.out.new hk)
 replace HB:=Lib.hid (HB.out.new hk)
 replace HC:=Lib.hid (HC.out.new hk)
 replace HD:=Lib.hid (HD.out.new hk)
 clear hk
 go_upto_region 7 with fail
 have ha:=alloc3 wz (.cells #[.int .i64 3,.slice ya 0 yc] 26) (.cells #[.int .u8 3,.bool true] 31) (.cells #[.bool false,.int .i64 0,.int .u32 0] 34)
 obtain ⟨w6,hw⟩:∃ V,(((wz.alloc (.cells #[.int .i64 3,.slice ya 0 yc] 26)).alloc (.cells #[.int .u8 3,.bool true] 31)).alloc (.cells #[.bool false,.int .i64 0,.int .u32 0] 34))=V:=⟨_,rfl⟩
 obtain ⟨B20,hB⟩:∃ b,wz.heap.size=b:=⟨_,rfl⟩
 rw [hw,hB] at ha
 simp only [hw,hB,Nat.add_assoc,Nat.reduceAdd]
 obtain ⟨hk,r20,r22,r23⟩:=ha
 clear hw hB
 replace hN:=hN.trans hk
 replace r1:=hk.heap r1 id
 replace r3:=hk.heap r3 id
 replace r4:=hk.heap r4 id
 replace r5:=hk.heap r5 id
 replace r7:=hk.heap r7 id
 replace r8:=hk.heap r8 id
 replace r9:=hk.heap r9 id
 replace r11:=hk.heap r11 id
 replace r12:=hk.heap r12 id
 replace r13:=hk.heap r13 id
 replace r15:=hk.heap r15 id
 replace r16:=hk.heap r16 id
 replace r17:=hk.heap r17 id
 replace r18:=hk.heap r18 id
 replace HA:=Lib.hid (HA.out.new hk)
 replace HB:=Lib.hid (HB.out.new hk)
 replace HC:=Lib.hid (HC.out.new hk)
 replace HD:=Lib.hid (HD.out.new hk)
 clear hk
 obtain ⟨⟨k0,k1⟩,-⟩:=pc_facts r17
 go_wp2_with fail
 refine (H7.out _ _ hN HD.out).mono ?_
 rintro e wz ⟨za,zc,rfl,-,hk⟩
 clear k0 k1
 replace hN:=hN.trans hk
 replace r1:=hk.heap r1 id
 replace r3:=hk.heap r3 id
 replace r4:=hk.heap r4 id
 replace r5:=hk.heap r5 id
 replace r7:=hk.heap r7 id
 replace r8:=hk.heap r8 id
 replace r9:=hk.heap r9 id
 replace r11:=hk.heap r11 id
 replace r12:=hk.heap r12 id
 replace r13:=hk.heap r13 id
 replace r15:=hk.heap r15 id
 replace r16:=hk.heap r16 id
 replace r17:=hk.heap r17 id
 replace r18:=hk.heap r18 id
 replace r20:=hk.heap r20 id
 replace r22:=hk.heap r22 id
 replace r23:=hk.heap r23 id
 replace HA:=Lib.hid (HA.out.new hk)
 replace HB:=Lib.hid (HB.out.new hk)
 replace HC:=Lib.hid (HC.out.new hk)
 replace HD:=Lib.hid (HD.out.new hk)
 clear hk
 go_upto_region 8 with fail
 have ha:=alloc2 wz (.cells #[.int .i64 3,.slice za 0 zc] 26) (.cells #[.int .u8 3,.bool false] 31)
 obtain ⟨w7,hw⟩:∃ V,((wz.alloc (.cells #[.int .i64 3,.slice za 0 zc] 26)).alloc (.cells #[.int .u8 3,.bool false] 31))=V:=⟨_,rfl⟩
 obtain ⟨B24,hB⟩:∃ b,wz.heap.size=b:=⟨_,rfl⟩
 rw [hw,hB] at ha
 simp only [hw,hB,Nat.add_assoc,Nat.reduceAdd]
 obtain ⟨hk,r24,r25⟩:=ha
 clear hw hB
 replace hN:=hN.trans hk
 replace r1:=hk.heap r1 id
 replace r3:=hk.heap r3 id
 replace r4:=hk.heap r4 id
 replace r5:=hk.heap r5 id
 replace r7:=hk.heap r7 id
 replace r8:=hk.heap r8 id
 replace r9:=hk.heap r9 id
 replace r11:=hk.heap r11 id
 replace r12:=hk.heap r12 id
 replace r13:=hk.heap r13 id
 replace r15:=hk.heap r15 id
 replace r16:=hk.heap r16 id
 replace r17:=hk.heap r17 id
 replace r18:=hk.heap r18 id
 replace r20:=hk.heap r20 id
 replace r22:=hk.heap r22 id
 replace r23:=hk.heap r23 id
 replace HA:=Lib.hid (HA.out.new hk)
 replace HB:=Lib.hid (HB.out.new hk)
 replace HC:=Lib.hid (HC.out.new hk)
 replace HD:=Lib.hid (HD.out.new hk)
 clear hk
 obtain ⟨⟨k0,k1⟩,-⟩:=pc_facts r5
 go_wp2_with fail
 refine (H8.out _ _ HB.out).mono ?_
 rintro e wz ⟨rfl,hk⟩
 clear k0 k1
 replace hN:=hN.trans hk
 replace r1:=hk.heap r1 id
 replace r3:=hk.heap r3 id
 replace r4:=hk.heap r4 id
 replace r5:=hk.heap r5 id
 replace r7:=hk.heap r7 id
 replace r8:=hk.heap r8 id
 replace r9:=hk.heap r9 id
 replace r11:=hk.heap r11 id
 replace r12:=hk.heap r12 id
 replace r13:=hk.heap r13 id
 replace r15:=hk.heap r15 id
 replace r16:=hk.heap r16 id
 replace r17:=hk.heap r17 id
 replace r18:=hk.heap r18 id
 replace r20:=hk.heap r20 id
 replace r22:=hk.heap r22 id
 replace r23:=hk.heap r23 id
 replace r24:=hk.heap r24 id
 replace r25:=hk.heap r25 id
 replace HA:=Lib.hid (HA.out.new hk)
 replace HB:=Lib.hid (HB.out.new hk)
 replace HC:=Lib.hid (HC.out.new hk)
 replace HD:=Lib.hid (HD.out.new hk)
 clear hk
 go_upto_region 9 with fail
 have hk:New wz (wz.alloc (.cells #[.int .u8 2,.bool false] 31)):=(Mods.refl _ _).alloc _
 have r27:=World.alloc_heap_new wz (.cells #[.int .u8 2,.bool false] 31)
 obtain ⟨w8,hw⟩:∃ V,wz.alloc (.cells #[.int .u8 2,.bool false] 31)=V:=⟨_,rfl⟩
 obtain ⟨B27,hB⟩:∃ b,wz.heap.size=b:=⟨_,rfl⟩
 rw [hw] at hk r27 ⊢
 rw [hB] at r27 ⊢
 clear hw hB
 replace hN:=hN.trans hk
 replace r1:=hk.heap r1 id
 replace r3:=hk.heap r3 id
 replace r4:=hk.heap r4 id
 replace r5:=hk.heap r5 id
 replace r7:=hk.heap r7 id
 replace r8:=hk.heap r8 id
 replace r9:=hk.heap r9 id
 replace r11:=hk.heap r11 id
 replace r12:=hk.heap r12 id
 replace r13:=hk.heap r13 id
 replace r15:=hk.heap r15 id
 replace r16:=hk.heap r16 id
 replace r17:=hk.heap r17 id
 replace r18:=hk.heap r18 id
 replace r20:=hk.heap r20 id
 replace r22:=hk.heap r22 id
 replace r23:=hk.heap r23 id
 replace r24:=hk.heap r24 id
 replace r25:=hk.heap r25 id
 replace HA:=Lib.hid (HA.out.new hk)
 replace HB:=Lib.hid (HB.out.new hk)
 replace HC:=Lib.hid (HC.out.new hk)
 replace HD:=Lib.hid (HD.out.new hk)
 clear hk
 clear H1 H2 H3 H4 H5 H6 H7 H8
 have e0:=cell_of_row _ _ 0 _ _ _ r4
 have e1:=cell_of_row _ _ 1 _ _ _ r4
 have e2:=cell_of_row _ _ 2 _ _ _ r4
 simp only [List.getElem?_toArray,List.getElem?_cons_zero,List.getElem?_cons_succ] at e0 e1 e2
 have f0:=cell_of_row _ _ 0 _ _ _ r8
 have f1:=cell_of_row _ _ 1 _ _ _ r8
 have f2:=cell_of_row _ _ 2 _ _ _ r8
 simp only [List.getElem?_toArray,List.getElem?_cons_zero,List.getElem?_cons_succ] at f0 f1 f2
 have g0:=cell_of_row _ _ 0 _ _ _ r12
 have g1:=cell_of_row _ _ 1 _ _ _ r12
 have g2:=cell_of_row _ _ 2 _ _ _ r12
 simp only [List.getElem?_toArray,List.getElem?_cons_zero,List.getElem?_cons_succ] at g0 g1 g2
 have i0:=cell_of_row _ _ 0 _ _ _ r23
 have i1:=cell_of_row _ _ 1 _ _ _ r23
 have i2:=cell_of_row _ _ 2 _ _ _ r23
 simp only [List.getElem?_toArray,List.getElem?_cons_zero,List.getElem?_cons_succ] at i0 i1 i2
 have hq:=binop_flt false false 0 0 0 0
 simp only [decide_true,Bool.and_self] at hq
 go_upto_region 10 with fail
 clear e0 e1 e2 f0 f1 f2 g0 g1 g2 i0 i1 i2 hq
 have d0:=cell_of_row _ _ 0 _ _ _ r16
 have d1:=cell_of_row _ _ 1 _ _ _ r16
 have d2:=cell_of_row _ _ 2 _ _ _ r16
 simp only [List.getElem?_toArray,List.getElem?_cons_zero,List.getElem?_cons_succ] at d0 d1 d2
 refine piece (fun _=>_) (pk13 _ rfl w8 rfl rfl rfl rfl rfl rfl rfl rfl rfl rfl rfl rfl rfl rfl rfl rfl rfl (pc_facts r1).1.1 (pc_facts r1).1.2 (pc_facts r5).1.1 (pc_facts r5).1.2 (pr_facts r7).1.1 d0 d1 d2 (pc_facts r17).1.1 (pc_facts r17).1.2 (pr_facts r18).1.1 (pr_facts r22).1.2 (pr_facts r25).1.1 (pr_facts r27).1.1 HA HB) ?_
 rintro ⟨z,dfs⟩ w10 ⟨⟨hs,hd,hq0⟩,hN10⟩
 simp only at hs hd hq0
 subst hd
 obtain ⟨u,rfl⟩:=lit188 z hs
 have hp0:u 0 = .bool true:=hq0
 rw [hp0]
 clear hp0 hq0 hs
 go_wp2_with fail
 go_ret
 exact ⟨rfl,hN.trans hN10⟩


theorem digit_r:PredB 127 #[] Bare.digB:=by
 intro c w
 unfold Bare.digB
 obtain ⟨n,hn⟩:∃ n,c.toNat=n:=⟨_,rfl⟩
 rw [hn]
 clear hn
 by_cases h1:48 ≤ n
 ·by_cases h2:n ≤ 57
  ·go_enter Tryz.func127,Tryz.ntmps127
   go_wp2_with fail
   go_ret
   refine ⟨congrArg (fun b=>Ending.returned (.bool b)) ?_,rfl⟩
   rw [Bool.eq_iff_iff]
   first | done | (simp;done) | (simp;omega) | (constructor <;> intro h <;> simp_all <;> omega)
  ·go_enter Tryz.func127,Tryz.ntmps127
   go_wp2_with fail
   go_ret
   refine ⟨congrArg (fun b=>Ending.returned (.bool b)) ?_,rfl⟩
   rw [Bool.eq_iff_iff]
   first | done | (simp;done) | (simp;omega) | (constructor <;> intro h <;> simp_all <;> omega)
 ·go_enter Tryz.func127,Tryz.ntmps127
  go_wp2_with fail
  go_ret
  refine ⟨congrArg (fun b=>Ending.returned (.bool b)) ?_,rfl⟩
  rw [Bool.eq_iff_iff]
  first | done | (simp;done) | (simp;omega) | (constructor <;> intro h <;> simp_all <;> omega)
theorem letter_r:PredB 126 #[] Bare.letB:=by
 intro c w
 unfold Bare.letB
 obtain ⟨n,hn⟩:∃ n,c.toNat=n:=⟨_,rfl⟩
 rw [hn]
 clear hn
 have hcase:(97 ≤ n∧n ≤ 122) ∨ (97 ≤ n∧122 < n) ∨ (n < 97∧90 < n) ∨ (65 ≤ n∧n ≤ 90) ∨ n < 65:=by omega
 rcases hcase with ⟨h1,h2⟩ | ⟨h1,h2⟩ | ⟨h1,h2⟩ | ⟨h1,h2⟩ | h1
 all_goals
  go_enter Tryz.func126,Tryz.ntmps126
  go_wp2_with fail
  go_ret
  refine ⟨congrArg (fun b=>Ending.returned (.bool b)) ?_,rfl⟩
  rw [Bool.eq_iff_iff]
  first | done | (simp;done) | (simp;omega) | (constructor <;> intro h <;> simp_all <;> omega)
theorem mark_r:PredB 128 #[] (fun c=>Bare.marks.contains c):=by
 intro c w
 obtain ⟨r,hr⟩:∃ r,Bare.marks.contains c=r:=⟨_,rfl⟩
 have hy:∀ k,k < 17→gb (tx Bare.marks) k=c→r=true:=fun k hk hg=>by
  rw [← hr,← hg,List.contains_iff_mem]
  have:=gb_get (tx Bare.marks) k hk
  rw [bl_tx] at this
  exact List.mem_of_getElem? this
 have hn:(∀ k,k < 17→gb (tx Bare.marks) k ≠ c)→r=false:=fun h=>by
  rw [← hr,Bool.eq_false_iff]
  intro hc
  rw [List.contains_iff_mem] at hc
  obtain ⟨k,hk⟩:=List.mem_iff_getElem?.1 hc
  have hk1:k < 17:=(List.getElem?_eq_some_iff.1 hk).1
  have:=gb_get (tx Bare.marks) k hk1
  rw [bl_tx,hk] at this
  exact h k hk1 (Option.some.inj this).symm
 show Calls _ _ (#[Value.int .u8 (c.toNat:Nat)] ++ #[]) w fun e w'=>e = .returned (.bool (Bare.marks.contains c))∧w'=w
 rw [hr]
 clear hr
 have hi:∀ k,k < 17→∀ W,(Instr.index 9 (.string ⟨#[33,35,36,37,38,39,42,43,45,46,94,95,96,124,126,58,47]⟩) (.int .i64 (k:Nat))).run Tryz.prog W = .ok (.int .u8 ((gb (tx Bare.marks) k).toNat:Nat)) W:=fun k hk=>run_idx (tx Bare.marks) k hk
 go_enter Tryz.func128,Tryz.ntmps128
 go_wp2_with fail
 go_loop [4] (fun c'=>∃ k:Nat,k ≤ 17∧c' = .int .i64 k∧Hid (∀ j,j < k→gb (tx Bare.marks) j ≠ c)) (fun c=>17 - (intOf c).toNat)
 case atStart=>exact ⟨0,Nat.zero_le _,rfl,Lib.hid fun i hi=>by omega⟩
 case round =>
  obtain ⟨k,hk,rfl,hbef⟩:=hrel
  by_cases hlt:k < 17
  ·have hix:=hi k hlt
   have hnext:gb (tx Bare.marks) k ≠ c→Hid (∀ j,j < k + 1→gb (tx Bare.marks) j ≠ c):=fun hg=>Lib.hid fun i hi=>by
    by_cases hik:i < k
    ·exact hbef.out i hik
    ·obtain rfl:i=k:=by omega
     exact hg
   have hstop:=hy k hlt
   by_cases hg:gb (tx Bare.marks) k=c
   ·have hh:=hstop hg
    rw [hg] at hix
    clear hnext hstop hg hbef hi hy hn
    subst hh
    obtain ⟨n,hn⟩:∃ n,c.toNat=n:=⟨_,rfl⟩
    rw [hn] at hix ⊢
    go_wp2_with fail
    go_ret
    exact ⟨rfl,rfl⟩
   ·have hh:=hnext hg
    have hne:((gb (tx Bare.marks) k).toNat:Int) ≠ (c.toNat:Int):=fun e=>hg (UInt8.toNat_inj.1 (Int.ofNat_inj.1 e))
    obtain ⟨m,hm⟩:∃ m,(gb (tx Bare.marks) k).toNat=m:=⟨_,rfl⟩
    rw [hm] at hix hne
    obtain ⟨n,hn⟩:∃ n,c.toNat=n:=⟨_,rfl⟩
    rw [hn] at hne ⊢
    have heq:((m:Int) == (n:Int))=false:=by simpa using hne
    clear hnext hstop hg hbef hi hy hm hne
    go_wp2_with fail
    go_round
    case rel=>exact ⟨k + 1,by omega,by go_num,hh⟩
    case measure=>simp [intOf];omega
  ·obtain rfl:k=17:=by omega
   have hh:=hn hbef.out
   clear hi hy hn hbef
   subst hh
   go_wp2_with fail
   go_ret
   exact ⟨rfl,rfl⟩


theorem run_r (s:ByteArray) (w:World) (hs:s.size ≤ 9223372036854775807) :
  Calls Tryz.prog 200 #[.string s] w fun e w'=>e = .returned (.int .i64 (((bl s).takeWhile Bare.digB).length:Nat))∧w'=w:=by
 have HB:=Lib.hid (Bare.while_at Bare.digB (bl s))
 obtain ⟨r,hr⟩:∃ r,((bl s).takeWhile Bare.digB).length=r:=⟨_,rfl⟩
 rw [hr] at HB ⊢
 clear hr
 go_enter Tryz.func200,Tryz.ntmps200
 go_wp2_with fail
 go_loop [3] (fun c=>∃ k:Nat,k ≤ s.size∧c = .int .i64 k∧Hid (∀ j,j < k→Bare.digB (gb s j)=true)) (fun c=>s.size - (intOf c).toNat)
 case atStart=>exact ⟨0,Nat.zero_le _,rfl,Lib.hid fun i hi=>by omega⟩
 case round =>
  obtain ⟨k,hk,rfl,hbef⟩:=hrel
  by_cases hlt:k < s.size
  ·have hix:=run_idx s k hlt
   have HP:=Lib.hid (digit_r (gb s k))
   obtain ⟨T,hT⟩:∃ x,Bare.digB (gb s k)=x:=⟨_,rfl⟩
   have hnext:T=true→Hid (∀ j,j < k + 1→Bare.digB (gb s j)=true):=fun hg=>Lib.hid fun i hi=>by
    by_cases hik:i < k
    ·exact hbef.out i hik
    ·obtain rfl:i=k:=by omega
     rw [hT];exact hg
   have hstop:T=false→r=k:=fun hg=>by
    refine HB.out k (by rw [bl_len];exact hk) (fun j hj c hc=>?_) (fun c hc=>?_)
    ·obtain ⟨_,rfl⟩:=get_gb hc
     exact hbef.out j hj
    ·obtain ⟨_,rfl⟩:=get_gb hc
     rw [hT];exact hg
   rw [hT] at HP
   obtain ⟨n,hn⟩:∃ x,(gb s k).toNat=x:=⟨_,rfl⟩
   rw [hn] at HP hix
   clear hT hn hbef
   cases T with
   | true =>
    have hh:=hnext rfl
    clear hnext hstop
    go_wp2_with (go_at_call 127;refine (HP.out _).mono ?_;rintro e w' ⟨rfl,rfl⟩)
    go_round
    case rel=>exact ⟨k + 1,by omega,by go_num,hh⟩
    case measure=>simp [intOf];omega
   | false =>
    have hh:=hstop rfl
    clear hnext hstop
    subst hh
    go_wp2_with (go_at_call 127;refine (HP.out _).mono ?_;rintro e w' ⟨rfl,rfl⟩)
    go_ret
    exact ⟨rfl,rfl⟩
  ·obtain rfl:k=s.size:=by omega
   have hh:=HB.out s.size (by rw [bl_len];exact Nat.le_refl _) (fun j hj c hc=>by obtain ⟨_,rfl⟩:=get_gb hc;exact hbef.out j hj) (fun c hc=>by obtain ⟨h1,_⟩:=get_gb hc;omega)
   clear HB hbef
   subst hh
   go_wp2_with fail
   go_ret
   exact ⟨rfl,rfl⟩
theorem val_take (s:ByteArray) (k:Nat) (h:k < s.size):Bare.valD ((bl s).take (k + 1))=Bare.valD ((bl s).take k) * 10 + ((gb s k).toNat - 48):=by
 have:=gb_get s k h
 rw [List.take_add_one,this]
 unfold Bare.valD
 rw [List.foldl_append]
 rfl
theorem value_r (s:ByteArray) (w:World) (hs:s.size ≤ 18) (hd:(bl s).all Bare.digB=true) :
  Calls Tryz.prog 201 #[.string s] w fun e w'=>e = .returned (.int .i64 (Bare.valD (bl s):Nat))∧w'=w:=by
 have HV:∀ k,k ≤ s.size→Bare.valD ((bl s).take k) < 1000000000000000000:=fun k hk=>by
  have h1:=Bare.valD_lt (l:=(bl s).take k) (List.all_eq_true.2 fun c hc=>List.all_eq_true.1 hd c (List.mem_of_mem_take hc))
  have h2:((bl s).take k).length ≤ 18:=by rw [List.length_take];omega
  have h3:=Nat.pow_le_pow_right (show 1 ≤ 10 by decide) h2
  exact Nat.lt_of_lt_of_le h1 h3
 have HG:∀ k,k < s.size→48 ≤ (gb s k).toNat∧(gb s k).toNat ≤ 57:=fun k hk=>by
  have:=List.all_eq_true.1 hd (gb s k) (List.mem_of_getElem? (gb_get s k hk))
  unfold Bare.digB at this
  simpa using this
 have HS:=Lib.hid (fun k h=>val_take s k h)
 have hend:(bl s).take s.size=bl s:=by rw [← bl_len];exact List.take_length
 obtain ⟨V,hV⟩:∃ v,Bare.valD (bl s)=v:=⟨_,rfl⟩
 replace hend:Bare.valD ((bl s).take s.size)=V:=by rw [hend,hV]
 rw [hV]
 clear hV
 replace hend:=Lib.hid hend
 replace HV:=Lib.hid HV
 replace HG:=Lib.hid HG
 clear hd
 go_enter Tryz.func201,Tryz.ntmps201
 go_wp2_with fail
 go_loop [3,4] (fun v c=>∃ k N:Nat,k ≤ s.size∧c = .int .i64 k∧v = .int .i64 N∧Hid (N=Bare.valD ((bl s).take k))) (fun _ c=>s.size - (intOf c).toNat)
 case atStart=>exact ⟨0,0,Nat.zero_le _,rfl,rfl,Lib.hid rfl⟩
 case round =>
  obtain ⟨k,N,hk,rfl,rfl,hN⟩:=hrel
  by_cases hlt:k < s.size
  ·have hix:=run_idx s k hlt
   have hN1:=HV.out k hk
   rw [← hN.out] at hN1
   have hN2:=HV.out (k + 1) hlt
   have hS:=HS.out k hlt
   rw [← hN.out] at hS
   obtain ⟨hg1,hg2⟩:=HG.out k hlt
   obtain ⟨c,hc⟩:∃ c,(gb s k).toNat=c:=⟨_,rfl⟩
   rw [hc] at hix hS hg1 hg2
   rw [hS] at hN2
   have hS:Hid (N * 10 + (c - 48)=Bare.valD ((bl s).take (k + 1))):=Lib.hid hS.symm
   clear hN hc
   go_wp2_with fail
   go_round
   case rel=>exact ⟨k + 1,N * 10 + (c - 48),by omega,by go_num,by first | (go_num;done) | (go_num;omega),hS⟩
   case measure=>simp [intOf];omega
  ·obtain rfl:k=s.size:=by omega
   have hN:=hN.out
   rw [hend.out] at hN
   clear HS HV HG hend
   subst hN
   go_wp2_with fail
   go_ret
   exact ⟨rfl,rfl⟩


theorem read_end0 {fn:Func} {R:Ending→World→Prop} {tmps:Array Value} {W:World} {B:Nat} {a b c d v v2:Value} (hf:fn.results = #[.cell 0 66,.tmp 1,.tmp 2]) (hp:tmps.getD 0 undef = .pointer (some ⟨B,0,none⟩)) (hq:tmps.getD 1 undef=v) (hr:tmps.getD 2 undef=v2)
  (hg:W.heap[B]? = some (.cells #[a,b,c,d] 66 (0,0))) (hR:R (.returned (.tuple #[.agg #[a,b,c,d],v,v2])) W):bodyPost Tryz.prog fn R .ret ⟨tmps,[]⟩ W :=
 bodyPost_ret (results_row3 (p:=0) (q:=1) (r:=2) hf tmps W B 66 #[a,b,c,d] (0,0) _ hp hg Tryz.underlying66 rfl info_bare hq hr) rfl hR
theorem none_r (w:World):Calls Tryz.prog 184 #[] w (ReadP none w):=by
 unfold ReadP bv bcs noIt
 simp only
 obtain ⟨hN,hr⟩:=no_row w
 go_enter Tryz.func184,Tryz.ntmps184
 go_upto_region 1 with fail
 obtain ⟨W,hW⟩:∃ W,w.alloc (.cells #[.int .u8 0,.int .i64 0,.string ⟨#[]⟩,.bool false] 66)=W:=⟨_,rfl⟩
 rw [hW] at hN hr ⊢
 obtain ⟨B,hB⟩:∃ B,w.heap.size=B:=⟨_,rfl⟩
 have hBw:w.heap.size ≤ B:=by omega
 rw [hB] at hr ⊢
 clear hW hB
 obtain ⟨⟨c0,c1,c2,c3⟩,f0,f1,f2,f3⟩:=row_facts hr
 go_wp2_with fail
 obtain ⟨hN2,hr2⟩:=set4 hN hBw hr (.int .u8 0) (.int .i64 0) (.string ⟨#[]⟩) (.bool false)
 obtain ⟨W2,hW2⟩:∃ W2,((((W.setCell ⟨B,0,none⟩ (.int .u8 0)).setCell ⟨B,1,none⟩ (.int .i64 0)).setCell ⟨B,2,none⟩ (.string ⟨#[]⟩)).setCell ⟨B,3,none⟩ (.bool false))=W2:=⟨_,rfl⟩
 rw [hW2] at hN2 hr2 ⊢
 exact read_end0 (by kernel_rfl) rfl rfl rfl hr2 ⟨rfl,hN2⟩
end Go.Proofs.YtkiiameibdhdfaaGreatDoor
