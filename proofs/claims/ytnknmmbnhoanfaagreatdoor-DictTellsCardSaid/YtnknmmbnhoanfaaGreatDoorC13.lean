/- Texts joined. -/
import Derived.Test.YtnknmmbnhoanfaaGreatDoorC12
import Derived.Test.YtnknmmbnhoanfaaGreatDoorC09
import Derived.Test.YtnknmmbnhoanfaaGreatDoorC11
import Derived.Test.YtnknmmbnhoanfaaGreatDoorC06
import Derived.Test.YtnknmmbnhoanfaaGreatDoorC07
set_option linter.unusedSimpArgs false
set_option linter.unusedVariables false
set_option maxHeartbeats 16000000
set_option maxRecDepth 100000
namespace Go.Proofs.YtnknmmbnhoanfaaGreatDoor
open Go.RowKit Go.Shelf Go.Cs
attribute [local go_sem] Oper.semAt_some


noncomputable def reg_causeyref13_samep_6:Code:=((Tryz.f86.body.bind (regionOf 6)).getD .skip)
theorem samep6 (t:Array Value) (hs:t.size=26) (w:World) {b1 o1 b2 o2 k n m1 m2:Nat} {y:Bool} {a0 a1 a2 a3 a4 d0 d1 d2 d3 d4:Value} {x2 x3 x4 x6 x7 x8 x9 x10:Value}
  (hq0:t.getD 0 undef = .slice (some ⟨b1,o1,none⟩) n m1)
  (hq1:t.getD 1 undef = .slice (some ⟨b2,o2,none⟩) n m2)
  (hq5:t.getD 5 undef = .int .i64 k)
  (hq2:t.getD 2 undef=x2)
  (hq3:t.getD 3 undef=x3)
  (hq4:t.getD 4 undef=x4)
  (hq6:t.getD 6 undef=x6)
  (hq7:t.getD 7 undef=x7)
  (hq8:t.getD 8 undef=x8)
  (hq9:t.getD 9 undef=x9)
  (hq10:t.getD 10 undef=x10)
  (c0:w.cell? ⟨b1,o1 + k * 5,none⟩=some a0) (e0:w.cell? ⟨b2,o2 + k * 5,none⟩=some d0) (c1:w.cell? ⟨b1,o1 + k * 5 + 1,none⟩=some a1) (e1:w.cell? ⟨b2,o2 + k * 5 + 1,none⟩=some d1) (c2:w.cell? ⟨b1,o1 + k * 5 + 2,none⟩=some a2) (e2:w.cell? ⟨b2,o2 + k * 5 + 2,none⟩=some d2) (c3:w.cell? ⟨b1,o1 + k * 5 + 3,none⟩=some a3) (e3:w.cell? ⟨b2,o2 + k * 5 + 3,none⟩=some d3) (c4:w.cell? ⟨b1,o1 + k * 5 + 4,none⟩=some a4) (e4:w.cell? ⟨b2,o2 + k * 5 + 4,none⟩=some d4)
  (hk:k < n) (hq:∀ w,(binOp .neq 83 (.agg #[a0,a1,a2,a3,a4]) (.agg #[d0,d1,d2,d3,d4])).run Tryz.prog w = .ok (.bool y) w) :
  reg_causeyref13_samep_6.wp Tryz.prog (Only fun a' W'=>(a'.tmps.size=26∧a'.defers = []∧a'.tmps.getD 0 undef = .slice (some ⟨b1,o1,none⟩) n m1∧a'.tmps.getD 1 undef = .slice (some ⟨b2,o2,none⟩) n m2∧a'.tmps.getD 5 undef = .int .i64 k∧a'.tmps.getD 2 undef=x2∧a'.tmps.getD 3 undef=x3∧a'.tmps.getD 4 undef=x4∧a'.tmps.getD 6 undef=x6∧a'.tmps.getD 7 undef=x7∧a'.tmps.getD 8 undef=x8∧a'.tmps.getD 9 undef=x9∧a'.tmps.getD 10 undef=x10∧a'.tmps.getD 25 undef = .bool y)∧New w W') ⟨t,[]⟩ w:=by
 conv=>arg 2;whnf
 obtain ⟨u,rfl⟩:=lit26 t hs
 have hq0:u 0 = _:=hq0
 have hq1:u 1 = _:=hq1
 have hq5:u 5 = _:=hq5
 have hq2:u 2 = _:=hq2
 have hq3:u 3 = _:=hq3
 have hq4:u 4 = _:=hq4
 have hq6:u 6 = _:=hq6
 have hq7:u 7 = _:=hq7
 have hq8:u 8 = _:=hq8
 have hq9:u 9 = _:=hq9
 have hq10:u 10 = _:=hq10
 rw [hq0,hq1,hq5,hq2,hq3,hq4,hq6,hq7,hq8,hq9,hq10]
 clear hq0 hq1 hq5 hq2 hq3 hq4 hq6 hq7 hq8 hq9 hq10 hs
 have hS:New w w.drew:=(Mods.refl _ _).drew
 have hid:decide ((k:Int) < (n:Int))=true:=decide_eq_true (by omega)
 refine wp_region_held (S:=fun W=>New w W) (by kernel_rfl) ?_
 show wpAnyH _ _ _ _ _ 9 _ _ w.drew
 refine tkI 0 (some 17) (.slice (some ⟨b1,o1,none⟩) n m1) hS ?_
 simp only [pS]
 refine tkI 1 (some 18) (.int .i64 k) hS ?_
 simp only [pS]
 refine tkI 2 (some 19) (.pointer (some ⟨b1,o1 + k * 5,none⟩)) hS ?_
 simp only [pS]
 refine tkA 3 rfl (some 20) (.agg #[a0,a1,a2,a3,a4]) (.inl ⟨by rfl,fun W hW=>by have q0:=hW.cell c0 id;have q1:=hW.cell c1 id;have q2:=hW.cell c2 id;have q3:=hW.cell c3 id;have q4:=hW.cell c4 id;go_simp⟩) hS ?_
 simp only [pS]
 refine tkI 4 (some 21) (.slice (some ⟨b2,o2,none⟩) n m2) hS ?_
 simp only [pS]
 refine tkI 5 (some 22) (.int .i64 k) hS ?_
 simp only [pS]
 refine tkI 6 (some 23) (.pointer (some ⟨b2,o2 + k * 5,none⟩)) hS ?_
 simp only [pS]
 refine tkA 7 rfl (some 24) (.agg #[d0,d1,d2,d3,d4]) (.inl ⟨by rfl,fun W hW=>by have q0:=hW.cell e0 id;have q1:=hW.cell e1 id;have q2:=hW.cell e2 id;have q3:=hW.cell e3 id;have q4:=hW.cell e4 id;go_simp⟩) hS ?_
 simp only [pS]
 refine tkA 8 rfl (some 25) (.bool y) (.inl ⟨by rfl,fun W hW=>by have hz:=hq W;go_simp⟩) hS ?_
 simp only [pS]
 refine wpAnyH_done (by kernel_rfl) ?_ _
 exact ⟨⟨rfl,rfl,rfl,rfl,rfl,rfl,rfl,rfl,rfl,rfl,rfl,rfl,rfl,rfl⟩,hS⟩
theorem samep_r {τ τ':Bool} (v1 v2:Value) (l r:List Bare.Par) (w:World) (h1:RdP τ w v1 l) (h2:RdP τ' w v2 r) :
  Calls Tryz.prog 86 #[v1,v2] w fun e w'=>e = .returned (.bool (decide (l=r)))∧New w w':=by
 have H1:=Lib.hid h1.1
 have H2:=Lib.hid h2.1
 obtain ⟨a1,m1,rfl⟩:=h1.slice
 obtain ⟨a2,m2,rfl⟩:=h2.slice
 have hn1:l.length ≤ 281474976710656:=h1.1.1
 clear h1 h2
 have hN0:New w w:=Mods.refl _ _
 obtain ⟨n,hn⟩:∃ n,l.length=n:=⟨_,rfl⟩
 obtain ⟨n2,hn2⟩:∃ n,r.length=n:=⟨_,rfl⟩
 by_cases hnn:n=n2
 ·subst hnn
  have hdd:decide ((n:Int)=(n:Int))=true:=decide_eq_true rfl
  have HE:=Lib.hid (list_same (l:=l) (r:=r) noP (by omega))
  obtain ⟨y,hy⟩:∃ y,decide (l=r)=y:=⟨_,rfl⟩
  have HY:=Lib.hid hy
  have Hn:=Lib.hid hn
  rw [hy,hn,hn2]
  rw [hn] at H1 hn1
  rw [hn2] at H2
  clear hy hn hn2
  go_enter Tryz.func86,Tryz.ntmps86
  go_wp2_with fail
  go_loopw [5] (fun t wr=>∃ k:Nat,k ≤ n∧t = .int .i64 k∧Hid (∀ j,j < k→l.getD j noP=r.getD j noP)∧New w wr) (fun t _=>n - (intOf t).toNat)
  case atStart=>exact ⟨0,Nat.zero_le _,rfl,Lib.hid fun i hi=>by omega,hN0⟩
  case round =>
   clear hN0
   obtain ⟨k,hk,rfl,hbef,hN⟩:=hrel
   by_cases hlt:k < n
   ·have hkd:decide ((k:Int) < (n:Int))=true:=decide_eq_true (by omega)
    obtain ⟨b1,o1,rfl,hrow⟩:=(H1.out.new hN).at.2.2 k hlt
    obtain ⟨b2,o2,rfl,hrow2⟩:=(H2.out.new hN).at.2.2 k hlt
    obtain ⟨k0,k1,k2,k3,k4⟩:=cells5 hrow
    obtain ⟨q0,q1,q2,q3,q4⟩:=cells5 hrow2
    have hq:=fun w=>nbinop_param (l.getD k noP) (r.getD k noP) w
    unfold pcs at hq
    cases hp:decide (l.getD k noP=r.getD k noP) with
    | true =>
     have hh:Hid (∀ j,j < k + 1→l.getD j noP=r.getD j noP):=Lib.hid fun i hi=>by
      by_cases hik:i < k
      ·exact hbef.out i hik
      ·obtain rfl:i=k:=by omega
       exact of_decide_eq_true hp
     rw [hp] at hq
     clear hp hbef hrow hrow2
     go_upto_region 6 with fail
     refine piece (fun _=>_) (samep6 _ rfl wr rfl rfl rfl rfl rfl rfl rfl rfl rfl rfl rfl k0 q0 k1 q1 k2 q2 k3 q3 k4 q4 hlt hq) ?_
     rintro ⟨z,dfs⟩ wr2 ⟨⟨hs,hd,hq0,hq1,hq5,hq2,hq3,hq4,hq6,hq7,hq8,hq9,hq10,hq25⟩,hN2⟩
     simp only at hs hd hq0 hq1 hq5 hq2 hq3 hq4 hq6 hq7 hq8 hq9 hq10 hq25
     subst hd
     obtain ⟨u,rfl⟩:=lit26 z hs
     have hp0:u 0 = .slice (some ⟨b1,o1,none⟩) n m1:=hq0
     have hp1:u 1 = .slice (some ⟨b2,o2,none⟩) n m2:=hq1
     have hp5:u 5 = .int .i64 k:=hq5
     have hp2:u 2=undef:=hq2
     have hp3:u 3=undef:=hq3
     have hp4:u 4=u4:=hq4
     have hp6:u 6 = .slice (some ⟨b1,o1,none⟩) n m1:=hq6
     have hp7:u 7 = .int .i64 n:=hq7
     have hp8:u 8 = .slice (some ⟨b2,o2,none⟩) n m2:=hq8
     have hp9:u 9 = .int .i64 n:=hq9
     have hp10:u 10 = .bool false:=hq10
     have hp25:u 25 = .bool (!true):=hq25
     rw [hp0,hp1,hp5,hp2,hp3,hp4,hp6,hp7,hp8,hp9,hp10,hp25]
     clear hp0 hq0 hp1 hq1 hp5 hq5 hp2 hq2 hp3 hq3 hp4 hq4 hp6 hq6 hp7 hq7 hp8 hq8 hp9 hq9 hp10 hq10 hp25 hq25 hs
     have hN:=hN.trans hN2
     clear k0 k1 k2 k3 k4 q0 q1 q2 q3 q4 hN2
     go_wp2_with fail
     go_roundw
     case rel=>exact ⟨k + 1,by omega,by go_num,hh,hN⟩
     case measure=>simp [intOf];omega
    | false =>
     obtain rfl:y=false:=by
      rw [← HY.out]
      refine decide_eq_false fun e=>?_
      rw [e] at hp
      simp at hp
     rw [hp] at hq
     clear hp hbef hrow hrow2 HE
     go_upto_region 6 with fail
     refine piece (fun _=>_) (samep6 _ rfl wr rfl rfl rfl rfl rfl rfl rfl rfl rfl rfl rfl k0 q0 k1 q1 k2 q2 k3 q3 k4 q4 hlt hq) ?_
     rintro ⟨z,dfs⟩ wr2 ⟨⟨hs,hd,hq0,hq1,hq5,hq2,hq3,hq4,hq6,hq7,hq8,hq9,hq10,hq25⟩,hN2⟩
     simp only at hs hd hq0 hq1 hq5 hq2 hq3 hq4 hq6 hq7 hq8 hq9 hq10 hq25
     subst hd
     obtain ⟨u,rfl⟩:=lit26 z hs
     have hp0:u 0 = .slice (some ⟨b1,o1,none⟩) n m1:=hq0
     have hp1:u 1 = .slice (some ⟨b2,o2,none⟩) n m2:=hq1
     have hp5:u 5 = .int .i64 k:=hq5
     have hp2:u 2=undef:=hq2
     have hp3:u 3=undef:=hq3
     have hp4:u 4=u4:=hq4
     have hp6:u 6 = .slice (some ⟨b1,o1,none⟩) n m1:=hq6
     have hp7:u 7 = .int .i64 n:=hq7
     have hp8:u 8 = .slice (some ⟨b2,o2,none⟩) n m2:=hq8
     have hp9:u 9 = .int .i64 n:=hq9
     have hp10:u 10 = .bool false:=hq10
     have hp25:u 25 = .bool (!false):=hq25
     rw [hp0,hp1,hp5,hp2,hp3,hp4,hp6,hp7,hp8,hp9,hp10,hp25]
     clear hp0 hq0 hp1 hq1 hp5 hq5 hp2 hq2 hp3 hq3 hp4 hq4 hp6 hq6 hp7 hq7 hp8 hq8 hp9 hq9 hp10 hq10 hp25 hq25 hs
     have hN:=hN.trans hN2
     clear k0 k1 k2 k3 k4 q0 q1 q2 q3 q4 hN2
     go_wp2_with fail
     go_ret
     exact ⟨rfl,hN⟩
   ·have hkd:decide ((k:Int) < (n:Int))=false:=decide_eq_false (by omega)
    obtain rfl:y=true:=by
     rw [← HY.out]
     exact decide_eq_true (HE.out fun i hi=>hbef.out i (by have:=Hn.out;omega))
    clear HE hbef
    go_wp2_with fail
    go_ret
    exact ⟨rfl,hN⟩
 ·have hdd:decide ((n:Int)=(n2:Int))=false:=decide_eq_false (by omega)
  rw [show decide (l=r)=false from decide_eq_false fun e=>hnn (by rw [← hn,← hn2,e])]
  rw [hn,hn2]
  go_enter Tryz.func86,Tryz.ntmps86
  go_wp2_with fail
  go_ret
  exact ⟨rfl,hN0⟩


theorem nbinop_item (p q:Bare.It) (w:World):(binOp .neq 23 (bv p) (bv q)).run Tryz.prog w = .ok (.bool (!decide (p=q))) w:=by
 have h:=eq_item 9998 p q w
 simp only [binOp]
 unfold bv at h ⊢
 simp [Op.equal,Op.maxDepth,h]
theorem lit71 (t:Array Value) (h:t.size=71):∃ u:Nat→Value,t=(u 0::u 1::u 2::u 3::u 4::u 5::u 6::u 7::u 8::u 9::u 10::u 11::u 12::u 13::u 14::u 15::u 16::u 17::u 18::u 19::u 20::u 21::u 22::u 23::u 24::u 25::u 26::u 27::u 28::u 29::u 30::u 31::u 32::u 33::u 34::u 35::u 36::u 37::u 38::u 39::u 40::u 41::u 42::u 43::u 44::u 45::u 46::u 47::u 48::u 49::u 50::u 51::u 52::u 53::u 54::u 55::u 56::u 57::u 58::u 59::u 60::u 61::u 62::u 63::u 64::u 65::u 66::u 67::u 68::u 69::u 70::([]:List Value)).toArray:=⟨fun i=>t.getD i undef,range_lit t 71 h⟩
noncomputable def reg_causeyref13_SameMember_6:Code:=((Tryz.f28.body.bind (regionOf 6)).getD .skip)
theorem sm6true (t:Array Value) (hs:t.size=71) (w:World) {B1 B2 g1 g2 h1 h2 k n ic jc pl pc ql qc:Nat} {pa qa:Option Addr} {a0 a1 d0 d1:Int} {a2 d2:ByteArray} {a3 d3:Bool} {x0 x1 x4 x6 x7 x8 x9 x10 x11 x12 x13 x14 x15 x16 x17 x18 x19 x20 x21 x22 x23 x24 x25 x26 x27 x28 x29 x30 x31 x32 x33 x34:Value}
  (hq2:t.getD 2 undef = .pointer (some ⟨B1,0,none⟩))
  (hq3:t.getD 3 undef = .pointer (some ⟨B2,0,none⟩))
  (hq5:t.getD 5 undef = .int .i64 k)
  (hq0:t.getD 0 undef=x0)
  (hq1:t.getD 1 undef=x1)
  (hq4:t.getD 4 undef=x4)
  (hq6:t.getD 6 undef=x6)
  (hq7:t.getD 7 undef=x7)
  (hq8:t.getD 8 undef=x8)
  (hq9:t.getD 9 undef=x9)
  (hq10:t.getD 10 undef=x10)
  (hq11:t.getD 11 undef=x11)
  (hq12:t.getD 12 undef=x12)
  (hq13:t.getD 13 undef=x13)
  (hq14:t.getD 14 undef=x14)
  (hq15:t.getD 15 undef=x15)
  (hq16:t.getD 16 undef=x16)
  (hq17:t.getD 17 undef=x17)
  (hq18:t.getD 18 undef=x18)
  (hq19:t.getD 19 undef=x19)
  (hq20:t.getD 20 undef=x20)
  (hq21:t.getD 21 undef=x21)
  (hq22:t.getD 22 undef=x22)
  (hq23:t.getD 23 undef=x23)
  (hq24:t.getD 24 undef=x24)
  (hq25:t.getD 25 undef=x25)
  (hq26:t.getD 26 undef=x26)
  (hq27:t.getD 27 undef=x27)
  (hq28:t.getD 28 undef=x28)
  (hq29:t.getD 29 undef=x29)
  (hq30:t.getD 30 undef=x30)
  (hq31:t.getD 31 undef=x31)
  (hq32:t.getD 32 undef=x32)
  (hq33:t.getD 33 undef=x33)
  (hq34:t.getD 34 undef=x34)
  (cB:w.cell? ⟨B1,2,none⟩=some (.slice (some ⟨g1,h1,none⟩) n ic)) (eB:w.cell? ⟨B2,2,none⟩=some (.slice (some ⟨g2,h2,none⟩) n jc)) (c0:w.cell? ⟨g1,h1 + k * 5,none⟩=some (.int .u8 a0)) (e0:w.cell? ⟨g2,h2 + k * 5,none⟩=some (.int .u8 d0)) (c1:w.cell? ⟨g1,h1 + k * 5 + 1,none⟩=some (.int .i64 a1)) (e1:w.cell? ⟨g2,h2 + k * 5 + 1,none⟩=some (.int .i64 d1)) (c2:w.cell? ⟨g1,h1 + k * 5 + 2,none⟩=some (.string a2)) (e2:w.cell? ⟨g2,h2 + k * 5 + 2,none⟩=some (.string d2)) (c3:w.cell? ⟨g1,h1 + k * 5 + 3,none⟩=some (.bool a3)) (e3:w.cell? ⟨g2,h2 + k * 5 + 3,none⟩=some (.bool d3)) (c4:w.cell? ⟨g1,h1 + k * 5 + 4,none⟩=some (.slice pa pl pc)) (e4:w.cell? ⟨g2,h2 + k * 5 + 4,none⟩=some (.slice qa ql qc))
  (hid:decide ((k:Int) < (n:Int))=true) (hkn:k < n) (hq:∀ w,(binOp .neq 23 (.agg #[.int .u8 a0,.int .i64 a1,.string a2,.bool a3]) (.agg #[.int .u8 d0,.int .i64 d1,.string d2,.bool d3])).run Tryz.prog w = .ok (.bool true) w) :
  reg_causeyref13_SameMember_6.wp Tryz.prog (Only fun a' W'=>(a'.tmps.size=71∧a'.defers = []∧a'.tmps.getD 2 undef = .pointer (some ⟨B1,0,none⟩)∧a'.tmps.getD 3 undef = .pointer (some ⟨B2,0,none⟩)∧a'.tmps.getD 5 undef = .int .i64 k∧a'.tmps.getD 0 undef=x0∧a'.tmps.getD 1 undef=x1∧a'.tmps.getD 4 undef=x4∧a'.tmps.getD 6 undef=x6∧a'.tmps.getD 7 undef=x7∧a'.tmps.getD 8 undef=x8∧a'.tmps.getD 9 undef=x9∧a'.tmps.getD 10 undef=x10∧a'.tmps.getD 11 undef=x11∧a'.tmps.getD 12 undef=x12∧a'.tmps.getD 13 undef=x13∧a'.tmps.getD 14 undef=x14∧a'.tmps.getD 15 undef=x15∧a'.tmps.getD 16 undef=x16∧a'.tmps.getD 17 undef=x17∧a'.tmps.getD 18 undef=x18∧a'.tmps.getD 19 undef=x19∧a'.tmps.getD 20 undef=x20∧a'.tmps.getD 21 undef=x21∧a'.tmps.getD 22 undef=x22∧a'.tmps.getD 23 undef=x23∧a'.tmps.getD 24 undef=x24∧a'.tmps.getD 25 undef=x25∧a'.tmps.getD 26 undef=x26∧a'.tmps.getD 27 undef=x27∧a'.tmps.getD 28 undef=x28∧a'.tmps.getD 29 undef=x29∧a'.tmps.getD 30 undef=x30∧a'.tmps.getD 31 undef=x31∧a'.tmps.getD 32 undef=x32∧a'.tmps.getD 33 undef=x33∧a'.tmps.getD 34 undef=x34∧a'.tmps.getD 70 undef = .bool true)∧New w W') ⟨t,[]⟩ w:=by
 conv=>arg 2;whnf
 obtain ⟨u,rfl⟩:=lit71 t hs
 have hq2:u 2 = _:=hq2
 have hq3:u 3 = _:=hq3
 have hq5:u 5 = _:=hq5
 have hq0:u 0 = _:=hq0
 have hq1:u 1 = _:=hq1
 have hq4:u 4 = _:=hq4
 have hq6:u 6 = _:=hq6
 have hq7:u 7 = _:=hq7
 have hq8:u 8 = _:=hq8
 have hq9:u 9 = _:=hq9
 have hq10:u 10 = _:=hq10
 have hq11:u 11 = _:=hq11
 have hq12:u 12 = _:=hq12
 have hq13:u 13 = _:=hq13
 have hq14:u 14 = _:=hq14
 have hq15:u 15 = _:=hq15
 have hq16:u 16 = _:=hq16
 have hq17:u 17 = _:=hq17
 have hq18:u 18 = _:=hq18
 have hq19:u 19 = _:=hq19
 have hq20:u 20 = _:=hq20
 have hq21:u 21 = _:=hq21
 have hq22:u 22 = _:=hq22
 have hq23:u 23 = _:=hq23
 have hq24:u 24 = _:=hq24
 have hq25:u 25 = _:=hq25
 have hq26:u 26 = _:=hq26
 have hq27:u 27 = _:=hq27
 have hq28:u 28 = _:=hq28
 have hq29:u 29 = _:=hq29
 have hq30:u 30 = _:=hq30
 have hq31:u 31 = _:=hq31
 have hq32:u 32 = _:=hq32
 have hq33:u 33 = _:=hq33
 have hq34:u 34 = _:=hq34
 rw [hq2,hq3,hq5,hq0,hq1,hq4,hq6,hq7,hq8,hq9,hq10,hq11,hq12,hq13,hq14,hq15,hq16,hq17,hq18,hq19,hq20,hq21,hq22,hq23,hq24,hq25,hq26,hq27,hq28,hq29,hq30,hq31,hq32,hq33,hq34]
 clear hq2 hq3 hq5 hq0 hq1 hq4 hq6 hq7 hq8 hq9 hq10 hq11 hq12 hq13 hq14 hq15 hq16 hq17 hq18 hq19 hq20 hq21 hq22 hq23 hq24 hq25 hq26 hq27 hq28 hq29 hq30 hq31 hq32 hq33 hq34 hs
 refine wp_region_held (S:=fun W=>New w W) (by kernel_rfl) ?_
 show wpAnyH _ _ _ _ _ 29 _ _ w.drew
 have hN:New w w.drew:=(Mods.refl _ _).drew
 have hS:New w w.drew:=(Mods.refl _ _).drew
 refine tkI 0 (some 42) (.pointer (some ⟨B1,2,none⟩)) hS ?_
 simp only [pS]
 refine tkA 1 rfl (some 43) (.slice (some ⟨g1,h1,none⟩) n ic) (.inl ⟨by rfl,fun W hW=>by have q:=hW.cell cB id;go_simp⟩) hS ?_
 simp only [pS]
 refine tkI 2 (some 44) (.int .i64 k) hS ?_
 simp only [pS]
 refine tkI 3 (some 45) (.pointer (some ⟨g1,h1 + k * 5,none⟩)) hS ?_
 simp only [pS]
 refine tkI 4 (some 46) (.pointer (some ⟨g1,h1 + k * 5,none⟩)) hS ?_
 simp only [pS]
 refine tkA 5 rfl (some 47) (.agg #[.int .u8 a0,.int .i64 a1,.string a2,.bool a3]) (.inl ⟨by rfl,fun W hW=>by have q0:=hW.cell c0 id;have q1:=hW.cell c1 id;have q2:=hW.cell c2 id;have q3:=hW.cell c3 id;go_simp⟩) hS ?_
 simp only [pS]
 refine tkI 6 (some 48) (.pointer (some ⟨B2,2,none⟩)) hS ?_
 simp only [pS]
 refine tkA 7 rfl (some 49) (.slice (some ⟨g2,h2,none⟩) n jc) (.inl ⟨by rfl,fun W hW=>by have q:=hW.cell eB id;go_simp⟩) hS ?_
 simp only [pS]
 refine tkI 8 (some 50) (.int .i64 k) hS ?_
 simp only [pS]
 refine tkI 9 (some 51) (.pointer (some ⟨g2,h2 + k * 5,none⟩)) hS ?_
 simp only [pS]
 refine tkI 10 (some 52) (.pointer (some ⟨g2,h2 + k * 5,none⟩)) hS ?_
 simp only [pS]
 refine tkA 11 rfl (some 53) (.agg #[.int .u8 d0,.int .i64 d1,.string d2,.bool d3]) (.inl ⟨by rfl,fun W hW=>by have q0:=hW.cell e0 id;have q1:=hW.cell e1 id;have q2:=hW.cell e2 id;have q3:=hW.cell e3 id;go_simp⟩) hS ?_
 simp only [pS]
 refine tkA 12 rfl (some 54) (.bool true) (.inl ⟨by rfl,fun W hW=>by have hz:=hq W;go_simp⟩) hS ?_
 simp only [pS]
 refine tkI 13 (some 55) (.bool true) hS ?_
 simp only [pS]
 refine tkU 14 (some 56) hS ?_
 simp only [pS]
 refine tkU 15 (some 57) hS ?_
 simp only [pS]
 refine tkU 16 (some 58) hS ?_
 simp only [pS]
 refine tkU 17 (some 59) hS ?_
 simp only [pS]
 refine tkU 18 (some 60) hS ?_
 simp only [pS]
 refine tkU 19 (some 61) hS ?_
 simp only [pS]
 refine tkU 20 (some 62) hS ?_
 simp only [pS]
 refine tkU 21 (some 63) hS ?_
 simp only [pS]
 refine tkU 22 (some 64) hS ?_
 simp only [pS]
 refine tkU 23 (some 65) hS ?_
 simp only [pS]
 refine tkU 24 (some 66) hS ?_
 simp only [pS]
 refine tkU 25 (some 67) hS ?_
 simp only [pS]
 refine tkU 26 (some 68) hS ?_
 simp only [pS]
 refine tkU 27 (some 69) hS ?_
 simp only [pS]
 refine tkI 28 (some 70) (.bool true) hS ?_
 simp only [pS]
 refine wpAnyH_done (by kernel_rfl) ?_ _
 exact ⟨⟨rfl,rfl,rfl,rfl,rfl,rfl,rfl,rfl,rfl,rfl,rfl,rfl,rfl,rfl,rfl,rfl,rfl,rfl,rfl,rfl,rfl,rfl,rfl,rfl,rfl,rfl,rfl,rfl,rfl,rfl,rfl,rfl,rfl,rfl,rfl,rfl,rfl,rfl⟩,hN⟩
theorem sm6false (t:Array Value) (hs:t.size=71) (w:World) {B1 B2 g1 g2 h1 h2 k n ic jc pl pc ql qc:Nat} {pa qa:Option Addr} {a0 a1 d0 d1:Int} {a2 d2:ByteArray} {a3 d3:Bool} {r:Bool} {x0 x1 x4 x6 x7 x8 x9 x10 x11 x12 x13 x14 x15 x16 x17 x18 x19 x20 x21 x22 x23 x24 x25 x26 x27 x28 x29 x30 x31 x32 x33 x34:Value}
  (hq2:t.getD 2 undef = .pointer (some ⟨B1,0,none⟩))
  (hq3:t.getD 3 undef = .pointer (some ⟨B2,0,none⟩))
  (hq5:t.getD 5 undef = .int .i64 k)
  (hq0:t.getD 0 undef=x0)
  (hq1:t.getD 1 undef=x1)
  (hq4:t.getD 4 undef=x4)
  (hq6:t.getD 6 undef=x6)
  (hq7:t.getD 7 undef=x7)
  (hq8:t.getD 8 undef=x8)
  (hq9:t.getD 9 undef=x9)
  (hq10:t.getD 10 undef=x10)
  (hq11:t.getD 11 undef=x11)
  (hq12:t.getD 12 undef=x12)
  (hq13:t.getD 13 undef=x13)
  (hq14:t.getD 14 undef=x14)
  (hq15:t.getD 15 undef=x15)
  (hq16:t.getD 16 undef=x16)
  (hq17:t.getD 17 undef=x17)
  (hq18:t.getD 18 undef=x18)
  (hq19:t.getD 19 undef=x19)
  (hq20:t.getD 20 undef=x20)
  (hq21:t.getD 21 undef=x21)
  (hq22:t.getD 22 undef=x22)
  (hq23:t.getD 23 undef=x23)
  (hq24:t.getD 24 undef=x24)
  (hq25:t.getD 25 undef=x25)
  (hq26:t.getD 26 undef=x26)
  (hq27:t.getD 27 undef=x27)
  (hq28:t.getD 28 undef=x28)
  (hq29:t.getD 29 undef=x29)
  (hq30:t.getD 30 undef=x30)
  (hq31:t.getD 31 undef=x31)
  (hq32:t.getD 32 undef=x32)
  (hq33:t.getD 33 undef=x33)
  (hq34:t.getD 34 undef=x34)
  (cB:w.cell? ⟨B1,2,none⟩=some (.slice (some ⟨g1,h1,none⟩) n ic)) (eB:w.cell? ⟨B2,2,none⟩=some (.slice (some ⟨g2,h2,none⟩) n jc)) (c0:w.cell? ⟨g1,h1 + k * 5,none⟩=some (.int .u8 a0)) (e0:w.cell? ⟨g2,h2 + k * 5,none⟩=some (.int .u8 d0)) (c1:w.cell? ⟨g1,h1 + k * 5 + 1,none⟩=some (.int .i64 a1)) (e1:w.cell? ⟨g2,h2 + k * 5 + 1,none⟩=some (.int .i64 d1)) (c2:w.cell? ⟨g1,h1 + k * 5 + 2,none⟩=some (.string a2)) (e2:w.cell? ⟨g2,h2 + k * 5 + 2,none⟩=some (.string d2)) (c3:w.cell? ⟨g1,h1 + k * 5 + 3,none⟩=some (.bool a3)) (e3:w.cell? ⟨g2,h2 + k * 5 + 3,none⟩=some (.bool d3)) (c4:w.cell? ⟨g1,h1 + k * 5 + 4,none⟩=some (.slice pa pl pc)) (e4:w.cell? ⟨g2,h2 + k * 5 + 4,none⟩=some (.slice qa ql qc))
  (hid:decide ((k:Int) < (n:Int))=true) (hkn:k < n) (hq:∀ w,(binOp .neq 23 (.agg #[.int .u8 a0,.int .i64 a1,.string a2,.bool a3]) (.agg #[.int .u8 d0,.int .i64 d1,.string d2,.bool d3])).run Tryz.prog w = .ok (.bool false) w)
  (HC:Hid (∀ W,New w W→Calls Tryz.prog 86 #[.slice pa pl pc,.slice qa ql qc] W fun e w'=>e = .returned (.bool r)∧New W w')) :
  reg_causeyref13_SameMember_6.wp Tryz.prog (Only fun a' W'=>(a'.tmps.size=71∧a'.defers = []∧a'.tmps.getD 2 undef = .pointer (some ⟨B1,0,none⟩)∧a'.tmps.getD 3 undef = .pointer (some ⟨B2,0,none⟩)∧a'.tmps.getD 5 undef = .int .i64 k∧a'.tmps.getD 0 undef=x0∧a'.tmps.getD 1 undef=x1∧a'.tmps.getD 4 undef=x4∧a'.tmps.getD 6 undef=x6∧a'.tmps.getD 7 undef=x7∧a'.tmps.getD 8 undef=x8∧a'.tmps.getD 9 undef=x9∧a'.tmps.getD 10 undef=x10∧a'.tmps.getD 11 undef=x11∧a'.tmps.getD 12 undef=x12∧a'.tmps.getD 13 undef=x13∧a'.tmps.getD 14 undef=x14∧a'.tmps.getD 15 undef=x15∧a'.tmps.getD 16 undef=x16∧a'.tmps.getD 17 undef=x17∧a'.tmps.getD 18 undef=x18∧a'.tmps.getD 19 undef=x19∧a'.tmps.getD 20 undef=x20∧a'.tmps.getD 21 undef=x21∧a'.tmps.getD 22 undef=x22∧a'.tmps.getD 23 undef=x23∧a'.tmps.getD 24 undef=x24∧a'.tmps.getD 25 undef=x25∧a'.tmps.getD 26 undef=x26∧a'.tmps.getD 27 undef=x27∧a'.tmps.getD 28 undef=x28∧a'.tmps.getD 29 undef=x29∧a'.tmps.getD 30 undef=x30∧a'.tmps.getD 31 undef=x31∧a'.tmps.getD 32 undef=x32∧a'.tmps.getD 33 undef=x33∧a'.tmps.getD 34 undef=x34∧a'.tmps.getD 70 undef = .bool (!r))∧New w W') ⟨t,[]⟩ w:=by
 conv=>arg 2;whnf
 obtain ⟨u,rfl⟩:=lit71 t hs
 have hq2:u 2 = _:=hq2
 have hq3:u 3 = _:=hq3
 have hq5:u 5 = _:=hq5
 have hq0:u 0 = _:=hq0
 have hq1:u 1 = _:=hq1
 have hq4:u 4 = _:=hq4
 have hq6:u 6 = _:=hq6
 have hq7:u 7 = _:=hq7
 have hq8:u 8 = _:=hq8
 have hq9:u 9 = _:=hq9
 have hq10:u 10 = _:=hq10
 have hq11:u 11 = _:=hq11
 have hq12:u 12 = _:=hq12
 have hq13:u 13 = _:=hq13
 have hq14:u 14 = _:=hq14
 have hq15:u 15 = _:=hq15
 have hq16:u 16 = _:=hq16
 have hq17:u 17 = _:=hq17
 have hq18:u 18 = _:=hq18
 have hq19:u 19 = _:=hq19
 have hq20:u 20 = _:=hq20
 have hq21:u 21 = _:=hq21
 have hq22:u 22 = _:=hq22
 have hq23:u 23 = _:=hq23
 have hq24:u 24 = _:=hq24
 have hq25:u 25 = _:=hq25
 have hq26:u 26 = _:=hq26
 have hq27:u 27 = _:=hq27
 have hq28:u 28 = _:=hq28
 have hq29:u 29 = _:=hq29
 have hq30:u 30 = _:=hq30
 have hq31:u 31 = _:=hq31
 have hq32:u 32 = _:=hq32
 have hq33:u 33 = _:=hq33
 have hq34:u 34 = _:=hq34
 rw [hq2,hq3,hq5,hq0,hq1,hq4,hq6,hq7,hq8,hq9,hq10,hq11,hq12,hq13,hq14,hq15,hq16,hq17,hq18,hq19,hq20,hq21,hq22,hq23,hq24,hq25,hq26,hq27,hq28,hq29,hq30,hq31,hq32,hq33,hq34]
 clear hq2 hq3 hq5 hq0 hq1 hq4 hq6 hq7 hq8 hq9 hq10 hq11 hq12 hq13 hq14 hq15 hq16 hq17 hq18 hq19 hq20 hq21 hq22 hq23 hq24 hq25 hq26 hq27 hq28 hq29 hq30 hq31 hq32 hq33 hq34 hs
 refine wp_region_held (S:=fun W=>New w W) (by kernel_rfl) ?_
 show wpAnyH _ _ _ _ _ 29 _ _ w.drew
 have hN:New w w.drew:=(Mods.refl _ _).drew
 have hS:New w w.drew:=(Mods.refl _ _).drew
 refine tkI 0 (some 42) (.pointer (some ⟨B1,2,none⟩)) hS ?_
 simp only [pS]
 refine tkA 1 rfl (some 43) (.slice (some ⟨g1,h1,none⟩) n ic) (.inl ⟨by rfl,fun W hW=>by have q:=hW.cell cB id;go_simp⟩) hS ?_
 simp only [pS]
 refine tkI 2 (some 44) (.int .i64 k) hS ?_
 simp only [pS]
 refine tkI 3 (some 45) (.pointer (some ⟨g1,h1 + k * 5,none⟩)) hS ?_
 simp only [pS]
 refine tkI 4 (some 46) (.pointer (some ⟨g1,h1 + k * 5,none⟩)) hS ?_
 simp only [pS]
 refine tkA 5 rfl (some 47) (.agg #[.int .u8 a0,.int .i64 a1,.string a2,.bool a3]) (.inl ⟨by rfl,fun W hW=>by have q0:=hW.cell c0 id;have q1:=hW.cell c1 id;have q2:=hW.cell c2 id;have q3:=hW.cell c3 id;go_simp⟩) hS ?_
 simp only [pS]
 refine tkI 6 (some 48) (.pointer (some ⟨B2,2,none⟩)) hS ?_
 simp only [pS]
 refine tkA 7 rfl (some 49) (.slice (some ⟨g2,h2,none⟩) n jc) (.inl ⟨by rfl,fun W hW=>by have q:=hW.cell eB id;go_simp⟩) hS ?_
 simp only [pS]
 refine tkI 8 (some 50) (.int .i64 k) hS ?_
 simp only [pS]
 refine tkI 9 (some 51) (.pointer (some ⟨g2,h2 + k * 5,none⟩)) hS ?_
 simp only [pS]
 refine tkI 10 (some 52) (.pointer (some ⟨g2,h2 + k * 5,none⟩)) hS ?_
 simp only [pS]
 refine tkA 11 rfl (some 53) (.agg #[.int .u8 d0,.int .i64 d1,.string d2,.bool d3]) (.inl ⟨by rfl,fun W hW=>by have q0:=hW.cell e0 id;have q1:=hW.cell e1 id;have q2:=hW.cell e2 id;have q3:=hW.cell e3 id;go_simp⟩) hS ?_
 simp only [pS]
 refine tkA 12 rfl (some 54) (.bool false) (.inl ⟨by rfl,fun W hW=>by have hz:=hq W;go_simp⟩) hS ?_
 simp only [pS]
 refine tkI 13 (some 55) (.bool false) hS ?_
 simp only [pS]
 refine tkI 14 (some 56) (.pointer (some ⟨B1,2,none⟩)) hS ?_
 simp only [pS]
 refine tkA 15 rfl (some 57) (.slice (some ⟨g1,h1,none⟩) n ic) (.inl ⟨by rfl,fun W hW=>by have q:=hW.cell cB id;go_simp⟩) hS ?_
 simp only [pS]
 refine tkI 16 (some 58) (.int .i64 k) hS ?_
 simp only [pS]
 refine tkI 17 (some 59) (.pointer (some ⟨g1,h1 + k * 5,none⟩)) hS ?_
 simp only [pS]
 refine tkI 18 (some 60) (.pointer (some ⟨g1,h1 + k * 5 + 4,none⟩)) hS ?_
 simp only [pS]
 refine tkA 19 rfl (some 61) (.slice pa pl pc) (.inl ⟨by rfl,fun W hW=>by have q:=hW.cell c4 id;go_simp⟩) hS ?_
 simp only [pS]
 refine tkI 20 (some 62) (.pointer (some ⟨B2,2,none⟩)) hS ?_
 simp only [pS]
 refine tkA 21 rfl (some 63) (.slice (some ⟨g2,h2,none⟩) n jc) (.inl ⟨by rfl,fun W hW=>by have q:=hW.cell eB id;go_simp⟩) hS ?_
 simp only [pS]
 refine tkI 22 (some 64) (.int .i64 k) hS ?_
 simp only [pS]
 refine tkI 23 (some 65) (.pointer (some ⟨g2,h2 + k * 5,none⟩)) hS ?_
 simp only [pS]
 refine tkI 24 (some 66) (.pointer (some ⟨g2,h2 + k * 5 + 4,none⟩)) hS ?_
 simp only [pS]
 refine tkA 25 rfl (some 67) (.slice qa ql qc) (.inl ⟨by rfl,fun W hW=>by have q:=hW.cell e4 id;go_simp⟩) hS ?_
 simp only [pS]
 refine tkO 26 ?_
 refine opH_call (some 68) rfl (by rfl) rfl 86 #[.slice pa pl pc,.slice qa ql qc] (by go_simp) ((HC.out _ hN).mono ?_)
 rintro e w26 ⟨rfl,hk⟩
 have hS:=hS.trans hk
 have hN:=hN.trans hk
 clear hk
 refine ⟨_,rfl,hS,?_⟩
 simp only [pS]
 refine tkI 27 (some 69) (.bool (!r)) hS ?_
 simp only [pS]
 refine tkI 28 (some 70) (.bool (!r)) hS ?_
 simp only [pS]
 refine wpAnyH_done (by kernel_rfl) ?_ _
 exact ⟨⟨rfl,rfl,rfl,rfl,rfl,rfl,rfl,rfl,rfl,rfl,rfl,rfl,rfl,rfl,rfl,rfl,rfl,rfl,rfl,rfl,rfl,rfl,rfl,rfl,rfl,rfl,rfl,rfl,rfl,rfl,rfl,rfl,rfl,rfl,rfl,rfl,rfl,rfl⟩,hN⟩


theorem samem_r {τ τ':Bool} (m n:Bare.Mem) (iv pv jv qv:Value) (w:World) (hi:RdI τ w iv m.items) (hp:RdP τ w pv m.params) (hj:RdI τ' w jv n.items) (hq:RdP τ' w qv n.params) :
  Calls Tryz.prog 28 #[.agg (mcs m iv pv).toArray,.agg (mcs n jv qv).toArray] w fun e w'=>e = .returned (.bool (decide (m=n)))∧New w w':=by
 obtain ⟨ia,ic,rfl⟩:=hi.slice
 obtain ⟨ja,jc,rfl⟩:=hj.slice
 obtain ⟨pa,pc,rfl⟩:=hp.slice
 obtain ⟨qa,qc,rfl⟩:=hq.slice
 have HP:=Lib.hid (fun W (hW:New w W)=>samep_r _ _ _ _ W (hp.new hW) (hq.new hW))
 obtain ⟨iv,i1,-,i3⟩:=hi
 obtain ⟨jv,j1,-,j3⟩:=hj
 have HI:=Lib.hid i1
 have HJ:=Lib.hid j1
 have HS:=Lib.hid (fun i (h:i < m.items.length)=>(i3 i h).slice)
 have HT:=Lib.hid (fun i (h:i < n.items.length)=>(j3 i h).slice)
 have HQ:=Lib.hid (fun i (h:i < m.items.length) (h':i < n.items.length) W (hW:New w W)=>samep_r _ _ _ _ W ((i3 i h).new hW) ((j3 i h').new hW))
 clear i1 i3 j1 j3
 obtain ⟨k,y,its,ps⟩:=m
 obtain ⟨k',y',its',ps'⟩:=n
 have hd:decide ((⟨k,y,its,ps⟩:Bare.Mem)=⟨k',y',its',ps'⟩)=(decide (k=k') && (decide (y=y') && (decide (ps=ps') && decide (its=its')))):=by
  rw [Bool.eq_iff_iff]
  simp only [Bool.and_eq_true,decide_eq_true_eq,Bare.Mem.mk.injEq]
  constructor
  ·rintro ⟨a,b,c,d⟩;exact ⟨a,b,d,c⟩
  ·rintro ⟨a,b,d,c⟩;exact ⟨a,b,c,d⟩
 rw [hd]
 have he:=eq_tx (tx k) (tx k')
 rw [bl_tx,bl_tx] at he
 unfold mcs
 simp only at HP HI HJ HS HT HQ ⊢
 obtain ⟨K,hK⟩:∃ z,tx k=z:=⟨_,rfl⟩
 obtain ⟨K',hK'⟩:∃ z,tx k'=z:=⟨_,rfl⟩
 obtain ⟨a1,h1⟩:∃ z,decide (k=k')=z:=⟨_,rfl⟩
 obtain ⟨a2,h2⟩:∃ z,decide (y=y')=z:=⟨_,rfl⟩
 obtain ⟨a3,h3⟩:∃ z,decide (ps=ps')=z:=⟨_,rfl⟩
 obtain ⟨a4,h4⟩:∃ z,decide (its=its')=z:=⟨_,rfl⟩
 have hb2:(y == y')=a2:=by rw [← h2];cases y <;> cases y' <;> rfl
 rw [hK,hK',h1] at he
 rw [hK,hK',h1,h2,h3,h4]
 rw [h3] at HP
 obtain ⟨il,hil⟩:∃ z,its.length=z:=⟨_,rfl⟩
 obtain ⟨jl,hjl⟩:∃ z,its'.length=z:=⟨_,rfl⟩
 obtain ⟨pl,hpl⟩:∃ z,ps.length=z:=⟨_,rfl⟩
 obtain ⟨ql,hql⟩:∃ z,ps'.length=z:=⟨_,rfl⟩
 have Hil:=Lib.hid hil
 have Hjl:=Lib.hid hjl
 have H4:=Lib.hid h4
 rw [hil] at HI HS HQ
 rw [hjl] at HJ HT HQ
 rw [hil,hjl]
 rw [hpl,hql] at HP ⊢
 obtain ⟨z,hz⟩:∃ z,(a1 && (a2 && (a3 && a4)))=z:=⟨_,rfl⟩
 have HZ:=Lib.hid hz
 rw [hz]
 clear hz hil hjl hpl hql h1 h3 h4 hK hK' hd hp hq
 have hA:New w (w.alloc (.cells #[.string K,.bool y,.slice ia il ic,.slice pa pl pc] 44)):=(Mods.refl _ _).alloc _
 have r1:=World.alloc_heap_new w (.cells #[.string K,.bool y,.slice ia il ic,.slice pa pl pc] 44)
 obtain ⟨W1,hW1⟩:∃ W1,w.alloc (.cells #[.string K,.bool y,.slice ia il ic,.slice pa pl pc] 44)=W1:=⟨_,rfl⟩
 have hA2:New W1 (W1.alloc (.cells #[.string K',.bool y',.slice ja jl jc,.slice qa ql qc] 44)):=(Mods.refl _ _).alloc _
 have r2:=World.alloc_heap_new W1 (.cells #[.string K',.bool y',.slice ja jl jc,.slice qa ql qc] 44)
 obtain ⟨W2,hW2⟩:∃ W2,W1.alloc (.cells #[.string K',.bool y',.slice ja jl jc,.slice qa ql qc] 44)=W2:=⟨_,rfl⟩
 have hs1:W1.heap.size=w.heap.size + 1:=by rw [← hW1];simp
 go_enter Tryz.func28,Tryz.ntmps28
 go_upto_region 1 with fail
 rw [hW1] at hA r1
 rw [hW2] at hA2 r2
 rw [hs1] at r2
 have r1:=hA2.heap r1 id
 have hN2:=hA.trans hA2
 have HP2:=Lib.hid (HP.out W2 hN2)
 have HR1:=Lib.hid r1
 have HR2:=Lib.hid r2
 clear hW1 hW2 hs1
 have x0:=cell_of_row _ _ 0 _ _ _ r1
 have y0:=cell_of_row _ _ 0 _ _ _ r2
 have x1:=cell_of_row _ _ 1 _ _ _ r1
 have y1:=cell_of_row _ _ 1 _ _ _ r2
 have x2:=cell_of_row _ _ 2 _ _ _ r1
 have y2:=cell_of_row _ _ 2 _ _ _ r2
 have x3:=cell_of_row _ _ 3 _ _ _ r1
 have y3:=cell_of_row _ _ 3 _ _ _ r2
 simp only [gS] at x0 x1 x2 x3 y0 y1 y2 y3
 cases a1 with
 | false =>
  obtain rfl:false=z:=by rw [← HZ.out];rfl
  clear HZ
  go_wp2_with fail
  go_ret
  exact ⟨rfl,hN2⟩
 | true =>
  cases a2 with
  | false =>
   obtain rfl:false=z:=by rw [← HZ.out];rfl
   clear HZ
   go_wp2_with fail
   go_ret
   exact ⟨rfl,hN2⟩
  | true =>
   obtain rfl:y=y':=of_decide_eq_true h2
   by_cases hll:il=jl
   ·subst hll
    have hdd:decide ((il:Int)=(il:Int))=true:=decide_eq_true rfl
    cases a3 with
    | false =>
     obtain rfl:false=z:=by rw [← HZ.out];rfl
     clear HZ
     go_wp2_with (go_at_call 86;refine (HP2.out).mono ?_;rintro e W3 ⟨rfl,hN3⟩)
     go_ret
     exact ⟨rfl,hN2.trans hN3⟩
    | true =>
     obtain rfl:a4=z:=by rw [← HZ.out];rfl
     clear HZ
     go_upto_region 4 with (go_at_call 86;refine (HP2.out).mono ?_;rintro e W3 ⟨rfl,hN3⟩)
     have hlen:il ≤ 281474976710656:=HI.out.1
     have s1:=hN3.heap HR1.out id
     have s2:=hN3.heap HR2.out id
     have hNW:=hN2.trans hN3
     obtain ⟨B1,hB1⟩:∃ B,w.heap.size=B:=⟨_,rfl⟩
     rw [hB1] at s1 s2 ⊢
     obtain ⟨B2,hB2⟩:∃ B,B1 + 1=B:=⟨_,rfl⟩
     rw [hB2] at s2 ⊢
     clear HR1 HR2 hN2 hN3 hA hA2 HP2 HP x0 x1 x2 x3 y0 y1 y2 y3 r1 r2
     clear h2
     go_loopw [5] (fun t wr=>∃ k:Nat,k ≤ il∧t = .int .i64 k∧Hid (∀ j,j < k→its.getD j Bare.noI=its'.getD j Bare.noI)∧wr.heap[B1]? = some (.cells #[.string K,.bool y,.slice ia il ic,.slice pa pl pc] 44 (0,0))∧wr.heap[B2]? = some (.cells #[.string K',.bool y,.slice ja il jc,.slice qa ql qc] 44 (0,0))∧New w wr) (fun t _=>il - (intOf t).toNat)
     case atStart=>exact ⟨0,Nat.zero_le _,rfl,Lib.hid fun j hj=>by omega,s1,s2,hNW⟩
     case round =>
      clear s1 s2 hNW
      obtain ⟨k,hk,rfl,hbef,s1,s2,hN⟩:=hrel
      have cB:=cell_of_row _ _ 2 _ _ _ s1
      have eB:=cell_of_row _ _ 2 _ _ _ s2
      simp only [gS] at cB eB
      by_cases hlt:k < il
      ·have hkd:decide ((k:Int) < (il:Int))=true:=decide_eq_true (by omega)
       obtain ⟨g1,h1,rfl,hrow⟩:=(HI.out.new hN).at.2.2 k hlt
       obtain ⟨g2,h2,rfl,hrow2⟩:=(HJ.out.new hN).at.2.2 k hlt
       obtain ⟨pa1,pc1,e1⟩:=HS.out k hlt
       obtain ⟨qa1,qc1,f1⟩:=HT.out k hlt
       obtain ⟨c0,c1,c2,c3,c4⟩:=cells5 hrow
       obtain ⟨e0,e1',e2,e3,e4⟩:=cells5 hrow2
       rw [e1] at c4
       rw [f1] at e4
       have hq:=fun w=>nbinop_item (its.getD k Bare.noI).bare (its'.getD k Bare.noI).bare w
       unfold bv bcs at hq
       have HC:=Lib.hid (fun W (hW:New wr W)=>HQ.out k hlt hlt W (hN.trans hW))
       rw [e1,f1] at HC
       clear hrow hrow2
       cases hb:decide ((its.getD k Bare.noI).bare=(its'.getD k Bare.noI).bare) with
       | false =>
        rw [hb,Bool.not_false] at hq
        obtain rfl:a4=false:=by
         rw [← H4.out]
         exact decide_eq_false (fun e=>by rw [e] at hb;simp at hb)
        clear HC HQ hb
        go_upto_region 6 with fail
        refine piece (fun _=>_) (sm6true _ rfl wr rfl rfl rfl rfl rfl rfl rfl rfl rfl rfl rfl rfl rfl rfl rfl rfl rfl rfl rfl rfl rfl rfl rfl rfl rfl rfl rfl rfl rfl rfl rfl rfl rfl rfl rfl cB eB c0 e0 c1 e1' c2 e2 c3 e3 c4 e4 hkd hlt hq) ?_
        rintro ⟨z,dfs⟩ W4 ⟨⟨hs,hd,hq2,hq3,hq5,hq0,hq1,hq4,hq6,hq7,hq8,hq9,hq10,hq11,hq12,hq13,hq14,hq15,hq16,hq17,hq18,hq19,hq20,hq21,hq22,hq23,hq24,hq25,hq26,hq27,hq28,hq29,hq30,hq31,hq32,hq33,hq34,hq70⟩,hN4⟩
        simp only at hs hd hq2 hq3 hq5 hq0 hq1 hq4 hq6 hq7 hq8 hq9 hq10 hq11 hq12 hq13 hq14 hq15 hq16 hq17 hq18 hq19 hq20 hq21 hq22 hq23 hq24 hq25 hq26 hq27 hq28 hq29 hq30 hq31 hq32 hq33 hq34 hq70
        subst hd
        obtain ⟨u,rfl⟩:=lit71 z hs
        have hp2:u 2 = .pointer (some ⟨B1,0,none⟩):=hq2
        have hp3:u 3 = .pointer (some ⟨B2,0,none⟩):=hq3
        have hp5:u 5 = .int .i64 k:=hq5
        have hp0:u 0 = .agg #[.string K,.bool y,.slice (some ⟨g1,h1,none⟩) il ic,.slice pa pl pc]:=hq0
        have hp1:u 1 = .agg #[.string K',.bool y,.slice (some ⟨g2,h2,none⟩) il jc,.slice qa ql qc]:=hq1
        have hp4:u 4=u4:=hq4
        have hp6:u 6 = .pointer (some ⟨B1,0,none⟩):=hq6
        have hp7:u 7 = .string K:=hq7
        have hp8:u 8 = .pointer (some ⟨B2,0,none⟩):=hq8
        have hp9:u 9 = .string K':=hq9
        have hp10:u 10 = .bool false:=hq10
        have hp11:u 11 = .bool false:=hq11
        have hp12:u 12 = .pointer (some ⟨B1,1,none⟩):=hq12
        have hp13:u 13 = .bool y:=hq13
        have hp14:u 14 = .pointer (some ⟨B2,1,none⟩):=hq14
        have hp15:u 15 = .bool y:=hq15
        have hp16:u 16 = .bool false:=hq16
        have hp17:u 17 = .bool false:=hq17
        have hp18:u 18 = .bool false:=hq18
        have hp19:u 19 = .pointer (some ⟨B1,2,none⟩):=hq19
        have hp20:u 20 = .slice (some ⟨g1,h1,none⟩) il ic:=hq20
        have hp21:u 21 = .int .i64 il:=hq21
        have hp22:u 22 = .pointer (some ⟨B2,2,none⟩):=hq22
        have hp23:u 23 = .slice (some ⟨g2,h2,none⟩) il jc:=hq23
        have hp24:u 24 = .int .i64 il:=hq24
        have hp25:u 25 = .bool false:=hq25
        have hp26:u 26 = .bool false:=hq26
        have hp27:u 27 = .bool false:=hq27
        have hp28:u 28 = .pointer (some ⟨B1,3,none⟩):=hq28
        have hp29:u 29 = .slice pa pl pc:=hq29
        have hp30:u 30 = .pointer (some ⟨B2,3,none⟩):=hq30
        have hp31:u 31 = .slice qa ql qc:=hq31
        have hp32:u 32 = .bool true:=hq32
        have hp33:u 33 = .bool false:=hq33
        have hp34:u 34 = .bool false:=hq34
        have hp70:u 70 = .bool true:=hq70
        rw [hp2,hp3,hp5,hp0,hp1,hp4,hp6,hp7,hp8,hp9,hp10,hp11,hp12,hp13,hp14,hp15,hp16,hp17,hp18,hp19,hp20,hp21,hp22,hp23,hp24,hp25,hp26,hp27,hp28,hp29,hp30,hp31,hp32,hp33,hp34,hp70]
        clear hp2 hq2 hp3 hq3 hp5 hq5 hp0 hq0 hp1 hq1 hp4 hq4 hp6 hq6 hp7 hq7 hp8 hq8 hp9 hq9 hp10 hq10 hp11 hq11 hp12 hq12 hp13 hq13 hp14 hq14 hp15 hq15 hp16 hq16 hp17 hq17 hp18 hq18 hp19 hq19 hp20 hq20 hp21 hq21 hp22 hq22 hp23 hq23 hp24 hq24 hp25 hq25 hp26 hq26 hp27 hq27 hp28 hq28 hp29 hq29 hp30 hq30 hp31 hq31 hp32 hq32 hp33 hq33 hp34 hq34 hp70 hq70 hs
        have hN:=hN.trans hN4
        go_wp2_with fail
        go_ret
        exact ⟨rfl,hN⟩
       | true =>
        rw [hb,Bool.not_true] at hq
        have hbe:=of_decide_eq_true hb
        obtain ⟨r,hr⟩:∃ r,decide ((its.getD k Bare.noI).params=(its'.getD k Bare.noI).params)=r:=⟨_,rfl⟩
        rw [hr] at HC
        clear hb
        go_upto_region 6 with fail
        refine piece (fun _=>_) (sm6false _ rfl wr rfl rfl rfl rfl rfl rfl rfl rfl rfl rfl rfl rfl rfl rfl rfl rfl rfl rfl rfl rfl rfl rfl rfl rfl rfl rfl rfl rfl rfl rfl rfl rfl rfl rfl rfl cB eB c0 e0 c1 e1' c2 e2 c3 e3 c4 e4 hkd hlt hq HC) ?_
        rintro ⟨z,dfs⟩ W4 ⟨⟨hs,hd,hq2,hq3,hq5,hq0,hq1,hq4,hq6,hq7,hq8,hq9,hq10,hq11,hq12,hq13,hq14,hq15,hq16,hq17,hq18,hq19,hq20,hq21,hq22,hq23,hq24,hq25,hq26,hq27,hq28,hq29,hq30,hq31,hq32,hq33,hq34,hq70⟩,hN4⟩
        simp only at hs hd hq2 hq3 hq5 hq0 hq1 hq4 hq6 hq7 hq8 hq9 hq10 hq11 hq12 hq13 hq14 hq15 hq16 hq17 hq18 hq19 hq20 hq21 hq22 hq23 hq24 hq25 hq26 hq27 hq28 hq29 hq30 hq31 hq32 hq33 hq34 hq70
        subst hd
        obtain ⟨u,rfl⟩:=lit71 z hs
        have hp2:u 2 = .pointer (some ⟨B1,0,none⟩):=hq2
        have hp3:u 3 = .pointer (some ⟨B2,0,none⟩):=hq3
        have hp5:u 5 = .int .i64 k:=hq5
        have hp0:u 0 = .agg #[.string K,.bool y,.slice (some ⟨g1,h1,none⟩) il ic,.slice pa pl pc]:=hq0
        have hp1:u 1 = .agg #[.string K',.bool y,.slice (some ⟨g2,h2,none⟩) il jc,.slice qa ql qc]:=hq1
        have hp4:u 4=u4:=hq4
        have hp6:u 6 = .pointer (some ⟨B1,0,none⟩):=hq6
        have hp7:u 7 = .string K:=hq7
        have hp8:u 8 = .pointer (some ⟨B2,0,none⟩):=hq8
        have hp9:u 9 = .string K':=hq9
        have hp10:u 10 = .bool false:=hq10
        have hp11:u 11 = .bool false:=hq11
        have hp12:u 12 = .pointer (some ⟨B1,1,none⟩):=hq12
        have hp13:u 13 = .bool y:=hq13
        have hp14:u 14 = .pointer (some ⟨B2,1,none⟩):=hq14
        have hp15:u 15 = .bool y:=hq15
        have hp16:u 16 = .bool false:=hq16
        have hp17:u 17 = .bool false:=hq17
        have hp18:u 18 = .bool false:=hq18
        have hp19:u 19 = .pointer (some ⟨B1,2,none⟩):=hq19
        have hp20:u 20 = .slice (some ⟨g1,h1,none⟩) il ic:=hq20
        have hp21:u 21 = .int .i64 il:=hq21
        have hp22:u 22 = .pointer (some ⟨B2,2,none⟩):=hq22
        have hp23:u 23 = .slice (some ⟨g2,h2,none⟩) il jc:=hq23
        have hp24:u 24 = .int .i64 il:=hq24
        have hp25:u 25 = .bool false:=hq25
        have hp26:u 26 = .bool false:=hq26
        have hp27:u 27 = .bool false:=hq27
        have hp28:u 28 = .pointer (some ⟨B1,3,none⟩):=hq28
        have hp29:u 29 = .slice pa pl pc:=hq29
        have hp30:u 30 = .pointer (some ⟨B2,3,none⟩):=hq30
        have hp31:u 31 = .slice qa ql qc:=hq31
        have hp32:u 32 = .bool true:=hq32
        have hp33:u 33 = .bool false:=hq33
        have hp34:u 34 = .bool false:=hq34
        have hp70:u 70 = .bool (!r):=hq70
        rw [hp2,hp3,hp5,hp0,hp1,hp4,hp6,hp7,hp8,hp9,hp10,hp11,hp12,hp13,hp14,hp15,hp16,hp17,hp18,hp19,hp20,hp21,hp22,hp23,hp24,hp25,hp26,hp27,hp28,hp29,hp30,hp31,hp32,hp33,hp34,hp70]
        clear hp2 hq2 hp3 hq3 hp5 hq5 hp0 hq0 hp1 hq1 hp4 hq4 hp6 hq6 hp7 hq7 hp8 hq8 hp9 hq9 hp10 hq10 hp11 hq11 hp12 hq12 hp13 hq13 hp14 hq14 hp15 hq15 hp16 hq16 hp17 hq17 hp18 hq18 hp19 hq19 hp20 hq20 hp21 hq21 hp22 hq22 hp23 hq23 hp24 hq24 hp25 hq25 hp26 hq26 hp27 hq27 hp28 hq28 hp29 hq29 hp30 hq30 hp31 hq31 hp32 hq32 hp33 hq33 hp34 hq34 hp70 hq70 hs
        have s1:=hN4.heap s1 id
        have s2:=hN4.heap s2 id
        have hN:=hN.trans hN4
        clear hN4 HC HQ cB eB c0 c1 c2 c3 c4 e0 e1' e2 e3 e4
        cases r with
        | true =>
         have hh:Hid (∀ j,j < k + 1→its.getD j Bare.noI=its'.getD j Bare.noI):=Lib.hid fun j hj=>by
          by_cases e:j < k
          ·exact hbef.out j e
          ·obtain rfl:j=k:=by omega
           have hpe:=of_decide_eq_true hr
           cases hX:its.getD j Bare.noI with
           | mk b1 p1 =>
            cases hY:its'.getD j Bare.noI with
            | mk b2 p2 =>
             rw [hX,hY] at hpe hbe
             simp only at hpe hbe
             rw [hpe,hbe]
         clear hbef hbe hr
         go_wp2_with fail
         go_roundw
         case rel=>exact ⟨k + 1,by omega,by go_num,hh,s1,s2,hN⟩
         case measure=>simp [intOf];omega
        | false =>
         obtain rfl:a4=false:=by
          rw [← H4.out]
          exact decide_eq_false (fun e=>by rw [e] at hr;simp at hr)
         clear hbef hbe hr
         go_wp2_with fail
         go_ret
         exact ⟨rfl,hN⟩
      ·have hkd:decide ((k:Int) < (il:Int))=false:=decide_eq_false (by omega)
       obtain rfl:a4=true:=by
        rw [← H4.out]
        exact decide_eq_true (list_same Bare.noI (by rw [Hil.out,Hjl.out]) fun i hi=>hbef.out i (by have:=Hil.out;omega))
       clear hbef
       go_wp2_with fail
       go_ret
       exact ⟨rfl,hN⟩
   ·have hdd:decide ((il:Int)=(jl:Int))=false:=decide_eq_false (by omega)
    obtain rfl:false=z:=by
     rw [← HZ.out,← H4.out,show decide (its=its')=false from decide_eq_false (fun e=>hll (by rw [← Hil.out,← Hjl.out,e]))]
     simp
    clear HZ
    go_wp2_with fail
    go_ret
    exact ⟨rfl,hN2⟩


theorem lit27 (t:Array Value) (h:t.size=27):∃ u:Nat→Value,t=(u 0::u 1::u 2::u 3::u 4::u 5::u 6::u 7::u 8::u 9::u 10::u 11::u 12::u 13::u 14::u 15::u 16::u 17::u 18::u 19::u 20::u 21::u 22::u 23::u 24::u 25::u 26::([]:List Value)).toArray:=⟨fun i=>t.getD i undef,range_lit t 27 h⟩
noncomputable def reg_causeyref13_Same_6:Code:=((Tryz.f27.body.bind (regionOf 6)).getD .skip)
theorem rsame6 (t:Array Value) (hs:t.size=27) (w:World) {b1 o1 b2 o2 k n m1 m2:Nat} {r:Bool} {a0 a1 a2 a3 d0 d1 d2 d3:Value} {x2 x3 x4 x6 x7 x8 x9 x10:Value}
  (hq0:t.getD 0 undef = .slice (some ⟨b1,o1,none⟩) n m1)
  (hq1:t.getD 1 undef = .slice (some ⟨b2,o2,none⟩) n m2)
  (hq5:t.getD 5 undef = .int .i64 k)
  (hq2:t.getD 2 undef=x2)
  (hq3:t.getD 3 undef=x3)
  (hq4:t.getD 4 undef=x4)
  (hq6:t.getD 6 undef=x6)
  (hq7:t.getD 7 undef=x7)
  (hq8:t.getD 8 undef=x8)
  (hq9:t.getD 9 undef=x9)
  (hq10:t.getD 10 undef=x10)
  (c0:w.cell? ⟨b1,o1 + k * 4,none⟩=some a0) (e0:w.cell? ⟨b2,o2 + k * 4,none⟩=some d0) (c1:w.cell? ⟨b1,o1 + k * 4 + 1,none⟩=some a1) (e1:w.cell? ⟨b2,o2 + k * 4 + 1,none⟩=some d1) (c2:w.cell? ⟨b1,o1 + k * 4 + 2,none⟩=some a2) (e2:w.cell? ⟨b2,o2 + k * 4 + 2,none⟩=some d2) (c3:w.cell? ⟨b1,o1 + k * 4 + 3,none⟩=some a3) (e3:w.cell? ⟨b2,o2 + k * 4 + 3,none⟩=some d3)
  (hid:decide ((k:Int) < (n:Int))=true) (hkn:k < n) (HC:Hid (∀ W,New w W→Calls Tryz.prog 28 #[.agg #[a0,a1,a2,a3],.agg #[d0,d1,d2,d3]] W fun e w'=>e = .returned (.bool r)∧New W w')) :
  reg_causeyref13_Same_6.wp Tryz.prog (Only fun a' W'=>(a'.tmps.size=27∧a'.defers = []∧a'.tmps.getD 0 undef = .slice (some ⟨b1,o1,none⟩) n m1∧a'.tmps.getD 1 undef = .slice (some ⟨b2,o2,none⟩) n m2∧a'.tmps.getD 5 undef = .int .i64 k∧a'.tmps.getD 2 undef=x2∧a'.tmps.getD 3 undef=x3∧a'.tmps.getD 4 undef=x4∧a'.tmps.getD 6 undef=x6∧a'.tmps.getD 7 undef=x7∧a'.tmps.getD 8 undef=x8∧a'.tmps.getD 9 undef=x9∧a'.tmps.getD 10 undef=x10∧a'.tmps.getD 26 undef = .bool (!r))∧New w W') ⟨t,[]⟩ w:=by
 conv=>arg 2;whnf
 obtain ⟨u,rfl⟩:=lit27 t hs
 have hq0:u 0 = _:=hq0
 have hq1:u 1 = _:=hq1
 have hq5:u 5 = _:=hq5
 have hq2:u 2 = _:=hq2
 have hq3:u 3 = _:=hq3
 have hq4:u 4 = _:=hq4
 have hq6:u 6 = _:=hq6
 have hq7:u 7 = _:=hq7
 have hq8:u 8 = _:=hq8
 have hq9:u 9 = _:=hq9
 have hq10:u 10 = _:=hq10
 rw [hq0,hq1,hq5,hq2,hq3,hq4,hq6,hq7,hq8,hq9,hq10]
 clear hq0 hq1 hq5 hq2 hq3 hq4 hq6 hq7 hq8 hq9 hq10 hs
 refine wp_region_held (S:=fun W=>New w W) (by kernel_rfl) ?_
 show wpAnyH _ _ _ _ _ 10 _ _ w.drew
 have hN:New w w.drew:=(Mods.refl _ _).drew
 have hS:New w w.drew:=(Mods.refl _ _).drew
 refine tkI 0 (some 17) (.slice (some ⟨b1,o1,none⟩) n m1) hS ?_
 simp only [pS]
 refine tkI 1 (some 18) (.int .i64 k) hS ?_
 simp only [pS]
 refine tkI 2 (some 19) (.pointer (some ⟨b1,o1 + k * 4,none⟩)) hS ?_
 simp only [pS]
 refine tkA 3 rfl (some 20) (.agg #[a0,a1,a2,a3]) (.inl ⟨by rfl,fun W hW=>by have q0:=hW.cell c0 id;have q1:=hW.cell c1 id;have q2:=hW.cell c2 id;have q3:=hW.cell c3 id;go_simp⟩) hS ?_
 simp only [pS]
 refine tkI 4 (some 21) (.slice (some ⟨b2,o2,none⟩) n m2) hS ?_
 simp only [pS]
 refine tkI 5 (some 22) (.int .i64 k) hS ?_
 simp only [pS]
 refine tkI 6 (some 23) (.pointer (some ⟨b2,o2 + k * 4,none⟩)) hS ?_
 simp only [pS]
 refine tkA 7 rfl (some 24) (.agg #[d0,d1,d2,d3]) (.inl ⟨by rfl,fun W hW=>by have q0:=hW.cell e0 id;have q1:=hW.cell e1 id;have q2:=hW.cell e2 id;have q3:=hW.cell e3 id;go_simp⟩) hS ?_
 simp only [pS]
 refine tkO 8 ?_
 refine opH_call (some 25) rfl (by rfl) rfl 28 #[.agg #[a0,a1,a2,a3],.agg #[d0,d1,d2,d3]] (by go_simp) ((HC.out _ hN).mono ?_)
 rintro e w8 ⟨rfl,hk⟩
 have hS:=hS.trans hk
 have hN:=hN.trans hk
 clear hk
 refine ⟨_,rfl,hS,?_⟩
 simp only [pS]
 refine tkI 9 (some 26) (.bool (!r)) hS ?_
 simp only [pS]
 refine wpAnyH_done (by kernel_rfl) ?_ _
 exact ⟨⟨rfl,rfl,rfl,rfl,rfl,rfl,rfl,rfl,rfl,rfl,rfl,rfl,rfl,rfl⟩,hN⟩
theorem rsame_d {τ τ':Bool} (v1 v2:Value) (l r:List Bare.Mem) (w:World) (h1:RdD τ w v1 l) (h2:RdD τ' w v2 r) :
  Calls Tryz.prog 27 #[v1,v2] w fun e w'=>e = .returned (.bool (decide (l=r)))∧New w w':=by
 obtain ⟨i1,p1,q1,-,s1⟩:=h1
 obtain ⟨i2,p2,q2,-,s2⟩:=h2
 have H1:=Lib.hid q1
 have H2:=Lib.hid q2
 have HM:=Lib.hid (fun k (hk:k < l.length) (hk':k < r.length) W (hW:New w W)=>samem_r (l.getD k noM) (r.getD k noM) (i1 k) (p1 k) (i2 k) (p2 k) W ((s1 k hk).1.new hW) ((s1 k hk).2.new hW) ((s2 k hk').1.new hW) ((s2 k hk').2.new hW))
 obtain ⟨a1,m1,rfl⟩:=q1.slice
 obtain ⟨a2,m2,rfl⟩:=q2.slice
 have hn1:l.length ≤ 281474976710656:=q1.1
 clear q1 q2 s1 s2
 have hN0:New w w:=Mods.refl _ _
 obtain ⟨n,hn⟩:∃ n,l.length=n:=⟨_,rfl⟩
 obtain ⟨n2,hn2⟩:∃ n,r.length=n:=⟨_,rfl⟩
 by_cases hnn:n=n2
 ·subst hnn
  have hdd:decide ((n:Int)=(n:Int))=true:=decide_eq_true rfl
  have HE:=Lib.hid (list_same (l:=l) (r:=r) noM (by omega))
  obtain ⟨y,hy⟩:∃ y,decide (l=r)=y:=⟨_,rfl⟩
  have HY:=Lib.hid hy
  have Hn:=Lib.hid hn
  rw [hy,hn,hn2]
  rw [hn] at H1 hn1 HM
  rw [hn2] at H2 HM
  clear hy hn hn2
  go_enter Tryz.func27,Tryz.ntmps27
  go_wp2_with fail
  go_loopw [5] (fun t wr=>∃ k:Nat,k ≤ n∧t = .int .i64 k∧Hid (∀ j,j < k→l.getD j noM=r.getD j noM)∧New w wr) (fun t _=>n - (intOf t).toNat)
  case atStart=>exact ⟨0,Nat.zero_le _,rfl,Lib.hid fun i hi=>by omega,hN0⟩
  case round =>
   clear hN0
   obtain ⟨k,hk,rfl,hbef,hN⟩:=hrel
   by_cases hlt:k < n
   ·have hkd:decide ((k:Int) < (n:Int))=true:=decide_eq_true (by omega)
    obtain ⟨b1,o1,rfl,hrow⟩:=(H1.out.new hN).at.2.2 k hlt
    obtain ⟨b2,o2,rfl,hrow2⟩:=(H2.out.new hN).at.2.2 k hlt
    obtain ⟨k0,k1,k2,k3⟩:=cells4 hrow
    obtain ⟨q0,q1,q2,q3⟩:=cells4 hrow2
    have HC:=Lib.hid (fun W (hW:New wr W)=>HM.out k hlt hlt W (hN.trans hW))
    unfold mcs at HC
    obtain ⟨r',hr⟩:∃ r',decide (l.getD k noM=r.getD k noM)=r':=⟨_,rfl⟩
    rw [hr] at HC
    clear hrow hrow2
    go_upto_region 6 with fail
    refine piece (fun _=>_) (rsame6 _ rfl wr rfl rfl rfl rfl rfl rfl rfl rfl rfl rfl rfl  k0 q0 k1 q1 k2 q2 k3 q3 hkd hlt HC) ?_
    rintro ⟨z,dfs⟩ wr2 ⟨⟨hs,hd,hq0,hq1,hq5,hq2,hq3,hq4,hq6,hq7,hq8,hq9,hq10,hq26⟩,hN2⟩
    simp only at hs hd hq0 hq1 hq5 hq2 hq3 hq4 hq6 hq7 hq8 hq9 hq10 hq26
    subst hd
    obtain ⟨u,rfl⟩:=lit27 z hs
    have hp0:u 0 = .slice (some ⟨b1,o1,none⟩) n m1:=hq0
    have hp1:u 1 = .slice (some ⟨b2,o2,none⟩) n m2:=hq1
    have hp5:u 5 = .int .i64 k:=hq5
    have hp2:u 2=undef:=hq2
    have hp3:u 3=undef:=hq3
    have hp4:u 4=u4:=hq4
    have hp6:u 6 = .slice (some ⟨b1,o1,none⟩) n m1:=hq6
    have hp7:u 7 = .int .i64 n:=hq7
    have hp8:u 8 = .slice (some ⟨b2,o2,none⟩) n m2:=hq8
    have hp9:u 9 = .int .i64 n:=hq9
    have hp10:u 10 = .bool false:=hq10
    have hp26:u 26 = .bool (!r'):=hq26
    rw [hp0,hp1,hp5,hp2,hp3,hp4,hp6,hp7,hp8,hp9,hp10,hp26]
    clear hp0 hq0 hp1 hq1 hp5 hq5 hp2 hq2 hp3 hq3 hp4 hq4 hp6 hq6 hp7 hq7 hp8 hq8 hp9 hq9 hp10 hq10 hp26 hq26 hs
    have hN:=hN.trans hN2
    clear hN2 HC HM k0 k1 k2 k3 q0 q1 q2 q3
    cases r' with
    | true =>
     have hh:Hid (∀ j,j < k + 1→l.getD j noM=r.getD j noM):=Lib.hid fun i hi=>by
      by_cases hik:i < k
      ·exact hbef.out i hik
      ·obtain rfl:i=k:=by omega
       exact of_decide_eq_true hr
     clear hbef hr
     go_wp2_with fail
     go_roundw
     case rel=>exact ⟨k + 1,by omega,by go_num,hh,hN⟩
     case measure=>simp [intOf];omega
    | false =>
     obtain rfl:y=false:=by
      rw [← HY.out]
      refine decide_eq_false fun e=>?_
      rw [e] at hr
      simp at hr
     clear hbef hr HE
     go_wp2_with fail
     go_ret
     exact ⟨rfl,hN⟩
   ·have hkd:decide ((k:Int) < (n:Int))=false:=decide_eq_false (by omega)
    obtain rfl:y=true:=by
     rw [← HY.out]
     exact decide_eq_true (HE.out fun i hi=>hbef.out i (by have:=Hn.out;omega))
    clear HE hbef
    go_wp2_with fail
    go_ret
    exact ⟨rfl,hN⟩
 ·have hdd:decide ((n:Int)=(n2:Int))=false:=decide_eq_false (by omega)
  rw [show decide (l=r)=false from decide_eq_false fun e=>hnn (by rw [← hn,← hn2,e])]
  rw [hn,hn2]
  go_enter Tryz.func27,Tryz.ntmps27
  go_wp2_with fail
  go_ret
  exact ⟨rfl,hN0⟩


theorem one_d (W1:World) (key:Bare.Bs) (inner:Bool) (b:Bare.It):RdD false ((W1.alloc (.cells #[.int .u8 b.kind,.int .i64 b.int,.string (tx b.text),.bool b.yes,.slice none 0 0] 85)).alloc (.cells #[.string (tx key),.bool inner,.slice (some ⟨W1.heap.size,0,none⟩) 1 1,.slice none 0 0] 44)) (.slice (some ⟨W1.heap.size + 1,0,none⟩) 1 1) [⟨key,inner,[⟨b,[]⟩],[]⟩]:=by
 have r1:=World.alloc_heap_new W1 (.cells #[.int .u8 b.kind,.int .i64 b.int,.string (tx b.text),.bool b.yes,.slice none 0 0] 85)
 obtain ⟨W2,hW2⟩:∃ V,W1.alloc (.cells #[.int .u8 b.kind,.int .i64 b.int,.string (tx b.text),.bool b.yes,.slice none 0 0] 85)=V:=⟨_,rfl⟩
 have hs:W2.heap.size=W1.heap.size + 1:=by rw [← hW2];simp
 rw [hW2] at r1 ⊢
 have r2:=World.alloc_heap_new W2 (.cells #[.string (tx key),.bool inner,.slice (some ⟨W1.heap.size,0,none⟩) 1 1,.slice none 0 0] 44)
 have hA:New W2 (W2.alloc (.cells #[.string (tx key),.bool inner,.slice (some ⟨W1.heap.size,0,none⟩) 1 1,.slice none 0 0] 44)):=(Mods.refl _ _).alloc _
 obtain ⟨W3,hW3⟩:∃ V,W2.alloc (.cells #[.string (tx key),.bool inner,.slice (some ⟨W1.heap.size,0,none⟩) 1 1,.slice none 0 0] 44)=V:=⟨_,rfl⟩
 rw [hW3] at r2 hA ⊢
 replace r1:=hA.heap r1 id
 rw [hs] at r2
 refine ⟨fun _=>.slice (some ⟨W1.heap.size,0,none⟩) 1 1,fun _=>.slice none 0 0,⟨by simp,_,_,rfl,fun i hi=>?_⟩,tag_none,fun i hi=>?_⟩
 ·obtain rfl:i=0:=by simp at hi;omega
  refine ⟨_,0,rfl,fun j u hu=>?_⟩
  rw [cell_of_row W3 _ (0 + 0 * 4 + j) _ _ _ r2]
  simpa [mcs] using hu
 ·obtain rfl:i=0:=by simp at hi;omega
  refine ⟨⟨fun _=>.slice none 0 0,⟨by simp,_,_,rfl,fun j hj=>?_⟩,tag_none,fun j hj=>?_⟩,RdP.nil _ _ _⟩
  ·obtain rfl:j=0:=by simp at hj;omega
   refine ⟨_,0,rfl,fun j u hu=>?_⟩
   rw [cell_of_row W3 _ (0 + 0 * 5 + j) _ _ _ r1]
   simpa [ics] using hu
  ·obtain rfl:j=0:=by simp at hj;omega
   exact RdP.nil _ _ _
theorem fits_of_sz {n:Nat} {d:List Bare.Mem} (hn:n ≤ 1000000) (h:SzD n d):∀ m ∈ d,Fits m:=fun m hm=>by
 obtain ⟨-,h2,h3,h4⟩:=h.2 m hm
 refine ⟨by omega,by have:=h3.1;omega,fun i hi=>?_⟩
 have:=(h4 _ (getD_mem (d:=Bare.noI) hi)).2.1
 omega
theorem prioD_print {u:Nat} {i:Bool} (hu:u ≤ 7):PrD (Bare.prioD u i):=by
 have hx:∀ (k:Bare.Bs) (b:Bare.It),k.length=1→0 ≤ b.kind→b.text = []→PrM ⟨k,false,[⟨b,[]⟩],[]⟩:=fun k b hk hb ht=>by
  refine ⟨⟨by show k.length ≤ _;omega,by simp,by simp,fun x hx=>?_,fun p hp=>by cases hp⟩,by simp,by simp,fun x hx=>?_⟩
  ·rw [List.mem_singleton] at hx
   subst hx
   exact ⟨hb,by simp [ht],by simp,fun p hp=>by cases hp⟩
  ·rw [List.mem_singleton] at hx
   subst hx
   exact ⟨⟨hb,by simp [ht],by simp,fun p hp=>by cases hp⟩,by simp⟩
 unfold Bare.prioD
 refine ⟨by split <;> split <;> simp,fun m hm=>?_⟩
 rw [List.mem_append] at hm
 rcases hm with hm | hm
 ·split at hm
  ·cases hm
  ·rw [List.mem_singleton] at hm
   subst hm
   exact hx _ _ rfl (by show (0:Int) ≤ 1;decide) rfl
 ·split at hm
  ·rw [List.mem_singleton] at hm
   subst hm
   exact hx _ _ rfl (by show (0:Int) ≤ 6;decide) rfl
  ·cases hm


def dwA:List Bare.Mem:=Bare.prioD 1 true
def dwO:List Bare.Mem:=[⟨[97],false,[⟨Bare.yesI,[]⟩],[]⟩]
def dwI:List Bare.Mem:=[⟨[97],true,[⟨⟨1,1,[],false⟩,[]⟩,⟨⟨1,2,[],false⟩,[⟨[120],Bare.yesI⟩]⟩],[⟨[121],Bare.yesI⟩]⟩]
theorem dw1:Bare.parseD [117,61,49,44,32,105]=some dwA:=by decide +kernel
theorem dw3:Bare.parseD [32,97,61,40,49,32,50,59,120,41,59,121,9,44,32,9,97,32]=some dwO:=by decide +kernel
theorem dw6:Bare.parseD [97,44]=none:=by decide +kernel
theorem dw7:Bare.parseD [97,9]=none:=by decide +kernel
theorem dw8:Bare.parseD [97,61,40,49,9,50,41]=none:=by decide +kernel
theorem dw9:Bare.parseD [32,32]=some []:=by decide +kernel
theorem dw10:Bare.parseD [97,61,40,49,32,50,59,120,41,59,121]=some dwI:=by decide +kernel
theorem dw2:Bare.printD dwA=some [117,61,49,44,32,105]:=by decide +kernel
theorem dw11:Bare.printD [⟨[65],false,[],[]⟩]=none:=by decide +kernel
theorem dw12:Bare.printD dwI=some [97,61,40,49,32,50,59,120,41,59,121]:=by decide +kernel
theorem dw4:findM dwA [117]=some ⟨[117],false,[⟨⟨1,1,[],false⟩,[]⟩],[]⟩:=by decide +kernel
theorem dw5:findM dwA [120]=none:=by decide +kernel
theorem dwk1:Bare.keyB [42,97,45,49]=true:=by decide +kernel
theorem dwk2:Bare.keyB [49,97]=false:=by decide +kernel
theorem dwr1:Bare.rightD dwI=true:=by decide +kernel
theorem dwr2:Bare.rightD [⟨[97],false,[],[]⟩]=false:=by decide +kernel
theorem yes_w (w:World):Calls Tryz.prog 70 #[] w fun e w'=>e = .returned (.agg #[.int .u8 6,.int .i64 0,.string ⟨#[]⟩,.bool true])∧New w w':=by
 go_enter Tryz.func70,Tryz.ntmps70
 go_wp2_with fail
 have hr:=World.alloc_heap_new w (.cells #[.int .u8 6,.int .i64 0,.string ⟨#[]⟩,.bool true] 23)
 refine bodyPost_ret (v:=.agg #[.int .u8 6,.int .i64 0,.string ⟨#[]⟩,.bool true]) (results_cell_row rfl _ _ w.heap.size 23 _ (0,0) _ rfl hr Tryz.underlying23 rfl info_bare) rfl ?_
 exact ⟨rfl,(Mods.refl _ _).alloc _⟩
theorem number_w (n:Int) (w:World):Calls Tryz.prog 71 #[.int .i64 n] w fun e w'=>e = .returned (.agg #[.int .u8 1,.int .i64 n,.string ⟨#[]⟩,.bool false])∧New w w':=by
 go_enter Tryz.func71,Tryz.ntmps71
 go_wp2_with fail
 have hr:=World.alloc_heap_new w (.cells #[.int .u8 1,.int .i64 n,.string ⟨#[]⟩,.bool false] 23)
 refine bodyPost_ret (v:=.agg #[.int .u8 1,.int .i64 n,.string ⟨#[]⟩,.bool false]) (results_cell_row rfl _ _ w.heap.size 23 _ (0,0) _ rfl hr Tryz.underlying23 rfl info_bare) rfl ?_
 exact ⟨rfl,(Mods.refl _ _).alloc _⟩
theorem bare_d (W1:World) (key:Bare.Bs):RdD false (W1.alloc (.cells #[.string (tx key),.bool false,.slice none 0 0,.slice none 0 0] 44)) (.slice (some ⟨W1.heap.size,0,none⟩) 1 1) [⟨key,false,[],[]⟩]:=by
 have r2:=World.alloc_heap_new W1 (.cells #[.string (tx key),.bool false,.slice none 0 0,.slice none 0 0] 44)
 refine ⟨fun _=>.slice none 0 0,fun _=>.slice none 0 0,⟨by simp,_,_,rfl,fun i hi=>?_⟩,tag_none,fun i hi=>?_⟩
 ·obtain rfl:i=0:=by simp at hi;omega
  refine ⟨_,0,rfl,fun j u hu=>?_⟩
  rw [cell_of_row _ _ (0 + 0 * 4 + j) _ _ _ r2]
  simpa [mcs] using hu
 ·obtain rfl:i=0:=by simp at hi;omega
  exact ⟨RdI.nil _ _ _,RdP.nil _ _ _⟩
def opsOf:Code→Array Oper
 | .region _ ops _=>ops
 | _=>#[]


theorem smI:∀ m ∈ dwI,SmM m:=by
 intro m hm
 unfold dwI at hm
 rw [List.mem_singleton] at hm
 subst hm
 refine ⟨by decide,by decide,by decide,fun x hx=>?_,fun p hp=>?_⟩
 ·simp only [List.mem_cons,List.not_mem_nil,or_false] at hx
  rcases hx with rfl | rfl
  ·exact ⟨by decide,by decide,by decide,fun p hp=>by cases hp⟩
  ·refine ⟨by decide,by decide,by decide,fun p hp=>?_⟩
   rw [List.mem_singleton] at hp
   subst hp
   exact ⟨by decide,by decide,by decide⟩
 ·rw [List.mem_singleton] at hp
  subst hp
  exact ⟨by decide,by decide,by decide⟩
theorem smB:∀ m ∈ ([⟨[97],false,[],[]⟩]:List Bare.Mem),SmM m:=by
 intro m hm
 rw [List.mem_singleton] at hm
 subst hm
 refine ⟨by decide,by decide,by decide,fun x hx=>?_,fun p hp=>?_⟩
 ·cases hx
 ·cases hp
theorem lit224 (t:Array Value) (h:t.size=224):∃ u:Nat→Value,t=(u 0::u 1::u 2::u 3::u 4::u 5::u 6::u 7::u 8::u 9::u 10::u 11::u 12::u 13::u 14::u 15::u 16::u 17::u 18::u 19::u 20::u 21::u 22::u 23::u 24::u 25::u 26::u 27::u 28::u 29::u 30::u 31::u 32::u 33::u 34::u 35::u 36::u 37::u 38::u 39::u 40::u 41::u 42::u 43::u 44::u 45::u 46::u 47::u 48::u 49::u 50::u 51::u 52::u 53::u 54::u 55::u 56::u 57::u 58::u 59::u 60::u 61::u 62::u 63::u 64::u 65::u 66::u 67::u 68::u 69::u 70::u 71::u 72::u 73::u 74::u 75::u 76::u 77::u 78::u 79::u 80::u 81::u 82::u 83::u 84::u 85::u 86::u 87::u 88::u 89::u 90::u 91::u 92::u 93::u 94::u 95::u 96::u 97::u 98::u 99::u 100::u 101::u 102::u 103::u 104::u 105::u 106::u 107::u 108::u 109::u 110::u 111::u 112::u 113::u 114::u 115::u 116::u 117::u 118::u 119::u 120::u 121::u 122::u 123::u 124::u 125::u 126::u 127::u 128::u 129::u 130::u 131::u 132::u 133::u 134::u 135::u 136::u 137::u 138::u 139::u 140::u 141::u 142::u 143::u 144::u 145::u 146::u 147::u 148::u 149::u 150::u 151::u 152::u 153::u 154::u 155::u 156::u 157::u 158::u 159::u 160::u 161::u 162::u 163::u 164::u 165::u 166::u 167::u 168::u 169::u 170::u 171::u 172::u 173::u 174::u 175::u 176::u 177::u 178::u 179::u 180::u 181::u 182::u 183::u 184::u 185::u 186::u 187::u 188::u 189::u 190::u 191::u 192::u 193::u 194::u 195::u 196::u 197::u 198::u 199::u 200::u 201::u 202::u 203::u 204::u 205::u 206::u 207::u 208::u 209::u 210::u 211::u 212::u 213::u 214::u 215::u 216::u 217::u 218::u 219::u 220::u 221::u 222::u 223::([]:List Value)).toArray:=⟨fun i=>t.getD i undef,range_lit t 224 h⟩
noncomputable def reg_causeylaw13_wakes_15:Code:=((Tryz.f20.body.bind (regionOf 15)).getD .skip)
theorem wk13c (t:Array Value) (hs:t.size=224) (w0 w:World) {la oa na pa':Option Addr} {lc oc nc ic B7 ib io ub uo uc pm pcc:Nat} {Q:Exit→Act→World→Prop} (listed:Array Bool) (hl:listed = #[true,true,true,true,true,true,true,true,true,true,true,true,true,true,true,true,true,true,true,true,true,true,true,true,true,true,true,true,true,true,true,true,true,true,true,true,true,true,true,true,true,true,true,true,true,true,true,true,true,true,true,true,true,true,true,true,true,true,true,true,true,true,true,true,true,true,true,true,true,true,true,true,true,true,true,true,true,true,true,true,true,true,true,true,true,true,true,true,true,true,true,true,true,true,true,true,false,false,false,false,false,false,false,false,false,false,false,false,false,false,false,false,false,false,false,false,false,false,false,false,false,false,false,false])
  (hq1:t.getD 1 undef = .slice la 2 lc)
  (hq2:t.getD 2 undef = .int .i64 0)
  (hq3:t.getD 3 undef = .string ⟨#[117,61,49,44,32,105]⟩)
  (hq4:t.getD 4 undef = .int .i64 0)
  (hq5:t.getD 5 undef = .slice oa 1 oc)
  (hq6:t.getD 6 undef = .int .i64 0)
  (hq7:t.getD 7 undef = .pointer (some ⟨B7,0,none⟩))
  (hq8:t.getD 8 undef = .bool true)
  (hq10:t.getD 10 undef = .bool false)
  (hq12:t.getD 12 undef = .int .i64 130)
  (hq14:t.getD 14 undef = .int .i64 130)
  (hq16:t.getD 16 undef = .int .i64 130)
  (hq17:t.getD 17 undef = .slice na 0 nc)
  (hq18:t.getD 18 undef = .int .i64 0)
  (hq19:t.getD 19 undef = .slice (some ⟨ib,io,none⟩) 1 ic)
  (hq20:t.getD 20 undef = .int .i64 0)
  (hq22:t.getD 22 undef = .int .i64 2)
  (hq23:t.getD 23 undef = .string ⟨#[97,61,40,49,32,50,59,120,41,59,121]⟩)
  (hq24:t.getD 24 undef = .int .i64 0)
  (hq196:t.getD 196 undef = .bool true)
  (hS:New w0 w) (k2:w0.cell? ⟨B7,2,none⟩=some (.slice (some ⟨ub,uo,none⟩) 1 uc)) (u0:w0.cell? ⟨ub,uo,none⟩=some (.int .u8 1)) (u1:w0.cell? ⟨ub,uo + 1,none⟩=some (.int .i64 1)) (u2:w0.cell? ⟨ub,uo + 2,none⟩=some (.string ⟨#[]⟩)) (u3:w0.cell? ⟨ub,uo + 3,none⟩=some (.bool false))
  (i1:w0.cell? ⟨ib,io + 1,none⟩=some (.bool true)) (i3:w0.cell? ⟨ib,io + 3,none⟩=some (.slice pa' 1 pcc))
  (HO:Hid (RdD true w0 (.slice oa 1 oc) dwO)) (HI:Hid (RdD true w0 (.slice (some ⟨ib,io,none⟩) 1 ic) dwI))
  (HNP:∀ c a w,¬ Q (.panic c) a w) (HQ:∀ a' W',a'.tmps.size=224→a'.defers = []→a'.tmps.getD 0 undef = .bool true→New w0 W'→Q .normal a' W') :
  wpAnyH Tryz.prog .any (opsOf reg_causeylaw13_wakes_15) Q (fun W=>New w0 W) 28 listed ⟨t,[]⟩ w:=by
 subst hl
 conv=>arg 3;whnf
 obtain ⟨u,rfl⟩:=lit224 t hs
 have hq1:u 1 = _:=hq1
 have hq2:u 2 = _:=hq2
 have hq3:u 3 = _:=hq3
 have hq4:u 4 = _:=hq4
 have hq5:u 5 = _:=hq5
 have hq6:u 6 = _:=hq6
 have hq7:u 7 = _:=hq7
 have hq8:u 8 = _:=hq8
 have hq10:u 10 = _:=hq10
 have hq12:u 12 = _:=hq12
 have hq14:u 14 = _:=hq14
 have hq16:u 16 = _:=hq16
 have hq17:u 17 = _:=hq17
 have hq18:u 18 = _:=hq18
 have hq19:u 19 = _:=hq19
 have hq20:u 20 = _:=hq20
 have hq22:u 22 = _:=hq22
 have hq23:u 23 = _:=hq23
 have hq24:u 24 = _:=hq24
 have hq196:u 196 = _:=hq196
 rw [hq1,hq2,hq3,hq4,hq5,hq6,hq7,hq8,hq10,hq12,hq14,hq16,hq17,hq18,hq19,hq20,hq22,hq23,hq24,hq196]
 clear hq1 hq2 hq3 hq4 hq5 hq6 hq7 hq8 hq10 hq12 hq14 hq16 hq17 hq18 hq19 hq20 hq22 hq23 hq24 hq196 hs
 refine tkO 96 ?_
 refine opH_call (some 197) rfl (by rfl) rfl 29 #[.string ⟨#[42,97,45,49]⟩] (by go_simp) (((key_any ⟨#[42,97,45,49]⟩ w (by decide)).mono (R':=fun e w'=>e = .returned (.bool true)∧New w w') (by rintro e w' ⟨rfl,h⟩;exact ⟨by rw [show bl ⟨#[42,97,45,49]⟩ = [42,97,45,49] from rfl,dwk1],h⟩)).mono ?_)
 rintro e w96 ⟨rfl,hk⟩
 have hS:=hS.trans hk
 clear hk
 refine ⟨_,rfl,hS,?_⟩
 simp only [pS]
 refine anyH_take 97 (some 198) (.bool true) rfl rfl (by kernel_rfl) (by kernel_rfl) (by kernel_rfl) (fun _ _ _ h=>(HNP _ _ _ h).elim) (.inl ⟨by rfl,fun W hW=>by go_simp⟩) hS ?_
 simp only [pS]
 refine anyH_take 98 (some 199) (.bool true) rfl rfl (by kernel_rfl) (by kernel_rfl) (by kernel_rfl) (fun _ _ _ h=>(HNP _ _ _ h).elim) (.inl ⟨by rfl,fun W hW=>by go_simp⟩) hS ?_
 simp only [pS]
 refine tkO 99 ?_
 refine opH_call (some 200) rfl (by rfl) rfl 29 #[.string ⟨#[49,97]⟩] (by go_simp) (((key_any ⟨#[49,97]⟩ w96 (by decide)).mono (R':=fun e w'=>e = .returned (.bool false)∧New w96 w') (by rintro e w' ⟨rfl,h⟩;exact ⟨by rw [show bl ⟨#[49,97]⟩ = [49,97] from rfl,dwk2],h⟩)).mono ?_)
 rintro e w99 ⟨rfl,hk⟩
 have hS:=hS.trans hk
 clear hk
 refine ⟨_,rfl,hS,?_⟩
 simp only [pS]
 refine anyH_take 100 (some 201) (.bool true) rfl rfl (by kernel_rfl) (by kernel_rfl) (by kernel_rfl) (fun _ _ _ h=>(HNP _ _ _ h).elim) (.inl ⟨by rfl,fun W hW=>by go_simp⟩) hS ?_
 simp only [pS]
 refine anyH_take 101 (some 202) (.bool true) rfl rfl (by kernel_rfl) (by kernel_rfl) (by kernel_rfl) (fun _ _ _ h=>(HNP _ _ _ h).elim) (.inl ⟨by rfl,fun W hW=>by go_simp⟩) hS ?_
 simp only [pS]
 refine anyH_take 102 (some 203) (.bool true) rfl rfl (by kernel_rfl) (by kernel_rfl) (by kernel_rfl) (fun _ _ _ h=>(HNP _ _ _ h).elim) (.inl ⟨by rfl,fun W hW=>by go_simp⟩) hS ?_
 simp only [pS]
 refine anyH_take 103 (some 204) (.slice (some ⟨ib,io,none⟩) 1 ic) rfl rfl (by kernel_rfl) (by kernel_rfl) (by kernel_rfl) (fun _ _ _ h=>(HNP _ _ _ h).elim) (.inl ⟨by rfl,fun W hW=>by go_simp⟩) hS ?_
 simp only [pS]
 refine tkO 104 ?_
 refine opH_call (some 205) rfl (by rfl) rfl 31 #[.slice (some ⟨ib,io,none⟩) 1 ic] (by go_simp) (((right_d _ dwI _ (HI.out.new hS) smI).mono (R':=fun e w'=>e = .returned (.bool true)∧New _ w') (by rintro e w' ⟨rfl,h⟩;exact ⟨by rw [dwr1],h⟩)).mono ?_)
 rintro e w104 ⟨rfl,hk⟩
 have hS:=hS.trans hk
 clear hk
 refine ⟨_,rfl,hS,?_⟩
 simp only [pS]
 refine anyH_take 105 (some 206) (.bool true) rfl rfl (by kernel_rfl) (by kernel_rfl) (by kernel_rfl) (fun _ _ _ h=>(HNP _ _ _ h).elim) (.inl ⟨by rfl,fun W hW=>by go_simp⟩) hS ?_
 simp only [pS]
 refine anyH_take 106 (some 207) (.bool true) rfl rfl (by kernel_rfl) (by kernel_rfl) (by kernel_rfl) (fun _ _ _ h=>(HNP _ _ _ h).elim) (.inl ⟨by rfl,fun W hW=>by go_simp⟩) hS ?_
 simp only [pS]
 refine anyH_take 107 (some 208) (.agg #[.string ⟨#[97]⟩,.bool false,.slice none 0 0,.slice none 0 0]) rfl rfl (by kernel_rfl) (by kernel_rfl) (by kernel_rfl) (fun _ _ _ h=>(HNP _ _ _ h).elim) (.inl ⟨by rfl,fun W hW=>by go_simp⟩) hS ?_
 simp only [pS]
 refine tkO 108 ?_
 refine opH_value (some 209) (v:=.slice (some ⟨w104.heap.size,0,none⟩) 1 1) (w':=w104.alloc (.cells #[.string ⟨#[97]⟩,.bool false,.slice none 0 0,.slice none 0 0] 44)) rfl (by rfl) rfl (by go_simp) ?_
 have hS:=hS.trans ((Mods.refl (fun _=>False) w104).alloc (.cells #[.string ⟨#[97]⟩,.bool false,.slice none 0 0,.slice none 0 0] 44))
 refine ⟨hS,?_⟩
 simp only [pS]
 refine tkO 109 ?_
 refine opH_call (some 210) rfl (by rfl) rfl 31 #[.slice (some ⟨w104.heap.size,0,none⟩) 1 1] (by go_simp) (((right_d _ [⟨[97],false,[],[]⟩] _ (bare_d w104 [97]) smB).mono (R':=fun e w'=>e = .returned (.bool false)∧New _ w') (by rintro e w' ⟨rfl,h⟩;exact ⟨by rw [dwr2],h⟩)).mono ?_)
 rintro e w109 ⟨rfl,hk⟩
 have hS:=hS.trans hk
 clear hk
 refine ⟨_,rfl,hS,?_⟩
 simp only [pS]
 refine anyH_take 110 (some 211) (.bool true) rfl rfl (by kernel_rfl) (by kernel_rfl) (by kernel_rfl) (fun _ _ _ h=>(HNP _ _ _ h).elim) (.inl ⟨by rfl,fun W hW=>by go_simp⟩) hS ?_
 simp only [pS]
 refine anyH_take 111 (some 212) (.bool true) rfl rfl (by kernel_rfl) (by kernel_rfl) (by kernel_rfl) (fun _ _ _ h=>(HNP _ _ _ h).elim) (.inl ⟨by rfl,fun W hW=>by go_simp⟩) hS ?_
 simp only [pS]
 refine anyH_take 112 (some 213) (.bool true) rfl rfl (by kernel_rfl) (by kernel_rfl) (by kernel_rfl) (fun _ _ _ h=>(HNP _ _ _ h).elim) (.inl ⟨by rfl,fun W hW=>by go_simp⟩) hS ?_
 simp only [pS]
 refine anyH_take 113 (some 214) (.slice (some ⟨ib,io,none⟩) 1 ic) rfl rfl (by kernel_rfl) (by kernel_rfl) (by kernel_rfl) (fun _ _ _ h=>(HNP _ _ _ h).elim) (.inl ⟨by rfl,fun W hW=>by go_simp⟩) hS ?_
 simp only [pS]
 refine anyH_take 114 (some 215) (.slice (some ⟨ib,io,none⟩) 1 ic) rfl rfl (by kernel_rfl) (by kernel_rfl) (by kernel_rfl) (fun _ _ _ h=>(HNP _ _ _ h).elim) (.inl ⟨by rfl,fun W hW=>by go_simp⟩) hS ?_
 simp only [pS]
 refine tkO 115 ?_
 refine opH_call (some 216) rfl (by rfl) rfl 33 #[.slice (some ⟨ib,io,none⟩) 1 ic,.slice (some ⟨ib,io,none⟩) 1 ic] (by go_simp) (((same_d _ _ dwI dwI _ (HI.out.new hS) (HI.out.new hS)).mono (R':=fun e w'=>e = .returned (.bool true)∧New _ w') (by rintro e w' ⟨rfl,h⟩;exact ⟨by rw [decide_eq_true rfl],h⟩)).mono ?_)
 rintro e w115 ⟨rfl,hk⟩
 have hS:=hS.trans hk
 clear hk
 refine ⟨_,rfl,hS,?_⟩
 simp only [pS]
 refine anyH_take 116 (some 217) (.bool true) rfl rfl (by kernel_rfl) (by kernel_rfl) (by kernel_rfl) (fun _ _ _ h=>(HNP _ _ _ h).elim) (.inl ⟨by rfl,fun W hW=>by go_simp⟩) hS ?_
 simp only [pS]
 refine anyH_take 117 (some 218) (.bool true) rfl rfl (by kernel_rfl) (by kernel_rfl) (by kernel_rfl) (fun _ _ _ h=>(HNP _ _ _ h).elim) (.inl ⟨by rfl,fun W hW=>by go_simp⟩) hS ?_
 simp only [pS]
 refine anyH_take 118 (some 219) (.slice (some ⟨ib,io,none⟩) 1 ic) rfl rfl (by kernel_rfl) (by kernel_rfl) (by kernel_rfl) (fun _ _ _ h=>(HNP _ _ _ h).elim) (.inl ⟨by rfl,fun W hW=>by go_simp⟩) hS ?_
 simp only [pS]
 refine anyH_take 119 (some 220) (.slice oa 1 oc) rfl rfl (by kernel_rfl) (by kernel_rfl) (by kernel_rfl) (fun _ _ _ h=>(HNP _ _ _ h).elim) (.inl ⟨by rfl,fun W hW=>by go_simp⟩) hS ?_
 simp only [pS]
 refine tkO 120 ?_
 refine opH_call (some 221) rfl (by rfl) rfl 33 #[.slice (some ⟨ib,io,none⟩) 1 ic,.slice oa 1 oc] (by go_simp) (((same_d _ _ dwI dwO _ (HI.out.new hS) (HO.out.new hS)).mono (R':=fun e w'=>e = .returned (.bool false)∧New _ w') (by rintro e w' ⟨rfl,h⟩;exact ⟨by rw [decide_eq_false (by decide)],h⟩)).mono ?_)
 rintro e w120 ⟨rfl,hk⟩
 have hS:=hS.trans hk
 clear hk
 refine ⟨_,rfl,hS,?_⟩
 simp only [pS]
 refine anyH_take 121 (some 222) (.bool true) rfl rfl (by kernel_rfl) (by kernel_rfl) (by kernel_rfl) (fun _ _ _ h=>(HNP _ _ _ h).elim) (.inl ⟨by rfl,fun W hW=>by go_simp⟩) hS ?_
 simp only [pS]
 refine anyH_take 122 (some 223) (.bool true) rfl rfl (by kernel_rfl) (by kernel_rfl) (by kernel_rfl) (fun _ _ _ h=>(HNP _ _ _ h).elim) (.inl ⟨by rfl,fun W hW=>by go_simp⟩) hS ?_
 simp only [pS]
 refine anyH_take 123 (some 0) (.bool true) rfl rfl (by kernel_rfl) (by kernel_rfl) (by kernel_rfl) (fun _ _ _ h=>(HNP _ _ _ h).elim) (.inl ⟨by rfl,fun W hW=>by go_simp⟩) hS ?_
 simp only [pS]
 refine wpAnyH_done (by kernel_rfl) ?_ _
 exact HQ _ _ rfl rfl rfl hS


theorem wk13b2 (t:Array Value) (hs:t.size=224) (w0 w:World) {la oa na pa':Option Addr} {lc oc nc ic B7 ib io ub uo uc pm pcc:Nat} {Q:Exit→Act→World→Prop} (listed:Array Bool) (hl:listed = #[true,true,true,true,true,true,true,true,true,true,true,true,true,true,true,true,true,true,true,true,true,true,true,true,true,true,true,true,true,true,true,true,true,true,true,true,true,true,true,true,true,true,true,true,true,true,true,true,true,true,true,true,true,true,true,true,true,true,true,true,true,true,true,true,true,true,true,true,true,false,false,false,false,false,false,false,false,false,false,false,false,false,false,false,false,false,false,false,false,false,false,false,false,false,false,false,false,false,false,false,false,false,false,false,false,false,false,false,false,false,false,false,false,false,false,false,false,false,false,false,false,false,false,false])
  (hq1:t.getD 1 undef = .slice la 2 lc)
  (hq2:t.getD 2 undef = .int .i64 0)
  (hq3:t.getD 3 undef = .string ⟨#[117,61,49,44,32,105]⟩)
  (hq4:t.getD 4 undef = .int .i64 0)
  (hq5:t.getD 5 undef = .slice oa 1 oc)
  (hq6:t.getD 6 undef = .int .i64 0)
  (hq7:t.getD 7 undef = .pointer (some ⟨B7,0,none⟩))
  (hq8:t.getD 8 undef = .bool true)
  (hq10:t.getD 10 undef = .bool false)
  (hq12:t.getD 12 undef = .int .i64 130)
  (hq14:t.getD 14 undef = .int .i64 130)
  (hq16:t.getD 16 undef = .int .i64 130)
  (hq17:t.getD 17 undef = .slice na 0 nc)
  (hq18:t.getD 18 undef = .int .i64 0)
  (hq19:t.getD 19 undef = .slice (some ⟨ib,io,none⟩) 1 ic)
  (hq20:t.getD 20 undef = .int .i64 0)
  (hq22:t.getD 22 undef = .int .i64 2)
  (hq23:t.getD 23 undef = .string ⟨#[97,61,40,49,32,50,59,120,41,59,121]⟩)
  (hq24:t.getD 24 undef = .int .i64 0)
  (hq169:t.getD 169 undef = .bool true)
  (hS:New w0 w) (k2:w0.cell? ⟨B7,2,none⟩=some (.slice (some ⟨ub,uo,none⟩) 1 uc)) (u0:w0.cell? ⟨ub,uo,none⟩=some (.int .u8 1)) (u1:w0.cell? ⟨ub,uo + 1,none⟩=some (.int .i64 1)) (u2:w0.cell? ⟨ub,uo + 2,none⟩=some (.string ⟨#[]⟩)) (u3:w0.cell? ⟨ub,uo + 3,none⟩=some (.bool false))
  (i1:w0.cell? ⟨ib,io + 1,none⟩=some (.bool true)) (i3:w0.cell? ⟨ib,io + 3,none⟩=some (.slice pa' 1 pcc))
  (HO:Hid (RdD true w0 (.slice oa 1 oc) dwO)) (HI:Hid (RdD true w0 (.slice (some ⟨ib,io,none⟩) 1 ic) dwI))
  (HNP:∀ c a w,¬ Q (.panic c) a w) (HQ:∀ a' W',a'.tmps.size=224→a'.defers = []→a'.tmps.getD 0 undef = .bool true→New w0 W'→Q .normal a' W') :
  wpAnyH Tryz.prog .any (opsOf reg_causeylaw13_wakes_15) Q (fun W=>New w0 W) 55 listed ⟨t,[]⟩ w:=by
 subst hl
 conv=>arg 3;whnf
 obtain ⟨u,rfl⟩:=lit224 t hs
 have hq1:u 1 = _:=hq1
 have hq2:u 2 = _:=hq2
 have hq3:u 3 = _:=hq3
 have hq4:u 4 = _:=hq4
 have hq5:u 5 = _:=hq5
 have hq6:u 6 = _:=hq6
 have hq7:u 7 = _:=hq7
 have hq8:u 8 = _:=hq8
 have hq10:u 10 = _:=hq10
 have hq12:u 12 = _:=hq12
 have hq14:u 14 = _:=hq14
 have hq16:u 16 = _:=hq16
 have hq17:u 17 = _:=hq17
 have hq18:u 18 = _:=hq18
 have hq19:u 19 = _:=hq19
 have hq20:u 20 = _:=hq20
 have hq22:u 22 = _:=hq22
 have hq23:u 23 = _:=hq23
 have hq24:u 24 = _:=hq24
 have hq169:u 169 = _:=hq169
 rw [hq1,hq2,hq3,hq4,hq5,hq6,hq7,hq8,hq10,hq12,hq14,hq16,hq17,hq18,hq19,hq20,hq22,hq23,hq24,hq169]
 clear hq1 hq2 hq3 hq4 hq5 hq6 hq7 hq8 hq10 hq12 hq14 hq16 hq17 hq18 hq19 hq20 hq22 hq23 hq24 hq169 hs
 refine anyH_take 69 (some 170) (.bool true) rfl rfl (by kernel_rfl) (by kernel_rfl) (by kernel_rfl) (fun _ _ _ h=>(HNP _ _ _ h).elim) (.inl ⟨by rfl,fun W hW=>by go_simp⟩) hS ?_
 simp only [pS]
 refine anyH_take 70 (some 171) (.slice (some ⟨ib,io,none⟩) 1 ic) rfl rfl (by kernel_rfl) (by kernel_rfl) (by kernel_rfl) (fun _ _ _ h=>(HNP _ _ _ h).elim) (.inl ⟨by rfl,fun W hW=>by go_simp⟩) hS ?_
 simp only [pS]
 refine anyH_take 71 (some 172) (.pointer (some ⟨ib,io,none⟩)) rfl rfl (by kernel_rfl) (by kernel_rfl) (by kernel_rfl) (fun _ _ _ h=>(HNP _ _ _ h).elim) (.inl ⟨by rfl,fun W hW=>by go_simp⟩) hS ?_
 simp only [pS]
 refine anyH_take 72 (some 173) (.pointer (some ⟨ib,io + 1,none⟩)) rfl rfl (by kernel_rfl) (by kernel_rfl) (by kernel_rfl) (fun _ _ _ h=>(HNP _ _ _ h).elim) (.inl ⟨by rfl,fun W hW=>by go_simp⟩) hS ?_
 simp only [pS]
 refine anyH_take 73 (some 174) (.bool true) rfl rfl (by kernel_rfl) (by kernel_rfl) (by kernel_rfl) (fun _ _ _ h=>(HNP _ _ _ h).elim) (.inl ⟨by rfl,fun W hW=>by have hh:New w0 W:=hW;have q:=hh.cell i1 id;go_simp⟩) hS ?_
 simp only [pS]
 refine anyH_take 74 (some 175) (.bool true) rfl rfl (by kernel_rfl) (by kernel_rfl) (by kernel_rfl) (fun _ _ _ h=>(HNP _ _ _ h).elim) (.inl ⟨by rfl,fun W hW=>by go_simp⟩) hS ?_
 simp only [pS]
 refine anyH_take 75 (some 176) (.bool true) rfl rfl (by kernel_rfl) (by kernel_rfl) (by kernel_rfl) (fun _ _ _ h=>(HNP _ _ _ h).elim) (.inl ⟨by rfl,fun W hW=>by go_simp⟩) hS ?_
 simp only [pS]
 refine anyH_take 76 (some 177) (.slice (some ⟨ib,io,none⟩) 1 ic) rfl rfl (by kernel_rfl) (by kernel_rfl) (by kernel_rfl) (fun _ _ _ h=>(HNP _ _ _ h).elim) (.inl ⟨by rfl,fun W hW=>by go_simp⟩) hS ?_
 simp only [pS]
 refine anyH_take 77 (some 178) (.pointer (some ⟨ib,io,none⟩)) rfl rfl (by kernel_rfl) (by kernel_rfl) (by kernel_rfl) (fun _ _ _ h=>(HNP _ _ _ h).elim) (.inl ⟨by rfl,fun W hW=>by go_simp⟩) hS ?_
 simp only [pS]
 refine anyH_take 78 (some 179) (.pointer (some ⟨ib,io + 3,none⟩)) rfl rfl (by kernel_rfl) (by kernel_rfl) (by kernel_rfl) (fun _ _ _ h=>(HNP _ _ _ h).elim) (.inl ⟨by rfl,fun W hW=>by go_simp⟩) hS ?_
 simp only [pS]
 refine anyH_take 79 (some 180) (.slice pa' 1 pcc) rfl rfl (by kernel_rfl) (by kernel_rfl) (by kernel_rfl) (fun _ _ _ h=>(HNP _ _ _ h).elim) (.inl ⟨by rfl,fun W hW=>by have hh:New w0 W:=hW;have q:=hh.cell i3 id;go_simp⟩) hS ?_
 simp only [pS]
 refine anyH_take 80 (some 181) (.int .i64 1) rfl rfl (by kernel_rfl) (by kernel_rfl) (by kernel_rfl) (fun _ _ _ h=>(HNP _ _ _ h).elim) (.inl ⟨by rfl,fun W hW=>by go_simp⟩) hS ?_
 simp only [pS]
 refine anyH_take 81 (some 182) (.bool true) rfl rfl (by kernel_rfl) (by kernel_rfl) (by kernel_rfl) (fun _ _ _ h=>(HNP _ _ _ h).elim) (.inl ⟨by rfl,fun W hW=>by go_simp⟩) hS ?_
 simp only [pS]
 refine anyH_take 82 (some 183) (.bool true) rfl rfl (by kernel_rfl) (by kernel_rfl) (by kernel_rfl) (fun _ _ _ h=>(HNP _ _ _ h).elim) (.inl ⟨by rfl,fun W hW=>by go_simp⟩) hS ?_
 simp only [pS]
 refine anyH_take 83 (some 184) (.bool true) rfl rfl (by kernel_rfl) (by kernel_rfl) (by kernel_rfl) (fun _ _ _ h=>(HNP _ _ _ h).elim) (.inl ⟨by rfl,fun W hW=>by go_simp⟩) hS ?_
 simp only [pS]
 refine anyH_take 84 (some 185) (.int .i64 2) rfl rfl (by kernel_rfl) (by kernel_rfl) (by kernel_rfl) (fun _ _ _ h=>(HNP _ _ _ h).elim) (.inl ⟨by rfl,fun W hW=>by go_simp⟩) hS ?_
 simp only [pS]
 refine anyH_take 85 (some 186) (.bool true) rfl rfl (by kernel_rfl) (by kernel_rfl) (by kernel_rfl) (fun _ _ _ h=>(HNP _ _ _ h).elim) (.inl ⟨by rfl,fun W hW=>by go_simp⟩) hS ?_
 simp only [pS]
 refine anyH_take 86 (some 187) (.bool true) rfl rfl (by kernel_rfl) (by kernel_rfl) (by kernel_rfl) (fun _ _ _ h=>(HNP _ _ _ h).elim) (.inl ⟨by rfl,fun W hW=>by go_simp⟩) hS ?_
 simp only [pS]
 refine anyH_take 87 (some 188) (.bool true) rfl rfl (by kernel_rfl) (by kernel_rfl) (by kernel_rfl) (fun _ _ _ h=>(HNP _ _ _ h).elim) (.inl ⟨by rfl,fun W hW=>by go_simp⟩) hS ?_
 simp only [pS]
 refine anyH_take 88 (some 189) (.string ⟨#[97,61,40,49,32,50,59,120,41,59,121]⟩) rfl rfl (by kernel_rfl) (by kernel_rfl) (by kernel_rfl) (fun _ _ _ h=>(HNP _ _ _ h).elim) (.inl ⟨by rfl,fun W hW=>by go_simp⟩) hS ?_
 simp only [pS]
 refine anyH_take 89 (some 190) (.bool true) rfl rfl (by kernel_rfl) (by kernel_rfl) (by kernel_rfl) (fun _ _ _ h=>(HNP _ _ _ h).elim) (.inl ⟨by rfl,fun W hW=>by go_simp⟩) hS ?_
 simp only [pS]
 refine anyH_take 90 (some 191) (.bool true) rfl rfl (by kernel_rfl) (by kernel_rfl) (by kernel_rfl) (fun _ _ _ h=>(HNP _ _ _ h).elim) (.inl ⟨by rfl,fun W hW=>by go_simp⟩) hS ?_
 simp only [pS]
 refine anyH_take 91 (some 192) (.bool true) rfl rfl (by kernel_rfl) (by kernel_rfl) (by kernel_rfl) (fun _ _ _ h=>(HNP _ _ _ h).elim) (.inl ⟨by rfl,fun W hW=>by go_simp⟩) hS ?_
 simp only [pS]
 refine anyH_take 92 (some 193) (.int .i64 0) rfl rfl (by kernel_rfl) (by kernel_rfl) (by kernel_rfl) (fun _ _ _ h=>(HNP _ _ _ h).elim) (.inl ⟨by rfl,fun W hW=>by go_simp⟩) hS ?_
 simp only [pS]
 refine anyH_take 93 (some 194) (.bool true) rfl rfl (by kernel_rfl) (by kernel_rfl) (by kernel_rfl) (fun _ _ _ h=>(HNP _ _ _ h).elim) (.inl ⟨by rfl,fun W hW=>by go_simp⟩) hS ?_
 simp only [pS]
 refine anyH_take 94 (some 195) (.bool true) rfl rfl (by kernel_rfl) (by kernel_rfl) (by kernel_rfl) (fun _ _ _ h=>(HNP _ _ _ h).elim) (.inl ⟨by rfl,fun W hW=>by go_simp⟩) hS ?_
 simp only [pS]
 refine anyH_take 95 (some 196) (.bool true) rfl rfl (by kernel_rfl) (by kernel_rfl) (by kernel_rfl) (fun _ _ _ h=>(HNP _ _ _ h).elim) (.inl ⟨by rfl,fun W hW=>by go_simp⟩) hS ?_
 simp only [pS]
 exact wk13c (pm:=0) _ rfl w0 _ _ (by kernel_rfl) rfl rfl rfl rfl rfl rfl rfl rfl rfl rfl rfl rfl rfl rfl rfl rfl rfl rfl rfl rfl hS k2 u0 u1 u2 u3 i1 i3 HO HI HNP HQ
end Go.Proofs.YtnknmmbnhoanfaaGreatDoor
