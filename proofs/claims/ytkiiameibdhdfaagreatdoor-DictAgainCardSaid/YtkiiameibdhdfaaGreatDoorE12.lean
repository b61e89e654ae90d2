/- Texts joined. -/
import Derived.Test.YtkiiameibdhdfaaGreatDoorE11
import Derived.Test.YtkiiameibdhdfaaGreatDoorE08
import Derived.OrdersHeld
set_option linter.unusedSimpArgs false
set_option linter.unusedVariables false
set_option maxHeartbeats 16000000
set_option maxRecDepth 100000
namespace Go.Proofs.YtkiiameibdhdfaaGreatDoor
open Go.RowKit Go.Shelf Go.Cs
attribute [local go_sem] Oper.semAt_some


noncomputable def reg_causeyref13_samep_6:Code:=((Tryz.f122.body.bind (regionOf 6)).getD .skip)
theorem samep6 (t:Array Value) (hs:t.size=26) (w:World) {b1 o1 b2 o2 k n m1 m2:Nat} {y:Bool} {a0 a1 a2 a3 a4 d0 d1 d2 d3 d4:Value} {x2 x3 x4 x6 x7 x8 x9 x10:Value}
  (hq0:t.getD 0 undef = .slice (some ⟨b1,o1,none⟩) n m1)
  (hq1:t.getD 1 undef = .slice (some ⟨b2,o2,none⟩) n m2)
  (hq5:t.getD 5 undef = .int .i64 k)
  (hq2:t.getD 2 undef=x2)
  (hq3:t.getD 3 undef=x3)
  (hq4:t.getD 4 undef=x4)
  (hq6:t.getD 6 undef=x6)
  (hq7:t.getD 7 undef=x7)
  (hq8:t.getD 8 undef=x8)
  (hq9:t.getD 9 undef=x9)
  (hq10:t.getD 10 undef=x10)
  (c0:w.cell? ⟨b1,o1 + k * 5,none⟩=some a0) (e0:w.cell? ⟨b2,o2 + k * 5,none⟩=some d0) (c1:w.cell? ⟨b1,o1 + k * 5 + 1,none⟩=some a1) (e1:w.cell? ⟨b2,o2 + k * 5 + 1,none⟩=some d1) (c2:w.cell? ⟨b1,o1 + k * 5 + 2,none⟩=some a2) (e2:w.cell? ⟨b2,o2 + k * 5 + 2,none⟩=some d2) (c3:w.cell? ⟨b1,o1 + k * 5 + 3,none⟩=some a3) (e3:w.cell? ⟨b2,o2 + k * 5 + 3,none⟩=some d3) (c4:w.cell? ⟨b1,o1 + k * 5 + 4,none⟩=some a4) (e4:w.cell? ⟨b2,o2 + k * 5 + 4,none⟩=some d4)
  (hk:k < n) (hq:∀ w,(binOp .neq 73 (.agg #[a0,a1,a2,a3,a4]) (.agg #[d0,d1,d2,d3,d4])).run Tryz.prog w = .ok (.bool y) w) :
  reg_causeyref13_samep_6.wp Tryz.prog (Only fun a' W'=>(a'.tmps.size=26∧a'.defers = []∧a'.tmps.getD 0 undef = .slice (some ⟨b1,o1,none⟩) n m1∧a'.tmps.getD 1 undef = .slice (some ⟨b2,o2,none⟩) n m2∧a'.tmps.getD 5 undef = .int .i64 k∧a'.tmps.getD 2 undef=x2∧a'.tmps.getD 3 undef=x3∧a'.tmps.getD 4 undef=x4∧a'.tmps.getD 6 undef=x6∧a'.tmps.getD 7 undef=x7∧a'.tmps.getD 8 undef=x8∧a'.tmps.getD 9 undef=x9∧a'.tmps.getD 10 undef=x10∧a'.tmps.getD 25 undef = .bool y)∧New w W') ⟨t,[]⟩ w:=by
 conv=>arg 2;whnf
 obtain ⟨u,rfl⟩:=lit26 t hs
 have hq0:u 0 = _:=hq0
 have hq1:u 1 = _:=hq1
 have hq5:u 5 = _:=hq5
 have hq2:u 2 = _:=hq2
 have hq3:u 3 = _:=hq3
 have hq4:u 4 = _:=hq4
 have hq6:u 6 = _:=hq6
 have hq7:u 7 = _:=hq7
 have hq8:u 8 = _:=hq8
 have hq9:u 9 = _:=hq9
 have hq10:u 10 = _:=hq10
 rw [hq0,hq1,hq5,hq2,hq3,hq4,hq6,hq7,hq8,hq9,hq10]
 clear hq0 hq1 hq5 hq2 hq3 hq4 hq6 hq7 hq8 hq9 hq10 hs
 have hS:New w w.drew:=(Mods.refl _ _).drew
 have hid:decide ((k:Int) < (n:Int))=true:=decide_eq_true (by omega)
 refine wp_region_held (S:=fun W=>New w W) (by kernel_rfl) ?_
 show wpAnyH _ _ _ _ _ 9 _ _ w.drew
 refine tkI 0 (some 17) (.slice (some ⟨b1,o1,none⟩) n m1) hS ?_
 simp only [pS]
 refine tkI 1 (some 18) (.int .i64 k) hS ?_
 simp only [pS]
 refine tkI 2 (some 19) (.pointer (some ⟨b1,o1 + k * 5,none⟩)) hS ?_
 simp only [pS]
 refine tkA 3 rfl (some 20) (.agg #[a0,a1,a2,a3,a4]) (.inl ⟨by rfl,fun W hW=>by have q0:=hW.cell c0 id;have q1:=hW.cell c1 id;have q2:=hW.cell c2 id;have q3:=hW.cell c3 id;have q4:=hW.cell c4 id;go_simp⟩) hS ?_
 simp only [pS]
 refine tkI 4 (some 21) (.slice (some ⟨b2,o2,none⟩) n m2) hS ?_
 simp only [pS]
 refine tkI 5 (some 22) (.int .i64 k) hS ?_
 simp only [pS]
 refine tkI 6 (some 23) (.pointer (some ⟨b2,o2 + k * 5,none⟩)) hS ?_
 simp only [pS]
 refine tkA 7 rfl (some 24) (.agg #[d0,d1,d2,d3,d4]) (.inl ⟨by rfl,fun W hW=>by have q0:=hW.cell e0 id;have q1:=hW.cell e1 id;have q2:=hW.cell e2 id;have q3:=hW.cell e3 id;have q4:=hW.cell e4 id;go_simp⟩) hS ?_
 simp only [pS]
 refine tkA 8 rfl (some 25) (.bool y) (.inl ⟨by rfl,fun W hW=>by have hz:=hq W;go_simp⟩) hS ?_
 simp only [pS]
 refine wpAnyH_done (by kernel_rfl) ?_ _
 exact ⟨⟨rfl,rfl,rfl,rfl,rfl,rfl,rfl,rfl,rfl,rfl,rfl,rfl,rfl,rfl⟩,hS⟩
theorem samep_r {τ τ':Bool} (v1 v2:Value) (l r:List Bare.Par) (w:World) (h1:RdP τ w v1 l) (h2:RdP τ' w v2 r) :
  Calls Tryz.prog 122 #[v1,v2] w fun e w'=>e = .returned (.bool (decide (l=r)))∧New w w':=by
 have H1:=Lib.hid h1.1
 have H2:=Lib.hid h2.1
 obtain ⟨a1,m1,rfl⟩:=h1.slice
 obtain ⟨a2,m2,rfl⟩:=h2.slice
 have hn1:l.length ≤ 281474976710656:=h1.1.1
 clear h1 h2
 have hN0:New w w:=Mods.refl _ _
 obtain ⟨n,hn⟩:∃ n,l.length=n:=⟨_,rfl⟩
 obtain ⟨n2,hn2⟩:∃ n,r.length=n:=⟨_,rfl⟩
 by_cases hnn:n=n2
 ·subst hnn
  have hdd:decide ((n:Int)=(n:Int))=true:=decide_eq_true rfl
  have HE:=Lib.hid (list_same (l:=l) (r:=r) noP (by omega))
  obtain ⟨y,hy⟩:∃ y,decide (l=r)=y:=⟨_,rfl⟩
  have HY:=Lib.hid hy
  have Hn:=Lib.hid hn
  rw [hy,hn,hn2]
  rw [hn] at H1 hn1
  rw [hn2] at H2
  clear hy hn hn2
  go_enter Tryz.func122,Tryz.ntmps122
  go_wp2_with fail
  go_loopw [5] (fun t wr=>∃ k:Nat,k ≤ n∧t = .int .i64 k∧Hid (∀ j,j < k→l.getD j noP=r.getD j noP)∧New w wr) (fun t _=>n - (intOf t).toNat)
  case atStart=>exact ⟨0,Nat.zero_le _,rfl,Lib.hid fun i hi=>by omega,hN0⟩
  case round =>
   clear hN0
   obtain ⟨k,hk,rfl,hbef,hN⟩:=hrel
   by_cases hlt:k < n
   ·have hkd:decide ((k:Int) < (n:Int))=true:=decide_eq_true (by omega)
    obtain ⟨b1,o1,rfl,hrow⟩:=(H1.out.new hN).at.2.2 k hlt
    obtain ⟨b2,o2,rfl,hrow2⟩:=(H2.out.new hN).at.2.2 k hlt
    obtain ⟨k0,k1,k2,k3,k4⟩:=cells5 hrow
    obtain ⟨q0,q1,q2,q3,q4⟩:=cells5 hrow2
    have hq:=fun w=>nbinop_param (l.getD k noP) (r.getD k noP) w
    unfold pcs at hq
    cases hp:decide (l.getD k noP=r.getD k noP) with
    | true =>
     have hh:Hid (∀ j,j < k + 1→l.getD j noP=r.getD j noP):=Lib.hid fun i hi=>by
      by_cases hik:i < k
      ·exact hbef.out i hik
      ·obtain rfl:i=k:=by omega
       exact of_decide_eq_true hp
     rw [hp] at hq
     clear hp hbef hrow hrow2
     go_upto_region 6 with fail
     refine piece (fun _=>_) (samep6 _ rfl wr rfl rfl rfl rfl rfl rfl rfl rfl rfl rfl rfl k0 q0 k1 q1 k2 q2 k3 q3 k4 q4 hlt hq) ?_
     rintro ⟨z,dfs⟩ wr2 ⟨⟨hs,hd,hq0,hq1,hq5,hq2,hq3,hq4,hq6,hq7,hq8,hq9,hq10,hq25⟩,hN2⟩
     simp only at hs hd hq0 hq1 hq5 hq2 hq3 hq4 hq6 hq7 hq8 hq9 hq10 hq25
     subst hd
     obtain ⟨u,rfl⟩:=lit26 z hs
     have hp0:u 0 = .slice (some ⟨b1,o1,none⟩) n m1:=hq0
     have hp1:u 1 = .slice (some ⟨b2,o2,none⟩) n m2:=hq1
     have hp5:u 5 = .int .i64 k:=hq5
     have hp2:u 2=undef:=hq2
     have hp3:u 3=undef:=hq3
     have hp4:u 4=u4:=hq4
     have hp6:u 6 = .slice (some ⟨b1,o1,none⟩) n m1:=hq6
     have hp7:u 7 = .int .i64 n:=hq7
     have hp8:u 8 = .slice (some ⟨b2,o2,none⟩) n m2:=hq8
     have hp9:u 9 = .int .i64 n:=hq9
     have hp10:u 10 = .bool false:=hq10
     have hp25:u 25 = .bool (!true):=hq25
     rw [hp0,hp1,hp5,hp2,hp3,hp4,hp6,hp7,hp8,hp9,hp10,hp25]
     clear hp0 hq0 hp1 hq1 hp5 hq5 hp2 hq2 hp3 hq3 hp4 hq4 hp6 hq6 hp7 hq7 hp8 hq8 hp9 hq9 hp10 hq10 hp25 hq25 hs
     have hN:=hN.trans hN2
     clear k0 k1 k2 k3 k4 q0 q1 q2 q3 q4 hN2
     go_wp2_with fail
     go_roundw
     case rel=>exact ⟨k + 1,by omega,by go_num,hh,hN⟩
     case measure=>simp [intOf];omega
    | false =>
     obtain rfl:y=false:=by
      rw [← HY.out]
      refine decide_eq_false fun e=>?_
      rw [e] at hp
      simp at hp
     rw [hp] at hq
     clear hp hbef hrow hrow2 HE
     go_upto_region 6 with fail
     refine piece (fun _=>_) (samep6 _ rfl wr rfl rfl rfl rfl rfl rfl rfl rfl rfl rfl rfl k0 q0 k1 q1 k2 q2 k3 q3 k4 q4 hlt hq) ?_
     rintro ⟨z,dfs⟩ wr2 ⟨⟨hs,hd,hq0,hq1,hq5,hq2,hq3,hq4,hq6,hq7,hq8,hq9,hq10,hq25⟩,hN2⟩
     simp only at hs hd hq0 hq1 hq5 hq2 hq3 hq4 hq6 hq7 hq8 hq9 hq10 hq25
     subst hd
     obtain ⟨u,rfl⟩:=lit26 z hs
     have hp0:u 0 = .slice (some ⟨b1,o1,none⟩) n m1:=hq0
     have hp1:u 1 = .slice (some ⟨b2,o2,none⟩) n m2:=hq1
     have hp5:u 5 = .int .i64 k:=hq5
     have hp2:u 2=undef:=hq2
     have hp3:u 3=undef:=hq3
     have hp4:u 4=u4:=hq4
     have hp6:u 6 = .slice (some ⟨b1,o1,none⟩) n m1:=hq6
     have hp7:u 7 = .int .i64 n:=hq7
     have hp8:u 8 = .slice (some ⟨b2,o2,none⟩) n m2:=hq8
     have hp9:u 9 = .int .i64 n:=hq9
     have hp10:u 10 = .bool false:=hq10
     have hp25:u 25 = .bool (!false):=hq25
     rw [hp0,hp1,hp5,hp2,hp3,hp4,hp6,hp7,hp8,hp9,hp10,hp25]
     clear hp0 hq0 hp1 hq1 hp5 hq5 hp2 hq2 hp3 hq3 hp4 hq4 hp6 hq6 hp7 hq7 hp8 hq8 hp9 hq9 hp10 hq10 hp25 hq25 hs
     have hN:=hN.trans hN2
     clear k0 k1 k2 k3 k4 q0 q1 q2 q3 q4 hN2
     go_wp2_with fail
     go_ret
     exact ⟨rfl,hN⟩
   ·have hkd:decide ((k:Int) < (n:Int))=false:=decide_eq_false (by omega)
    obtain rfl:y=true:=by
     rw [← HY.out]
     exact decide_eq_true (HE.out fun i hi=>hbef.out i (by have:=Hn.out;omega))
    clear HE hbef
    go_wp2_with fail
    go_ret
    exact ⟨rfl,hN⟩
 ·have hdd:decide ((n:Int)=(n2:Int))=false:=decide_eq_false (by omega)
  rw [show decide (l=r)=false from decide_eq_false fun e=>hnn (by rw [← hn,← hn2,e])]
  rw [hn,hn2]
  go_enter Tryz.func122,Tryz.ntmps122
  go_wp2_with fail
  go_ret
  exact ⟨rfl,hN0⟩


theorem nbinop_item (p q:Bare.It) (w:World):(binOp .neq 66 (bv p) (bv q)).run Tryz.prog w = .ok (.bool (!decide (p=q))) w:=by
 have h:=eq_item 9998 p q w
 simp only [binOp]
 unfold bv at h ⊢
 simp [Op.equal,Op.maxDepth,h]
theorem lit71 (t:Array Value) (h:t.size=71):∃ u:Nat→Value,t=(u 0::u 1::u 2::u 3::u 4::u 5::u 6::u 7::u 8::u 9::u 10::u 11::u 12::u 13::u 14::u 15::u 16::u 17::u 18::u 19::u 20::u 21::u 22::u 23::u 24::u 25::u 26::u 27::u 28::u 29::u 30::u 31::u 32::u 33::u 34::u 35::u 36::u 37::u 38::u 39::u 40::u 41::u 42::u 43::u 44::u 45::u 46::u 47::u 48::u 49::u 50::u 51::u 52::u 53::u 54::u 55::u 56::u 57::u 58::u 59::u 60::u 61::u 62::u 63::u 64::u 65::u 66::u 67::u 68::u 69::u 70::([]:List Value)).toArray:=⟨fun i=>t.getD i undef,range_lit t 71 h⟩
noncomputable def reg_causeyref13_SameMember_6:Code:=((Tryz.f73.body.bind (regionOf 6)).getD .skip)
theorem sm6true (t:Array Value) (hs:t.size=71) (w:World) {B1 B2 g1 g2 h1 h2 k n ic jc pl pc ql qc:Nat} {pa qa:Option Addr} {a0 a1 d0 d1:Int} {a2 d2:ByteArray} {a3 d3:Bool} {x0 x1 x4 x6 x7 x8 x9 x10 x11 x12 x13 x14 x15 x16 x17 x18 x19 x20 x21 x22 x23 x24 x25 x26 x27 x28 x29 x30 x31 x32 x33 x34:Value}
  (hq2:t.getD 2 undef = .pointer (some ⟨B1,0,none⟩))
  (hq3:t.getD 3 undef = .pointer (some ⟨B2,0,none⟩))
  (hq5:t.getD 5 undef = .int .i64 k)
  (hq0:t.getD 0 undef=x0)
  (hq1:t.getD 1 undef=x1)
  (hq4:t.getD 4 undef=x4)
  (hq6:t.getD 6 undef=x6)
  (hq7:t.getD 7 undef=x7)
  (hq8:t.getD 8 undef=x8)
  (hq9:t.getD 9 undef=x9)
  (hq10:t.getD 10 undef=x10)
  (hq11:t.getD 11 undef=x11)
  (hq12:t.getD 12 undef=x12)
  (hq13:t.getD 13 undef=x13)
  (hq14:t.getD 14 undef=x14)
  (hq15:t.getD 15 undef=x15)
  (hq16:t.getD 16 undef=x16)
  (hq17:t.getD 17 undef=x17)
  (hq18:t.getD 18 undef=x18)
  (hq19:t.getD 19 undef=x19)
  (hq20:t.getD 20 undef=x20)
  (hq21:t.getD 21 undef=x21)
  (hq22:t.getD 22 undef=x22)
  (hq23:t.getD 23 undef=x23)
  (hq24:t.getD 24 undef=x24)
  (hq25:t.getD 25 undef=x25)
  (hq26:t.getD 26 undef=x26)
  (hq27:t.getD 27 undef=x27)
  (hq28:t.getD 28 undef=x28)
  (hq29:t.getD 29 undef=x29)
  (hq30:t.getD 30 undef=x30)
  (hq31:t.getD 31 undef=x31)
  (hq32:t.getD 32 undef=x32)
  (hq33:t.getD 33 undef=x33)
  (hq34:t.getD 34 undef=x34)
  (cB:w.cell? ⟨B1,2,none⟩=some (.slice (some ⟨g1,h1,none⟩) n ic)) (eB:w.cell? ⟨B2,2,none⟩=some (.slice (some ⟨g2,h2,none⟩) n jc)) (c0:w.cell? ⟨g1,h1 + k * 5,none⟩=some (.int .u8 a0)) (e0:w.cell? ⟨g2,h2 + k * 5,none⟩=some (.int .u8 d0)) (c1:w.cell? ⟨g1,h1 + k * 5 + 1,none⟩=some (.int .i64 a1)) (e1:w.cell? ⟨g2,h2 + k * 5 + 1,none⟩=some (.int .i64 d1)) (c2:w.cell? ⟨g1,h1 + k * 5 + 2,none⟩=some (.string a2)) (e2:w.cell? ⟨g2,h2 + k * 5 + 2,none⟩=some (.string d2)) (c3:w.cell? ⟨g1,h1 + k * 5 + 3,none⟩=some (.bool a3)) (e3:w.cell? ⟨g2,h2 + k * 5 + 3,none⟩=some (.bool d3)) (c4:w.cell? ⟨g1,h1 + k * 5 + 4,none⟩=some (.slice pa pl pc)) (e4:w.cell? ⟨g2,h2 + k * 5 + 4,none⟩=some (.slice qa ql qc))
  (hid:decide ((k:Int) < (n:Int))=true) (hkn:k < n) (hq:∀ w,(binOp .neq 66 (.agg #[.int .u8 a0,.int .i64 a1,.string a2,.bool a3]) (.agg #[.int .u8 d0,.int .i64 d1,.string d2,.bool d3])).run Tryz.prog w = .ok (.bool true) w) :
  reg_causeyref13_SameMember_6.wp Tryz.prog (Only fun a' W'=>(a'.tmps.size=71∧a'.defers = []∧a'.tmps.getD 2 undef = .pointer (some ⟨B1,0,none⟩)∧a'.tmps.getD 3 undef = .pointer (some ⟨B2,0,none⟩)∧a'.tmps.getD 5 undef = .int .i64 k∧a'.tmps.getD 0 undef=x0∧a'.tmps.getD 1 undef=x1∧a'.tmps.getD 4 undef=x4∧a'.tmps.getD 6 undef=x6∧a'.tmps.getD 7 undef=x7∧a'.tmps.getD 8 undef=x8∧a'.tmps.getD 9 undef=x9∧a'.tmps.getD 10 undef=x10∧a'.tmps.getD 11 undef=x11∧a'.tmps.getD 12 undef=x12∧a'.tmps.getD 13 undef=x13∧a'.tmps.getD 14 undef=x14∧a'.tmps.getD 15 undef=x15∧a'.tmps.getD 16 undef=x16∧a'.tmps.getD 17 undef=x17∧a'.tmps.getD 18 undef=x18∧a'.tmps.getD 19 undef=x19∧a'.tmps.getD 20 undef=x20∧a'.tmps.getD 21 undef=x21∧a'.tmps.getD 22 undef=x22∧a'.tmps.getD 23 undef=x23∧a'.tmps.getD 24 undef=x24∧a'.tmps.getD 25 undef=x25∧a'.tmps.getD 26 undef=x26∧a'.tmps.getD 27 undef=x27∧a'.tmps.getD 28 undef=x28∧a'.tmps.getD 29 undef=x29∧a'.tmps.getD 30 undef=x30∧a'.tmps.getD 31 undef=x31∧a'.tmps.getD 32 undef=x32∧a'.tmps.getD 33 undef=x33∧a'.tmps.getD 34 undef=x34∧a'.tmps.getD 70 undef = .bool true)∧New w W') ⟨t,[]⟩ w:=by
 conv=>arg 2;whnf
 obtain ⟨u,rfl⟩:=lit71 t hs
 have hq2:u 2 = _:=hq2
 have hq3:u 3 = _:=hq3
 have hq5:u 5 = _:=hq5
 have hq0:u 0 = _:=hq0
 have hq1:u 1 = _:=hq1
 have hq4:u 4 = _:=hq4
 have hq6:u 6 = _:=hq6
 have hq7:u 7 = _:=hq7
 have hq8:u 8 = _:=hq8
 have hq9:u 9 = _:=hq9
 have hq10:u 10 = _:=hq10
 have hq11:u 11 = _:=hq11
 have hq12:u 12 = _:=hq12
 have hq13:u 13 = _:=hq13
 have hq14:u 14 = _:=hq14
 have hq15:u 15 = _:=hq15
 have hq16:u 16 = _:=hq16
 have hq17:u 17 = _:=hq17
 have hq18:u 18 = _:=hq18
 have hq19:u 19 = _:=hq19
 have hq20:u 20 = _:=hq20
 have hq21:u 21 = _:=hq21
 have hq22:u 22 = _:=hq22
 have hq23:u 23 = _:=hq23
 have hq24:u 24 = _:=hq24
 have hq25:u 25 = _:=hq25
 have hq26:u 26 = _:=hq26
 have hq27:u 27 = _:=hq27
 have hq28:u 28 = _:=hq28
 have hq29:u 29 = _:=hq29
 have hq30:u 30 = _:=hq30
 have hq31:u 31 = _:=hq31
 have hq32:u 32 = _:=hq32
 have hq33:u 33 = _:=hq33
 have hq34:u 34 = _:=hq34
 rw [hq2,hq3,hq5,hq0,hq1,hq4,hq6,hq7,hq8,hq9,hq10,hq11,hq12,hq13,hq14,hq15,hq16,hq17,hq18,hq19,hq20,hq21,hq22,hq23,hq24,hq25,hq26,hq27,hq28,hq29,hq30,hq31,hq32,hq33,hq34]
 clear hq2 hq3 hq5 hq0 hq1 hq4 hq6 hq7 hq8 hq9 hq10 hq11 hq12 hq13 hq14 hq15 hq16 hq17 hq18 hq19 hq20 hq21 hq22 hq23 hq24 hq25 hq26 hq27 hq28 hq29 hq30 hq31 hq32 hq33 hq34 hs
 refine wp_region_held (S:=fun W=>New w W) (by kernel_rfl) ?_
 show wpAnyH _ _ _ _ _ 29 _ _ w.drew
 have hN:New w w.drew:=(Mods.refl _ _).drew
 have hS:New w w.drew:=(Mods.refl _ _).drew
 refine tkI 0 (some 42) (.pointer (some ⟨B1,2,none⟩)) hS ?_
 simp only [pS]
 refine tkA 1 rfl (some 43) (.slice (some ⟨g1,h1,none⟩) n ic) (.inl ⟨by rfl,fun W hW=>by have q:=hW.cell cB id;go_simp⟩) hS ?_
 simp only [pS]
 refine tkI 2 (some 44) (.int .i64 k) hS ?_
 simp only [pS]
 refine tkI 3 (some 45) (.pointer (some ⟨g1,h1 + k * 5,none⟩)) hS ?_
 simp only [pS]
 refine tkI 4 (some 46) (.pointer (some ⟨g1,h1 + k * 5,none⟩)) hS ?_
 simp only [pS]
 refine tkA 5 rfl (some 47) (.agg #[.int .u8 a0,.int .i64 a1,.string a2,.bool a3]) (.inl ⟨by rfl,fun W hW=>by have q0:=hW.cell c0 id;have q1:=hW.cell c1 id;have q2:=hW.cell c2 id;have q3:=hW.cell c3 id;go_simp⟩) hS ?_
 simp only [pS]
 refine tkI 6 (some 48) (.pointer (some ⟨B2,2,none⟩)) hS ?_
 simp only [pS]
 refine tkA 7 rfl (some 49) (.slice (some ⟨g2,h2,none⟩) n jc) (.inl ⟨by rfl,fun W hW=>by have q:=hW.cell eB id;go_simp⟩) hS ?_
 simp only [pS]
 refine tkI 8 (some 50) (.int .i64 k) hS ?_
 simp only [pS]
 refine tkI 9 (some 51) (.pointer (some ⟨g2,h2 + k * 5,none⟩)) hS ?_
 simp only [pS]
 refine tkI 10 (some 52) (.pointer (some ⟨g2,h2 + k * 5,none⟩)) hS ?_
 simp only [pS]
 refine tkA 11 rfl (some 53) (.agg #[.int .u8 d0,.int .i64 d1,.string d2,.bool d3]) (.inl ⟨by rfl,fun W hW=>by have q0:=hW.cell e0 id;have q1:=hW.cell e1 id;have q2:=hW.cell e2 id;have q3:=hW.cell e3 id;go_simp⟩) hS ?_
 simp only [pS]
 refine tkA 12 rfl (some 54) (.bool true) (.inl ⟨by rfl,fun W hW=>by have hz:=hq W;go_simp⟩) hS ?_
 simp only [pS]
 refine tkI 13 (some 55) (.bool true) hS ?_
 simp only [pS]
 refine tkU 14 (some 56) hS ?_
 simp only [pS]
 refine tkU 15 (some 57) hS ?_
 simp only [pS]
 refine tkU 16 (some 58) hS ?_
 simp only [pS]
 refine tkU 17 (some 59) hS ?_
 simp only [pS]
 refine tkU 18 (some 60) hS ?_
 simp only [pS]
 refine tkU 19 (some 61) hS ?_
 simp only [pS]
 refine tkU 20 (some 62) hS ?_
 simp only [pS]
 refine tkU 21 (some 63) hS ?_
 simp only [pS]
 refine tkU 22 (some 64) hS ?_
 simp only [pS]
 refine tkU 23 (some 65) hS ?_
 simp only [pS]
 refine tkU 24 (some 66) hS ?_
 simp only [pS]
 refine tkU 25 (some 67) hS ?_
 simp only [pS]
 refine tkU 26 (some 68) hS ?_
 simp only [pS]
 refine tkU 27 (some 69) hS ?_
 simp only [pS]
 refine tkI 28 (some 70) (.bool true) hS ?_
 simp only [pS]
 refine wpAnyH_done (by kernel_rfl) ?_ _
 exact ⟨⟨rfl,rfl,rfl,rfl,rfl,rfl,rfl,rfl,rfl,rfl,rfl,rfl,rfl,rfl,rfl,rfl,rfl,rfl,rfl,rfl,rfl,rfl,rfl,rfl,rfl,rfl,rfl,rfl,rfl,rfl,rfl,rfl,rfl,rfl,rfl,rfl,rfl,rfl⟩,hN⟩
theorem sm6false (t:Array Value) (hs:t.size=71) (w:World) {B1 B2 g1 g2 h1 h2 k n ic jc pl pc ql qc:Nat} {pa qa:Option Addr} {a0 a1 d0 d1:Int} {a2 d2:ByteArray} {a3 d3:Bool} {r:Bool} {x0 x1 x4 x6 x7 x8 x9 x10 x11 x12 x13 x14 x15 x16 x17 x18 x19 x20 x21 x22 x23 x24 x25 x26 x27 x28 x29 x30 x31 x32 x33 x34:Value}
  (hq2:t.getD 2 undef = .pointer (some ⟨B1,0,none⟩))
  (hq3:t.getD 3 undef = .pointer (some ⟨B2,0,none⟩))
  (hq5:t.getD 5 undef = .int .i64 k)
  (hq0:t.getD 0 undef=x0)
  (hq1:t.getD 1 undef=x1)
  (hq4:t.getD 4 undef=x4)
  (hq6:t.getD 6 undef=x6)
  (hq7:t.getD 7 undef=x7)
  (hq8:t.getD 8 undef=x8)
  (hq9:t.getD 9 undef=x9)
  (hq10:t.getD 10 undef=x10)
  (hq11:t.getD 11 undef=x11)
  (hq12:t.getD 12 undef=x12)
  (hq13:t.getD 13 undef=x13)
  (hq14:t.getD 14 undef=x14)
  (hq15:t.getD 15 undef=x15)
  (hq16:t.getD 16 undef=x16)
  (hq17:t.getD 17 undef=x17)
  (hq18:t.getD 18 undef=x18)
  (hq19:t.getD 19 undef=x19)
  (hq20:t.getD 20 undef=x20)
  (hq21:t.getD 21 undef=x21)
  (hq22:t.getD 22 undef=x22)
  (hq23:t.getD 23 undef=x23)
  (hq24:t.getD 24 undef=x24)
  (hq25:t.getD 25 undef=x25)
  (hq26:t.getD 26 undef=x26)
  (hq27:t.getD 27 undef=x27)
  (hq28:t.getD 28 undef=x28)
  (hq29:t.getD 29 undef=x29)
  (hq30:t.getD 30 undef=x30)
  (hq31:t.getD 31 undef=x31)
  (hq32:t.getD 32 undef=x32)
  (hq33:t.getD 33 undef=x33)
  (hq34:t.getD 34 undef=x34)
  (cB:w.cell? ⟨B1,2,none⟩=some (.slice (some ⟨g1,h1,none⟩) n ic)) (eB:w.cell? ⟨B2,2,none⟩=some (.slice (some ⟨g2,h2,none⟩) n jc)) (c0:w.cell? ⟨g1,h1 + k * 5,none⟩=some (.int .u8 a0)) (e0:w.cell? ⟨g2,h2 + k * 5,none⟩=some (.int .u8 d0)) (c1:w.cell? ⟨g1,h1 + k * 5 + 1,none⟩=some (.int .i64 a1)) (e1:w.cell? ⟨g2,h2 + k * 5 + 1,none⟩=some (.int .i64 d1)) (c2:w.cell? ⟨g1,h1 + k * 5 + 2,none⟩=some (.string a2)) (e2:w.cell? ⟨g2,h2 + k * 5 + 2,none⟩=some (.string d2)) (c3:w.cell? ⟨g1,h1 + k * 5 + 3,none⟩=some (.bool a3)) (e3:w.cell? ⟨g2,h2 + k * 5 + 3,none⟩=some (.bool d3)) (c4:w.cell? ⟨g1,h1 + k * 5 + 4,none⟩=some (.slice pa pl pc)) (e4:w.cell? ⟨g2,h2 + k * 5 + 4,none⟩=some (.slice qa ql qc))
  (hid:decide ((k:Int) < (n:Int))=true) (hkn:k < n) (hq:∀ w,(binOp .neq 66 (.agg #[.int .u8 a0,.int .i64 a1,.string a2,.bool a3]) (.agg #[.int .u8 d0,.int .i64 d1,.string d2,.bool d3])).run Tryz.prog w = .ok (.bool false) w)
  (HC:Hid (∀ W,New w W→Calls Tryz.prog 122 #[.slice pa pl pc,.slice qa ql qc] W fun e w'=>e = .returned (.bool r)∧New W w')) :
  reg_causeyref13_SameMember_6.wp Tryz.prog (Only fun a' W'=>(a'.tmps.size=71∧a'.defers = []∧a'.tmps.getD 2 undef = .pointer (some ⟨B1,0,none⟩)∧a'.tmps.getD 3 undef = .pointer (some ⟨B2,0,none⟩)∧a'.tmps.getD 5 undef = .int .i64 k∧a'.tmps.getD 0 undef=x0∧a'.tmps.getD 1 undef=x1∧a'.tmps.getD 4 undef=x4∧a'.tmps.getD 6 undef=x6∧a'.tmps.getD 7 undef=x7∧a'.tmps.getD 8 undef=x8∧a'.tmps.getD 9 undef=x9∧a'.tmps.getD 10 undef=x10∧a'.tmps.getD 11 undef=x11∧a'.tmps.getD 12 undef=x12∧a'.tmps.getD 13 undef=x13∧a'.tmps.getD 14 undef=x14∧a'.tmps.getD 15 undef=x15∧a'.tmps.getD 16 undef=x16∧a'.tmps.getD 17 undef=x17∧a'.tmps.getD 18 undef=x18∧a'.tmps.getD 19 undef=x19∧a'.tmps.getD 20 undef=x20∧a'.tmps.getD 21 undef=x21∧a'.tmps.getD 22 undef=x22∧a'.tmps.getD 23 undef=x23∧a'.tmps.getD 24 undef=x24∧a'.tmps.getD 25 undef=x25∧a'.tmps.getD 26 undef=x26∧a'.tmps.getD 27 undef=x27∧a'.tmps.getD 28 undef=x28∧a'.tmps.getD 29 undef=x29∧a'.tmps.getD 30 undef=x30∧a'.tmps.getD 31 undef=x31∧a'.tmps.getD 32 undef=x32∧a'.tmps.getD 33 undef=x33∧a'.tmps.getD 34 undef=x34∧a'.tmps.getD 70 undef = .bool (!r))∧New w W') ⟨t,[]⟩ w:=by
 conv=>arg 2;whnf
 obtain ⟨u,rfl⟩:=lit71 t hs
 have hq2:u 2 = _:=hq2
 have hq3:u 3 = _:=hq3
 have hq5:u 5 = _:=hq5
 have hq0:u 0 = _:=hq0
 have hq1:u 1 = _:=hq1
 have hq4:u 4 = _:=hq4
 have hq6:u 6 = _:=hq6
 have hq7:u 7 = _:=hq7
 have hq8:u 8 = _:=hq8
 have hq9:u 9 = _:=hq9
 have hq10:u 10 = _:=hq10
 have hq11:u 11 = _:=hq11
 have hq12:u 12 = _:=hq12
 have hq13:u 13 = _:=hq13
 have hq14:u 14 = _:=hq14
 have hq15:u 15 = _:=hq15
 have hq16:u 16 = _:=hq16
 have hq17:u 17 = _:=hq17
 have hq18:u 18 = _:=hq18
 have hq19:u 19 = _:=hq19
 have hq20:u 20 = _:=hq20
 have hq21:u 21 = _:=hq21
 have hq22:u 22 = _:=hq22
 have hq23:u 23 = _:=hq23
 have hq24:u 24 = _:=hq24
 have hq25:u 25 = _:=hq25
 have hq26:u 26 = _:=hq26
 have hq27:u 27 = _:=hq27
 have hq28:u 28 = _:=hq28
 have hq29:u 29 = _:=hq29
 have hq30:u 30 = _:=hq30
 have hq31:u 31 = _:=hq31
 have hq32:u 32 = _:=hq32
 have hq33:u 33 = _:=hq33
 have hq34:u 34 = _:=hq34
 rw [hq2,hq3,hq5,hq0,hq1,hq4,hq6,hq7,hq8,hq9,hq10,hq11,hq12,hq13,hq14,hq15,hq16,hq17,hq18,hq19,hq20,hq21,hq22,hq23,hq24,hq25,hq26,hq27,hq28,hq29,hq30,hq31,hq32,hq33,hq34]
 clear hq2 hq3 hq5 hq0 hq1 hq4 hq6 hq7 hq8 hq9 hq10 hq11 hq12 hq13 hq14 hq15 hq16 hq17 hq18 hq19 hq20 hq21 hq22 hq23 hq24 hq25 hq26 hq27 hq28 hq29 hq30 hq31 hq32 hq33 hq34 hs
 refine wp_region_held (S:=fun W=>New w W) (by kernel_rfl) ?_
 show wpAnyH _ _ _ _ _ 29 _ _ w.drew
 have hN:New w w.drew:=(Mods.refl _ _).drew
 have hS:New w w.drew:=(Mods.refl _ _).drew
 refine tkI 0 (some 42) (.pointer (some ⟨B1,2,none⟩)) hS ?_
 simp only [pS]
 refine tkA 1 rfl (some 43) (.slice (some ⟨g1,h1,none⟩) n ic) (.inl ⟨by rfl,fun W hW=>by have q:=hW.cell cB id;go_simp⟩) hS ?_
 simp only [pS]
 refine tkI 2 (some 44) (.int .i64 k) hS ?_
 simp only [pS]
 refine tkI 3 (some 45) (.pointer (some ⟨g1,h1 + k * 5,none⟩)) hS ?_
 simp only [pS]
 refine tkI 4 (some 46) (.pointer (some ⟨g1,h1 + k * 5,none⟩)) hS ?_
 simp only [pS]
 refine tkA 5 rfl (some 47) (.agg #[.int .u8 a0,.int .i64 a1,.string a2,.bool a3]) (.inl ⟨by rfl,fun W hW=>by have q0:=hW.cell c0 id;have q1:=hW.cell c1 id;have q2:=hW.cell c2 id;have q3:=hW.cell c3 id;go_simp⟩) hS ?_
 simp only [pS]
 refine tkI 6 (some 48) (.pointer (some ⟨B2,2,none⟩)) hS ?_
 simp only [pS]
 refine tkA 7 rfl (some 49) (.slice (some ⟨g2,h2,none⟩) n jc) (.inl ⟨by rfl,fun W hW=>by have q:=hW.cell eB id;go_simp⟩) hS ?_
 simp only [pS]
 refine tkI 8 (some 50) (.int .i64 k) hS ?_
 simp only [pS]
 refine tkI 9 (some 51) (.pointer (some ⟨g2,h2 + k * 5,none⟩)) hS ?_
 simp only [pS]
 refine tkI 10 (some 52) (.pointer (some ⟨g2,h2 + k * 5,none⟩)) hS ?_
 simp only [pS]
 refine tkA 11 rfl (some 53) (.agg #[.int .u8 d0,.int .i64 d1,.string d2,.bool d3]) (.inl ⟨by rfl,fun W hW=>by have q0:=hW.cell e0 id;have q1:=hW.cell e1 id;have q2:=hW.cell e2 id;have q3:=hW.cell e3 id;go_simp⟩) hS ?_
 simp only [pS]
 refine tkA 12 rfl (some 54) (.bool false) (.inl ⟨by rfl,fun W hW=>by have hz:=hq W;go_simp⟩) hS ?_
 simp only [pS]
 refine tkI 13 (some 55) (.bool false) hS ?_
 simp only [pS]
 refine tkI 14 (some 56) (.pointer (some ⟨B1,2,none⟩)) hS ?_
 simp only [pS]
 refine tkA 15 rfl (some 57) (.slice (some ⟨g1,h1,none⟩) n ic) (.inl ⟨by rfl,fun W hW=>by have q:=hW.cell cB id;go_simp⟩) hS ?_
 simp only [pS]
 refine tkI 16 (some 58) (.int .i64 k) hS ?_
 simp only [pS]
 refine tkI 17 (some 59) (.pointer (some ⟨g1,h1 + k * 5,none⟩)) hS ?_
 simp only [pS]
 refine tkI 18 (some 60) (.pointer (some ⟨g1,h1 + k * 5 + 4,none⟩)) hS ?_
 simp only [pS]
 refine tkA 19 rfl (some 61) (.slice pa pl pc) (.inl ⟨by rfl,fun W hW=>by have q:=hW.cell c4 id;go_simp⟩) hS ?_
 simp only [pS]
 refine tkI 20 (some 62) (.pointer (some ⟨B2,2,none⟩)) hS ?_
 simp only [pS]
 refine tkA 21 rfl (some 63) (.slice (some ⟨g2,h2,none⟩) n jc) (.inl ⟨by rfl,fun W hW=>by have q:=hW.cell eB id;go_simp⟩) hS ?_
 simp only [pS]
 refine tkI 22 (some 64) (.int .i64 k) hS ?_
 simp only [pS]
 refine tkI 23 (some 65) (.pointer (some ⟨g2,h2 + k * 5,none⟩)) hS ?_
 simp only [pS]
 refine tkI 24 (some 66) (.pointer (some ⟨g2,h2 + k * 5 + 4,none⟩)) hS ?_
 simp only [pS]
 refine tkA 25 rfl (some 67) (.slice qa ql qc) (.inl ⟨by rfl,fun W hW=>by have q:=hW.cell e4 id;go_simp⟩) hS ?_
 simp only [pS]
 refine tkO 26 ?_
 refine opH_call (some 68) rfl (by rfl) rfl 122 #[.slice pa pl pc,.slice qa ql qc] (by go_simp) ((HC.out _ hN).mono ?_)
 rintro e w26 ⟨rfl,hk⟩
 have hS:=hS.trans hk
 have hN:=hN.trans hk
 clear hk
 refine ⟨_,rfl,hS,?_⟩
 simp only [pS]
 refine tkI 27 (some 69) (.bool (!r)) hS ?_
 simp only [pS]
 refine tkI 28 (some 70) (.bool (!r)) hS ?_
 simp only [pS]
 refine wpAnyH_done (by kernel_rfl) ?_ _
 exact ⟨⟨rfl,rfl,rfl,rfl,rfl,rfl,rfl,rfl,rfl,rfl,rfl,rfl,rfl,rfl,rfl,rfl,rfl,rfl,rfl,rfl,rfl,rfl,rfl,rfl,rfl,rfl,rfl,rfl,rfl,rfl,rfl,rfl,rfl,rfl,rfl,rfl,rfl,rfl⟩,hN⟩


theorem samem_r {τ τ':Bool} (m n:Bare.Mem) (iv pv jv qv:Value) (w:World) (hi:RdI τ w iv m.items) (hp:RdP τ w pv m.params) (hj:RdI τ' w jv n.items) (hq:RdP τ' w qv n.params) :
  Calls Tryz.prog 73 #[.agg (mcs m iv pv).toArray,.agg (mcs n jv qv).toArray] w fun e w'=>e = .returned (.bool (decide (m=n)))∧New w w':=by
 obtain ⟨ia,ic,rfl⟩:=hi.slice
 obtain ⟨ja,jc,rfl⟩:=hj.slice
 obtain ⟨pa,pc,rfl⟩:=hp.slice
 obtain ⟨qa,qc,rfl⟩:=hq.slice
 have HP:=Lib.hid (fun W (hW:New w W)=>samep_r _ _ _ _ W (hp.new hW) (hq.new hW))
 obtain ⟨iv,i1,-,i3⟩:=hi
 obtain ⟨jv,j1,-,j3⟩:=hj
 have HI:=Lib.hid i1
 have HJ:=Lib.hid j1
 have HS:=Lib.hid (fun i (h:i < m.items.length)=>(i3 i h).slice)
 have HT:=Lib.hid (fun i (h:i < n.items.length)=>(j3 i h).slice)
 have HQ:=Lib.hid (fun i (h:i < m.items.length) (h':i < n.items.length) W (hW:New w W)=>samep_r _ _ _ _ W ((i3 i h).new hW) ((j3 i h').new hW))
 clear i1 i3 j1 j3
 obtain ⟨k,y,its,ps⟩:=m
 obtain ⟨k',y',its',ps'⟩:=n
 have hd:decide ((⟨k,y,its,ps⟩:Bare.Mem)=⟨k',y',its',ps'⟩)=(decide (k=k') && (decide (y=y') && (decide (ps=ps') && decide (its=its')))):=by
  rw [Bool.eq_iff_iff]
  simp only [Bool.and_eq_true,decide_eq_true_eq,Bare.Mem.mk.injEq]
  constructor
  ·rintro ⟨a,b,c,d⟩;exact ⟨a,b,d,c⟩
  ·rintro ⟨a,b,d,c⟩;exact ⟨a,b,c,d⟩
 rw [hd]
 have he:=eq_tx (tx k) (tx k')
 rw [bl_tx,bl_tx] at he
 unfold mcs
 simp only at HP HI HJ HS HT HQ ⊢
 obtain ⟨K,hK⟩:∃ z,tx k=z:=⟨_,rfl⟩
 obtain ⟨K',hK'⟩:∃ z,tx k'=z:=⟨_,rfl⟩
 obtain ⟨a1,h1⟩:∃ z,decide (k=k')=z:=⟨_,rfl⟩
 obtain ⟨a2,h2⟩:∃ z,decide (y=y')=z:=⟨_,rfl⟩
 obtain ⟨a3,h3⟩:∃ z,decide (ps=ps')=z:=⟨_,rfl⟩
 obtain ⟨a4,h4⟩:∃ z,decide (its=its')=z:=⟨_,rfl⟩
 have hb2:(y == y')=a2:=by rw [← h2];cases y <;> cases y' <;> rfl
 rw [hK,hK',h1] at he
 rw [hK,hK',h1,h2,h3,h4]
 rw [h3] at HP
 obtain ⟨il,hil⟩:∃ z,its.length=z:=⟨_,rfl⟩
 obtain ⟨jl,hjl⟩:∃ z,its'.length=z:=⟨_,rfl⟩
 obtain ⟨pl,hpl⟩:∃ z,ps.length=z:=⟨_,rfl⟩
 obtain ⟨ql,hql⟩:∃ z,ps'.length=z:=⟨_,rfl⟩
 have Hil:=Lib.hid hil
 have Hjl:=Lib.hid hjl
 have H4:=Lib.hid h4
 rw [hil] at HI HS HQ
 rw [hjl] at HJ HT HQ
 rw [hil,hjl]
 rw [hpl,hql] at HP ⊢
 obtain ⟨z,hz⟩:∃ z,(a1 && (a2 && (a3 && a4)))=z:=⟨_,rfl⟩
 have HZ:=Lib.hid hz
 rw [hz]
 clear hz hil hjl hpl hql h1 h3 h4 hK hK' hd hp hq
 have hA:New w (w.alloc (.cells #[.string K,.bool y,.slice ia il ic,.slice pa pl pc] 64)):=(Mods.refl _ _).alloc _
 have r1:=World.alloc_heap_new w (.cells #[.string K,.bool y,.slice ia il ic,.slice pa pl pc] 64)
 obtain ⟨W1,hW1⟩:∃ W1,w.alloc (.cells #[.string K,.bool y,.slice ia il ic,.slice pa pl pc] 64)=W1:=⟨_,rfl⟩
 have hA2:New W1 (W1.alloc (.cells #[.string K',.bool y',.slice ja jl jc,.slice qa ql qc] 64)):=(Mods.refl _ _).alloc _
 have r2:=World.alloc_heap_new W1 (.cells #[.string K',.bool y',.slice ja jl jc,.slice qa ql qc] 64)
 obtain ⟨W2,hW2⟩:∃ W2,W1.alloc (.cells #[.string K',.bool y',.slice ja jl jc,.slice qa ql qc] 64)=W2:=⟨_,rfl⟩
 have hs1:W1.heap.size=w.heap.size + 1:=by rw [← hW1];simp
 go_enter Tryz.func73,Tryz.ntmps73
 go_upto_region 1 with fail
 rw [hW1] at hA r1
 rw [hW2] at hA2 r2
 rw [hs1] at r2
 have r1:=hA2.heap r1 id
 have hN2:=hA.trans hA2
 have HP2:=Lib.hid (HP.out W2 hN2)
 have HR1:=Lib.hid r1
 have HR2:=Lib.hid r2
 clear hW1 hW2 hs1
 have x0:=cell_of_row _ _ 0 _ _ _ r1
 have y0:=cell_of_row _ _ 0 _ _ _ r2
 have x1:=cell_of_row _ _ 1 _ _ _ r1
 have y1:=cell_of_row _ _ 1 _ _ _ r2
 have x2:=cell_of_row _ _ 2 _ _ _ r1
 have y2:=cell_of_row _ _ 2 _ _ _ r2
 have x3:=cell_of_row _ _ 3 _ _ _ r1
 have y3:=cell_of_row _ _ 3 _ _ _ r2
 simp only [gS] at x0 x1 x2 x3 y0 y1 y2 y3
 cases a1 with
 | false =>
  obtain rfl:false=z:=by rw [← HZ.out];rfl
  clear HZ
  go_wp2_with fail
  go_ret
  exact ⟨rfl,hN2⟩
 | true =>
  cases a2 with
  | false =>
   obtain rfl:false=z:=by rw [← HZ.out];rfl
   clear HZ
   go_wp2_with fail
   go_ret
   exact ⟨rfl,hN2⟩
  | true =>
   obtain rfl:y=y':=of_decide_eq_true h2
   by_cases hll:il=jl
   ·subst hll
    have hdd:decide ((il:Int)=(il:Int))=true:=decide_eq_true rfl
    cases a3 with
    | false =>
     obtain rfl:false=z:=by rw [← HZ.out];rfl
     clear HZ
     go_wp2_with (go_at_call 122;refine (HP2.out).mono ?_;rintro e W3 ⟨rfl,hN3⟩)
     go_ret
     exact ⟨rfl,hN2.trans hN3⟩
    | true =>
     obtain rfl:a4=z:=by rw [← HZ.out];rfl
     clear HZ
     go_upto_region 4 with (go_at_call 122;refine (HP2.out).mono ?_;rintro e W3 ⟨rfl,hN3⟩)
     have hlen:il ≤ 281474976710656:=HI.out.1
     have s1:=hN3.heap HR1.out id
     have s2:=hN3.heap HR2.out id
     have hNW:=hN2.trans hN3
     obtain ⟨B1,hB1⟩:∃ B,w.heap.size=B:=⟨_,rfl⟩
     rw [hB1] at s1 s2 ⊢
     obtain ⟨B2,hB2⟩:∃ B,B1 + 1=B:=⟨_,rfl⟩
     rw [hB2] at s2 ⊢
     clear HR1 HR2 hN2 hN3 hA hA2 HP2 HP x0 x1 x2 x3 y0 y1 y2 y3 r1 r2
     clear h2
     go_loopw [5] (fun t wr=>∃ k:Nat,k ≤ il∧t = .int .i64 k∧Hid (∀ j,j < k→its.getD j Bare.noI=its'.getD j Bare.noI)∧wr.heap[B1]? = some (.cells #[.string K,.bool y,.slice ia il ic,.slice pa pl pc] 64 (0,0))∧wr.heap[B2]? = some (.cells #[.string K',.bool y,.slice ja il jc,.slice qa ql qc] 64 (0,0))∧New w wr) (fun t _=>il - (intOf t).toNat)
     case atStart=>exact ⟨0,Nat.zero_le _,rfl,Lib.hid fun j hj=>by omega,s1,s2,hNW⟩
     case round =>
      clear s1 s2 hNW
      obtain ⟨k,hk,rfl,hbef,s1,s2,hN⟩:=hrel
      have cB:=cell_of_row _ _ 2 _ _ _ s1
      have eB:=cell_of_row _ _ 2 _ _ _ s2
      simp only [gS] at cB eB
      by_cases hlt:k < il
      ·have hkd:decide ((k:Int) < (il:Int))=true:=decide_eq_true (by omega)
       obtain ⟨g1,h1,rfl,hrow⟩:=(HI.out.new hN).at.2.2 k hlt
       obtain ⟨g2,h2,rfl,hrow2⟩:=(HJ.out.new hN).at.2.2 k hlt
       obtain ⟨pa1,pc1,e1⟩:=HS.out k hlt
       obtain ⟨qa1,qc1,f1⟩:=HT.out k hlt
       obtain ⟨c0,c1,c2,c3,c4⟩:=cells5 hrow
       obtain ⟨e0,e1',e2,e3,e4⟩:=cells5 hrow2
       rw [e1] at c4
       rw [f1] at e4
       have hq:=fun w=>nbinop_item (its.getD k Bare.noI).bare (its'.getD k Bare.noI).bare w
       unfold bv bcs at hq
       have HC:=Lib.hid (fun W (hW:New wr W)=>HQ.out k hlt hlt W (hN.trans hW))
       rw [e1,f1] at HC
       clear hrow hrow2
       cases hb:decide ((its.getD k Bare.noI).bare=(its'.getD k Bare.noI).bare) with
       | false =>
        rw [hb,Bool.not_false] at hq
        obtain rfl:a4=false:=by
         rw [← H4.out]
         exact decide_eq_false (fun e=>by rw [e] at hb;simp at hb)
        clear HC HQ hb
        go_upto_region 6 with fail
        refine piece (fun _=>_) (sm6true _ rfl wr rfl rfl rfl rfl rfl rfl rfl rfl rfl rfl rfl rfl rfl rfl rfl rfl rfl rfl rfl rfl rfl rfl rfl rfl rfl rfl rfl rfl rfl rfl rfl rfl rfl rfl rfl cB eB c0 e0 c1 e1' c2 e2 c3 e3 c4 e4 hkd hlt hq) ?_
        rintro ⟨z,dfs⟩ W4 ⟨⟨hs,hd,hq2,hq3,hq5,hq0,hq1,hq4,hq6,hq7,hq8,hq9,hq10,hq11,hq12,hq13,hq14,hq15,hq16,hq17,hq18,hq19,hq20,hq21,hq22,hq23,hq24,hq25,hq26,hq27,hq28,hq29,hq30,hq31,hq32,hq33,hq34,hq70⟩,hN4⟩
        simp only at hs hd hq2 hq3 hq5 hq0 hq1 hq4 hq6 hq7 hq8 hq9 hq10 hq11 hq12 hq13 hq14 hq15 hq16 hq17 hq18 hq19 hq20 hq21 hq22 hq23 hq24 hq25 hq26 hq27 hq28 hq29 hq30 hq31 hq32 hq33 hq34 hq70
        subst hd
        obtain ⟨u,rfl⟩:=lit71 z hs
        have hp2:u 2 = .pointer (some ⟨B1,0,none⟩):=hq2
        have hp3:u 3 = .pointer (some ⟨B2,0,none⟩):=hq3
        have hp5:u 5 = .int .i64 k:=hq5
        have hp0:u 0 = .agg #[.string K,.bool y,.slice (some ⟨g1,h1,none⟩) il ic,.slice pa pl pc]:=hq0
        have hp1:u 1 = .agg #[.string K',.bool y,.slice (some ⟨g2,h2,none⟩) il jc,.slice qa ql qc]:=hq1
        have hp4:u 4=u4:=hq4
        have hp6:u 6 = .pointer (some ⟨B1,0,none⟩):=hq6
        have hp7:u 7 = .string K:=hq7
        have hp8:u 8 = .pointer (some ⟨B2,0,none⟩):=hq8
        have hp9:u 9 = .string K':=hq9
        have hp10:u 10 = .bool false:=hq10
        have hp11:u 11 = .bool false:=hq11
        have hp12:u 12 = .pointer (some ⟨B1,1,none⟩):=hq12
        have hp13:u 13 = .bool y:=hq13
        have hp14:u 14 = .pointer (some ⟨B2,1,none⟩):=hq14
        have hp15:u 15 = .bool y:=hq15
        have hp16:u 16 = .bool false:=hq16
        have hp17:u 17 = .bool false:=hq17
        have hp18:u 18 = .bool false:=hq18
        have hp19:u 19 = .pointer (some ⟨B1,2,none⟩):=hq19
        have hp20:u 20 = .slice (some ⟨g1,h1,none⟩) il ic:=hq20
        have hp21:u 21 = .int .i64 il:=hq21
        have hp22:u 22 = .pointer (some ⟨B2,2,none⟩):=hq22
        have hp23:u 23 = .slice (some ⟨g2,h2,none⟩) il jc:=hq23
        have hp24:u 24 = .int .i64 il:=hq24
        have hp25:u 25 = .bool false:=hq25
        have hp26:u 26 = .bool false:=hq26
        have hp27:u 27 = .bool false:=hq27
        have hp28:u 28 = .pointer (some ⟨B1,3,none⟩):=hq28
        have hp29:u 29 = .slice pa pl pc:=hq29
        have hp30:u 30 = .pointer (some ⟨B2,3,none⟩):=hq30
        have hp31:u 31 = .slice qa ql qc:=hq31
        have hp32:u 32 = .bool true:=hq32
        have hp33:u 33 = .bool false:=hq33
        have hp34:u 34 = .bool false:=hq34
        have hp70:u 70 = .bool true:=hq70
        rw [hp2,hp3,hp5,hp0,hp1,hp4,hp6,hp7,hp8,hp9,hp10,hp11,hp12,hp13,hp14,hp15,hp16,hp17,hp18,hp19,hp20,hp21,hp22,hp23,hp24,hp25,hp26,hp27,hp28,hp29,hp30,hp31,hp32,hp33,hp34,hp70]
        clear hp2 hq2 hp3 hq3 hp5 hq5 hp0 hq0 hp1 hq1 hp4 hq4 hp6 hq6 hp7 hq7 hp8 hq8 hp9 hq9 hp10 hq10 hp11 hq11 hp12 hq12 hp13 hq13 hp14 hq14 hp15 hq15 hp16 hq16 hp17 hq17 hp18 hq18 hp19 hq19 hp20 hq20 hp21 hq21 hp22 hq22 hp23 hq23 hp24 hq24 hp25 hq25 hp26 hq26 hp27 hq27 hp28 hq28 hp29 hq29 hp30 hq30 hp31 hq31 hp32 hq32 hp33 hq33 hp34 hq34 hp70 hq70 hs
        have hN:=hN.trans hN4
        go_wp2_with fail
        go_ret
        exact ⟨rfl,hN⟩
       | true =>
        rw [hb,Bool.not_true] at hq
        have hbe:=of_decide_eq_true hb
        obtain ⟨r,hr⟩:∃ r,decide ((its.getD k Bare.noI).params=(its'.getD k Bare.noI).params)=r:=⟨_,rfl⟩
        rw [hr] at HC
        clear hb
        go_upto_region 6 with fail
        refine piece (fun _=>_) (sm6false _ rfl wr rfl rfl rfl rfl rfl rfl rfl rfl rfl rfl rfl rfl rfl rfl rfl rfl rfl rfl rfl rfl rfl rfl rfl rfl rfl rfl rfl rfl rfl rfl rfl rfl rfl rfl rfl cB eB c0 e0 c1 e1' c2 e2 c3 e3 c4 e4 hkd hlt hq HC) ?_
        rintro ⟨z,dfs⟩ W4 ⟨⟨hs,hd,hq2,hq3,hq5,hq0,hq1,hq4,hq6,hq7,hq8,hq9,hq10,hq11,hq12,hq13,hq14,hq15,hq16,hq17,hq18,hq19,hq20,hq21,hq22,hq23,hq24,hq25,hq26,hq27,hq28,hq29,hq30,hq31,hq32,hq33,hq34,hq70⟩,hN4⟩
        simp only at hs hd hq2 hq3 hq5 hq0 hq1 hq4 hq6 hq7 hq8 hq9 hq10 hq11 hq12 hq13 hq14 hq15 hq16 hq17 hq18 hq19 hq20 hq21 hq22 hq23 hq24 hq25 hq26 hq27 hq28 hq29 hq30 hq31 hq32 hq33 hq34 hq70
        subst hd
        obtain ⟨u,rfl⟩:=lit71 z hs
        have hp2:u 2 = .pointer (some ⟨B1,0,none⟩):=hq2
        have hp3:u 3 = .pointer (some ⟨B2,0,none⟩):=hq3
        have hp5:u 5 = .int .i64 k:=hq5
        have hp0:u 0 = .agg #[.string K,.bool y,.slice (some ⟨g1,h1,none⟩) il ic,.slice pa pl pc]:=hq0
        have hp1:u 1 = .agg #[.string K',.bool y,.slice (some ⟨g2,h2,none⟩) il jc,.slice qa ql qc]:=hq1
        have hp4:u 4=u4:=hq4
        have hp6:u 6 = .pointer (some ⟨B1,0,none⟩):=hq6
        have hp7:u 7 = .string K:=hq7
        have hp8:u 8 = .pointer (some ⟨B2,0,none⟩):=hq8
        have hp9:u 9 = .string K':=hq9
        have hp10:u 10 = .bool false:=hq10
        have hp11:u 11 = .bool false:=hq11
        have hp12:u 12 = .pointer (some ⟨B1,1,none⟩):=hq12
        have hp13:u 13 = .bool y:=hq13
        have hp14:u 14 = .pointer (some ⟨B2,1,none⟩):=hq14
        have hp15:u 15 = .bool y:=hq15
        have hp16:u 16 = .bool false:=hq16
        have hp17:u 17 = .bool false:=hq17
        have hp18:u 18 = .bool false:=hq18
        have hp19:u 19 = .pointer (some ⟨B1,2,none⟩):=hq19
        have hp20:u 20 = .slice (some ⟨g1,h1,none⟩) il ic:=hq20
        have hp21:u 21 = .int .i64 il:=hq21
        have hp22:u 22 = .pointer (some ⟨B2,2,none⟩):=hq22
        have hp23:u 23 = .slice (some ⟨g2,h2,none⟩) il jc:=hq23
        have hp24:u 24 = .int .i64 il:=hq24
        have hp25:u 25 = .bool false:=hq25
        have hp26:u 26 = .bool false:=hq26
        have hp27:u 27 = .bool false:=hq27
        have hp28:u 28 = .pointer (some ⟨B1,3,none⟩):=hq28
        have hp29:u 29 = .slice pa pl pc:=hq29
        have hp30:u 30 = .pointer (some ⟨B2,3,none⟩):=hq30
        have hp31:u 31 = .slice qa ql qc:=hq31
        have hp32:u 32 = .bool true:=hq32
        have hp33:u 33 = .bool false:=hq33
        have hp34:u 34 = .bool false:=hq34
        have hp70:u 70 = .bool (!r):=hq70
        rw [hp2,hp3,hp5,hp0,hp1,hp4,hp6,hp7,hp8,hp9,hp10,hp11,hp12,hp13,hp14,hp15,hp16,hp17,hp18,hp19,hp20,hp21,hp22,hp23,hp24,hp25,hp26,hp27,hp28,hp29,hp30,hp31,hp32,hp33,hp34,hp70]
        clear hp2 hq2 hp3 hq3 hp5 hq5 hp0 hq0 hp1 hq1 hp4 hq4 hp6 hq6 hp7 hq7 hp8 hq8 hp9 hq9 hp10 hq10 hp11 hq11 hp12 hq12 hp13 hq13 hp14 hq14 hp15 hq15 hp16 hq16 hp17 hq17 hp18 hq18 hp19 hq19 hp20 hq20 hp21 hq21 hp22 hq22 hp23 hq23 hp24 hq24 hp25 hq25 hp26 hq26 hp27 hq27 hp28 hq28 hp29 hq29 hp30 hq30 hp31 hq31 hp32 hq32 hp33 hq33 hp34 hq34 hp70 hq70 hs
        have s1:=hN4.heap s1 id
        have s2:=hN4.heap s2 id
        have hN:=hN.trans hN4
        clear hN4 HC HQ cB eB c0 c1 c2 c3 c4 e0 e1' e2 e3 e4
        cases r with
        | true =>
         have hh:Hid (∀ j,j < k + 1→its.getD j Bare.noI=its'.getD j Bare.noI):=Lib.hid fun j hj=>by
          by_cases e:j < k
          ·exact hbef.out j e
          ·obtain rfl:j=k:=by omega
           have hpe:=of_decide_eq_true hr
           cases hX:its.getD j Bare.noI with
           | mk b1 p1 =>
            cases hY:its'.getD j Bare.noI with
            | mk b2 p2 =>
             rw [hX,hY] at hpe hbe
             simp only at hpe hbe
             rw [hpe,hbe]
         clear hbef hbe hr
         go_wp2_with fail
         go_roundw
         case rel=>exact ⟨k + 1,by omega,by go_num,hh,s1,s2,hN⟩
         case measure=>simp [intOf];omega
        | false =>
         obtain rfl:a4=false:=by
          rw [← H4.out]
          exact decide_eq_false (fun e=>by rw [e] at hr;simp at hr)
         clear hbef hbe hr
         go_wp2_with fail
         go_ret
         exact ⟨rfl,hN⟩
      ·have hkd:decide ((k:Int) < (il:Int))=false:=decide_eq_false (by omega)
       obtain rfl:a4=true:=by
        rw [← H4.out]
        exact decide_eq_true (list_same Bare.noI (by rw [Hil.out,Hjl.out]) fun i hi=>hbef.out i (by have:=Hil.out;omega))
       clear hbef
       go_wp2_with fail
       go_ret
       exact ⟨rfl,hN⟩
   ·have hdd:decide ((il:Int)=(jl:Int))=false:=decide_eq_false (by omega)
    obtain rfl:false=z:=by
     rw [← HZ.out,← H4.out,show decide (its=its')=false from decide_eq_false (fun e=>hll (by rw [← Hil.out,← Hjl.out,e]))]
     simp
    clear HZ
    go_wp2_with fail
    go_ret
    exact ⟨rfl,hN2⟩


theorem lit27 (t:Array Value) (h:t.size=27):∃ u:Nat→Value,t=(u 0::u 1::u 2::u 3::u 4::u 5::u 6::u 7::u 8::u 9::u 10::u 11::u 12::u 13::u 14::u 15::u 16::u 17::u 18::u 19::u 20::u 21::u 22::u 23::u 24::u 25::u 26::([]:List Value)).toArray:=⟨fun i=>t.getD i undef,range_lit t 27 h⟩
noncomputable def reg_causeyref13_Same_6:Code:=((Tryz.f29.body.bind (regionOf 6)).getD .skip)
theorem rsame6 (t:Array Value) (hs:t.size=27) (w:World) {b1 o1 b2 o2 k n m1 m2:Nat} {r:Bool} {a0 a1 a2 a3 d0 d1 d2 d3:Value} {x2 x3 x4 x6 x7 x8 x9 x10:Value}
  (hq0:t.getD 0 undef = .slice (some ⟨b1,o1,none⟩) n m1)
  (hq1:t.getD 1 undef = .slice (some ⟨b2,o2,none⟩) n m2)
  (hq5:t.getD 5 undef = .int .i64 k)
  (hq2:t.getD 2 undef=x2)
  (hq3:t.getD 3 undef=x3)
  (hq4:t.getD 4 undef=x4)
  (hq6:t.getD 6 undef=x6)
  (hq7:t.getD 7 undef=x7)
  (hq8:t.getD 8 undef=x8)
  (hq9:t.getD 9 undef=x9)
  (hq10:t.getD 10 undef=x10)
  (c0:w.cell? ⟨b1,o1 + k * 4,none⟩=some a0) (e0:w.cell? ⟨b2,o2 + k * 4,none⟩=some d0) (c1:w.cell? ⟨b1,o1 + k * 4 + 1,none⟩=some a1) (e1:w.cell? ⟨b2,o2 + k * 4 + 1,none⟩=some d1) (c2:w.cell? ⟨b1,o1 + k * 4 + 2,none⟩=some a2) (e2:w.cell? ⟨b2,o2 + k * 4 + 2,none⟩=some d2) (c3:w.cell? ⟨b1,o1 + k * 4 + 3,none⟩=some a3) (e3:w.cell? ⟨b2,o2 + k * 4 + 3,none⟩=some d3)
  (hid:decide ((k:Int) < (n:Int))=true) (hkn:k < n) (HC:Hid (∀ W,New w W→Calls Tryz.prog 73 #[.agg #[a0,a1,a2,a3],.agg #[d0,d1,d2,d3]] W fun e w'=>e = .returned (.bool r)∧New W w')) :
  reg_causeyref13_Same_6.wp Tryz.prog (Only fun a' W'=>(a'.tmps.size=27∧a'.defers = []∧a'.tmps.getD 0 undef = .slice (some ⟨b1,o1,none⟩) n m1∧a'.tmps.getD 1 undef = .slice (some ⟨b2,o2,none⟩) n m2∧a'.tmps.getD 5 undef = .int .i64 k∧a'.tmps.getD 2 undef=x2∧a'.tmps.getD 3 undef=x3∧a'.tmps.getD 4 undef=x4∧a'.tmps.getD 6 undef=x6∧a'.tmps.getD 7 undef=x7∧a'.tmps.getD 8 undef=x8∧a'.tmps.getD 9 undef=x9∧a'.tmps.getD 10 undef=x10∧a'.tmps.getD 26 undef = .bool (!r))∧New w W') ⟨t,[]⟩ w:=by
 conv=>arg 2;whnf
 obtain ⟨u,rfl⟩:=lit27 t hs
 have hq0:u 0 = _:=hq0
 have hq1:u 1 = _:=hq1
 have hq5:u 5 = _:=hq5
 have hq2:u 2 = _:=hq2
 have hq3:u 3 = _:=hq3
 have hq4:u 4 = _:=hq4
 have hq6:u 6 = _:=hq6
 have hq7:u 7 = _:=hq7
 have hq8:u 8 = _:=hq8
 have hq9:u 9 = _:=hq9
 have hq10:u 10 = _:=hq10
 rw [hq0,hq1,hq5,hq2,hq3,hq4,hq6,hq7,hq8,hq9,hq10]
 clear hq0 hq1 hq5 hq2 hq3 hq4 hq6 hq7 hq8 hq9 hq10 hs
 refine wp_region_held (S:=fun W=>New w W) (by kernel_rfl) ?_
 show wpAnyH _ _ _ _ _ 10 _ _ w.drew
 have hN:New w w.drew:=(Mods.refl _ _).drew
 have hS:New w w.drew:=(Mods.refl _ _).drew
 refine tkI 0 (some 17) (.slice (some ⟨b1,o1,none⟩) n m1) hS ?_
 simp only [pS]
 refine tkI 1 (some 18) (.int .i64 k) hS ?_
 simp only [pS]
 refine tkI 2 (some 19) (.pointer (some ⟨b1,o1 + k * 4,none⟩)) hS ?_
 simp only [pS]
 refine tkA 3 rfl (some 20) (.agg #[a0,a1,a2,a3]) (.inl ⟨by rfl,fun W hW=>by have q0:=hW.cell c0 id;have q1:=hW.cell c1 id;have q2:=hW.cell c2 id;have q3:=hW.cell c3 id;go_simp⟩) hS ?_
 simp only [pS]
 refine tkI 4 (some 21) (.slice (some ⟨b2,o2,none⟩) n m2) hS ?_
 simp only [pS]
 refine tkI 5 (some 22) (.int .i64 k) hS ?_
 simp only [pS]
 refine tkI 6 (some 23) (.pointer (some ⟨b2,o2 + k * 4,none⟩)) hS ?_
 simp only [pS]
 refine tkA 7 rfl (some 24) (.agg #[d0,d1,d2,d3]) (.inl ⟨by rfl,fun W hW=>by have q0:=hW.cell e0 id;have q1:=hW.cell e1 id;have q2:=hW.cell e2 id;have q3:=hW.cell e3 id;go_simp⟩) hS ?_
 simp only [pS]
 refine tkO 8 ?_
 refine opH_call (some 25) rfl (by rfl) rfl 73 #[.agg #[a0,a1,a2,a3],.agg #[d0,d1,d2,d3]] (by go_simp) ((HC.out _ hN).mono ?_)
 rintro e w8 ⟨rfl,hk⟩
 have hS:=hS.trans hk
 have hN:=hN.trans hk
 clear hk
 refine ⟨_,rfl,hS,?_⟩
 simp only [pS]
 refine tkI 9 (some 26) (.bool (!r)) hS ?_
 simp only [pS]
 refine wpAnyH_done (by kernel_rfl) ?_ _
 exact ⟨⟨rfl,rfl,rfl,rfl,rfl,rfl,rfl,rfl,rfl,rfl,rfl,rfl,rfl,rfl⟩,hN⟩
theorem rsame_d {τ τ':Bool} (v1 v2:Value) (l r:List Bare.Mem) (w:World) (h1:RdD τ w v1 l) (h2:RdD τ' w v2 r) :
  Calls Tryz.prog 29 #[v1,v2] w fun e w'=>e = .returned (.bool (decide (l=r)))∧New w w':=by
 obtain ⟨i1,p1,q1,-,s1⟩:=h1
 obtain ⟨i2,p2,q2,-,s2⟩:=h2
 have H1:=Lib.hid q1
 have H2:=Lib.hid q2
 have HM:=Lib.hid (fun k (hk:k < l.length) (hk':k < r.length) W (hW:New w W)=>samem_r (l.getD k noM) (r.getD k noM) (i1 k) (p1 k) (i2 k) (p2 k) W ((s1 k hk).1.new hW) ((s1 k hk).2.new hW) ((s2 k hk').1.new hW) ((s2 k hk').2.new hW))
 obtain ⟨a1,m1,rfl⟩:=q1.slice
 obtain ⟨a2,m2,rfl⟩:=q2.slice
 have hn1:l.length ≤ 281474976710656:=q1.1
 clear q1 q2 s1 s2
 have hN0:New w w:=Mods.refl _ _
 obtain ⟨n,hn⟩:∃ n,l.length=n:=⟨_,rfl⟩
 obtain ⟨n2,hn2⟩:∃ n,r.length=n:=⟨_,rfl⟩
 by_cases hnn:n=n2
 ·subst hnn
  have hdd:decide ((n:Int)=(n:Int))=true:=decide_eq_true rfl
  have HE:=Lib.hid (list_same (l:=l) (r:=r) noM (by omega))
  obtain ⟨y,hy⟩:∃ y,decide (l=r)=y:=⟨_,rfl⟩
  have HY:=Lib.hid hy
  have Hn:=Lib.hid hn
  rw [hy,hn,hn2]
  rw [hn] at H1 hn1 HM
  rw [hn2] at H2 HM
  clear hy hn hn2
  go_enter Tryz.func29,Tryz.ntmps29
  go_wp2_with fail
  go_loopw [5] (fun t wr=>∃ k:Nat,k ≤ n∧t = .int .i64 k∧Hid (∀ j,j < k→l.getD j noM=r.getD j noM)∧New w wr) (fun t _=>n - (intOf t).toNat)
  case atStart=>exact ⟨0,Nat.zero_le _,rfl,Lib.hid fun i hi=>by omega,hN0⟩
  case round =>
   clear hN0
   obtain ⟨k,hk,rfl,hbef,hN⟩:=hrel
   by_cases hlt:k < n
   ·have hkd:decide ((k:Int) < (n:Int))=true:=decide_eq_true (by omega)
    obtain ⟨b1,o1,rfl,hrow⟩:=(H1.out.new hN).at.2.2 k hlt
    obtain ⟨b2,o2,rfl,hrow2⟩:=(H2.out.new hN).at.2.2 k hlt
    obtain ⟨k0,k1,k2,k3⟩:=cells4 hrow
    obtain ⟨q0,q1,q2,q3⟩:=cells4 hrow2
    have HC:=Lib.hid (fun W (hW:New wr W)=>HM.out k hlt hlt W (hN.trans hW))
    unfold mcs at HC
    obtain ⟨r',hr⟩:∃ r',decide (l.getD k noM=r.getD k noM)=r':=⟨_,rfl⟩
    rw [hr] at HC
    clear hrow hrow2
    go_upto_region 6 with fail
    refine piece (fun _=>_) (rsame6 _ rfl wr rfl rfl rfl rfl rfl rfl rfl rfl rfl rfl rfl  k0 q0 k1 q1 k2 q2 k3 q3 hkd hlt HC) ?_
    rintro ⟨z,dfs⟩ wr2 ⟨⟨hs,hd,hq0,hq1,hq5,hq2,hq3,hq4,hq6,hq7,hq8,hq9,hq10,hq26⟩,hN2⟩
    simp only at hs hd hq0 hq1 hq5 hq2 hq3 hq4 hq6 hq7 hq8 hq9 hq10 hq26
    subst hd
    obtain ⟨u,rfl⟩:=lit27 z hs
    have hp0:u 0 = .slice (some ⟨b1,o1,none⟩) n m1:=hq0
    have hp1:u 1 = .slice (some ⟨b2,o2,none⟩) n m2:=hq1
    have hp5:u 5 = .int .i64 k:=hq5
    have hp2:u 2=undef:=hq2
    have hp3:u 3=undef:=hq3
    have hp4:u 4=u4:=hq4
    have hp6:u 6 = .slice (some ⟨b1,o1,none⟩) n m1:=hq6
    have hp7:u 7 = .int .i64 n:=hq7
    have hp8:u 8 = .slice (some ⟨b2,o2,none⟩) n m2:=hq8
    have hp9:u 9 = .int .i64 n:=hq9
    have hp10:u 10 = .bool false:=hq10
    have hp26:u 26 = .bool (!r'):=hq26
    rw [hp0,hp1,hp5,hp2,hp3,hp4,hp6,hp7,hp8,hp9,hp10,hp26]
    clear hp0 hq0 hp1 hq1 hp5 hq5 hp2 hq2 hp3 hq3 hp4 hq4 hp6 hq6 hp7 hq7 hp8 hq8 hp9 hq9 hp10 hq10 hp26 hq26 hs
    have hN:=hN.trans hN2
    clear hN2 HC HM k0 k1 k2 k3 q0 q1 q2 q3
    cases r' with
    | true =>
     have hh:Hid (∀ j,j < k + 1→l.getD j noM=r.getD j noM):=Lib.hid fun i hi=>by
      by_cases hik:i < k
      ·exact hbef.out i hik
      ·obtain rfl:i=k:=by omega
       exact of_decide_eq_true hr
     clear hbef hr
     go_wp2_with fail
     go_roundw
     case rel=>exact ⟨k + 1,by omega,by go_num,hh,hN⟩
     case measure=>simp [intOf];omega
    | false =>
     obtain rfl:y=false:=by
      rw [← HY.out]
      refine decide_eq_false fun e=>?_
      rw [e] at hr
      simp at hr
     clear hbef hr HE
     go_wp2_with fail
     go_ret
     exact ⟨rfl,hN⟩
   ·have hkd:decide ((k:Int) < (n:Int))=false:=decide_eq_false (by omega)
    obtain rfl:y=true:=by
     rw [← HY.out]
     exact decide_eq_true (HE.out fun i hi=>hbef.out i (by have:=Hn.out;omega))
    clear HE hbef
    go_wp2_with fail
    go_ret
    exact ⟨rfl,hN⟩
 ·have hdd:decide ((n:Int)=(n2:Int))=false:=decide_eq_false (by omega)
  rw [show decide (l=r)=false from decide_eq_false fun e=>hnn (by rw [← hn,← hn2,e])]
  rw [hn,hn2]
  go_enter Tryz.func29,Tryz.ntmps29
  go_wp2_with fail
  go_ret
  exact ⟨rfl,hN0⟩


theorem lit82 (t:Array Value) (h:t.size=82):∃ u:Nat→Value,t=(u 0::u 1::u 2::u 3::u 4::u 5::u 6::u 7::u 8::u 9::u 10::u 11::u 12::u 13::u 14::u 15::u 16::u 17::u 18::u 19::u 20::u 21::u 22::u 23::u 24::u 25::u 26::u 27::u 28::u 29::u 30::u 31::u 32::u 33::u 34::u 35::u 36::u 37::u 38::u 39::u 40::u 41::u 42::u 43::u 44::u 45::u 46::u 47::u 48::u 49::u 50::u 51::u 52::u 53::u 54::u 55::u 56::u 57::u 58::u 59::u 60::u 61::u 62::u 63::u 64::u 65::u 66::u 67::u 68::u 69::u 70::u 71::u 72::u 73::u 74::u 75::u 76::u 77::u 78::u 79::u 80::u 81::([]:List Value)).toArray:=⟨fun i=>t.getD i undef,range_lit t 82 h⟩
noncomputable def reg_dict_Print_8:Code:=((Tryz.f26.body.bind (regionOf 8)).getD .skip)
theorem print8 (t:Array Value) (hs:t.size=82) (w:World) {base B ib io ic xl xc:Nat} {xa:Option Addr} {v x0 x1 x2 x3 x5 x8 x12 x13 x14 x15 x16 x17 x80 x81:Value} {q s vl td:ByteArray} {yy:Bool} {k n:Int} {L:List Bare.Bs} {l:Bare.Bs}
  (hq4:t.getD 4 undef=v)
  (hq6:t.getD 6 undef = .pointer (some ⟨B,0,none⟩))
  (hq0:t.getD 0 undef=x0)
  (hq1:t.getD 1 undef=x1)
  (hq2:t.getD 2 undef=x2)
  (hq3:t.getD 3 undef=x3)
  (hq5:t.getD 5 undef=x5)
  (hq8:t.getD 8 undef=x8)
  (hq12:t.getD 12 undef=x12)
  (hq13:t.getD 13 undef=x13)
  (hq14:t.getD 14 undef=x14)
  (hq15:t.getD 15 undef=x15)
  (hq16:t.getD 16 undef=x16)
  (hq17:t.getD 17 undef=x17)
  (hq80:t.getD 80 undef=x80)
  (hq81:t.getD 81 undef=x81)
  (k0:w.cell? ⟨B,0,none⟩=some (.string q)) (k2:w.cell? ⟨B,2,none⟩=some (.slice (some ⟨ib,io,none⟩) 1 ic))
  (i0:w.cell? ⟨ib,io,none⟩=some (.int .u8 k)) (i1:w.cell? ⟨ib,io + 1,none⟩=some (.int .i64 n)) (i2:w.cell? ⟨ib,io + 2,none⟩=some (.string s)) (i3:w.cell? ⟨ib,io + 3,none⟩=some (.bool yy)) (i4:w.cell? ⟨ib,io + 4,none⟩=some (.slice xa xl xc))
  (hBv:v.ownBlock ≠ some B) (hIv:v.ownBlock ≠ some ib)
  (HVal:Hid (∀ W,New w W→Calls Tryz.prog 59 #[.agg #[.int .u8 k,.int .i64 n,.string s,.bool yy]] W fun e w'=>e = .returned (.string vl)∧New W w'))
  (HTold:Hid (∀ W,New w W→Calls Tryz.prog 60 #[.slice xa xl xc] W fun e w'=>e = .returned (.string td)∧New W w'))
  (Hx:Hid (q ++ vl ++ td=tx l)) (hown:OwS base w v L) (hln:L.length ≤ 2000000) (hbase:base ≤ w.heap.size)
  (hqs:q.size ≤ 100000) (hvs:vl.size ≤ 50000) (hts:td.size ≤ 400000000000) :
  reg_dict_Print_8.wp Tryz.prog (Only fun a' W'=>∃ v',(a'.tmps.size=82∧a'.defers = []∧a'.tmps.getD 4 undef=v'∧a'.tmps.getD 6 undef = .pointer (some ⟨B,0,none⟩)∧a'.tmps.getD 0 undef=x0∧a'.tmps.getD 1 undef=x1∧a'.tmps.getD 2 undef=x2∧a'.tmps.getD 3 undef=x3∧a'.tmps.getD 5 undef=x5∧a'.tmps.getD 8 undef=x8∧a'.tmps.getD 12 undef=x12∧a'.tmps.getD 13 undef=x13∧a'.tmps.getD 14 undef=x14∧a'.tmps.getD 15 undef=x15∧a'.tmps.getD 16 undef=x16∧a'.tmps.getD 17 undef=x17∧a'.tmps.getD 80 undef=x80∧a'.tmps.getD 81 undef=x81)∧OwS base W' v' (L ++ [l])∧∀ w0:World,New w0 w→w0.heap.size ≤ base→New w0 W') ⟨t,[]⟩ w:=by
 conv=>arg 2;whnf
 obtain ⟨u,rfl⟩:=lit82 t hs
 have hq4:u 4 = _:=hq4
 have hq6:u 6 = _:=hq6
 have hq0:u 0 = _:=hq0
 have hq1:u 1 = _:=hq1
 have hq2:u 2 = _:=hq2
 have hq3:u 3 = _:=hq3
 have hq5:u 5 = _:=hq5
 have hq8:u 8 = _:=hq8
 have hq12:u 12 = _:=hq12
 have hq13:u 13 = _:=hq13
 have hq14:u 14 = _:=hq14
 have hq15:u 15 = _:=hq15
 have hq16:u 16 = _:=hq16
 have hq17:u 17 = _:=hq17
 have hq80:u 80 = _:=hq80
 have hq81:u 81 = _:=hq81
 rw [hq4,hq6,hq0,hq1,hq2,hq3,hq5,hq8,hq12,hq13,hq14,hq15,hq16,hq17,hq80,hq81]
 clear hq4 hq6 hq0 hq1 hq2 hq3 hq5 hq8 hq12 hq13 hq14 hq15 hq16 hq17 hq80 hq81 hs
 have z1:¬ 9223372036854775807 < q.size + vl.size:=by omega
 have z2:¬ 9223372036854775807 < q.size + vl.size + td.size:=by omega
 refine wp_region_held (S:=fun W=>Mods (fun b=>v.ownBlock=some b) w W) (by kernel_rfl) ?_
 show wpAnyH _ _ _ _ _ 20 _ _ w.drew
 have hN:New w w.drew:=(Mods.refl _ _).drew
 have hS:Mods (fun b=>v.ownBlock=some b) w w.drew:=(Mods.refl _ _).drew
 refine tkI 0 (some 24) (v) hS ?_
 simp only [pS]
 refine tkI 1 (some 25) (.pointer (some ⟨B,0,none⟩)) hS ?_
 simp only [pS]
 refine tkA 2 rfl (some 26) (.string q) (.inl ⟨by rfl,fun W hW=>by have q:=hW.cell k0 hBv;go_simp⟩) hS ?_
 simp only [pS]
 refine tkI 3 (some 27) (.pointer (some ⟨B,2,none⟩)) hS ?_
 simp only [pS]
 refine tkA 4 rfl (some 28) (.slice (some ⟨ib,io,none⟩) 1 ic) (.inl ⟨by rfl,fun W hW=>by have q:=hW.cell k2 hBv;go_simp⟩) hS ?_
 simp only [pS]
 refine tkI 5 (some 29) (.pointer (some ⟨ib,io,none⟩)) hS ?_
 simp only [pS]
 refine tkI 6 (some 30) (.pointer (some ⟨ib,io,none⟩)) hS ?_
 simp only [pS]
 refine tkA 7 rfl (some 31) (.agg #[.int .u8 k,.int .i64 n,.string s,.bool yy]) (.inl ⟨by rfl,fun W hW=>by have q0:=hW.cell i0 hIv;have q1:=hW.cell i1 hIv;have q2:=hW.cell i2 hIv;have q3:=hW.cell i3 hIv;go_simp⟩) hS ?_
 simp only [pS]
 refine tkI 10 (some 34) (.pointer (some ⟨B,2,none⟩)) hS ?_
 simp only [pS]
 refine tkA 11 rfl (some 35) (.slice (some ⟨ib,io,none⟩) 1 ic) (.inl ⟨by rfl,fun W hW=>by have q:=hW.cell k2 hBv;go_simp⟩) hS ?_
 simp only [pS]
 refine tkI 12 (some 36) (.pointer (some ⟨ib,io,none⟩)) hS ?_
 simp only [pS]
 refine tkI 13 (some 37) (.pointer (some ⟨ib,io + 4,none⟩)) hS ?_
 simp only [pS]
 refine tkA 14 rfl (some 38) (.slice xa xl xc) (.inl ⟨by rfl,fun W hW=>by have q:=hW.cell i4 hIv;go_simp⟩) hS ?_
 simp only [pS]
 refine tkO 8 ?_
 refine opH_call (some 32) rfl (by rfl) rfl 59 #[.agg #[.int .u8 k,.int .i64 n,.string s,.bool yy]] (by go_simp) ((HVal.out _ hN).mono ?_)
 rintro e w1 ⟨rfl,hk⟩
 have hS:=hS.trans (Mods.ofNew hk)
 have hN:=hN.trans hk
 clear hk
 refine ⟨_,rfl,hS,?_⟩
 simp only [pS]
 refine tkI 9 (some 33) (.string (q ++ vl)) hS ?_
 simp only [pS]
 refine tkO 15 ?_
 refine opH_call (some 39) rfl (by rfl) rfl 60 #[.slice xa xl xc] (by go_simp) ((HTold.out _ hN).mono ?_)
 rintro e w2 ⟨rfl,hk⟩
 have hS:=hS.trans (Mods.ofNew hk)
 have hN:=hN.trans hk
 clear hk
 refine ⟨_,rfl,hS,?_⟩
 simp only [pS]
 refine tkI 16 (some 40) (.string ((q ++ vl) ++ td)) hS ?_
 simp only [pS]
 refine tkO 17 ?_
 refine opH_value (some 41) (v:=.slice (some ⟨w2.heap.size,0,none⟩) 1 1) (w':=w2.alloc (.cells #[.string (q ++ vl ++ td)] 9)) rfl rfl rfl (by go_simp) ?_
 refine ⟨hS.alloc _,?_⟩
 simp only [pS]
 refine tkO 18 ?_
 refine wpOp_append_S (l:=l) (some 42) rfl rfl rfl (.tmp 24) (.tmp 41) rfl rfl rfl (by rw [← Hx.out]) (hown.new hN) hln (Nat.le_trans hbase hN.size) ?_
 intro v' W' hown' hnew
 have hS:=hnew _ _ hS (fun g hg=>.inr hg)
 refine ⟨hS,?_⟩
 simp only [pS]
 refine tkI 19 (some 4) (v') hS ?_
 simp only [pS]
 refine wpAnyH_done (by kernel_rfl) ?_ _
 exact ⟨v',⟨rfl,rfl,rfl,rfl,rfl,rfl,rfl,rfl,rfl,rfl,rfl,rfl,rfl,rfl,rfl,rfl,rfl,rfl⟩,hown',fun w0 h1 h2=>hnew w0 _ (h1.trans hN) (fun g hg=>.inl (Nat.le_trans h2 (hown.lt g hg).1))⟩
theorem joinW_join (sep:Bare.Bs):∀ L:List Bare.Bs,Bare.joinW sep L=Lib.join L sep
 | []=>rfl
 | [a]=>(Lib.join_one a sep).symm
 | a::b::r=>by
  have ih:=joinW_join sep (b::r)
  rw [Lib.join_cons] at ih ⊢
  simp only [Bare.joinW]
  rw [ih]
  simp [Lib.joinTail]
theorem joinW_len (sep:Bare.Bs) (c:Nat):∀ L:List Bare.Bs,(∀ l ∈ L,l.length + sep.length ≤ c)→(Bare.joinW sep L).length ≤ L.length * c
 | [],_=>by simp [Bare.joinW]
 | [a],h=>by have:=h a (by simp);simp [Bare.joinW];omega
 | a::b::r,h=>by
  have ih:=joinW_len sep c (b::r) (fun l hl=>h l (List.mem_cons_of_mem _ hl))
  have:=h a (by simp)
  simp only [Bare.joinW,List.length_append,List.length_cons] at ih ⊢
  rw [Nat.add_mul,Nat.one_mul]
  omega
theorem join_any {base : Nat} (v : Value) (L : List Bare.Bs) (sep : Bare.Bs) (w : World) (h : OwS base w v L) (hn : L.length ≤ 2000000) (hl : (Bare.joinW sep L).length ≤ 140737488355328) :
    Calls Tryz.prog 62 #[v, .string (tx sep)] w fun e w' => e = .returned (.string (tx (Bare.joinW sep L))) ∧ New w w' := by
  rcases h.2 with ⟨rfl, h0⟩ | ⟨g, cap, cur, rfl, hb, hg, h1, h2, h3, h4⟩
  · obtain rfl : L = [] := List.length_eq_zero_iff.1 h0
    refine (Tryz.strings_Join_none none 0 (tx sep) w).mono ?_
    rintro e w' ⟨rfl, rfl⟩
    exact ⟨rfl, Mods.refl _ _⟩
  · have hx : (L.map tx).map (·.data.toList) = L := by rw [List.map_map]; conv => rhs; rw [← List.map_id L]
                                                       exact List.map_congr_left fun l _ => rfl
    have := Tryz.strings_Join g 0 cap (L.map tx) (tx sep) w (fun j x hj => by
      rw [Nat.zero_add, cell_of_row _ _ _ _ _ _ hg]
      have e : (strs L)[j]? = some (.string x) := by
        unfold strs
        rw [List.getElem?_map] at hj ⊢
        obtain ⟨l, hl, rfl⟩ := Option.map_eq_some_iff.1 hj
        rw [hl]; rfl
      rw [← h4, List.getElem?_take] at e
      split at e
      · rw [← Array.getElem?_toList]; exact e
      · cases e) (Array.getElem?_eq_some_iff.1 hg).1 (by rw [List.length_map]; omega) (by rw [List.length_map]; omega) (by rw [hx]; show (Lib.join L sep).length ≤ _; rw [← joinW_join]; exact hl)
    rw [hx, List.length_map] at this
    rw [joinW_join]
    exact this.mono fun e w' ⟨he, hB⟩ => ⟨he, Mods.below hB (Nat.le_refl _)⟩
noncomputable def reg_dict_Print_16:Code:=((Tryz.f26.body.bind (regionOf 16)).getD .skip)
theorem print16 (t:Array Value) (hs:t.size=82) (w:World) {base B pl pc:Nat} {pa:Option Addr} {v uv x0 x1 x2 x3 x5 x8 x12 x13 x14 x15 x16 x17 x80 x81:Value} {q jn td:ByteArray} {L:List Bare.Bs} {l:Bare.Bs}
  (hq4:t.getD 4 undef=v)
  (hq6:t.getD 6 undef = .pointer (some ⟨B,0,none⟩))
  (hq0:t.getD 0 undef=x0)
  (hq1:t.getD 1 undef=x1)
  (hq2:t.getD 2 undef=x2)
  (hq3:t.getD 3 undef=x3)
  (hq5:t.getD 5 undef=x5)
  (hq8:t.getD 8 undef=x8)
  (hq12:t.getD 12 undef=x12)
  (hq13:t.getD 13 undef=x13)
  (hq14:t.getD 14 undef=x14)
  (hq15:t.getD 15 undef=x15)
  (hq16:t.getD 16 undef=x16)
  (hq17:t.getD 17 undef=x17)
  (hq80:t.getD 80 undef=x80)
  (hq81:t.getD 81 undef=x81)
  (hq7:t.getD 7 undef=uv)
  (k0:w.cell? ⟨B,0,none⟩=some (.string q)) (k3:w.cell? ⟨B,3,none⟩=some (.slice pa pl pc))
  (hBv:v.ownBlock ≠ some B)
  (HJoin:Hid (∀ W,New w W→Calls Tryz.prog 62 #[uv,.string ⟨#[32]⟩] W fun e w'=>e = .returned (.string jn)∧New W w'))
  (HTold:Hid (∀ W,New w W→Calls Tryz.prog 60 #[.slice pa pl pc] W fun e w'=>e = .returned (.string td)∧New W w'))
  (Hx:Hid (q ++ ⟨#[61,40]⟩ ++ jn ++ ⟨#[41]⟩ ++ td=tx l)) (hown:OwS base w v L) (hln:L.length ≤ 2000000) (hbase:base ≤ w.heap.size)
  (hqs:q.size ≤ 100000) (hjs:jn.size ≤ 140737488355328) (hts:td.size ≤ 400000000000) :
  reg_dict_Print_16.wp Tryz.prog (Only fun a' W'=>∃ v',(a'.tmps.size=82∧a'.defers = []∧a'.tmps.getD 4 undef=v'∧a'.tmps.getD 6 undef = .pointer (some ⟨B,0,none⟩)∧a'.tmps.getD 0 undef=x0∧a'.tmps.getD 1 undef=x1∧a'.tmps.getD 2 undef=x2∧a'.tmps.getD 3 undef=x3∧a'.tmps.getD 5 undef=x5∧a'.tmps.getD 8 undef=x8∧a'.tmps.getD 12 undef=x12∧a'.tmps.getD 13 undef=x13∧a'.tmps.getD 14 undef=x14∧a'.tmps.getD 15 undef=x15∧a'.tmps.getD 16 undef=x16∧a'.tmps.getD 17 undef=x17∧a'.tmps.getD 80 undef=x80∧a'.tmps.getD 81 undef=x81)∧OwS base W' v' (L ++ [l])∧∀ w0:World,New w0 w→w0.heap.size ≤ base→New w0 W') ⟨t,[]⟩ w:=by
 conv=>arg 2;whnf
 obtain ⟨u,rfl⟩:=lit82 t hs
 have hq4:u 4 = _:=hq4
 have hq6:u 6 = _:=hq6
 have hq0:u 0 = _:=hq0
 have hq1:u 1 = _:=hq1
 have hq2:u 2 = _:=hq2
 have hq3:u 3 = _:=hq3
 have hq5:u 5 = _:=hq5
 have hq8:u 8 = _:=hq8
 have hq12:u 12 = _:=hq12
 have hq13:u 13 = _:=hq13
 have hq14:u 14 = _:=hq14
 have hq15:u 15 = _:=hq15
 have hq16:u 16 = _:=hq16
 have hq17:u 17 = _:=hq17
 have hq80:u 80 = _:=hq80
 have hq81:u 81 = _:=hq81
 have hq7:u 7 = _:=hq7
 rw [hq4,hq6,hq0,hq1,hq2,hq3,hq5,hq8,hq12,hq13,hq14,hq15,hq16,hq17,hq80,hq81,hq7]
 clear hq4 hq6 hq0 hq1 hq2 hq3 hq5 hq8 hq12 hq13 hq14 hq15 hq16 hq17 hq80 hq81 hq7 hs
 have z1:¬ 9223372036854775807 < q.size + 2:=by omega
 have z2:¬ 9223372036854775807 < q.size + 2 + jn.size:=by omega
 have z3:¬ 9223372036854775807 < q.size + 2 + jn.size + 1:=by omega
 have z4:¬ 9223372036854775807 < q.size + 2 + jn.size + 1 + td.size:=by omega
 refine wp_region_held (S:=fun W=>Mods (fun b=>v.ownBlock=some b) w W) (by kernel_rfl) ?_
 show wpAnyH _ _ _ _ _ 15 _ _ w.drew
 have hN:New w w.drew:=(Mods.refl _ _).drew
 have hS:Mods (fun b=>v.ownBlock=some b) w w.drew:=(Mods.refl _ _).drew
 refine tkI 0 (some 65) (v) hS ?_
 simp only [pS]
 refine tkI 1 (some 66) (.pointer (some ⟨B,0,none⟩)) hS ?_
 simp only [pS]
 refine tkA 2 rfl (some 67) (.string q) (.inl ⟨by rfl,fun W hW=>by have q:=hW.cell k0 hBv;go_simp⟩) hS ?_
 simp only [pS]
 refine tkI 3 (some 68) (.string (q ++ ⟨#[61,40]⟩)) hS ?_
 simp only [pS]
 refine tkI 4 (some 69) (uv) hS ?_
 simp only [pS]
 refine tkI 8 (some 73) (.pointer (some ⟨B,3,none⟩)) hS ?_
 simp only [pS]
 refine tkA 9 rfl (some 74) (.slice pa pl pc) (.inl ⟨by rfl,fun W hW=>by have q:=hW.cell k3 hBv;go_simp⟩) hS ?_
 simp only [pS]
 refine tkO 5 ?_
 refine opH_call (some 70) rfl (by rfl) rfl 62 #[uv,.string ⟨#[32]⟩] (by go_simp) ((HJoin.out _ hN).mono ?_)
 rintro e w1 ⟨rfl,hk⟩
 have hS:=hS.trans (Mods.ofNew hk)
 have hN:=hN.trans hk
 clear hk
 refine ⟨_,rfl,hS,?_⟩
 simp only [pS]
 refine tkI 6 (some 71) (.string ((q ++ ⟨#[61,40]⟩) ++ jn)) hS ?_
 simp only [pS]
 refine tkI 7 (some 72) (.string (((q ++ ⟨#[61,40]⟩) ++ jn) ++ ⟨#[41]⟩)) hS ?_
 simp only [pS]
 refine tkO 10 ?_
 refine opH_call (some 75) rfl (by rfl) rfl 60 #[.slice pa pl pc] (by go_simp) ((HTold.out _ hN).mono ?_)
 rintro e w2 ⟨rfl,hk⟩
 have hS:=hS.trans (Mods.ofNew hk)
 have hN:=hN.trans hk
 clear hk
 refine ⟨_,rfl,hS,?_⟩
 simp only [pS]
 refine tkI 11 (some 76) (.string ((((q ++ ⟨#[61,40]⟩) ++ jn) ++ ⟨#[41]⟩) ++ td)) hS ?_
 simp only [pS]
 refine tkO 12 ?_
 refine opH_value (some 77) (v:=.slice (some ⟨w2.heap.size,0,none⟩) 1 1) (w':=w2.alloc (.cells #[.string (q ++ ⟨#[61,40]⟩ ++ jn ++ ⟨#[41]⟩ ++ td)] 9)) rfl rfl rfl (by go_simp) ?_
 refine ⟨hS.alloc _,?_⟩
 simp only [pS]
 refine tkO 13 ?_
 refine wpOp_append_S (l:=l) (some 78) rfl rfl rfl (.tmp 65) (.tmp 77) rfl rfl rfl (by rw [← Hx.out]) (hown.new hN) hln (Nat.le_trans hbase hN.size) ?_
 intro v' W' hown' hnew
 have hS:=hnew _ _ hS (fun g hg=>.inr hg)
 refine ⟨hS,?_⟩
 simp only [pS]
 refine tkI 14 (some 4) (v') hS ?_
 simp only [pS]
 refine wpAnyH_done (by kernel_rfl) ?_ _
 exact ⟨v',⟨rfl,rfl,rfl,rfl,rfl,rfl,rfl,rfl,rfl,rfl,rfl,rfl,rfl,rfl,rfl,rfl,rfl,rfl⟩,hown',fun w0 h1 h2=>hnew w0 _ (h1.trans hN) (fun g hg=>.inl (Nat.le_trans h2 (hown.lt g hg).1))⟩
end Go.Proofs.YtkiiameibdhdfaaGreatDoor
