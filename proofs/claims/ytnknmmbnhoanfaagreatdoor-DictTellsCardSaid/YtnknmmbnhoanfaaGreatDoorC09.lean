/- Texts joined. -/
import Derived.Test.YtnknmmbnhoanfaaGreatDoorC06
import Derived.Test.YtnknmmbnhoanfaaGreatDoorC04
import Derived.Test.YtnknmmbnhoanfaaGreatDoorC08
import Derived.OrdersHeld
import Derived.Test.YtnknmmbnhoanfaaGreatDoorC05
set_option linter.unusedSimpArgs false
set_option linter.unusedVariables false
set_option maxHeartbeats 16000000
set_option maxRecDepth 100000
namespace Go.Proofs.YtnknmmbnhoanfaaGreatDoor
open Go.RowKit Go.Shelf Go.Cs
attribute [local go_sem] Oper.semAt_some


theorem great13 {τ:Bool} (v:Value) (d:List Bare.Mem) (w:World) (h:RdD τ w v d) (hS:Str47 d) :
  Calls Tryz.prog 19 #[v] w fun e w'=>∃ g,e = .returned (.bool g)∧New w w'∧(g=false→dN d d.length ≤ 40∧dB d d.length ≤ 2000):=by
 obtain ⟨ao,cap,rfl⟩:=h.slice
 have HD:=Lib.hid h
 have HS:=Lib.hid hS
 have hlen:d.length ≤ 281474976710656:=by obtain ⟨_,_,h1,_⟩:=h;exact h1.1
 clear h hS
 obtain ⟨nd,hn⟩:∃ n,d.length=n:=⟨_,rfl⟩
 have Hn:=Lib.hid hn
 rw [hn] at hlen HD ⊢
 clear hn
 have hN0:New w w:=Mods.refl _ _
 have hz:Hid (nd ≤ 40→nd=dN d 0∧0=dB d 0):=Lib.hid fun _=>⟨by unfold dN sumTo;rw [Hn.out];rfl,rfl⟩
 go_enter Tryz.func19,Tryz.ntmps19
 go_wp2_with fail
 go_loopw [3,4,5] (fun t3 t4 t5 wr=>∃ i n b:Nat,i ≤ nd∧t3 = .int .i64 n∧t4 = .int .i64 b∧t5 = .int .i64 i∧n ≤ 2251799813685248∧b ≤ 144115188075855872∧Hid (n ≤ 40→n=dN d i∧b=dB d i)∧New w wr) (fun _ _ t _=>nd - (intOf t).toNat)
 case atStart=>exact ⟨0,nd,0,Nat.zero_le _,rfl,rfl,rfl,by omega,by omega,hz,hN0⟩
 case round =>
  clear hN0 hz
  obtain ⟨i,n,b,hi,rfl,rfl,rfl,hn51,hb55,hE,hN⟩:=hrel
  by_cases hlt:i < nd
  ·have hkd:decide ((i:Int) < (nd:Int))=true:=decide_eq_true (by omega)
   by_cases hn40:n ≤ 40
   ·have hkd2:decide ((n:Int) ≤ 40)=true:=decide_eq_true (by omega)
    have hld:i < d.length:=by rw [Hn.out];exact hlt
    obtain ⟨hE1,hE2⟩:=hE.out hn40
    have hBb:=dB_le HS.out (show i ≤ d.length by omega)
    have hNn:n=d.length + sumTo (fun j=>mN (d.getD j noM)) i:=hE1
    have hb40:b ≤ 2 * S47 * 40:=by
     rw [hE2]
     refine Nat.le_trans hBb (Nat.mul_le_mul_left _ (by omega))
    obtain ⟨hsk,hsp,hsx⟩:=HS.out i hld
    have hd:=HD.out.new hN
    obtain ⟨iv,pv,h1,-,h3⟩:=hd
    obtain ⟨b1,o1,rfl,hrow⟩:=h1.at.2.2 i hlt
    obtain ⟨hi',hp⟩:=h3 i hld
    obtain ⟨ia,ic,hie⟩:=hi'.slice
    obtain ⟨pa,pc,hpe⟩:=hp.slice
    rw [hie] at hrow hi'
    rw [hpe] at hrow hp
    have HT1:Hid (dN d (i + 1)=dN d i + mN (d.getD i noM)):=Lib.hid (Nat.add_assoc _ _ _).symm
    have HT2:Hid (dB d (i + 1)=dB d i + mB (d.getD i noM)):=Lib.hid rfl
    obtain ⟨m,hm⟩:∃ m,d.getD i noM=m:=⟨_,rfl⟩
    rw [hm] at hrow hi' hp hsk hsp hsx HT1 HT2
    have HI:=Lib.hid hi'
    have HP:=Lib.hid hp
    have hsk2:(tx m.key).size ≤ 140737488355328:=by rw [tx_size];exact hsk
    have hkl:(tx m.key).size=m.key.length:=tx_size _
    obtain ⟨K,hK⟩:∃ K,tx m.key=K:=⟨_,rfl⟩
    unfold mcs at hrow
    rw [hK] at hrow hsk2 hkl
    obtain ⟨c0,c1,c2,c3⟩:=cells4 hrow
    obtain ⟨li,hli⟩:∃ l,m.items.length=l:=⟨_,rfl⟩
    obtain ⟨lp,hlp⟩:∃ l,m.params.length=l:=⟨_,rfl⟩
    have hli48:li ≤ 281474976710656:=by obtain ⟨_,q,_⟩:=hi';have:=q.1;omega
    have hlp48:lp ≤ 281474976710656:=by have:=hp.1.1;omega
    have Hli:=Lib.hid hli
    have Hlp:=Lib.hid hlp
    have HSP:=Lib.hid hsp
    have HSX:=Lib.hid hsx
    rw [hli] at c2 HI
    rw [hlp] at c3 HP
    have HE1:=Lib.hid hE1
    have HE2:=Lib.hid hE2
    have HKl:=Lib.hid hkl
    clear hrow h1 h3 hi' hp hie hpe hm hK hli hlp c1 hE1 hE2 hBb hNn hsk hsp hsx hE hkl
    go_upto_region 5 with fail
    refine piece (fun _=>_) (great5 _ rfl wr rfl rfl rfl hlt hn40 hli48 hlp48 c2 c3) ?_
    rintro a' W1 ⟨z,rfl,hN1⟩
    simp only [pS]
    replace c0:=hN1.cell c0 id
    replace c2:=hN1.cell c2 id
    replace c3:=hN1.cell c3 id
    have hNa:=hN.trans hN1
    have HI1:=Lib.hid (HI.out.new hN1)
    have HP1:=Lib.hid (HP.out.new hN1)
    have hwb:IntKind.i64.wrap ((b:Int) + (K.size:Int))=(b:Int) + (K.size:Int):=by
     have:S47=140737488355328:=rfl
     rw [IntKind.wrap_i64];omega
    obtain ⟨wo,hwo⟩:∃ x,x=wr:=⟨_,rfl⟩
    subst hwo
    obtain ⟨n1,hn1⟩:∃ x,n + li + lp=x:=⟨_,rfl⟩
    have Hn1:=Lib.hid hn1
    have hn1b:n1 ≤ 1125899906842624:=by omega
    rw [hn1]
    clear hn1 hN1 HI HP
    go_wp2_with fail
    have C2:=Lib.hid c2
    have C3:=Lib.hid c3
    go_loopw [4,6] (fun t4 t6 wr=>∃ k b2:Nat,k ≤ lp∧t4 = .int .i64 b2∧t6 = .int .i64 k∧b2 ≤ 144115188075855872∧Hid (n1 ≤ 40→b2=b + K.size + psB m.params k)∧New W1 wr) (fun _ t _=>lp - (intOf t).toNat)
    case atStart=>exact ⟨0,b + K.size,Nat.zero_le _,by rw [Int.natCast_add],rfl,by have:S47=140737488355328:=rfl;omega,Lib.hid (fun _=>rfl),Mods.refl _ _⟩
    case round =>
     obtain ⟨k,b2,hk,rfl,rfl,hb2,hX2,hN2⟩:=hrel
     replace c2:=hN2.cell C2.out id
     replace c3:=hN2.cell C3.out id
     by_cases hkl:k < lp
     ·have hkd2:decide ((k:Int) < (lp:Int))=true:=decide_eq_true (by omega)
      by_cases hn1':n1 ≤ 40
      ·have hnd:decide ((n1:Int) ≤ 40)=true:=decide_eq_true (by omega)
       obtain ⟨b3,o3,e,hrow⟩:=(HP1.out.new hN2).1.at.2.2 k hkl
       subst e
       obtain ⟨d0,-,-,d3,-⟩:=cells5 hrow
       have hs:=HSP.out k (by rw [Hlp.out];exact hkl)
       have hpsb:=psB_le HSP.out (show k ≤ m.params.length by rw [Hlp.out];omega)
       have hs47:S47=140737488355328:=rfl
       have hX2':=hX2.out hn1'
       have hps1:psB m.params (k + 1)=psB m.params k + pB (m.params.getD k noP):=rfl
       have hpb:pB (m.params.getD k noP)=(m.params.getD k noP).key.length + (m.params.getD k noP).bare.text.length:=rfl
       have z1:(tx (m.params.getD k noP).key).size=(m.params.getD k noP).key.length:=tx_size _
       have z2:(tx (m.params.getD k noP).bare.text).size=(m.params.getD k noP).bare.text.length:=tx_size _
       obtain ⟨s1,hs1⟩:∃ s,tx (m.params.getD k noP).key=s:=⟨_,rfl⟩
       obtain ⟨s2,hs2⟩:∃ s,tx (m.params.getD k noP).bare.text=s:=⟨_,rfl⟩
       rw [hs1] at d0 z1
       rw [hs2] at d3 z2
       have hmul:2 * S47 * k ≤ 2 * S47 * 40:=Nat.mul_le_mul_left _ (by have:=Hn1.out;omega)
       have hbd:b2 ≤ 30000000000000000:=by omega
       have hz1:s1.size ≤ 140737488355328:=by omega
       have hz2:s2.size ≤ 140737488355328:=by omega
       have HREL:Hid (n1 ≤ 40→b2 + s1.size + s2.size=b + K.size + psB m.params (k + 1)):=Lib.hid (fun _=>by omega)
       clear hX2' hps1 hpb z1 z2 hs1 hs2 hmul hpsb hs hrow
       go_upto_region 10 with fail
       refine piece (fun _=>_) (great10 _ rfl wr rfl rfl rfl rfl hlt hkl hb2 hz1 hz2 c3 d0 d3) ?_
       rintro a' W7 ⟨z,rfl,hN7⟩
       simp only [pS]
       have hN6':=hN2.trans hN7
       clear d0 d3 hN7 hN2 c2 c3
       go_wp2_with fail
       go_roundw
       case rel=>exact ⟨k + 1,b2 + s1.size + s2.size,by omega,rfl,by go_num,by omega,HREL,hN6'⟩
       case measure=>simp [intOf];omega
      ·have hnd:decide ((n1:Int) ≤ 40)=false:=decide_eq_false (by omega)
       have HX2:Hid (n1 ≤ 40→b2=b + K.size + psB m.params lp):=Lib.hid (fun h=>absurd h (by omega))
       clear hX2
       go_wp2_with fail
       go_loopw [3,4,7] (fun t3 t4 t7 wr=>∃ k n' b':Nat,k ≤ li∧t3 = .int .i64 n'∧t4 = .int .i64 b'∧t7 = .int .i64 k∧n' ≤ 2251799813685248∧b' ≤ 144115188075855872∧Hid (n' ≤ 40→n1 ≤ 40∧n'=n1 + xsN m.items k∧b'=b2 + xsB m.items k)∧New W1 wr) (fun _ _ t _=>li - (intOf t).toNat)
       case atStart=>exact ⟨0,n1,b2,Nat.zero_le _,rfl,rfl,rfl,by omega,hb2,Lib.hid (fun h=>⟨h,rfl,rfl⟩),hN2⟩
       case round =>
        clear hN2
        obtain ⟨k,n',b',hk,rfl,rfl,rfl,hn4,hb4,hE4,hN4⟩:=hrel
        replace c2:=hN4.cell C2.out id
        by_cases hkl:k < li
        ·have hkd2:decide ((k:Int) < (li:Int))=true:=decide_eq_true (by omega)
         by_cases hn4':n' ≤ 40
         ·have hnd:decide ((n':Int) ≤ 40)=true:=decide_eq_true (by omega)
          obtain ⟨f1,f2,f3⟩:=hE4.out hn4'
          obtain ⟨ip,q1,-,q3⟩:=HI1.out.new hN4
          obtain ⟨b3,o3,e,hrow⟩:=q1.at.2.2 k hkl
          subst e
          have hkx:k < m.items.length:=by rw [Hli.out];exact hkl
          have hp3:=q3 k hkx
          obtain ⟨xa,xc,hxe⟩:=hp3.slice
          rw [hxe] at hrow hp3
          obtain ⟨hxt,hxs⟩:=HSX.out k hkx
          have hxsb:=xsB_le HSX.out (show k ≤ m.items.length by omega)
          have hpsb:=psB_le HSP.out (Nat.le_refl _)
          rw [Hlp.out] at hpsb
          obtain ⟨x,hx⟩:∃ x,m.items.getD k Bare.noI=x:=⟨_,rfl⟩
          have Hx:=Lib.hid hx
          rw [hx] at hrow hp3 hxt hxs
          obtain ⟨lx,hlx⟩:∃ l,x.params.length=l:=⟨_,rfl⟩
          have Hlx:=Lib.hid hlx
          have hlx48:lx ≤ 281474976710656:=by have:=hp3.1.1;omega
          rw [hlx] at hrow
          have HXP0:=Lib.hid hp3
          rw [hlx] at HXP0
          have HXS:=Lib.hid hxs
          have hts:(tx x.bare.text).size=x.bare.text.length:=tx_size _
          unfold ics at hrow
          obtain ⟨ts,hts'⟩:∃ t,tx x.bare.text=t:=⟨_,rfl⟩
          rw [hts'] at hrow hts
          have HTs:=Lib.hid hts
          have hs47:S47=140737488355328:=rfl
          have hEX:=HX2.out f1
          have hm1:2 * S47 * lp ≤ 2 * S47 * 40:=Nat.mul_le_mul_left _ (by have:=Hn1.out;omega)
          have hm2:2 * S47 * (k + xsN m.items k) ≤ 2 * S47 * 80:=Nat.mul_le_mul_left _ (by have:=Hn1.out;omega)
          have hbd:b' ≤ 60000000000000000:=by omega
          have hzt:ts.size ≤ 140737488355328:=by omega
          have HRow:=Lib.hid hrow
          have hwn:IntKind.i64.wrap ((n':Int) + (lx:Int))=(n':Int) + (lx:Int):=by rw [IntKind.wrap_i64];omega
          have hwb2:IntKind.i64.wrap ((b':Int) + (ts.size:Int))=(b':Int) + (ts.size:Int):=by rw [IntKind.wrap_i64];omega
          have hA:=Lib.hid (fun (o:Obj)=>((Mods.refl (fun _=>False) wr).alloc o))
          have r8:=World.alloc_heap_new wr (.cells #[.int .u8 x.bare.kind,.int .i64 x.bare.int,.string ts,.bool x.bare.yes,.slice xa lx xc] 85)
          obtain ⟨n2,hn2⟩:∃ y,n' + lx=y:=⟨_,rfl⟩
          have Hn2:=Lib.hid hn2
          obtain ⟨b2',hb2'⟩:∃ y,b' + ts.size=y:=⟨_,rfl⟩
          have Hb2:=Lib.hid hb2'
          have hn2b:n2 ≤ 2251799813685248:=by omega
          have hb2b:b2' ≤ 61000000000000000:=by omega
          have hnc:(n':Int) + (lx:Int)=(n2:Int):=by omega
          clear q1 q3 hrow hp3 hxe hxt hxs hxsb hpsb hx hlx hts hts' hEX hm1 hm2 hn2 hb2' f1 f2 f3 hkx
          go_upto_region 15 with (refine op_value rfl (run_load_mid 85 (.tmp 103) rfl b3 (o3 + k * 5) rfl [.int .u8 x.bare.kind,.int .i64 x.bare.int,.string ts,.bool x.bare.yes,.slice xa lx xc] _ HRow.out Tryz.underlying85 rfl sizeX) ?_)
          have hN5:=hN4.trans (hA.out (.cells #[.int .u8 x.bare.kind,.int .i64 x.bare.int,.string ts,.bool x.bare.yes,.slice xa lx xc] 85))
          have HXP:=Lib.hid (HXP0.out.new (hA.out (.cells #[.int .u8 x.bare.kind,.int .i64 x.bare.int,.string ts,.bool x.bare.yes,.slice xa lx xc] 85)))
          obtain ⟨W5,hW5⟩:∃ V,wr.alloc (.cells #[.int .u8 x.bare.kind,.int .i64 x.bare.int,.string ts,.bool x.bare.yes,.slice xa lx xc] 85)=V:=⟨_,rfl⟩
          obtain ⟨B8,hB8⟩:∃ y,wr.heap.size=y:=⟨_,rfl⟩
          rw [hW5] at r8 hN5 HXP ⊢
          rw [hB8] at r8 ⊢
          clear hW5 hB8 HRow hA HXP0
          have q4:=cell_of_row _ _ 4 _ _ _ r8
          have q2:=cell_of_row _ _ 2 _ _ _ r8
          simp only [gS] at q4 q2
          go_wp2_with fail
          clear q4 q2
          go_loopw [4,9] (fun t4 t9 wr=>∃ j b3:Nat,j ≤ lx∧t4 = .int .i64 b3∧t9 = .int .i64 j∧b3 ≤ 144115188075855872∧Hid (n2 ≤ 40→b3=b2' + psB x.params j)∧wr.heap[B8]? = some (.cells #[.int .u8 x.bare.kind,.int .i64 x.bare.int,.string ts,.bool x.bare.yes,.slice xa lx xc] 85 (0,0))∧New W5 wr) (fun _ t _=>lx - (intOf t).toNat)
          case atStart=>exact ⟨0,b2',Nat.zero_le _,by rw [← Hb2.out,Int.natCast_add],rfl,by omega,Lib.hid (fun _=>rfl),r8,Mods.refl _ _⟩
          case round =>
           clear r8
           obtain ⟨j,b3,hj,rfl,rfl,hb3,hE6,r8,hN6⟩:=hrel
           have q4:=cell_of_row _ _ 4 _ _ _ r8
           simp only [gS] at q4
           by_cases hjl:j < lx
           ·have hjd:decide ((j:Int) < (lx:Int))=true:=decide_eq_true (by omega)
            by_cases hn2':n2 ≤ 40
            ·have hnd:decide ((n2:Int) ≤ 40)=true:=decide_eq_true (by omega)
             obtain ⟨b4,o4,e,hrow⟩:=(HXP.out.new hN6).1.at.2.2 j hjl
             subst e
             obtain ⟨d0,-,-,d3,-⟩:=cells5 hrow
             have hs:=HXS.out j (by rw [Hlx.out];exact hjl)
             have hpsb:=psB_le HXS.out (show j ≤ x.params.length by rw [Hlx.out];omega)
             have hs47:S47=140737488355328:=rfl
             have hE6':=hE6.out hn2'
             have hps1:psB x.params (j + 1)=psB x.params j + pB (x.params.getD j noP):=rfl
             have hpb:pB (x.params.getD j noP)=(x.params.getD j noP).key.length + (x.params.getD j noP).bare.text.length:=rfl
             have z1:(tx (x.params.getD j noP).key).size=(x.params.getD j noP).key.length:=tx_size _
             have z2:(tx (x.params.getD j noP).bare.text).size=(x.params.getD j noP).bare.text.length:=tx_size _
             obtain ⟨s1,hs1⟩:∃ s,tx (x.params.getD j noP).key=s:=⟨_,rfl⟩
             obtain ⟨s2,hs2⟩:∃ s,tx (x.params.getD j noP).bare.text=s:=⟨_,rfl⟩
             rw [hs1] at d0 z1
             rw [hs2] at d3 z2
             have hmul:2 * S47 * j ≤ 2 * S47 * 40:=Nat.mul_le_mul_left _ (by have:=Hn2.out;omega)
             have hbd:b3 ≤ 100000000000000000:=by omega
             have hz1:s1.size ≤ 140737488355328:=by omega
             have hz2:s2.size ≤ 140737488355328:=by omega
             have HREL:Hid (n2 ≤ 40→b3 + s1.size + s2.size=b2' + psB x.params (j + 1)):=Lib.hid (fun _=>by omega)
             have H8:=Lib.hid r8
             have hb3':b3 ≤ 144115188075855872:=by omega
             clear hE6' hps1 hpb z1 z2 hs1 hs2 hmul hpsb hs hrow r8
             go_upto_region 20 with fail
             refine piece (fun _=>_) (great20 _ rfl wr rfl rfl rfl hjl hb3' hz1 hz2 q4 d0 d3) ?_
             rintro a' W7 ⟨z,rfl,hN7⟩
             simp only [pS]
             have r8:=hN7.heap H8.out id
             have hN6':=hN6.trans hN7
             clear q4 d0 d3 hN7 H8 hN6
             go_wp2_with fail
             go_roundw
             case rel=>exact ⟨j + 1,b3 + s1.size + s2.size,by omega,rfl,by go_num,by omega,HREL,r8,hN6'⟩
             case measure=>simp [intOf];omega
            ·have hnd:decide ((n2:Int) ≤ 40)=false:=decide_eq_false (by omega)
             clear r8
             go_wp2_with fail
             go_roundw
             case rel=>exact ⟨k + 1,n2,b3,by omega,rfl,rfl,by go_num,by omega,hb3,Lib.hid (fun h40=>absurd h40 (by omega)),hN5.trans hN6⟩
             case measure=>simp [intOf];omega
           ·have hjd:decide ((j:Int) < (lx:Int))=false:=decide_eq_false (by omega)
            obtain rfl:lx=j:=by omega
            clear r8
            go_wp2_with fail
            go_roundw
            case rel=>exact ⟨k + 1,n2,b3,by omega,rfl,rfl,by go_num,by omega,hb3,Lib.hid (fun h40=>by
             obtain ⟨e1,e2,e3⟩:=hE4.out (by omega)
             have e4:=hE6.out h40
             have e5:xsN m.items (k + 1)=xsN m.items k + x.params.length:=by rw [← Hx.out];rfl
             have e6:xsB m.items (k + 1)=xsB m.items k + xB x:=by rw [← Hx.out];rfl
             have e7:xB x=x.bare.text.length + psB x.params x.params.length:=rfl
             have e8:=Hlx.out
             have e9:=HTs.out
             have e10:=Hn2.out
             have e11:=Hb2.out
             rw [e8] at e7
             refine ⟨e1,?_,?_⟩
             ·omega
             ·omega),hN5.trans hN6⟩
            case measure=>simp [intOf];omega
         ·have hnd:decide ((n':Int) ≤ 40)=false:=decide_eq_false (by omega)
          go_wp2_with fail
          go_roundw
          case rel=>exact ⟨i + 1,n',b',by omega,rfl,rfl,by go_num,hn4,hb4,Lib.hid (fun h40=>absurd h40 (by omega)),hNa.trans hN4⟩
          case measure=>simp [intOf];omega
        ·have hkd2:decide ((k:Int) < (li:Int))=false:=decide_eq_false (by omega)
         obtain rfl:li=k:=by omega
         go_wp2_with fail
         go_roundw
         case rel=>exact ⟨i + 1,n',b',by omega,rfl,rfl,by go_num,hn4,hb4,Lib.hid (fun h40=>by
           obtain ⟨e1,e2,e3⟩:=hE4.out h40
           have e4:=HX2.out e1
           have e5:=HT1.out
           have e6:=HT2.out
           have e7:mN m=m.items.length + m.params.length + xsN m.items m.items.length:=rfl
           have e8:mB m=m.key.length + psB m.params m.params.length + xsB m.items m.items.length:=rfl
           have e9:=Hli.out
           have e10:=Hlp.out
           rw [e9,e10] at e7 e8
           have e11:=HE1.out
           have e12:=HE2.out
           have e13:=Hn1.out
           have e14:=HKl.out
           refine ⟨?_,?_⟩
           ·omega
           ·omega),hNa.trans hN4⟩
         case measure=>simp [intOf];omega
     ·have hkd2:decide ((k:Int) < (lp:Int))=false:=decide_eq_false (by omega)
      obtain rfl:lp=k:=by omega
      have HX2:=hX2
      go_wp2_with fail
      go_loopw [3,4,7] (fun t3 t4 t7 wr=>∃ k n' b':Nat,k ≤ li∧t3 = .int .i64 n'∧t4 = .int .i64 b'∧t7 = .int .i64 k∧n' ≤ 2251799813685248∧b' ≤ 144115188075855872∧Hid (n' ≤ 40→n1 ≤ 40∧n'=n1 + xsN m.items k∧b'=b2 + xsB m.items k)∧New W1 wr) (fun _ _ t _=>li - (intOf t).toNat)
      case atStart=>exact ⟨0,n1,b2,Nat.zero_le _,rfl,rfl,rfl,by omega,hb2,Lib.hid (fun h=>⟨h,rfl,rfl⟩),hN2⟩
      case round =>
       clear hN2
       obtain ⟨k,n',b',hk,rfl,rfl,rfl,hn4,hb4,hE4,hN4⟩:=hrel
       replace c2:=hN4.cell C2.out id
       by_cases hkl:k < li
       ·have hkd2:decide ((k:Int) < (li:Int))=true:=decide_eq_true (by omega)
        by_cases hn4':n' ≤ 40
        ·have hnd:decide ((n':Int) ≤ 40)=true:=decide_eq_true (by omega)
         obtain ⟨f1,f2,f3⟩:=hE4.out hn4'
         obtain ⟨ip,q1,-,q3⟩:=HI1.out.new hN4
         obtain ⟨b3,o3,e,hrow⟩:=q1.at.2.2 k hkl
         subst e
         have hkx:k < m.items.length:=by rw [Hli.out];exact hkl
         have hp3:=q3 k hkx
         obtain ⟨xa,xc,hxe⟩:=hp3.slice
         rw [hxe] at hrow hp3
         obtain ⟨hxt,hxs⟩:=HSX.out k hkx
         have hxsb:=xsB_le HSX.out (show k ≤ m.items.length by omega)
         have hpsb:=psB_le HSP.out (Nat.le_refl _)
         rw [Hlp.out] at hpsb
         obtain ⟨x,hx⟩:∃ x,m.items.getD k Bare.noI=x:=⟨_,rfl⟩
         have Hx:=Lib.hid hx
         rw [hx] at hrow hp3 hxt hxs
         obtain ⟨lx,hlx⟩:∃ l,x.params.length=l:=⟨_,rfl⟩
         have Hlx:=Lib.hid hlx
         have hlx48:lx ≤ 281474976710656:=by have:=hp3.1.1;omega
         rw [hlx] at hrow
         have HXP0:=Lib.hid hp3
         rw [hlx] at HXP0
         have HXS:=Lib.hid hxs
         have hts:(tx x.bare.text).size=x.bare.text.length:=tx_size _
         unfold ics at hrow
         obtain ⟨ts,hts'⟩:∃ t,tx x.bare.text=t:=⟨_,rfl⟩
         rw [hts'] at hrow hts
         have HTs:=Lib.hid hts
         have hs47:S47=140737488355328:=rfl
         have hEX:=HX2.out f1
         have hm1:2 * S47 * lp ≤ 2 * S47 * 40:=Nat.mul_le_mul_left _ (by have:=Hn1.out;omega)
         have hm2:2 * S47 * (k + xsN m.items k) ≤ 2 * S47 * 80:=Nat.mul_le_mul_left _ (by have:=Hn1.out;omega)
         have hbd:b' ≤ 60000000000000000:=by omega
         have hzt:ts.size ≤ 140737488355328:=by omega
         have HRow:=Lib.hid hrow
         have hwn:IntKind.i64.wrap ((n':Int) + (lx:Int))=(n':Int) + (lx:Int):=by rw [IntKind.wrap_i64];omega
         have hwb2:IntKind.i64.wrap ((b':Int) + (ts.size:Int))=(b':Int) + (ts.size:Int):=by rw [IntKind.wrap_i64];omega
         have hA:=Lib.hid (fun (o:Obj)=>((Mods.refl (fun _=>False) wr).alloc o))
         have r8:=World.alloc_heap_new wr (.cells #[.int .u8 x.bare.kind,.int .i64 x.bare.int,.string ts,.bool x.bare.yes,.slice xa lx xc] 85)
         obtain ⟨n2,hn2⟩:∃ y,n' + lx=y:=⟨_,rfl⟩
         have Hn2:=Lib.hid hn2
         obtain ⟨b2',hb2'⟩:∃ y,b' + ts.size=y:=⟨_,rfl⟩
         have Hb2:=Lib.hid hb2'
         have hn2b:n2 ≤ 2251799813685248:=by omega
         have hb2b:b2' ≤ 61000000000000000:=by omega
         have hnc:(n':Int) + (lx:Int)=(n2:Int):=by omega
         clear q1 q3 hrow hp3 hxe hxt hxs hxsb hpsb hx hlx hts hts' hEX hm1 hm2 hn2 hb2' f1 f2 f3 hkx
         go_upto_region 15 with (refine op_value rfl (run_load_mid 85 (.tmp 103) rfl b3 (o3 + k * 5) rfl [.int .u8 x.bare.kind,.int .i64 x.bare.int,.string ts,.bool x.bare.yes,.slice xa lx xc] _ HRow.out Tryz.underlying85 rfl sizeX) ?_)
         have hN5:=hN4.trans (hA.out (.cells #[.int .u8 x.bare.kind,.int .i64 x.bare.int,.string ts,.bool x.bare.yes,.slice xa lx xc] 85))
         have HXP:=Lib.hid (HXP0.out.new (hA.out (.cells #[.int .u8 x.bare.kind,.int .i64 x.bare.int,.string ts,.bool x.bare.yes,.slice xa lx xc] 85)))
         obtain ⟨W5,hW5⟩:∃ V,wr.alloc (.cells #[.int .u8 x.bare.kind,.int .i64 x.bare.int,.string ts,.bool x.bare.yes,.slice xa lx xc] 85)=V:=⟨_,rfl⟩
         obtain ⟨B8,hB8⟩:∃ y,wr.heap.size=y:=⟨_,rfl⟩
         rw [hW5] at r8 hN5 HXP ⊢
         rw [hB8] at r8 ⊢
         clear hW5 hB8 HRow hA HXP0
         have q4:=cell_of_row _ _ 4 _ _ _ r8
         have q2:=cell_of_row _ _ 2 _ _ _ r8
         simp only [gS] at q4 q2
         go_wp2_with fail
         clear q4 q2
         go_loopw [4,9] (fun t4 t9 wr=>∃ j b3:Nat,j ≤ lx∧t4 = .int .i64 b3∧t9 = .int .i64 j∧b3 ≤ 144115188075855872∧Hid (n2 ≤ 40→b3=b2' + psB x.params j)∧wr.heap[B8]? = some (.cells #[.int .u8 x.bare.kind,.int .i64 x.bare.int,.string ts,.bool x.bare.yes,.slice xa lx xc] 85 (0,0))∧New W5 wr) (fun _ t _=>lx - (intOf t).toNat)
         case atStart=>exact ⟨0,b2',Nat.zero_le _,by rw [← Hb2.out,Int.natCast_add],rfl,by omega,Lib.hid (fun _=>rfl),r8,Mods.refl _ _⟩
         case round =>
          clear r8
          obtain ⟨j,b3,hj,rfl,rfl,hb3,hE6,r8,hN6⟩:=hrel
          have q4:=cell_of_row _ _ 4 _ _ _ r8
          simp only [gS] at q4
          by_cases hjl:j < lx
          ·have hjd:decide ((j:Int) < (lx:Int))=true:=decide_eq_true (by omega)
           by_cases hn2':n2 ≤ 40
           ·have hnd:decide ((n2:Int) ≤ 40)=true:=decide_eq_true (by omega)
            obtain ⟨b4,o4,e,hrow⟩:=(HXP.out.new hN6).1.at.2.2 j hjl
            subst e
            obtain ⟨d0,-,-,d3,-⟩:=cells5 hrow
            have hs:=HXS.out j (by rw [Hlx.out];exact hjl)
            have hpsb:=psB_le HXS.out (show j ≤ x.params.length by rw [Hlx.out];omega)
            have hs47:S47=140737488355328:=rfl
            have hE6':=hE6.out hn2'
            have hps1:psB x.params (j + 1)=psB x.params j + pB (x.params.getD j noP):=rfl
            have hpb:pB (x.params.getD j noP)=(x.params.getD j noP).key.length + (x.params.getD j noP).bare.text.length:=rfl
            have z1:(tx (x.params.getD j noP).key).size=(x.params.getD j noP).key.length:=tx_size _
            have z2:(tx (x.params.getD j noP).bare.text).size=(x.params.getD j noP).bare.text.length:=tx_size _
            obtain ⟨s1,hs1⟩:∃ s,tx (x.params.getD j noP).key=s:=⟨_,rfl⟩
            obtain ⟨s2,hs2⟩:∃ s,tx (x.params.getD j noP).bare.text=s:=⟨_,rfl⟩
            rw [hs1] at d0 z1
            rw [hs2] at d3 z2
            have hmul:2 * S47 * j ≤ 2 * S47 * 40:=Nat.mul_le_mul_left _ (by have:=Hn2.out;omega)
            have hbd:b3 ≤ 100000000000000000:=by omega
            have hz1:s1.size ≤ 140737488355328:=by omega
            have hz2:s2.size ≤ 140737488355328:=by omega
            have HREL:Hid (n2 ≤ 40→b3 + s1.size + s2.size=b2' + psB x.params (j + 1)):=Lib.hid (fun _=>by omega)
            have H8:=Lib.hid r8
            have hb3':b3 ≤ 144115188075855872:=by omega
            clear hE6' hps1 hpb z1 z2 hs1 hs2 hmul hpsb hs hrow r8
            go_upto_region 20 with fail
            refine piece (fun _=>_) (great20 _ rfl wr rfl rfl rfl hjl hb3' hz1 hz2 q4 d0 d3) ?_
            rintro a' W7 ⟨z,rfl,hN7⟩
            simp only [pS]
            have r8:=hN7.heap H8.out id
            have hN6':=hN6.trans hN7
            clear q4 d0 d3 hN7 H8 hN6
            go_wp2_with fail
            go_roundw
            case rel=>exact ⟨j + 1,b3 + s1.size + s2.size,by omega,rfl,by go_num,by omega,HREL,r8,hN6'⟩
            case measure=>simp [intOf];omega
           ·have hnd:decide ((n2:Int) ≤ 40)=false:=decide_eq_false (by omega)
            clear r8
            go_wp2_with fail
            go_roundw
            case rel=>exact ⟨k + 1,n2,b3,by omega,rfl,rfl,by go_num,by omega,hb3,Lib.hid (fun h40=>absurd h40 (by omega)),hN5.trans hN6⟩
            case measure=>simp [intOf];omega
          ·have hjd:decide ((j:Int) < (lx:Int))=false:=decide_eq_false (by omega)
           obtain rfl:lx=j:=by omega
           clear r8
           go_wp2_with fail
           go_roundw
           case rel=>exact ⟨k + 1,n2,b3,by omega,rfl,rfl,by go_num,by omega,hb3,Lib.hid (fun h40=>by
            obtain ⟨e1,e2,e3⟩:=hE4.out (by omega)
            have e4:=hE6.out h40
            have e5:xsN m.items (k + 1)=xsN m.items k + x.params.length:=by rw [← Hx.out];rfl
            have e6:xsB m.items (k + 1)=xsB m.items k + xB x:=by rw [← Hx.out];rfl
            have e7:xB x=x.bare.text.length + psB x.params x.params.length:=rfl
            have e8:=Hlx.out
            have e9:=HTs.out
            have e10:=Hn2.out
            have e11:=Hb2.out
            rw [e8] at e7
            refine ⟨e1,?_,?_⟩
            ·omega
            ·omega),hN5.trans hN6⟩
           case measure=>simp [intOf];omega
        ·have hnd:decide ((n':Int) ≤ 40)=false:=decide_eq_false (by omega)
         go_wp2_with fail
         go_roundw
         case rel=>exact ⟨i + 1,n',b',by omega,rfl,rfl,by go_num,hn4,hb4,Lib.hid (fun h40=>absurd h40 (by omega)),hNa.trans hN4⟩
         case measure=>simp [intOf];omega
       ·have hkd2:decide ((k:Int) < (li:Int))=false:=decide_eq_false (by omega)
        obtain rfl:li=k:=by omega
        go_wp2_with fail
        go_roundw
        case rel=>exact ⟨i + 1,n',b',by omega,rfl,rfl,by go_num,hn4,hb4,Lib.hid (fun h40=>by
          obtain ⟨e1,e2,e3⟩:=hE4.out h40
          have e4:=HX2.out e1
          have e5:=HT1.out
          have e6:=HT2.out
          have e7:mN m=m.items.length + m.params.length + xsN m.items m.items.length:=rfl
          have e8:mB m=m.key.length + psB m.params m.params.length + xsB m.items m.items.length:=rfl
          have e9:=Hli.out
          have e10:=Hlp.out
          rw [e9,e10] at e7 e8
          have e11:=HE1.out
          have e12:=HE2.out
          have e13:=Hn1.out
          have e14:=HKl.out
          refine ⟨?_,?_⟩
          ·omega
          ·omega),hNa.trans hN4⟩
        case measure=>simp [intOf];omega
   ·have hkd2:decide ((n:Int) ≤ 40)=false:=decide_eq_false (by omega)
    have hgt:decide ((40:Int) < (n:Int))=true:=decide_eq_true (by omega)
    go_wp2_with fail
    go_ret
    exact ⟨true,rfl,hN,fun h=>by cases h⟩
  ·have hkd:decide ((i:Int) < (nd:Int))=false:=decide_eq_false (by omega)
   obtain rfl:i=nd:=by omega
   by_cases hn40:40 < n
   ·have hgt:decide ((40:Int) < (n:Int))=true:=decide_eq_true (by omega)
    go_wp2_with fail
    go_ret
    exact ⟨true,rfl,hN,fun h=>by cases h⟩
   ·have hgt:decide ((40:Int) < (n:Int))=false:=decide_eq_false (by omega)
    by_cases hb:2000 < b
    ·have hgb:decide ((2000:Int) < (b:Int))=true:=decide_eq_true (by omega)
     go_wp2_with fail
     go_ret
     exact ⟨true,rfl,hN,fun h=>by cases h⟩
    ·have hgb:decide ((2000:Int) < (b:Int))=false:=decide_eq_false (by omega)
     go_wp2_with fail
     go_ret
     refine ⟨false,rfl,hN,fun _=>?_⟩
     obtain ⟨e1,e2⟩:=hE.out (by omega)
     omega


theorem lit82 (t:Array Value) (h:t.size=82):∃ u:Nat→Value,t=(u 0::u 1::u 2::u 3::u 4::u 5::u 6::u 7::u 8::u 9::u 10::u 11::u 12::u 13::u 14::u 15::u 16::u 17::u 18::u 19::u 20::u 21::u 22::u 23::u 24::u 25::u 26::u 27::u 28::u 29::u 30::u 31::u 32::u 33::u 34::u 35::u 36::u 37::u 38::u 39::u 40::u 41::u 42::u 43::u 44::u 45::u 46::u 47::u 48::u 49::u 50::u 51::u 52::u 53::u 54::u 55::u 56::u 57::u 58::u 59::u 60::u 61::u 62::u 63::u 64::u 65::u 66::u 67::u 68::u 69::u 70::u 71::u 72::u 73::u 74::u 75::u 76::u 77::u 78::u 79::u 80::u 81::([]:List Value)).toArray:=⟨fun i=>t.getD i undef,range_lit t 82 h⟩
noncomputable def reg_dict_Print_8:Code:=((Tryz.f23.body.bind (regionOf 8)).getD .skip)
theorem print8 (t:Array Value) (hs:t.size=82) (w:World) {base B ib io ic xl xc:Nat} {xa:Option Addr} {v x0 x1 x2 x3 x5 x8 x12 x13 x14 x15 x16 x17 x80 x81:Value} {q s vl td:ByteArray} {yy:Bool} {k n:Int} {L:List Bare.Bs} {l:Bare.Bs}
  (hq4:t.getD 4 undef=v)
  (hq6:t.getD 6 undef = .pointer (some ⟨B,0,none⟩))
  (hq0:t.getD 0 undef=x0)
  (hq1:t.getD 1 undef=x1)
  (hq2:t.getD 2 undef=x2)
  (hq3:t.getD 3 undef=x3)
  (hq5:t.getD 5 undef=x5)
  (hq8:t.getD 8 undef=x8)
  (hq12:t.getD 12 undef=x12)
  (hq13:t.getD 13 undef=x13)
  (hq14:t.getD 14 undef=x14)
  (hq15:t.getD 15 undef=x15)
  (hq16:t.getD 16 undef=x16)
  (hq17:t.getD 17 undef=x17)
  (hq80:t.getD 80 undef=x80)
  (hq81:t.getD 81 undef=x81)
  (k0:w.cell? ⟨B,0,none⟩=some (.string q)) (k2:w.cell? ⟨B,2,none⟩=some (.slice (some ⟨ib,io,none⟩) 1 ic))
  (i0:w.cell? ⟨ib,io,none⟩=some (.int .u8 k)) (i1:w.cell? ⟨ib,io + 1,none⟩=some (.int .i64 n)) (i2:w.cell? ⟨ib,io + 2,none⟩=some (.string s)) (i3:w.cell? ⟨ib,io + 3,none⟩=some (.bool yy)) (i4:w.cell? ⟨ib,io + 4,none⟩=some (.slice xa xl xc))
  (hBv:v.ownBlock ≠ some B) (hIv:v.ownBlock ≠ some ib)
  (HVal:Hid (∀ W,New w W→Calls Tryz.prog 80 #[.agg #[.int .u8 k,.int .i64 n,.string s,.bool yy]] W fun e w'=>e = .returned (.string vl)∧New W w'))
  (HTold:Hid (∀ W,New w W→Calls Tryz.prog 81 #[.slice xa xl xc] W fun e w'=>e = .returned (.string td)∧New W w'))
  (Hx:Hid (q ++ vl ++ td=tx l)) (hown:OwS base w v L) (hln:L.length ≤ 2000000) (hbase:base ≤ w.heap.size)
  (hqs:q.size ≤ 100000) (hvs:vl.size ≤ 50000) (hts:td.size ≤ 400000000000) :
  reg_dict_Print_8.wp Tryz.prog (Only fun a' W'=>∃ v',(a'.tmps.size=82∧a'.defers = []∧a'.tmps.getD 4 undef=v'∧a'.tmps.getD 6 undef = .pointer (some ⟨B,0,none⟩)∧a'.tmps.getD 0 undef=x0∧a'.tmps.getD 1 undef=x1∧a'.tmps.getD 2 undef=x2∧a'.tmps.getD 3 undef=x3∧a'.tmps.getD 5 undef=x5∧a'.tmps.getD 8 undef=x8∧a'.tmps.getD 12 undef=x12∧a'.tmps.getD 13 undef=x13∧a'.tmps.getD 14 undef=x14∧a'.tmps.getD 15 undef=x15∧a'.tmps.getD 16 undef=x16∧a'.tmps.getD 17 undef=x17∧a'.tmps.getD 80 undef=x80∧a'.tmps.getD 81 undef=x81)∧OwS base W' v' (L ++ [l])∧∀ w0:World,New w0 w→w0.heap.size ≤ base→New w0 W') ⟨t,[]⟩ w:=by
 conv=>arg 2;whnf
 obtain ⟨u,rfl⟩:=lit82 t hs
 have hq4:u 4 = _:=hq4
 have hq6:u 6 = _:=hq6
 have hq0:u 0 = _:=hq0
 have hq1:u 1 = _:=hq1
 have hq2:u 2 = _:=hq2
 have hq3:u 3 = _:=hq3
 have hq5:u 5 = _:=hq5
 have hq8:u 8 = _:=hq8
 have hq12:u 12 = _:=hq12
 have hq13:u 13 = _:=hq13
 have hq14:u 14 = _:=hq14
 have hq15:u 15 = _:=hq15
 have hq16:u 16 = _:=hq16
 have hq17:u 17 = _:=hq17
 have hq80:u 80 = _:=hq80
 have hq81:u 81 = _:=hq81
 rw [hq4,hq6,hq0,hq1,hq2,hq3,hq5,hq8,hq12,hq13,hq14,hq15,hq16,hq17,hq80,hq81]
 clear hq4 hq6 hq0 hq1 hq2 hq3 hq5 hq8 hq12 hq13 hq14 hq15 hq16 hq17 hq80 hq81 hs
 have z1:¬ 9223372036854775807 < q.size + vl.size:=by omega
 have z2:¬ 9223372036854775807 < q.size + vl.size + td.size:=by omega
 refine wp_region_held (S:=fun W=>Mods (fun b=>v.ownBlock=some b) w W) (by kernel_rfl) ?_
 show wpAnyH _ _ _ _ _ 20 _ _ w.drew
 have hN:New w w.drew:=(Mods.refl _ _).drew
 have hS:Mods (fun b=>v.ownBlock=some b) w w.drew:=(Mods.refl _ _).drew
 refine tkI 0 (some 24) (v) hS ?_
 simp only [pS]
 refine tkI 1 (some 25) (.pointer (some ⟨B,0,none⟩)) hS ?_
 simp only [pS]
 refine tkA 2 rfl (some 26) (.string q) (.inl ⟨by rfl,fun W hW=>by have q:=hW.cell k0 hBv;go_simp⟩) hS ?_
 simp only [pS]
 refine tkI 3 (some 27) (.pointer (some ⟨B,2,none⟩)) hS ?_
 simp only [pS]
 refine tkA 4 rfl (some 28) (.slice (some ⟨ib,io,none⟩) 1 ic) (.inl ⟨by rfl,fun W hW=>by have q:=hW.cell k2 hBv;go_simp⟩) hS ?_
 simp only [pS]
 refine tkI 5 (some 29) (.pointer (some ⟨ib,io,none⟩)) hS ?_
 simp only [pS]
 refine tkI 6 (some 30) (.pointer (some ⟨ib,io,none⟩)) hS ?_
 simp only [pS]
 refine tkA 7 rfl (some 31) (.agg #[.int .u8 k,.int .i64 n,.string s,.bool yy]) (.inl ⟨by rfl,fun W hW=>by have q0:=hW.cell i0 hIv;have q1:=hW.cell i1 hIv;have q2:=hW.cell i2 hIv;have q3:=hW.cell i3 hIv;go_simp⟩) hS ?_
 simp only [pS]
 refine tkI 10 (some 34) (.pointer (some ⟨B,2,none⟩)) hS ?_
 simp only [pS]
 refine tkA 11 rfl (some 35) (.slice (some ⟨ib,io,none⟩) 1 ic) (.inl ⟨by rfl,fun W hW=>by have q:=hW.cell k2 hBv;go_simp⟩) hS ?_
 simp only [pS]
 refine tkI 12 (some 36) (.pointer (some ⟨ib,io,none⟩)) hS ?_
 simp only [pS]
 refine tkI 13 (some 37) (.pointer (some ⟨ib,io + 4,none⟩)) hS ?_
 simp only [pS]
 refine tkA 14 rfl (some 38) (.slice xa xl xc) (.inl ⟨by rfl,fun W hW=>by have q:=hW.cell i4 hIv;go_simp⟩) hS ?_
 simp only [pS]
 refine tkO 8 ?_
 refine opH_call (some 32) rfl (by rfl) rfl 80 #[.agg #[.int .u8 k,.int .i64 n,.string s,.bool yy]] (by go_simp) ((HVal.out _ hN).mono ?_)
 rintro e w1 ⟨rfl,hk⟩
 have hS:=hS.trans (Mods.ofNew hk)
 have hN:=hN.trans hk
 clear hk
 refine ⟨_,rfl,hS,?_⟩
 simp only [pS]
 refine tkI 9 (some 33) (.string (q ++ vl)) hS ?_
 simp only [pS]
 refine tkO 15 ?_
 refine opH_call (some 39) rfl (by rfl) rfl 81 #[.slice xa xl xc] (by go_simp) ((HTold.out _ hN).mono ?_)
 rintro e w2 ⟨rfl,hk⟩
 have hS:=hS.trans (Mods.ofNew hk)
 have hN:=hN.trans hk
 clear hk
 refine ⟨_,rfl,hS,?_⟩
 simp only [pS]
 refine tkI 16 (some 40) (.string ((q ++ vl) ++ td)) hS ?_
 simp only [pS]
 refine tkO 17 ?_
 refine opH_value (some 41) (v:=.slice (some ⟨w2.heap.size,0,none⟩) 1 1) (w':=w2.alloc (.cells #[.string (q ++ vl ++ td)] 9)) rfl rfl rfl (by go_simp) ?_
 refine ⟨hS.alloc _,?_⟩
 simp only [pS]
 refine tkO 18 ?_
 refine wpOp_append_S (l:=l) (some 42) rfl rfl rfl (.tmp 24) (.tmp 41) rfl rfl rfl (by rw [← Hx.out]) (hown.new hN) hln (Nat.le_trans hbase hN.size) ?_
 intro v' W' hown' hnew
 have hS:=hnew _ _ hS (fun g hg=>.inr hg)
 refine ⟨hS,?_⟩
 simp only [pS]
 refine tkI 19 (some 4) (v') hS ?_
 simp only [pS]
 refine wpAnyH_done (by kernel_rfl) ?_ _
 exact ⟨v',⟨rfl,rfl,rfl,rfl,rfl,rfl,rfl,rfl,rfl,rfl,rfl,rfl,rfl,rfl,rfl,rfl,rfl,rfl⟩,hown',fun w0 h1 h2=>hnew w0 _ (h1.trans hN) (fun g hg=>.inl (Nat.le_trans h2 (hown.lt g hg).1))⟩
theorem joinW_join (sep:Bare.Bs):∀ L:List Bare.Bs,Bare.joinW sep L=Lib.join L sep
 | []=>rfl
 | [a]=>(Lib.join_one a sep).symm
 | a::b::r=>by
  have ih:=joinW_join sep (b::r)
  rw [Lib.join_cons] at ih ⊢
  simp only [Bare.joinW]
  rw [ih]
  simp [Lib.joinTail]
theorem joinW_len (sep:Bare.Bs) (c:Nat):∀ L:List Bare.Bs,(∀ l ∈ L,l.length + sep.length ≤ c)→(Bare.joinW sep L).length ≤ L.length * c
 | [],_=>by simp [Bare.joinW]
 | [a],h=>by have:=h a (by simp);simp [Bare.joinW];omega
 | a::b::r,h=>by
  have ih:=joinW_len sep c (b::r) (fun l hl=>h l (List.mem_cons_of_mem _ hl))
  have:=h a (by simp)
  simp only [Bare.joinW,List.length_append,List.length_cons] at ih ⊢
  rw [Nat.add_mul,Nat.one_mul]
  omega
theorem join_any {base : Nat} (v : Value) (L : List Bare.Bs) (sep : Bare.Bs) (w : World) (h : OwS base w v L) (hn : L.length ≤ 2000000) (hl : (Bare.joinW sep L).length ≤ 140737488355328) :
    Calls Tryz.prog 82 #[v, .string (tx sep)] w fun e w' => e = .returned (.string (tx (Bare.joinW sep L))) ∧ New w w' := by
  rcases h.2 with ⟨rfl, h0⟩ | ⟨g, cap, cur, rfl, hb, hg, h1, h2, h3, h4⟩
  · obtain rfl : L = [] := List.length_eq_zero_iff.1 h0
    refine (Tryz.strings_Join_none none 0 (tx sep) w).mono ?_
    rintro e w' ⟨rfl, rfl⟩
    exact ⟨rfl, Mods.refl _ _⟩
  · have hx : (L.map tx).map (·.data.toList) = L := by rw [List.map_map]; conv => rhs; rw [← List.map_id L]
                                                       exact List.map_congr_left fun l _ => rfl
    have := Tryz.strings_Join g 0 cap (L.map tx) (tx sep) w (fun j x hj => by
      rw [Nat.zero_add, cell_of_row _ _ _ _ _ _ hg]
      have e : (strs L)[j]? = some (.string x) := by
        unfold strs
        rw [List.getElem?_map] at hj ⊢
        obtain ⟨l, hl, rfl⟩ := Option.map_eq_some_iff.1 hj
        rw [hl]; rfl
      rw [← h4, List.getElem?_take] at e
      split at e
      · rw [← Array.getElem?_toList]; exact e
      · cases e) (Array.getElem?_eq_some_iff.1 hg).1 (by rw [List.length_map]; omega) (by rw [List.length_map]; omega) (by rw [hx]; show (Lib.join L sep).length ≤ _; rw [← joinW_join]; exact hl)
    rw [hx, List.length_map] at this
    rw [joinW_join]
    exact this.mono fun e w' ⟨he, hB⟩ => ⟨he, Mods.below hB (Nat.le_refl _)⟩
noncomputable def reg_dict_Print_16:Code:=((Tryz.f23.body.bind (regionOf 16)).getD .skip)
theorem print16 (t:Array Value) (hs:t.size=82) (w:World) {base B pl pc:Nat} {pa:Option Addr} {v uv x0 x1 x2 x3 x5 x8 x12 x13 x14 x15 x16 x17 x80 x81:Value} {q jn td:ByteArray} {L:List Bare.Bs} {l:Bare.Bs}
  (hq4:t.getD 4 undef=v)
  (hq6:t.getD 6 undef = .pointer (some ⟨B,0,none⟩))
  (hq0:t.getD 0 undef=x0)
  (hq1:t.getD 1 undef=x1)
  (hq2:t.getD 2 undef=x2)
  (hq3:t.getD 3 undef=x3)
  (hq5:t.getD 5 undef=x5)
  (hq8:t.getD 8 undef=x8)
  (hq12:t.getD 12 undef=x12)
  (hq13:t.getD 13 undef=x13)
  (hq14:t.getD 14 undef=x14)
  (hq15:t.getD 15 undef=x15)
  (hq16:t.getD 16 undef=x16)
  (hq17:t.getD 17 undef=x17)
  (hq80:t.getD 80 undef=x80)
  (hq81:t.getD 81 undef=x81)
  (hq7:t.getD 7 undef=uv)
  (k0:w.cell? ⟨B,0,none⟩=some (.string q)) (k3:w.cell? ⟨B,3,none⟩=some (.slice pa pl pc))
  (hBv:v.ownBlock ≠ some B)
  (HJoin:Hid (∀ W,New w W→Calls Tryz.prog 82 #[uv,.string ⟨#[32]⟩] W fun e w'=>e = .returned (.string jn)∧New W w'))
  (HTold:Hid (∀ W,New w W→Calls Tryz.prog 81 #[.slice pa pl pc] W fun e w'=>e = .returned (.string td)∧New W w'))
  (Hx:Hid (q ++ ⟨#[61,40]⟩ ++ jn ++ ⟨#[41]⟩ ++ td=tx l)) (hown:OwS base w v L) (hln:L.length ≤ 2000000) (hbase:base ≤ w.heap.size)
  (hqs:q.size ≤ 100000) (hjs:jn.size ≤ 140737488355328) (hts:td.size ≤ 400000000000) :
  reg_dict_Print_16.wp Tryz.prog (Only fun a' W'=>∃ v',(a'.tmps.size=82∧a'.defers = []∧a'.tmps.getD 4 undef=v'∧a'.tmps.getD 6 undef = .pointer (some ⟨B,0,none⟩)∧a'.tmps.getD 0 undef=x0∧a'.tmps.getD 1 undef=x1∧a'.tmps.getD 2 undef=x2∧a'.tmps.getD 3 undef=x3∧a'.tmps.getD 5 undef=x5∧a'.tmps.getD 8 undef=x8∧a'.tmps.getD 12 undef=x12∧a'.tmps.getD 13 undef=x13∧a'.tmps.getD 14 undef=x14∧a'.tmps.getD 15 undef=x15∧a'.tmps.getD 16 undef=x16∧a'.tmps.getD 17 undef=x17∧a'.tmps.getD 80 undef=x80∧a'.tmps.getD 81 undef=x81)∧OwS base W' v' (L ++ [l])∧∀ w0:World,New w0 w→w0.heap.size ≤ base→New w0 W') ⟨t,[]⟩ w:=by
 conv=>arg 2;whnf
 obtain ⟨u,rfl⟩:=lit82 t hs
 have hq4:u 4 = _:=hq4
 have hq6:u 6 = _:=hq6
 have hq0:u 0 = _:=hq0
 have hq1:u 1 = _:=hq1
 have hq2:u 2 = _:=hq2
 have hq3:u 3 = _:=hq3
 have hq5:u 5 = _:=hq5
 have hq8:u 8 = _:=hq8
 have hq12:u 12 = _:=hq12
 have hq13:u 13 = _:=hq13
 have hq14:u 14 = _:=hq14
 have hq15:u 15 = _:=hq15
 have hq16:u 16 = _:=hq16
 have hq17:u 17 = _:=hq17
 have hq80:u 80 = _:=hq80
 have hq81:u 81 = _:=hq81
 have hq7:u 7 = _:=hq7
 rw [hq4,hq6,hq0,hq1,hq2,hq3,hq5,hq8,hq12,hq13,hq14,hq15,hq16,hq17,hq80,hq81,hq7]
 clear hq4 hq6 hq0 hq1 hq2 hq3 hq5 hq8 hq12 hq13 hq14 hq15 hq16 hq17 hq80 hq81 hq7 hs
 have z1:¬ 9223372036854775807 < q.size + 2:=by omega
 have z2:¬ 9223372036854775807 < q.size + 2 + jn.size:=by omega
 have z3:¬ 9223372036854775807 < q.size + 2 + jn.size + 1:=by omega
 have z4:¬ 9223372036854775807 < q.size + 2 + jn.size + 1 + td.size:=by omega
 refine wp_region_held (S:=fun W=>Mods (fun b=>v.ownBlock=some b) w W) (by kernel_rfl) ?_
 show wpAnyH _ _ _ _ _ 15 _ _ w.drew
 have hN:New w w.drew:=(Mods.refl _ _).drew
 have hS:Mods (fun b=>v.ownBlock=some b) w w.drew:=(Mods.refl _ _).drew
 refine tkI 0 (some 65) (v) hS ?_
 simp only [pS]
 refine tkI 1 (some 66) (.pointer (some ⟨B,0,none⟩)) hS ?_
 simp only [pS]
 refine tkA 2 rfl (some 67) (.string q) (.inl ⟨by rfl,fun W hW=>by have q:=hW.cell k0 hBv;go_simp⟩) hS ?_
 simp only [pS]
 refine tkI 3 (some 68) (.string (q ++ ⟨#[61,40]⟩)) hS ?_
 simp only [pS]
 refine tkI 4 (some 69) (uv) hS ?_
 simp only [pS]
 refine tkI 8 (some 73) (.pointer (some ⟨B,3,none⟩)) hS ?_
 simp only [pS]
 refine tkA 9 rfl (some 74) (.slice pa pl pc) (.inl ⟨by rfl,fun W hW=>by have q:=hW.cell k3 hBv;go_simp⟩) hS ?_
 simp only [pS]
 refine tkO 5 ?_
 refine opH_call (some 70) rfl (by rfl) rfl 82 #[uv,.string ⟨#[32]⟩] (by go_simp) ((HJoin.out _ hN).mono ?_)
 rintro e w1 ⟨rfl,hk⟩
 have hS:=hS.trans (Mods.ofNew hk)
 have hN:=hN.trans hk
 clear hk
 refine ⟨_,rfl,hS,?_⟩
 simp only [pS]
 refine tkI 6 (some 71) (.string ((q ++ ⟨#[61,40]⟩) ++ jn)) hS ?_
 simp only [pS]
 refine tkI 7 (some 72) (.string (((q ++ ⟨#[61,40]⟩) ++ jn) ++ ⟨#[41]⟩)) hS ?_
 simp only [pS]
 refine tkO 10 ?_
 refine opH_call (some 75) rfl (by rfl) rfl 81 #[.slice pa pl pc] (by go_simp) ((HTold.out _ hN).mono ?_)
 rintro e w2 ⟨rfl,hk⟩
 have hS:=hS.trans (Mods.ofNew hk)
 have hN:=hN.trans hk
 clear hk
 refine ⟨_,rfl,hS,?_⟩
 simp only [pS]
 refine tkI 11 (some 76) (.string ((((q ++ ⟨#[61,40]⟩) ++ jn) ++ ⟨#[41]⟩) ++ td)) hS ?_
 simp only [pS]
 refine tkO 12 ?_
 refine opH_value (some 77) (v:=.slice (some ⟨w2.heap.size,0,none⟩) 1 1) (w':=w2.alloc (.cells #[.string (q ++ ⟨#[61,40]⟩ ++ jn ++ ⟨#[41]⟩ ++ td)] 9)) rfl rfl rfl (by go_simp) ?_
 refine ⟨hS.alloc _,?_⟩
 simp only [pS]
 refine tkO 13 ?_
 refine wpOp_append_S (l:=l) (some 78) rfl rfl rfl (.tmp 65) (.tmp 77) rfl rfl rfl (by rw [← Hx.out]) (hown.new hN) hln (Nat.le_trans hbase hN.size) ?_
 intro v' W' hown' hnew
 have hS:=hnew _ _ hS (fun g hg=>.inr hg)
 refine ⟨hS,?_⟩
 simp only [pS]
 refine tkI 14 (some 4) (v') hS ?_
 simp only [pS]
 refine wpAnyH_done (by kernel_rfl) ?_ _
 exact ⟨v',⟨rfl,rfl,rfl,rfl,rfl,rfl,rfl,rfl,rfl,rfl,rfl,rfl,rfl,rfl,rfl,rfl,rfl,rfl⟩,hown',fun w0 h1 h2=>hnew w0 _ (h1.trans hN) (fun g hg=>.inl (Nat.le_trans h2 (hown.lt g hg).1))⟩


def PrX (x:Bare.Itm):Prop:=SmX x∧x.params.length ≤ 500
def PrM (m:Bare.Mem):Prop:=SmM m∧m.items.length ≤ 500∧m.params.length ≤ 500∧∀ x ∈ m.items,PrX x
def PrD (d:List Bare.Mem):Prop:=d.length ≤ 500∧∀ m ∈ d,PrM m
theorem toldP_len {L:List Bare.Par} (h:L.length ≤ 500) (hs:∀ p ∈ L,SmP p):(Bare.told L).length ≤ 100000000:=by
 have:=told_len L hs
 have:=Nat.mul_le_mul_right 200000 h
 omega
theorem toldI_len {x:Bare.Itm} (h:PrX x):(Bare.toldI x).length ≤ 100050000:=by
 have h1:=toldP_len h.2 h.1.2.2.2
 have h2:=text_len x.bare
 have h3:=h.1.2.1
 unfold Bare.toldI
 rw [List.length_append]
 omega
theorem joinI_len {L:List Bare.Itm} (h:L.length ≤ 500) (hs:∀ x ∈ L,PrX x):(Bare.joinW [32] (L.map Bare.toldI)).length ≤ 50030000000:=by
 have:=joinW_len [32] 100050001 (L.map Bare.toldI) (fun l hl=>by
  obtain ⟨x,hx,rfl⟩:=List.mem_map.1 hl
  have:=toldI_len (hs x hx)
  simp;omega)
 rw [List.length_map] at this
 have:=Nat.mul_le_mul_right 100050001 h
 omega
theorem toldM_len {m:Bare.Mem} (h:PrM m) (hm:m.inner=true ∨ m.items.length=1):(Bare.toldM m).length ≤ 50200000000:=by
 obtain ⟨h1,h2,h3,h4⟩:=h
 have hk:=h1.1
 unfold Bare.toldM
 split
 ·have:=joinI_len h2 h4
  have:=toldP_len h3 h1.2.2.2.2
  simp;omega
 ·rename_i hi
  have hl:m.items.length=1:=hm.resolve_left hi
  obtain ⟨x,hx⟩:∃ x,m.items = [x]:=List.length_eq_one_iff.1 hl
  have hx':=h4 x (by rw [hx];simp)
  have e:m.items.headD Bare.noI=x:=by rw [hx];rfl
  rw [e]
  have:=toldP_len hx'.2 hx'.1.2.2.2
  have:=valued_len x.bare
  have:=hx'.1.2.1
  simp;omega
theorem joinD_len {d:List Bare.Mem} (h:d.length ≤ 500) (hs:∀ m ∈ d,(Bare.toldM m).length ≤ 50200000000):(Bare.joinW [44,32] (d.map Bare.toldM)).length ≤ 140737488355328:=by
 have:=joinW_len [44,32] 50200000002 (d.map Bare.toldM) (fun l hl=>by
  obtain ⟨x,hx,rfl⟩:=List.mem_map.1 hl
  have:=hs x hx
  simp;omega)
 rw [List.length_map] at this
 have:=Nat.mul_le_mul_right 50200000002 h
 omega
theorem take_map_snoc {α:Type} (d:List α) (z:α) (f:α→Bare.Bs) (k:Nat) (hk:k < d.length):(d.map f).take (k + 1)=(d.map f).take k ++ [f (d.getD k z)]:=by
 have e:d.getD k z=d[k]:=by simp [List.getD,hk]
 rw [List.take_add_one,List.getElem?_map,List.getElem?_eq_getElem hk,e]
 rfl
theorem print_d {τ:Bool} (v:Value) (d:List Bare.Mem) (w:World) (h:RdD τ w v d) (hs:PrD d) (hT:Tab w) :
  Calls Tryz.prog 23 #[v] w fun e w'=>e = .returned (printV (Bare.printD d))∧New w w':=by
 have HR:=Lib.hid (right_d v d w h (fun m hm=>(hs.2 m hm).1))
 have HV:=Lib.hid h
 have HS:=Lib.hid hs.2
 have HT:=Lib.hid hT
 have hl:=hs.1
 obtain ⟨ao,cap,rfl⟩:=h.slice
 obtain ⟨n,hn⟩:∃ n,d.length=n:=⟨_,rfl⟩
 have Hn:=Lib.hid hn
 rw [hn] at hl HV HR ⊢
 have hN0:New w w:=Mods.refl _ _
 cases hr:Bare.rightD d with
 | false =>
  rw [hr] at HR
  have e:Bare.printD d=none:=by unfold Bare.printD;rw [hr];rfl
  rw [e]
  unfold printV
  clear h hs hT hn hr e
  go_enter Tryz.func23,Tryz.ntmps23
  go_wp2_with fail
  refine HR.out.mono ?_
  rintro e w1 ⟨rfl,hN1⟩
  go_wp2_with fail
  go_ret2
  exact ⟨rfl,hN1⟩
 | true =>
  rw [hr] at HR
  have e:Bare.printD d=some (Bare.joinW [44,32] (d.map Bare.toldM)):=by unfold Bare.printD;rw [hr];rfl
  have HM:Hid (∀ i,i < n→Bare.memB (d.getD i noM)=true):=Lib.hid (by
   have:d.all Bare.memB=true:=by unfold Bare.rightD at hr;rw [Bool.and_eq_true] at hr;exact hr.2
   rw [← hn];exact (all_upto d noM _).1 this)
  have hlen:∀ m ∈ d,(Bare.toldM m).length ≤ 50200000000:=fun m hm=>toldM_len (hs.2 m hm) (by
   have:d.all Bare.memB=true:=by unfold Bare.rightD at hr;rw [Bool.and_eq_true] at hr;exact hr.2
   have:=List.all_eq_true.1 this m hm
   rcases (Bare.mem_parts this).1 with h | h
   ·exact .inl h
   ·exact .inr h.1)
  have HJ:Hid ((Bare.joinW [44,32] (d.map Bare.toldM)).length ≤ 140737488355328):=Lib.hid (joinD_len hs.1 hlen)
  rw [e]
  unfold printV
  simp only
  clear h hs hT hn hr e hlen
  go_enter Tryz.func23,Tryz.ntmps23
  go_wp2_with fail
  refine HR.out.mono ?_
  rintro e w1 ⟨rfl,hN1⟩
  clear HR
  go_wp2_with fail
  go_loopw [4,17] (fun a t wr=>∃ k:Nat,k ≤ n∧t = .int .i64 k∧OwS w.heap.size wr a ((d.map Bare.toldM).take k)∧New w wr) (fun _ t _=>n - (intOf t).toNat)
  case atStart=>exact ⟨0,Nat.zero_le _,rfl,.nil _ _,hN1⟩
  case round =>
   clear hN1 hN0
   obtain ⟨k,hk,rfl,hown,hN⟩:=hrel
   by_cases hlt:k < n
   ·have hkd:decide ((k:Int) < (n:Int))=true:=decide_eq_true (by omega)
    have hlt':k < d.length:=by rw [Hn.out];exact hlt
    obtain ⟨iv,pv,h1,-,h3⟩:=HV.out
    obtain ⟨b,o,rfl,hrow⟩:=(h1.new hN).at.2.2 k hlt
    obtain ⟨hi,hp⟩:=h3 k hlt'
    have hsm:=HS.out _ (getD_mem (d:=noM) hlt')
    have hmB:=HM.out k hlt
    have Hnx:=Lib.hid (take_map_snoc d noM Bare.toldM k hlt')
    have hln:((d.map Bare.toldM).take k).length ≤ 2000000:=by rw [List.length_take];omega
    obtain ⟨⟨key,y,its,ps⟩,hme⟩:∃ m,d.getD k noM=m:=⟨_,rfl⟩
    rw [hme] at hrow hi hp hsm hmB Hnx
    obtain ⟨c0,c1,c2,c3⟩:=cells4 hrow
    have HTd:=Lib.hid (fun W (hW:New wr W)=>told_any (pv k) ps W (hp.new (hN.trans hW)) hsm.1.2.2.2.2 (by have:=hsm.2.2.1;simp only at this;omega) (HT.out.new (hN.trans hW)))
    have htl:(Bare.told ps).length ≤ 100000000:=toldP_len hsm.2.2.1 hsm.1.2.2.2.2
    obtain ⟨ia,ic,hie⟩:=hi.slice
    obtain ⟨pa,pc,hpe⟩:=hp.slice
    simp only at c0 c1 c2 c3 hie hpe hsm
    rw [hie] at c2
    rw [hpe] at c3 HTd
    have HI:=Lib.hid hi
    rw [hie] at HI
    obtain ⟨pl,hpl⟩:∃ x,ps.length=x:=⟨_,rfl⟩
    obtain ⟨td,htd⟩:∃ x,tx (Bare.told ps)=x:=⟨_,rfl⟩
    have Htd:=Lib.hid htd
    have hts:td.size ≤ 400000000000:=by rw [← htd,tx_size];omega
    obtain ⟨q,hq⟩:∃ x,tx key=x:=⟨_,rfl⟩
    have Hq:=Lib.hid hq
    have hqs:q.size ≤ 100000:=by rw [← hq,tx_size];exact hsm.1.1
    rw [hpl] at HTd c3
    rw [htd] at HTd
    rw [hq] at c0
    have HSM:=Lib.hid hsm
    have HMB:=Lib.hid hmB
    clear hrow hi hp h1 h3 hie hpe iv pv hme hpl htd hq htl hsm hmB HM HS HV HJ
    obtain ⟨il,hil⟩:∃ x,its.length=x:=⟨_,rfl⟩
    have Hil:=Lib.hid hil
    rw [hil] at c2 HI
    clear hil
    go_upto_region 7 with fail
    obtain ⟨W1,hW1⟩:∃ W1,wr.alloc (.cells #[.string q,.bool y,.slice ia il ic,.slice pa pl pc] 44)=W1:=⟨_,rfl⟩
    have hr1:W1.heap[wr.heap.size]? = some (.cells #[.string q,.bool y,.slice ia il ic,.slice pa pl pc] 44 (0,0)):=by rw [← hW1];exact World.alloc_heap_new _ _
    have hA:New wr W1:=by rw [← hW1];exact (Mods.refl _ _).alloc _
    have hsz:W1.heap.size=wr.heap.size + 1:=by rw [← hW1];simp
    rw [hW1]
    obtain ⟨avl,hav⟩:∃ z,(u4:Value)=z:=⟨_,rfl⟩
    rw [hav] at hown ⊢
    have hBv:avl.ownBlock ≠ some wr.heap.size:=fun e=>by have:=(World.ownsRow.lt hown _ e).2;omega
    have hbase:w.heap.size ≤ wr.heap.size:=hN.size
    have hown1:=OwS.new hown hA
    obtain ⟨B,hB⟩:∃ B,wr.heap.size=B:=⟨_,rfl⟩
    rw [hB] at hr1 hBv hsz hbase ⊢
    have k0:=cell_of_row _ _ 0 _ _ _ hr1
    have k1:=cell_of_row _ _ 1 _ _ _ hr1
    have k2:=cell_of_row _ _ 2 _ _ _ hr1
    have k3:=cell_of_row _ _ 3 _ _ _ hr1
    simp only [gS] at k0 k1 k2 k3
    clear hW1 c0 c1 c2 c3 hav hown
    cases y with
    | false =>
     have hl1:its.length=1:=by
      rcases (Bare.mem_parts HMB.out).1 with h | h
      ·cases h
      ·exact h.1
     obtain ⟨x,rfl⟩:∃ x,its = [x]:=List.length_eq_one_iff.1 hl1
     obtain rfl:il=1:=by rw [← Hil.out];rfl
     obtain ⟨xv,r1,-,r3⟩:=HI.out
     obtain ⟨ib,io,rfl,hxr0⟩:=r1.at.2.2 0 (by decide)
     have hibl:ib < w.heap.size:=by
      obtain ⟨ob,ho,_⟩:=cells_of_cell (hxr0 0 _ rfl)
      exact (Array.getElem?_eq_some_iff.1 ho).1
     have hxr:W1.rangeAt ib (io + 0 * 5) (ics ([x].getD 0 Bare.noI) (xv 0)):=fun j u hj=>(hN.trans hA).cell (hxr0 j u hj) id
     have hxp:=(r3 0 (Nat.zero_lt_one)).new (hN.trans hA)
     have hxs:=HSM.out.2.2.2 x (by simp)
     simp only [List.getD_cons_zero,Nat.zero_mul,Nat.add_zero] at hxr hxp
     have HVal:=Lib.hid (fun W (hW:New W1 W)=>valued_any x.bare ⟨hxs.1.1,hxs.1.2.1⟩ W (HT.out.new ((hN.trans hA).trans hW)))
     have HTx:=Lib.hid (fun W (hW:New W1 W)=>told_any (xv 0) x.params W (hxp.new hW) hxs.1.2.2.2 (by have:=hxs.2;omega) (HT.out.new ((hN.trans hA).trans hW)))
     have htl:(Bare.told x.params).length ≤ 100000000:=toldP_len hxs.2 hxs.1.2.2.2
     have hvl:=valued_len x.bare
     have hxt:=hxs.1.2.1
     obtain ⟨xa,xc,hxe⟩:=hxp.slice
     rw [hxe] at hxr HTx
     have hmt:Bare.toldM ⟨key,false,[x],ps⟩=key ++ (Bare.valued x.bare ++ Bare.told x.params):=rfl
     rw [hmt] at Hnx
     obtain ⟨⟨kk,nn,tt,yy⟩,xps⟩:=x
     obtain ⟨i0,i1,i2,i3,i4⟩:=cells5 hxr
     unfold bv bcs at HVal
     simp only at i0 i1 i2 i3 i4 HVal HTx htl hvl hxt Hnx
     obtain ⟨s,hse⟩:∃ x,tx tt=x:=⟨_,rfl⟩
     obtain ⟨vl,hve⟩:∃ x,tx (Bare.valued ⟨kk,nn,tt,yy⟩)=x:=⟨_,rfl⟩
     obtain ⟨tx',hte⟩:∃ x,tx (Bare.told xps)=x:=⟨_,rfl⟩
     have hvs:vl.size ≤ 50000:=by rw [← hve,tx_size];omega
     have hxs':tx'.size ≤ 400000000000:=by rw [← hte,tx_size];omega
     have Hx:Hid (q ++ vl ++ tx'=tx (key ++ (Bare.valued ⟨kk,nn,tt,yy⟩ ++ Bare.told xps))):=Lib.hid (by rw [← Hq.out,← hve,← hte,cat_bl,cat_bl,bl_tx,bl_tx,bl_tx,bl_tx,List.append_assoc])
     rw [hse] at i2 HVal
     rw [hve] at HVal
     rw [hte] at HTx
     have hIv:avl.ownBlock ≠ some ib:=fun e=>by
      have h1:=(World.ownsRow.lt hown1 _ e).1
      omega
     clear hse hve hte htl hvl hxt hxr hxr0 hxp hxs r1 r3 hxe hmt hl1
     go_upto_region 8 with fail
     refine piece (fun _=>_) (print8 _ rfl W1 rfl rfl rfl rfl rfl rfl rfl rfl rfl rfl rfl rfl rfl rfl rfl rfl k0 k2 i0 i1 i2 i3 i4 hBv hIv HVal HTx Hx hown1 hln (by rw [hsz];omega) hqs hvs hxs') ?_
     rintro ⟨z,dfs⟩ W2 ⟨v2,⟨hs,hd,hq4,hq6,hq0,hq1,hq2,hq3,hq5,hq8,hq12,hq13,hq14,hq15,hq16,hq17,hq80,hq81⟩,hown2,hnew⟩
     simp only at hs hd hq4 hq6 hq0 hq1 hq2 hq3 hq5 hq8 hq12 hq13 hq14 hq15 hq16 hq17 hq80 hq81
     subst hd
     obtain ⟨u,rfl⟩:=lit82 z hs
     have hp4:u 4=v2:=hq4
     have hp6:u 6 = .pointer (some ⟨B,0,none⟩):=hq6
     have hp0:u 0 = .slice (some ⟨b,o,none⟩) n cap:=hq0
     have hp1:u 1=undef:=hq1
     have hp2:u 2 = .string ⟨#[]⟩:=hq2
     have hp3:u 3 = .int .i64 0:=hq3
     have hp5:u 5=undef:=hq5
     have hp8:u 8=undef:=hq8
     have hp12:u 12 = .slice (some ⟨b,o,none⟩) n cap:=hq12
     have hp13:u 13 = .bool true:=hq13
     have hp14:u 14 = .bool false:=hq14
     have hp15:u 15 = .slice (some ⟨b,o,none⟩) n cap:=hq15
     have hp16:u 16 = .int .i64 n:=hq16
     have hp17:u 17 = .int .i64 k:=hq17
     have hp80:u 80=undef:=hq80
     have hp81:u 81=undef:=hq81
     rw [hp4,hp6,hp0,hp1,hp2,hp3,hp5,hp8,hp12,hp13,hp14,hp15,hp16,hp17,hp80,hp81]
     clear hp4 hq4 hp6 hq6 hp0 hq0 hp1 hq1 hp2 hq2 hp3 hq3 hp5 hq5 hp8 hq8 hp12 hq12 hp13 hq13 hp14 hq14 hp15 hq15 hp16 hq16 hp17 hq17 hp80 hq80 hp81 hq81 hs
     have hown3:OwS w.heap.size W2 v2 ((d.map Bare.toldM).take (k + 1)):=by rw [Hnx.out];exact hown2
     have hN3:=hnew w (hN.trans hA) (Nat.le_refl _)
     go_wp2_with fail
     go_roundw
     case rel=>exact ⟨k + 1,by omega,by go_num,hown3,hN3⟩
     case measure=>simp [intOf];omega
    | true =>
     have hNA:New w W1:=hN.trans hA
     have HTd':Hid (∀ W,New W1 W→Calls Tryz.prog 81 #[.slice pa pl pc] W fun e w'=>e = .returned (.string td)∧New W w'):=Lib.hid fun W hW=>HTd.out W (hA.trans hW)
     have HIx:Hid (∀ x ∈ its,PrX x):=Lib.hid HSM.out.2.2.2
     have hil:il ≤ 500:=by have:=HSM.out.2.1;simp only at this;rw [← Hil.out];exact this
     have HTW:=Lib.hid (HT.out.new hNA)
     have hmt:Bare.toldM ⟨key,true,its,ps⟩=key ++ (61::40::(Bare.joinW [32] (its.map Bare.toldI) ++ (41::Bare.told ps))):=rfl
     rw [hmt] at Hnx
     have hbW:w.heap.size ≤ W1.heap.size:=hNA.size
     clear HTd HSM HMB hmt hN hA hbase HT hB hsz
     go_wp2_with fail
     go_loopw [7,46] (fun a t wi=>∃ j:Nat,j ≤ il∧t = .int .i64 j∧OwS W1.heap.size wi a ((its.map Bare.toldI).take j)∧New W1 wi) (fun _ t _=>il - (intOf t).toNat)
     case atStart=>exact ⟨0,Nat.zero_le _,rfl,.nil _ _,Mods.refl _ _⟩
     case round =>
      obtain ⟨j,hj,rfl,hui,hNi⟩:=hrel
      by_cases hjl:j < il
      ·have hjd:decide ((j:Int) < (il:Int))=true:=decide_eq_true (by omega)
       have hjl':j < its.length:=by rw [Hil.out];exact hjl
       obtain ⟨xv,r1,-,r3⟩:=HI.out
       obtain ⟨ib,io,rfl,hxr0⟩:=r1.at.2.2 j hjl
       have hxr:wr.rangeAt ib (io + j * 5) (ics (its.getD j Bare.noI) (xv j)):=fun i u hj=>(hNA.trans hNi).cell (hxr0 i u hj) id
       have hxp:=(r3 j hjl').new (hNA.trans hNi)
       have hxs:=HIx.out _ (getD_mem (d:=Bare.noI) hjl')
       have Hnj:=Lib.hid (take_map_snoc its Bare.noI Bare.toldI j hjl')
       have hlj:((its.map Bare.toldI).take j).length ≤ 2000000:=by rw [List.length_take];omega
       obtain ⟨x,hxx⟩:∃ x,its.getD j Bare.noI=x:=⟨_,rfl⟩
       rw [hxx] at hxr hxp hxs Hnj
       have HPr:=Lib.hid (fun W (hW:New wr W)=>print_any x.bare hxs.1.1 hxs.1.2.1 W (HTW.out.new (hNi.trans hW)))
       have HTx:=Lib.hid (fun W (hW:New wr W)=>told_any (xv j) x.params W (hxp.new hW) hxs.1.2.2.2 (by have:=hxs.2;omega) (HTW.out.new (hNi.trans hW)))
       obtain ⟨zc,hpv⟩:=printV_text x.bare
       rw [hpv] at HPr
       have htl:(Bare.told x.params).length ≤ 100000000:=toldP_len hxs.2 hxs.1.2.2.2
       have hvl:=text_len x.bare
       have hxt:=hxs.1.2.1
       obtain ⟨xa,xc,hxe⟩:=hxp.slice
       rw [hxe] at hxr HTx
       obtain ⟨⟨kk,nn,tt,yy⟩,xps⟩:=x
       obtain ⟨i0,i1,i2,i3,i4⟩:=cells5 hxr
       unfold bv bcs at HPr
       simp only at i0 i1 i2 i3 i4 HPr HTx htl hvl hxt Hnj
       obtain ⟨s,hse⟩:∃ x,tx tt=x:=⟨_,rfl⟩
       obtain ⟨vl,hve⟩:∃ x,tx (Bare.textI ⟨kk,nn,tt,yy⟩)=x:=⟨_,rfl⟩
       obtain ⟨tx',hte⟩:∃ x,tx (Bare.told xps)=x:=⟨_,rfl⟩
       have hvs:vl.size ≤ 50000:=by rw [← hve,tx_size];omega
       have hxs':tx'.size ≤ 400000000000:=by rw [← hte,tx_size];omega
       have Hx:Hid (vl ++ tx'=tx (Bare.toldI ⟨⟨kk,nn,tt,yy⟩,xps⟩)):=Lib.hid (by rw [← hve,← hte,cat_bl,bl_tx,bl_tx];rfl)
       obtain ⟨xpl,hxpl⟩:∃ x,xps.length=x:=⟨_,rfl⟩
       rw [hse] at i2 HPr
       rw [hve] at HPr
       rw [hte] at HTx
       rw [hxpl] at i4 HTx
       clear hse hve hte htl hvl hxt hxr hxr0 hxp hxs r1 r3 hxe hpv hxpl hxx
       go_upto_region 13 with fail
       obtain ⟨W3,hW3⟩:∃ W3,wr.alloc (.cells #[.int .u8 kk,.int .i64 nn,.string s,.bool yy,.slice xa xpl xc] 85)=W3:=⟨_,rfl⟩
       have hr3:W3.heap[wr.heap.size]? = some (.cells #[.int .u8 kk,.int .i64 nn,.string s,.bool yy,.slice xa xpl xc] 85 (0,0)):=by rw [← hW3];exact World.alloc_heap_new _ _
       have hA3:New wr W3:=by rw [← hW3];exact (Mods.refl _ _).alloc _
       rw [hW3]
       obtain ⟨B3,hB3⟩:∃ B3,wr.heap.size=B3:=⟨_,rfl⟩
       rw [hB3] at hr3 ⊢
       have m0:=cell_of_row _ _ 0 _ _ _ hr3
       have m1:=cell_of_row _ _ 1 _ _ _ hr3
       have m2:=cell_of_row _ _ 2 _ _ _ hr3
       have m3:=cell_of_row _ _ 3 _ _ _ hr3
       have m4:=cell_of_row _ _ 4 _ _ _ hr3
       simp only [gS] at m0 m1 m2 m3 m4
       clear hW3 hr3 hB3 i0 i1 i2 i3 i4
       go_wp2_with fail
       refine (HPr.out _ hA3).mono ?_
       rintro e W4 ⟨rfl,hN4⟩
       have m5:=hN4.cell m4 id
       clear m0 m1 m2 m3 m4
       go_wp2_with fail
       refine (HTx.out _ (hA3.trans hN4)).mono ?_
       rintro e W5 ⟨rfl,hN5⟩
       have hN5':=(hA3.trans hN4).trans hN5
       have hu5:=hui.new hN5'
       have hb5:W1.heap.size ≤ W5.heap.size:=(hNi.trans hN5').size
       have z1:¬ 9223372036854775807 < vl.size + tx'.size:=by omega
       go_wp2_with (at_builtin;refine wpList_append_S (w:=W5) (l:=Bare.toldI ⟨⟨kk,nn,tt,yy⟩,xps⟩) _ _ rfl rfl rfl rfl (by rw [← Hx.out]) hu5 hlj hb5 ?_)
       intro v' W6 hu6 hnew
       have hN6:=hnew W1 _ (hNi.trans hN5') (fun g hg=>.inl (World.ownsRow.lt hu5 g hg).1)
       have hu7:OwS W1.heap.size W6 v' ((its.map Bare.toldI).take (j + 1)):=by rw [Hnj.out];exact hu6
       clear hu5 hu6 hui hnew m5
       go_wp2_with fail
       go_roundw
       case rel=>exact ⟨j + 1,by omega,by go_num,hu7,hN6⟩
       case measure=>simp [intOf];omega
      ·obtain rfl:j=il:=by omega
       have hjd:decide ((j:Int) < (j:Int))=false:=decide_eq_false (by omega)
       have hall:(its.map Bare.toldI).take j=its.map Bare.toldI:=by rw [List.take_of_length_le (by rw [List.length_map,Hil.out];exact Nat.le_refl _)]
       rw [hall] at hui
       have hji:=joinI_len (L:=its) (by rw [Hil.out];exact hil) HIx.out
       have HJn:=Lib.hid (fun W (hW:New wr W)=>join_any _ _ [32] W (hui.new hW) (by rw [List.length_map,Hil.out];omega) (by omega))
       obtain ⟨jn,hjn⟩:∃ x,tx (Bare.joinW [32] (its.map Bare.toldI))=x:=⟨_,rfl⟩
       have hjs:jn.size ≤ 140737488355328:=by rw [← hjn,tx_size];omega
       have Hx:Hid (q ++ ⟨#[61,40]⟩ ++ jn ++ ⟨#[41]⟩ ++ td=tx (key ++ (61::40::(Bare.joinW [32] (its.map Bare.toldI) ++ (41::Bare.told ps))))):=Lib.hid (by
        rw [← Hq.out,← hjn,← Htd.out,cat_bl,cat_bl,cat_bl,cat_bl]
        show tx (((key ++ [61,40]) ++ Bare.joinW [32] (its.map Bare.toldI) ++ [41]) ++ Bare.told ps) = _
        simp)
       rw [hjn] at HJn
       have HTd2:Hid (∀ W,New wr W→Calls Tryz.prog 81 #[.slice pa pl pc] W fun e w'=>e = .returned (.string td)∧New W w'):=Lib.hid fun W hW=>HTd'.out W (hNi.trans hW)
       have q0:=hNi.cell k0 id
       have q3:=hNi.cell k3 id
       have hown2:=hown1.new hNi
       clear hall hui hji hjn k0 k1 k2 k3
       go_upto_region 16 with fail
       refine piece (fun _=>_) (print16 _ rfl wr rfl rfl rfl rfl rfl rfl rfl rfl rfl rfl rfl rfl rfl rfl rfl rfl rfl q0 q3 hBv HJn HTd2 Hx hown2 hln (Nat.le_trans hbW hNi.size) hqs hjs hts) ?_
       rintro ⟨z,dfs⟩ W2 ⟨v2,⟨hs,hd,hq4,hq6,hq0,hq1,hq2,hq3,hq5,hq8,hq12,hq13,hq14,hq15,hq16,hq17,hq80,hq81⟩,hown3,hnew⟩
       simp only at hs hd hq4 hq6 hq0 hq1 hq2 hq3 hq5 hq8 hq12 hq13 hq14 hq15 hq16 hq17 hq80 hq81
       subst hd
       obtain ⟨u,rfl⟩:=lit82 z hs
       have hp4:u 4=v2:=hq4
       have hp6:u 6 = .pointer (some ⟨B,0,none⟩):=hq6
       have hp0:u 0 = .slice (some ⟨b,o,none⟩) n cap:=hq0
       have hp1:u 1=undef:=hq1
       have hp2:u 2 = .string ⟨#[]⟩:=hq2
       have hp3:u 3 = .int .i64 0:=hq3
       have hp5:u 5=undef:=hq5
       have hp8:u 8=undef:=hq8
       have hp12:u 12 = .slice (some ⟨b,o,none⟩) n cap:=hq12
       have hp13:u 13 = .bool true:=hq13
       have hp14:u 14 = .bool false:=hq14
       have hp15:u 15 = .slice (some ⟨b,o,none⟩) n cap:=hq15
       have hp16:u 16 = .int .i64 n:=hq16
       have hp17:u 17 = .int .i64 k:=hq17
       have hp80:u 80=undef:=hq80
       have hp81:u 81=undef:=hq81
       rw [hp4,hp6,hp0,hp1,hp2,hp3,hp5,hp8,hp12,hp13,hp14,hp15,hp16,hp17,hp80,hp81]
       clear hp4 hq4 hp6 hq6 hp0 hq0 hp1 hq1 hp2 hq2 hp3 hq3 hp5 hq5 hp8 hq8 hp12 hq12 hp13 hq13 hp14 hq14 hp15 hq15 hp16 hq16 hp17 hq17 hp80 hq80 hp81 hq81 hs
       have hown4:OwS w.heap.size W2 v2 ((d.map Bare.toldM).take (k + 1)):=by rw [Hnx.out];exact hown3
       have hN3:=hnew w (hNA.trans hNi) (Nat.le_refl _)
       go_wp2_with fail
       go_roundw
       case rel=>exact ⟨k + 1,by omega,by go_num,hown4,hN3⟩
       case measure=>simp [intOf];omega
   ·obtain rfl:k=n:=by omega
    have hkd:decide ((k:Int) < (k:Int))=false:=decide_eq_false (by omega)
    have hall:(d.map Bare.toldM).take k=d.map Bare.toldM:=by rw [List.take_of_length_le (by rw [List.length_map,Hn.out];exact Nat.le_refl _)]
    rw [hall] at hown
    have HJn:=Lib.hid (join_any _ _ [44,32] wr hown (by rw [List.length_map,Hn.out];omega) HJ.out)
    clear HM HS HV HT Hn hown hall
    go_wp2_with fail
    refine HJn.out.mono ?_
    rintro e w2 ⟨rfl,hN2⟩
    go_wp2_with fail
    go_ret2
    exact ⟨rfl,hN.trans hN2⟩
end Go.Proofs.YtnknmmbnhoanfaaGreatDoor
namespace Go.Proofs.YtnknmmbnhoanfaaGreatDoor


theorem quoted_txt:∀ (n:Nat) (s acc rest:Bare.Bs) (b:Bare.It),s.length ≤ n→Bare.quoted acc s=some (b,rest)→b.text.length ≤ acc.length + s.length
 | _,[],_,_,_,_,h=>by cases h
 | 0,c::r,_,_,_,hn,_=>by simp at hn
 | n + 1,c::r,acc,rest,b,hn,h=>by
  rw [Bare.quoted_cons] at h
  split at h
  ·cases h
  ·split at h
   ·cases h
    simp
   ·split at h
    ·cases r with
     | nil=>cases h
     | cons d r' =>
      simp only at h
      split at h
      ·have:=quoted_txt n r' (acc ++ [d]) rest b (by simp at hn;omega) h
       simp at this ⊢
       omega
      ·cases h
    ·have:=quoted_txt n r (acc ++ [c]) rest b (by simp at hn;omega) h
     simp at this ⊢
     omega
theorem number_txt {s rest:Bare.Bs} {b:Bare.It} (h:Bare.number s=some (b,rest)):b.text = []:=by
 unfold Bare.number at h
 simp only at h
 split at h
 ·split at h
  ·cases h
  ·split at h
   ·cases h;rfl
   ·split at h
    ·cases h
    ·cases h;rfl
 ·split at h
  ·cases h
  ·split at h
   ·cases h;rfl
   ·split at h
    ·cases h
    ·cases h;rfl
theorem unsix_ln {l t:Bare.Bs} (h:Bare.unsix l=some t):t.length ≤ l.length:=by
 have:=Bare.sixes_len t
 rw [Bare.sixes_unsix h] at this
 omega
theorem parse_txt {s rest:Bare.Bs} {b:Bare.It} (h:Bare.parseI s=some (b,rest)):b.text.length ≤ s.length:=by
 cases s with
 | nil=>cases h
 | cons c r =>
  rw [Bare.parseI_cons] at h
  split at h
  ·rw [number_txt h];simp
  split at h
  ·simp only [Option.some.injEq,Prod.mk.injEq] at h
   obtain ⟨rfl,rfl⟩:=h
   exact Bare.takeWhile_len _ _
  split at h
  ·have:=quoted_txt r.length r [] rest b (Nat.le_refl _) h
   simp at this ⊢
   omega
  split at h
  ·unfold Bare.packed at h
   have hl:=Bare.takeWhile_len (· != 58) r
   obtain ⟨i,hi⟩:∃ x,r.takeWhile (· != 58)=x:=⟨_,rfl⟩
   rw [hi] at hl
   simp only [hi] at h
   split at h
   ·cases h
   ·cases hu:Bare.unsix i with
    | none=>rw [hu] at h;cases h
    | some t =>
     rw [hu] at h
     simp only [Option.map_some,Option.some.injEq,Prod.mk.injEq] at h
     obtain ⟨rfl,rfl⟩:=h
     have:=unsix_ln hu
     simp
     omega
  split at h
  ·cases r with
   | nil=>cases h
   | cons d r' =>
    simp only at h
    split at h
    ·simp only [Option.some.injEq,Prod.mk.injEq] at h
     obtain ⟨rfl,rfl⟩:=h
     simp
    ·cases h
  ·cases h
def SzP (n:Nat) (ps:List Bare.Par):Prop:=ps.length ≤ n∧∀ p ∈ ps,p.key.length ≤ n∧p.bare.text.length ≤ n
def SzX (n:Nat) (x:Bare.Itm):Prop:=x.bare.text.length ≤ n∧SzP n x.params
def SzM (n:Nat) (m:Bare.Mem):Prop:=m.key.length ≤ n∧m.items.length ≤ n∧SzP n m.params∧∀ x ∈ m.items,SzX n x
def SzD (n:Nat) (d:List Bare.Mem):Prop:=d.length ≤ n∧∀ m ∈ d,SzM n m
theorem readKey_txt {s k r:Bare.Bs} (h:Bare.readKey s=some (k,r)):k.length ≤ s.length:=by
 unfold Bare.readKey at h
 simp only at h
 split at h
 ·cases h
 ·cases h
  cases s with
  | nil=>simp [Bare.keyOf]
  | cons c l =>
   show (if Bare.smlB c then c::l.takeWhile Bare.inKey else []).length ≤ _
   split
   ·have:=Bare.takeWhile_len Bare.inKey l
    simp
    omega
   ·simp
theorem readVal_txt {s r:Bare.Bs} {b:Bare.It} (h:Bare.readVal s=some (b,r)):b.text.length ≤ s.length:=by
 unfold Bare.readVal at h
 split at h
 ·have:=parse_txt h
  simp
  omega
 ·cases h;simp [Bare.yesI]
theorem setP_sz (l:List Bare.Par) (p:Bare.Par):(Bare.setP l p).length ≤ l.length + 1∧∀ q ∈ Bare.setP l p,q ∈ l ∨ q=p:=by
 unfold Bare.setP
 split
 ·refine ⟨by simp,fun q hq=>?_⟩
  obtain ⟨x,hx,e⟩:=List.mem_map.1 hq
  split at e
  ·exact .inr e.symm
  ·exact .inl (e ▸ hx)
 ·exact ⟨by simp,fun q hq=>by simpa [or_comm] using hq⟩
theorem setM_sz (l:List Bare.Mem) (p:Bare.Mem):(Bare.setM l p).length ≤ l.length + 1∧∀ q ∈ Bare.setM l p,q ∈ l ∨ q=p:=by
 unfold Bare.setM
 split
 ·refine ⟨by simp,fun q hq=>?_⟩
  obtain ⟨x,hx,e⟩:=List.mem_map.1 hq
  split at e
  ·exact .inr e.symm
  ·exact .inl (e ▸ hx)
 ·exact ⟨by simp,fun q hq=>by simpa [or_comm] using hq⟩
theorem readParams_sz (N:Nat):∀ (n:Nat) (s:Bare.Bs) (l ps:List Bare.Par) (r:Bare.Bs),s.length ≤ n→s.length ≤ N→(∀ p ∈ l,p.key.length ≤ N∧p.bare.text.length ≤ N)→Bare.readParams l s=some (ps,r) →
  ps.length + r.length ≤ l.length + s.length∧∀ p ∈ ps,p.key.length ≤ N∧p.bare.text.length ≤ N:=by
 intro n
 induction n with
 | zero =>
  intro s l ps r hn hN hl h
  have:s = []:=List.length_eq_zero_iff.1 (by omega)
  subst this
  rw [Bare.readParams_end l [] (by simp)] at h
  cases h;exact ⟨Nat.le_refl _,hl⟩
 | succ n ih =>
  intro s l ps r hn hN hl h
  rw [Bare.readParams.eq_def] at h
  split at h
  ·rename_i r0
   split at h
   ·cases h
   ·rename_i k r1 h1
    split at h
    ·cases h
    ·rename_i b r2 h2
     have a1:=Bare.readKey_len h1
     have a2:=Bare.readVal_len h2
     have a3:=Bare.skip_len [32] r0
     have t1:=readKey_txt h1
     have t2:=readVal_txt h2
     simp only [List.length_cons] at hn hN
     obtain ⟨s1,s2⟩:=setP_sz l ⟨k,b⟩
     obtain ⟨i1,i2⟩:=ih r2 _ ps r (by omega) (by omega) (fun p hp=>by
      rcases s2 p hp with hp | rfl
      ·exact hl p hp
      ·exact ⟨by show k.length ≤ N;omega,by show b.text.length ≤ N;omega⟩) h
     exact ⟨by simp only [List.length_cons];omega,i2⟩
  ·cases h;exact ⟨Nat.le_refl _,hl⟩
theorem readParams_nil (N:Nat) {s r:Bare.Bs} {ps:List Bare.Par} (hN:s.length ≤ N) (h:Bare.readParams [] s=some (ps,r)):SzP N ps:=by
 obtain ⟨h1,h2⟩:=readParams_sz N _ s [] ps r (Nat.le_refl _) hN (fun p hp=>by cases hp) h
 simp at h1
 exact ⟨by omega,h2⟩
theorem readItem_sz (N:Nat) {s r:Bare.Bs} {x:Bare.Itm} (hN:s.length ≤ N) (h:Bare.readItem s=some (x,r)):SzX N x:=by
 unfold Bare.readItem at h
 split at h
 ·cases h
 ·rename_i b r1 h1
  split at h
  ·cases h
  ·rename_i ps r2 h2
   cases h
   have t1:=parse_txt h1
   have a1:=Bare.parseI_len h1
   exact ⟨by show b.text.length ≤ N;omega,readParams_nil N (by omega) h2⟩
theorem readInner_sz (N:Nat):∀ (n:Nat) (s:Bare.Bs) (l ps:List Bare.Itm) (r:Bare.Bs),s.length ≤ n→s.length ≤ N→(∀ x ∈ l,SzX N x)→Bare.readInner l s=some (ps,r) →
  ps.length + r.length ≤ l.length + s.length∧∀ x ∈ ps,SzX N x:=by
 intro n
 induction n with
 | zero =>
  intro s l ps r hn hN hl h
  have:s = []:=List.length_eq_zero_iff.1 (by omega)
  subst this
  rw [Bare.readInner.eq_def] at h
  simp [Bare.skipB,Bare.readItem,Bare.parseI] at h
 | succ n ih =>
  intro s l ps r hn hN hl h
  have a2:=Bare.skip_len [32] s
  rw [Bare.readInner.eq_def] at h
  split at h
  ·rename_i r0 h0
   cases h
   rw [h0] at a2
   simp only [List.length_cons] at a2
   exact ⟨by omega,hl⟩
  ·split at h
   ·cases h
   ·rename_i x r1 h1
    have a1:=Bare.readItem_len h1
    have b1:=readItem_sz N (by omega) h1
    split at h
    ·obtain ⟨i1,i2⟩:=ih r1 _ ps r (by omega) (by omega) (fun y hy=>by
      rcases List.mem_append.1 hy with hy | hy
      ·exact hl y hy
      ·rw [List.mem_singleton] at hy;exact hy ▸ b1) h
     rw [List.length_append] at i1
     simp only [List.length_singleton] at i1
     exact ⟨by omega,i2⟩
    ·cases h
theorem readMem_sz (N:Nat) {s r:Bare.Bs} {m:Bare.Mem} (h1:1 ≤ N) (hN:s.length ≤ N) (h:Bare.readMem s=some (m,r)):SzM N m:=by
 unfold Bare.readMem at h
 split at h
 ·cases h
 ·rename_i k r0 h0
  have a0:=Bare.readKey_len h0
  have t0:=readKey_txt h0
  unfold Bare.readRest at h
  split at h
  ·rename_i r1
   split at h
   ·cases h
   ·rename_i items r2 h2
    split at h
    ·cases h
    ·rename_i ps r3 h3
     cases h
     simp only [List.length_cons] at a0
     obtain ⟨i1,i2⟩:=readInner_sz N _ r1 [] items r2 (Nat.le_refl _) (by omega) (fun x hx=>by cases hx) h2
     simp at i1
     exact ⟨by show k.length ≤ N;omega,by show items.length ≤ N;omega,readParams_nil N (by omega) h3,i2⟩
  ·rename_i r1 _
   split at h
   ·cases h
   ·rename_i x r2 h2
    cases h
    simp only [List.length_cons] at a0
    refine ⟨by show k.length ≤ N;omega,by show 1 ≤ N;omega,⟨Nat.zero_le _,fun p hp=>by cases hp⟩,fun y hy=>?_⟩
    rw [List.mem_singleton] at hy
    exact hy ▸ readItem_sz N (by omega) h2
  ·split at h
   ·cases h
   ·rename_i ps r2 h2
    cases h
    refine ⟨by show k.length ≤ N;omega,by show 1 ≤ N;omega,⟨Nat.zero_le _,fun p hp=>by cases hp⟩,fun y hy=>?_⟩
    rw [List.mem_singleton] at hy
    exact hy ▸ ⟨by simp [Bare.yesI],readParams_nil N (by omega) h2⟩
theorem readD_sz (N:Nat) (h1:1 ≤ N):∀ (n:Nat) (s:Bare.Bs) (d e:List Bare.Mem),s.length ≤ n→s.length ≤ N→(∀ m ∈ d,SzM N m)→Bare.readD d s=some e→e.length ≤ d.length + s.length∧∀ m ∈ e,SzM N m:=by
 intro n
 induction n with
 | zero =>
  intro s d e hn hN hd h
  have:s = []:=List.length_eq_zero_iff.1 (by omega)
  subst this
  rw [Bare.readD.eq_def] at h
  cases h;exact ⟨Nat.le_refl _,hd⟩
 | succ n ih =>
  intro s d e hn hN hd h
  rw [Bare.readD.eq_def] at h
  split at h
  ·cases h;exact ⟨Nat.le_refl _,hd⟩
  ·rename_i c l
   split at h
   ·cases h
   ·rename_i m r h2
    have hm:=readMem_sz N h1 hN h2
    have a1:=Bare.readMem_len h2
    obtain ⟨s1,s2⟩:=setM_sz d m
    have hset:∀ q ∈ Bare.setM d m,SzM N q:=fun q hq=>by
     rcases s2 q hq with hq | rfl
     ·exact hd q hq
     ·exact hm
    split at h
    ·cases h
     simp only [List.length_cons] at a1 ⊢
     exact ⟨by omega,hset⟩
    ·split at h
     ·rename_i r2 h3
      simp only at h
      split at h
      ·cases h
      ·have a2:=Bare.skip_len [32,9] r
       rw [h3] at a2
       have a3:=Bare.skip_len [32,9] r2
       simp only [List.length_cons] at a1 a2 hn hN
       obtain ⟨i1,i2⟩:=ih _ _ e (by omega) (by omega) hset h
       exact ⟨by simp only [List.length_cons];omega,i2⟩
     ·cases h
theorem parse_sz {N:Nat} {s:Bare.Bs} {d:List Bare.Mem} (h1:1 ≤ N) (hN:s.length ≤ N) (h:Bare.parseD s=some d):SzD N d:=by
 unfold Bare.parseD at h
 have a1:=Bare.skip_len [32] s
 have a2:(Bare.trimR 32 (Bare.skipB [32] s)).length ≤ (Bare.skipB [32] s).length:=by
  have:∀ l:Bare.Bs,(Bare.trimR 32 l).length ≤ l.length:=fun l=>by
   unfold Bare.trimR
   simp only [List.length_reverse]
   have:=Bare.drop_len (fun x=>x == 32) l.reverse
   simp at this
   exact this
  exact this _
 obtain ⟨i1,i2⟩:=readD_sz N h1 _ _ [] d (Nat.le_refl _) (by omega) (fun m hm=>by cases hm) h
 simp at i1
 exact ⟨by omega,i2⟩


def lsum {α:Type} (f:α→Nat) (L:List α):Nat:=(L.map f).sum
theorem lsum_cons {α:Type} (f:α→Nat) (a:α) (L:List α):lsum f (a::L)=f a + lsum f L:=by simp [lsum]
theorem sumTo_cons {α:Type} (f:α→Nat) (a:α) (L:List α) (z:α):∀ n,sumTo (fun j=>f ((a::L).getD j z)) (n + 1)=f a + sumTo (fun j=>f (L.getD j z)) n
 | 0=>by simp [sumTo]
 | n + 1=>by
  have h:=sumTo_cons f a L z n
  show sumTo _ (n + 1) + f ((a::L).getD (n + 1) z) = _ + (sumTo _ n + f (L.getD n z))
  rw [h]
  simp [List.getD]
  omega
theorem sumTo_list {α:Type} (f:α→Nat) (z:α):∀ L:List α,sumTo (fun j=>f (L.getD j z)) L.length=lsum f L
 | []=>by simp [sumTo,lsum]
 | a::L=>by
  rw [lsum_cons,← sumTo_list f z L]
  exact sumTo_cons f a L z L.length
def wP (p:Bare.Par):Nat:=1 + (p.key.length + p.bare.text.length)
def wX (x:Bare.Itm):Nat:=1 + (x.bare.text.length + lsum wP x.params)
def wM (m:Bare.Mem):Nat:=1 + (m.key.length + (lsum wX m.items + lsum wP m.params))
def wD (d:List Bare.Mem):Nat:=lsum wM d
theorem lsum_le {α:Type} {f g:α→Nat} {L:List α} (h:∀ a ∈ L,f a ≤ g a):lsum f L ≤ lsum g L:=by
 induction L with
 | nil=>exact Nat.le_refl _
 | cons a L ih =>
  rw [lsum_cons,lsum_cons]
  have:=h a (by simp)
  have:=ih fun b hb=>h b (by simp [hb])
  omega
theorem lsum_mul {α:Type} (c:Nat) (f:α→Nat) (L:List α):lsum (fun a=>c * f a) L=c * lsum f L:=by
 induction L with
 | nil=>simp [lsum]
 | cons a L ih=>rw [lsum_cons,lsum_cons,ih,Nat.mul_add]
theorem lsum_one {α:Type} (L:List α):lsum (fun _=>1) L=L.length:=by
 induction L with
 | nil=>rfl
 | cons a L ih=>rw [lsum_cons,ih,List.length_cons];omega
theorem lsum_plus {α:Type} (f g:α→Nat) (L:List α):lsum (fun a=>f a + g a) L=lsum f L + lsum g L:=by
 induction L with
 | nil=>rfl
 | cons a L ih=>rw [lsum_cons,lsum_cons,lsum_cons,ih];omega
theorem told_w (L:List Bare.Par):(Bare.told L).length ≤ 102 * lsum wP L:=by
 induction L with
 | nil=>simp [Bare.told]
 | cons p L ih =>
  rw [Bare.told_cons,lsum_cons]
  have:=valued_len p.bare
  simp only [List.length_cons,List.length_append]
  have e:wP p=1 + (p.key.length + p.bare.text.length):=rfl
  omega
theorem toldI_w (x:Bare.Itm):(Bare.toldI x).length ≤ 102 * wX x:=by
 have:=told_w x.params
 have:=text_len x.bare
 unfold Bare.toldI wX
 rw [List.length_append]
 omega
theorem joinW_w (sep:Bare.Bs):∀ L:List Bare.Bs,(Bare.joinW sep L).length ≤ lsum (fun l=>l.length + sep.length) L
 | []=>by simp [Bare.joinW]
 | [a]=>by simp [Bare.joinW,lsum]
 | a::b::r=>by
  have h:=joinW_w sep (b::r)
  rw [lsum_cons]
  show (a ++ (sep ++ Bare.joinW sep (b::r))).length ≤ _
  rw [List.length_append,List.length_append]
  omega
theorem lsum_map {α β:Type} (f:β→Nat) (g:α→β) (L:List α):lsum f (L.map g)=lsum (fun a=>f (g a)) L:=by simp [lsum,Function.comp_def]
theorem toldM_w (m:Bare.Mem):(Bare.toldM m).length ≤ 103 * wM m:=by
 have h1:=told_w m.params
 unfold Bare.toldM
 split
 ·have h2:=joinW_w [32] (m.items.map Bare.toldI)
  rw [lsum_map] at h2
  have h3:lsum (fun a=>(Bare.toldI a).length + ([32]:Bare.Bs).length) m.items ≤ lsum (fun a=>103 * wX a) m.items:=lsum_le fun a _=>by
   have:=toldI_w a
   have:1 ≤ wX a:=by unfold wX;omega
   simp
   omega
  rw [lsum_mul] at h3
  simp only [List.length_append,List.length_cons]
  unfold wM
  omega
 ·have h2:=valued_len (m.items.headD Bare.noI).bare
  have h3:=told_w (m.items.headD Bare.noI).params
  rw [List.length_append,List.length_append]
  unfold wM
  cases hl:m.items with
  | nil =>
   rw [hl] at h2 h3
   simp only [List.headD_nil] at h2 h3 ⊢
   have e1:Bare.noI.bare.text.length=0:=rfl
   have e2:lsum wP Bare.noI.params=0:=rfl
   rw [e1] at h2
   rw [e2] at h3
   omega
  | cons x r =>
   rw [hl] at h2 h3
   simp only [List.headD_cons] at h2 h3 ⊢
   rw [lsum_cons]
   have:wX x=1 + (x.bare.text.length + lsum wP x.params):=rfl
   omega
theorem joinD_w (d:List Bare.Mem):(Bare.joinW [44,32] (d.map Bare.toldM)).length ≤ 105 * wD d:=by
 have h2:=joinW_w [44,32] (d.map Bare.toldM)
 rw [lsum_map] at h2
 have h3:lsum (fun a=>(Bare.toldM a).length + ([44,32]:Bare.Bs).length) d ≤ lsum (fun a=>105 * wM a) d:=lsum_le fun a _=>by
  have:=toldM_w a
  have:1 ≤ wM a:=by unfold wM;omega
  simp
  omega
 rw [lsum_mul] at h3
 unfold wD
 omega
theorem wD_sums (d:List Bare.Mem):wD d=dN d d.length + dB d d.length:=by
 have hp:∀ L:List Bare.Par,lsum wP L=L.length + psB L L.length:=fun L=>by
  unfold psB
  rw [sumTo_list pB noP L,← lsum_one L,← lsum_plus]
  rfl
 have hx:∀ x:Bare.Itm,wX x=1 + (x.params.length + xB x):=fun x=>by
  unfold wX xB
  rw [hp]
  omega
 have hX:∀ L:List Bare.Itm,lsum wX L=L.length + (xsN L L.length + xsB L L.length):=fun L=>by
  unfold xsN xsB
  rw [sumTo_list (fun x:Bare.Itm=>x.params.length) Bare.noI L,sumTo_list xB Bare.noI L,← lsum_one L,← lsum_plus,← lsum_plus]
  congr 1
  funext x
  exact hx x
 have hm:∀ m:Bare.Mem,wM m=1 + (mN m + mB m):=fun m=>by
  unfold wM mN mB
  rw [hX,hp]
  omega
 unfold wD dN dB
 rw [sumTo_list mN noM d,sumTo_list mB noM d,← lsum_one d,Nat.add_assoc,← lsum_plus,← lsum_plus]
 congr 1
 funext m
 exact hm m
end Go.Proofs.YtnknmmbnhoanfaaGreatDoor
