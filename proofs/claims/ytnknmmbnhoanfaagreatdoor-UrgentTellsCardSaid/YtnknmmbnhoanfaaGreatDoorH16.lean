/- Texts joined. -/
import Derived.Test.YtnknmmbnhoanfaaGreatDoorH15
import Derived.Test.YtnknmmbnhoanfaaGreatDoorH08
import Derived.Test.YtnknmmbnhoanfaaGreatDoorH11
import Derived.Test.YtnknmmbnhoanfaaGreatDoorH07
import Derived.Test.YtnknmmbnhoanfaaGreatDoorH13
import Derived.Test.YtnknmmbnhoanfaaGreatDoorH06
set_option linter.unusedSimpArgs false
set_option linter.unusedVariables false
set_option maxHeartbeats 16000000
set_option maxRecDepth 100000
namespace Go.Proofs.YtnknmmbnhoanfaaGreatDoor
open Go.RowKit Go.Shelf Go.Cs
attribute [local go_sem] Oper.semAt_some


def othB (c:UInt8):Bool:=Bare.digB c || [95,45,46].contains c
theorem sml_of {c:UInt8} {n:Nat} (hn:c.toNat=n):Bare.smlB c=((decide (97 ≤ n) && decide (n ≤ 122)) || decide (n=42)):=by
 unfold Bare.smlB
 rw [hn]
 congr 1
 rw [Bool.eq_iff_iff,beq_iff_eq,decide_eq_true_eq]
 constructor
 ·rintro rfl;rw [← hn];rfl
 ·intro h;rw [← UInt8.toNat_inj,hn,h];rfl
theorem oth_of {c:UInt8} {n:Nat} (hn:c.toNat=n):othB c=((decide (48 ≤ n) && decide (n ≤ 57)) || (decide (n=95) || (decide (n=45) || decide (n=46)))):=by
 have e:∀ d:Nat,d < 256→(c == UInt8.ofNat d)=decide (n=d):=fun d hd=>by
  rw [Bool.eq_iff_iff,beq_iff_eq,decide_eq_true_eq]
  constructor
  ·rintro rfl;rw [← hn];simp [Nat.mod_eq_of_lt hd]
  ·intro h;rw [← UInt8.toNat_inj,hn,h];simp [Nat.mod_eq_of_lt hd]
 unfold othB Bare.digB
 rw [hn]
 have e1:=e 95 (by decide)
 have e2:=e 45 (by decide)
 have e3:=e 46 (by decide)
 have:([95,45,46]:List UInt8).contains c=(c == UInt8.ofNat 95 || (c == UInt8.ofNat 45 || c == UInt8.ofNat 46)):=by
  simp only [List.contains_cons,List.contains_nil,Bool.or_false]
  rfl
 rw [this,e1,e2,e3]
theorem lit69 (t:Array Value) (h:t.size=69):∃ u:Nat→Value,t=(u 0::u 1::u 2::u 3::u 4::u 5::u 6::u 7::u 8::u 9::u 10::u 11::u 12::u 13::u 14::u 15::u 16::u 17::u 18::u 19::u 20::u 21::u 22::u 23::u 24::u 25::u 26::u 27::u 28::u 29::u 30::u 31::u 32::u 33::u 34::u 35::u 36::u 37::u 38::u 39::u 40::u 41::u 42::u 43::u 44::u 45::u 46::u 47::u 48::u 49::u 50::u 51::u 52::u 53::u 54::u 55::u 56::u 57::u 58::u 59::u 60::u 61::u 62::u 63::u 64::u 65::u 66::u 67::u 68::([]:List Value)).toArray:=⟨fun i=>t.getD i undef,range_lit t 69 h⟩
noncomputable def reg_causeyref13_Key_4:Code:=((Tryz.f30.body.bind (regionOf 4)).getD .skip)
theorem key4 (t:Array Value) (hs:t.size=69) (w:World) {s:ByteArray} {k n:Nat} {x2:Value}
  (hq0:t.getD 0 undef = .string s)
  (hq1:t.getD 1 undef=undef)
  (hq2:t.getD 2 undef=x2)
  (hq3:t.getD 3 undef = .int .i64 k)
  (hq66:t.getD 66 undef=undef)
  (hq67:t.getD 67 undef=undef)
  (hq68:t.getD 68 undef=undef)
  (hk:k < s.size) (hn:(gb s k).toNat=n) :
  reg_causeyref13_Key_4.wp Tryz.prog (Only fun a' W'=>(a'.tmps.size=69∧a'.defers = []∧a'.tmps.getD 0 undef = .string s∧a'.tmps.getD 1 undef=undef∧a'.tmps.getD 2 undef=x2∧a'.tmps.getD 3 undef = .int .i64 k∧a'.tmps.getD 66 undef=undef∧a'.tmps.getD 67 undef=undef∧a'.tmps.getD 68 undef=undef∧a'.tmps.getD 4 undef = .bool (Bare.smlB (gb s k)))∧W'=w) ⟨t,[]⟩ w:=by
 conv=>arg 2;whnf
 obtain ⟨u,rfl⟩:=lit69 t hs
 have hq0:u 0 = _:=hq0
 have hq1:u 1 = _:=hq1
 have hq2:u 2 = _:=hq2
 have hq3:u 3 = _:=hq3
 have hq66:u 66 = _:=hq66
 have hq67:u 67 = _:=hq67
 have hq68:u 68 = _:=hq68
 rw [hq0,hq1,hq2,hq3,hq66,hq67,hq68]
 clear hq0 hq1 hq2 hq3 hq66 hq67 hq68 hs
 have hix:=fun W=>run_idx s k hk W
 rw [hn] at hix
 rw [sml_of hn]
 clear hn
 by_cases h1:97 ≤ n
 ·by_cases h2:n ≤ 122
  ·rw [decide_eq_true h1,decide_eq_true h2]
   go_wp2_with fail
   exact ⟨⟨rfl,rfl,rfl,rfl,rfl,rfl,rfl,rfl,rfl,rfl⟩,rfl⟩
  ·rw [decide_eq_false h2,decide_eq_false (show ¬ n=42 by omega)]
   have h3:((n:Int) == 42)=false:=by simp;omega
   go_wp2_with fail
   exact ⟨⟨rfl,rfl,rfl,rfl,rfl,rfl,rfl,rfl,rfl,by simp;omega⟩,rfl⟩
 ·by_cases h2:n=42
  ·subst h2
   go_wp2_with fail
   exact ⟨⟨rfl,rfl,rfl,rfl,rfl,rfl,rfl,rfl,rfl,rfl⟩,rfl⟩
  ·rw [decide_eq_false h1,decide_eq_false h2]
   have h3:((n:Int) == 42)=false:=by simp;omega
   go_wp2_with fail
   exact ⟨⟨rfl,rfl,rfl,rfl,rfl,rfl,rfl,rfl,rfl,rfl⟩,rfl⟩
noncomputable def reg_causeyref13_Key_5:Code:=((Tryz.f30.body.bind (regionOf 5)).getD .skip)
theorem key5 (t:Array Value) (hs:t.size=69) (w:World) {s:ByteArray} {k n:Nat} {x2:Value} {b4:Bool}
  (hq0:t.getD 0 undef = .string s)
  (hq1:t.getD 1 undef=undef)
  (hq2:t.getD 2 undef=x2)
  (hq3:t.getD 3 undef = .int .i64 k)
  (hq66:t.getD 66 undef=undef)
  (hq67:t.getD 67 undef=undef)
  (hq68:t.getD 68 undef=undef)
  (hq4:t.getD 4 undef = .bool b4)
  (hk:k < s.size) (hn:(gb s k).toNat=n) :
  reg_causeyref13_Key_5.wp Tryz.prog (Only fun a' W'=>(a'.tmps.size=69∧a'.defers = []∧a'.tmps.getD 0 undef = .string s∧a'.tmps.getD 1 undef=undef∧a'.tmps.getD 2 undef=x2∧a'.tmps.getD 3 undef = .int .i64 k∧a'.tmps.getD 66 undef=undef∧a'.tmps.getD 67 undef=undef∧a'.tmps.getD 68 undef=undef∧a'.tmps.getD 4 undef = .bool b4∧a'.tmps.getD 5 undef = .bool (othB (gb s k)))∧W'=w) ⟨t,[]⟩ w:=by
 conv=>arg 2;whnf
 obtain ⟨u,rfl⟩:=lit69 t hs
 have hq0:u 0 = _:=hq0
 have hq1:u 1 = _:=hq1
 have hq2:u 2 = _:=hq2
 have hq3:u 3 = _:=hq3
 have hq66:u 66 = _:=hq66
 have hq67:u 67 = _:=hq67
 have hq68:u 68 = _:=hq68
 have hq4:u 4 = _:=hq4
 rw [hq0,hq1,hq2,hq3,hq66,hq67,hq68,hq4]
 clear hq0 hq1 hq2 hq3 hq66 hq67 hq68 hq4 hs
 have hix:=fun W=>run_idx s k hk W
 rw [hn] at hix
 rw [oth_of hn]
 clear hn
 by_cases h1:48 ≤ n
 ·by_cases h2:n ≤ 57
  ·rw [decide_eq_true h1,decide_eq_true h2]
   go_wp2_with fail
   exact ⟨⟨rfl,rfl,rfl,rfl,rfl,rfl,rfl,rfl,rfl,rfl,rfl⟩,rfl⟩
  ·by_cases h3:n=95
   ·subst h3
    go_wp2_with fail
    exact ⟨⟨rfl,rfl,rfl,rfl,rfl,rfl,rfl,rfl,rfl,rfl,rfl⟩,rfl⟩
   ·rw [decide_eq_false h2,decide_eq_false h3,decide_eq_false (show ¬ n=45 by omega),decide_eq_false (show ¬ n=46 by omega)]
    have g1:((n:Int) == 95)=false:=by simp;omega
    have g2:((n:Int) == 45)=false:=by simp;omega
    have g3:((n:Int) == 46)=false:=by simp;omega
    go_wp2_with fail
    exact ⟨⟨rfl,rfl,rfl,rfl,rfl,rfl,rfl,rfl,rfl,rfl,by simp;omega⟩,rfl⟩
 ·by_cases h2:n=45
  ·subst h2
   go_wp2_with fail
   exact ⟨⟨rfl,rfl,rfl,rfl,rfl,rfl,rfl,rfl,rfl,rfl,rfl⟩,rfl⟩
  ·by_cases h3:n=46
   ·subst h3
    go_wp2_with fail
    exact ⟨⟨rfl,rfl,rfl,rfl,rfl,rfl,rfl,rfl,rfl,rfl,rfl⟩,rfl⟩
   ·rw [decide_eq_false h1,decide_eq_false h2,decide_eq_false h3,decide_eq_false (show ¬ n=95 by omega)]
    have g1:((n:Int) == 95)=false:=by simp;omega
    have g2:((n:Int) == 45)=false:=by simp;omega
    have g3:((n:Int) == 46)=false:=by simp;omega
    go_wp2_with fail
    exact ⟨⟨rfl,rfl,rfl,rfl,rfl,rfl,rfl,rfl,rfl,rfl,rfl⟩,rfl⟩
def keyAtB (s:ByteArray) (k:Nat):Bool:=Bare.smlB (gb s k) || (!decide (k=0) && othB (gb s k))
theorem keyB_of (s:ByteArray):Bare.keyB (bl s)=(decide (0 < s.size) && (List.range s.size).all (keyAtB s)):=by
 by_cases h0:s.size=0
 ·have:bl s = []:=List.length_eq_zero_iff.1 (by rw [bl_len];exact h0)
  rw [this,decide_eq_false (by omega)];rfl
 ·rw [decide_eq_true (by omega),Bool.true_and,first_drop s (by omega)]
  show (Bare.smlB (gb s 0) && ((bl s).drop 1).all Bare.inKey) = _
  rw [Bool.eq_iff_iff,Bool.and_eq_true,List.all_eq_true,List.all_eq_true]
  constructor
  ·rintro ⟨h1,h2⟩ k hk
   rw [List.mem_range] at hk
   unfold keyAtB
   by_cases e:k=0
   ·subst e;rw [h1];rfl
   ·have:=h2 (gb s k) (List.mem_iff_getElem?.2 ⟨k - 1,by rw [List.getElem?_drop,show 1 + (k - 1)=k by omega];exact gb_get s k hk⟩)
    rw [decide_eq_false e]
    exact this
  ·intro h
   refine ⟨?_,fun x hx=>?_⟩
   ·have:=h 0 (List.mem_range.2 (by omega))
    unfold keyAtB at this
    simpa using this
   ·obtain ⟨i,hi⟩:=List.mem_iff_getElem?.1 hx
    rw [List.getElem?_drop] at hi
    obtain ⟨hl,rfl⟩:=get_gb hi
    have:=h (1 + i) (List.mem_range.2 hl)
    unfold keyAtB at this
    rw [decide_eq_false (by omega)] at this
    exact this
theorem key_r13 (s:ByteArray) (w:World) (hs:s.size ≤ 9223372036854775807) :
  Calls Tryz.prog 30 #[.string s] w fun e w'=>e = .returned (.bool (Bare.keyB (bl s)))∧w'=w:=by
 have hof:=keyB_of s
 obtain ⟨z,hz⟩:∃ z,Bare.keyB (bl s)=z:=⟨_,rfl⟩
 rw [hz] at hof ⊢
 have HO:=Lib.hid hof
 clear hof hz
 go_enter Tryz.func30,Tryz.ntmps30
 go_upto_region 2 with fail
 go_loop [3] (fun c=>∃ k:Nat,k ≤ s.size∧c = .int .i64 k∧Hid (∀ j,j < k→keyAtB s j=true)) (fun c=>s.size - (intOf c).toNat)
 case atStart=>exact ⟨0,Nat.zero_le _,rfl,Lib.hid fun i hi=>by omega⟩
 case round =>
  obtain ⟨k,hk,rfl,hbef⟩:=hrel
  by_cases hlt:k < s.size
  ·have hkd:decide ((k:Int) < (s.size:Int))=true:=decide_eq_true (by omega)
   obtain ⟨n,hn⟩:∃ n,(gb s k).toNat=n:=⟨_,rfl⟩
   have hnext:keyAtB s k=true→Hid (∀ j,j < k + 1→keyAtB s j=true):=fun hg=>Lib.hid fun i hi=>by
    by_cases hik:i < k
    ·exact hbef.out i hik
    ·obtain rfl:i=k:=by omega
     exact hg
   have hstop:keyAtB s k=false→z=false:=fun hg=>by
    rw [HO.out]
    have:(List.range s.size).all (keyAtB s)=false:=by
     refine Bool.eq_false_iff.2 fun h=>?_
     have:=List.all_eq_true.1 h k (List.mem_range.2 hlt)
     rw [hg] at this
     cases this
    rw [this,Bool.and_false]
   have hat:keyAtB s k=(Bare.smlB (gb s k) || (!decide (k=0) && othB (gb s k))):=rfl
   go_upto_region 4 with fail
   refine piece (fun _=>_) (key4 (x2:=u2) _ rfl _ rfl rfl rfl rfl rfl rfl rfl hlt hn) ?_
   rintro ⟨t,dfs⟩ w4 ⟨⟨hs4,hd4,hq0,hq1,hq2,hq3,hq66,hq67,hq68,hq4⟩,rfl⟩
   simp only at hs4 hd4 hq0 hq1 hq2 hq3 hq66 hq67 hq68 hq4
   subst hd4
   obtain ⟨u,rfl⟩:=lit69 t hs4
   have hp0:u 0 = .string s:=hq0
   have hp1:u 1=undef:=hq1
   have hp2:u 2=u2:=hq2
   have hp3:u 3 = .int .i64 k:=hq3
   have hp66:u 66=undef:=hq66
   have hp67:u 67=undef:=hq67
   have hp68:u 68=undef:=hq68
   have hp4:u 4 = .bool (Bare.smlB (gb s k)):=hq4
   rw [hp0,hp1,hp2,hp66,hp67,hp68,hp3,hp4]
   clear hp66 hq66 hp67 hq67 hp68 hq68 hp0 hp1 hp2 hp3 hp4 hq0 hq1 hq2 hq3 hq4 hs4
   obtain ⟨b4,hb4⟩:∃ b,Bare.smlB (gb s k)=b:=⟨_,rfl⟩
   rw [hb4] at hat ⊢
   go_upto_region 5 with fail
   refine piece (fun _=>_) (key5 (x2:=u2) _ rfl _ rfl rfl rfl rfl rfl rfl rfl rfl hlt hn) ?_
   rintro ⟨t,dfs⟩ w5 ⟨⟨hs4,hd4,hq0,hq1,hq2,hq3,hq66,hq67,hq68,hq4,hq5⟩,rfl⟩
   simp only at hs4 hd4 hq0 hq1 hq2 hq3 hq66 hq67 hq68 hq4 hq5
   subst hd4
   obtain ⟨u,rfl⟩:=lit69 t hs4
   have hp0:u 0 = .string s:=hq0
   have hp1:u 1=undef:=hq1
   have hp2:u 2=u2:=hq2
   have hp3:u 3 = .int .i64 k:=hq3
   have hp66:u 66=undef:=hq66
   have hp67:u 67=undef:=hq67
   have hp68:u 68=undef:=hq68
   have hp4:u 4 = .bool b4:=hq4
   have hp5:u 5 = .bool (othB (gb s k)):=hq5
   rw [hp0,hp1,hp2,hp66,hp67,hp68,hp3,hp4,hp5]
   clear hp66 hq66 hp67 hq67 hp68 hq68 hp0 hp1 hp2 hp3 hp4 hp5 hq0 hq1 hq2 hq3 hq4 hq5 hs4
   obtain ⟨b5,hb5⟩:∃ b,othB (gb s k)=b:=⟨_,rfl⟩
   rw [hb5] at hat ⊢
   clear hb4 hb5 hn hbef hkd
   cases b4 with
   | true =>
    have hh:=hnext (by rw [hat];rfl)
    clear hnext hstop hat
    go_wp2_with fail
    go_round
    case rel=>exact ⟨k + 1,by omega,by go_num,hh⟩
    case measure=>simp [intOf];omega
   | false =>
    by_cases hk0:k=0
    ·have hh:=hstop (by rw [hat,decide_eq_true hk0];rfl)
     have hd:((k:Int) == 0)=true:=by simp [hk0]
     clear hnext hstop hat hk0
     subst hh
     go_wp2_with fail
     go_ret
     exact ⟨rfl,rfl⟩
    ·have hd:((k:Int) == 0)=false:=by simp [hk0]
     cases b5 with
     | true =>
      have hh:=hnext (by rw [hat,decide_eq_false hk0];rfl)
      clear hnext hstop hat
      go_wp2_with fail
      go_round
      case rel=>exact ⟨k + 1,by omega,by go_num,hh⟩
      case measure=>simp [intOf];omega
     | false =>
      have hh:=hstop (by rw [hat,decide_eq_false hk0];rfl)
      clear hnext hstop hat hk0
      subst hh
      go_wp2_with fail
      go_ret
      exact ⟨rfl,rfl⟩
  ·obtain rfl:k=s.size:=by omega
   have hkd:decide ((s.size:Int) < (s.size:Int))=false:=decide_eq_false (by omega)
   have hall:(List.range s.size).all (keyAtB s)=true:=List.all_eq_true.2 fun j hj=>hbef.out j (List.mem_range.1 hj)
   have hz2:decide (0 < s.size)=z:=by rw [HO.out,hall,Bool.and_true]
   clear hbef hall HO
   subst hz2
   go_wp2_with fail
   go_ret
   exact ⟨rfl,rfl⟩


theorem litj43 (t:Array Value) (h:t.size=43):∃ u:Nat→Value,t=(u 0::u 1::u 2::u 3::u 4::u 5::u 6::u 7::u 8::u 9::u 10::u 11::u 12::u 13::u 14::u 15::u 16::u 17::u 18::u 19::u 20::u 21::u 22::u 23::u 24::u 25::u 26::u 27::u 28::u 29::u 30::u 31::u 32::u 33::u 34::u 35::u 36::u 37::u 38::u 39::u 40::u 41::u 42::([]:List Value)).toArray:=⟨fun i=>t.getD i undef,range_lit t 43 h⟩
noncomputable def reg_causeyref13_params_9:Code:=((Tryz.f150.body.bind (regionOf 9)).getD .skip)
theorem params9 (t:Array Value) (hs:t.size=43) (w:World) {b o n cap i k:Nat} {ka kb:ByteArray} {y:Bool}
  (hq0:t.getD 0 undef = .slice (some ⟨b,o,none⟩) n cap)
  (hq3:t.getD 3 undef = .int .i64 i)
  (hq4:t.getD 4 undef = .int .i64 k)
  (c0:w.cell? ⟨b,o + k * 5,none⟩=some (.string ka)) (c1:w.cell? ⟨b,o + i * 5,none⟩=some (.string kb)) (hk:k < n) (hi:i < n) (hkd:decide ((k:Int) < (n:Int))=true) (hid:decide ((i:Int) < (n:Int))=true) (he:(ka.toList == kb.toList)=y) :
  reg_causeyref13_params_9.wp Tryz.prog (Only fun a' W'=>∃ z:Nat→Value,a'=⟨((pz t z [32,33,34,35,36,37,38,39,40,41]).setIfInBounds 42 (.bool y)),[]⟩∧New w W') ⟨t,[]⟩ w:=by
 conv=>arg 2;whnf
 obtain ⟨u,rfl⟩:=litj43 t hs
 have hq0:u 0 = _:=hq0
 have hq3:u 3 = _:=hq3
 have hq4:u 4 = _:=hq4
 rw [hq0,hq3,hq4]
 clear hq0 hq3 hq4 hs
 refine wp_region_held (S:=fun W=>New w W) (by kernel_rfl) ?_
 show wpAnyH _ _ _ _ _ 11 _ _ w.drew
 have hN:New w w.drew:=(Mods.refl _ _).drew
 have hS:New w w.drew:=(Mods.refl _ _).drew
 refine tkI 0 (some 32) (.slice (some ⟨b,o,none⟩) n cap) hS ?_
 simp only [pS]
 refine tkI 1 (some 33) (.int .i64 k) hS ?_
 simp only [pS]
 refine tkI 2 (some 34) (.pointer (some ⟨b,o + k * 5,none⟩)) hS ?_
 simp only [pS]
 refine tkI 3 (some 35) (.pointer (some ⟨b,o + k * 5,none⟩)) hS ?_
 simp only [pS]
 refine tkA 4 rfl (some 36) (.string ka) (.inl ⟨by rfl,fun W hW=>by have q:=hW.cell c0 id;go_simp⟩) hS ?_
 simp only [pS]
 refine tkI 5 (some 37) (.slice (some ⟨b,o,none⟩) n cap) hS ?_
 simp only [pS]
 refine tkI 6 (some 38) (.int .i64 i) hS ?_
 simp only [pS]
 refine tkI 7 (some 39) (.pointer (some ⟨b,o + i * 5,none⟩)) hS ?_
 simp only [pS]
 refine tkI 8 (some 40) (.pointer (some ⟨b,o + i * 5,none⟩)) hS ?_
 simp only [pS]
 refine tkA 9 rfl (some 41) (.string kb) (.inl ⟨by rfl,fun W hW=>by have q:=hW.cell c1 id;go_simp⟩) hS ?_
 simp only [pS]
 refine tkI 10 (some 42) (.bool y) hS ?_
 simp only [pS]
 refine wpAnyH_done (by kernel_rfl) ?_ _
 exact zc rfl hN
theorem get_map {α:Type} (f:α→Bare.Bs) (L:List α) (d:α) (i:Nat) (hi:i < L.length):(L.map f)[i]? = some (f (L.getD i d)):=by
 rw [List.getElem?_map,List.getElem?_eq_getElem hi,List.getD_eq_getElem?_getD,List.getElem?_eq_getElem hi]
 rfl
theorem alone_dup2 {α:Type} (f:α→Bare.Bs) (L:List α) (d:α) (i k:Nat) (hi:i < L.length) (hk:k < i) (h:f (L.getD k d)=f (L.getD i d)):Bare.aloneB (L.map f)=false:=by
 refine alone_dup (get_map f L d i hi) ?_
 rw [← h]
 refine List.mem_iff_getElem?.2 ⟨k,?_⟩
 rw [List.getElem?_take,if_pos hk,get_map f L d k (by omega)]
theorem alone_yes {α:Type} (f:α→Bare.Bs) (L:List α) (d:α) (h1:∀ i,i < L.length→Bare.keyB (f (L.getD i d))=true) (h2:∀ i,i < L.length→∀ k,k < i→f (L.getD k d) ≠ f (L.getD i d)):Bare.aloneB (L.map f)=true:=by
 refine (aloneB_iff _).2 ⟨?_,fun k hk=>?_⟩
 ·rw [List.nodup_iff_pairwise_ne]
  refine List.pairwise_iff_getElem.2 fun i j hi hj hij=>?_
  rw [List.length_map] at hi hj
  have:=h2 j hj i hij
  rw [List.getD_eq_getElem?_getD,List.getD_eq_getElem?_getD,List.getElem?_eq_getElem hi,List.getElem?_eq_getElem hj] at this
  simpa using this
 ·obtain ⟨x,hx,rfl⟩:=List.mem_map.1 hk
  obtain ⟨i,hi,rfl⟩:=List.mem_iff_getElem.1 hx
  have:=h1 i hi
  rw [List.getD_eq_getElem?_getD,List.getElem?_eq_getElem hi] at this
  exact this
theorem params_no1 {L:List Bare.Par} {i:Nat} (hi:i < L.length) (h:Bare.keyB (L.getD i noP).key=false):Bare.paramsB L=false:=by
 unfold Bare.paramsB
 rw [alone_no (get_map (·.key) L noP i hi) h,Bool.false_and]
theorem params_no2 {L:List Bare.Par} {i:Nat} (hi:i < L.length) (h:Bare.rightI (L.getD i noP).bare=false):Bare.paramsB L=false:=by
 unfold Bare.paramsB
 have:(L.all fun p=>Bare.rightI p.bare)=false:=by
  rw [List.all_eq_false]
  exact ⟨_,getD_mem hi,by rw [h];decide⟩
 rw [this,Bool.and_false]
theorem params_no3 {L:List Bare.Par} {i k:Nat} (hi:i < L.length) (hk:k < i) (h:(L.getD k noP).key=(L.getD i noP).key):Bare.paramsB L=false:=by
 unfold Bare.paramsB
 rw [alone_dup2 (·.key) L noP i k hi hk h,Bool.false_and]
theorem params_yes {L:List Bare.Par} (h1:∀ i,i < L.length→Bare.keyB (L.getD i noP).key=true∧Bare.rightI (L.getD i noP).bare=true) (h2:∀ i,i < L.length→∀ k,k < i→(L.getD k noP).key ≠ (L.getD i noP).key):Bare.paramsB L=true:=by
 unfold Bare.paramsB
 rw [alone_yes (·.key) L noP (fun i hi=>(h1 i hi).1) h2,Bool.true_and,List.all_eq_true]
 intro p hp
 obtain ⟨i,hi,rfl⟩:=List.mem_iff_getElem.1 hp
 have:=(h1 i hi).2
 rw [List.getD_eq_getElem?_getD,List.getElem?_eq_getElem hi] at this
 exact this
def ParS (L:List Bare.Par):Prop:=L.length ≤ 1000000∧∀ p ∈ L,p.key.length ≤ 100000000∧p.bare.text.length ≤ 100000000
theorem params_r13 {τ:Bool} (v:Value) (L:List Bare.Par) (w:World) (h:RdP τ w v L) (hs:ParS L) :
  Calls Tryz.prog 150 #[v] w fun e w'=>e = .returned (.bool (Bare.paramsB L))∧New w w':=by
 have HD:=Lib.hid h.1
 obtain ⟨ao,cap,rfl⟩:=h.slice
 obtain ⟨n,hn⟩:∃ n,L.length=n:=⟨_,rfl⟩
 have HN:=Lib.hid hn
 have HSz:=Lib.hid hs.2
 have hn6:n ≤ 1000000:=by rw [← hn];exact hs.1
 rw [hn] at HD ⊢
 obtain ⟨r,hr⟩:∃ r,Bare.paramsB L=r:=⟨_,rfl⟩
 have HR:=Lib.hid hr
 rw [hr]
 clear h hn hr hs
 go_enter Tryz.func150,Tryz.ntmps150
 go_upto_region 2 with fail
 go_loopw [3] (fun t wr=>∃ i:Nat,i ≤ n∧t = .int .i64 i∧Hid (∀ j,j < i→(Bare.keyB (L.getD j noP).key=true∧Bare.rightI (L.getD j noP).bare=true)∧∀ k,k < j→(L.getD k noP).key ≠ (L.getD j noP).key)∧New w wr) (fun t _=>n - (intOf t).toNat)
 case atStart=>exact ⟨0,Nat.zero_le _,rfl,Lib.hid (fun j hj=>by omega),Mods.refl _ _⟩
 case round =>
  obtain ⟨i,hi,rfl,HB,hN⟩:=hrel
  by_cases hlt:i < n
  ·have hid:decide ((i:Int) < (n:Int))=true:=decide_eq_true (by omega)
   have hiL:i < L.length:=by rw [HN.out];exact hlt
   obtain ⟨b,o,rfl,hrow⟩:=(RowR.new HD.out hN).at.2.2 i hlt
   obtain ⟨x,hx⟩:∃ x,L.getD i noP=x:=⟨_,rfl⟩
   have hrow:wr.rangeAt b (o + i * 5) (pcs x):=by rw [← hx];exact hrow
   have q0:wr.cell? ⟨b,o + i * 5,none⟩=some (.string (tx x.key)):=hrow 0 _ rfl
   have q1:wr.cell? ⟨b,o + i * 5 + 1,none⟩=some (.int .u8 x.bare.kind):=hrow 1 _ rfl
   have q2:wr.cell? ⟨b,o + i * 5 + 2,none⟩=some (.int .i64 x.bare.int):=hrow 2 _ rfl
   have q3:wr.cell? ⟨b,o + i * 5 + 3,none⟩=some (.string (tx x.bare.text)):=hrow 3 _ rfl
   have q4:wr.cell? ⟨b,o + i * 5 + 4,none⟩=some (.bool x.bare.yes):=hrow 4 _ rfl
   obtain ⟨z1,z2⟩:=HSz.out x (by rw [← hx];exact getD_mem hiL)
   have HK:=Lib.hid (fun W=>key_r13 (tx x.key) W (by rw [tx_size];omega))
   have HRt:=Lib.hid (fun W=>right_r x.bare z2 W)
   rw [bl_tx] at HK
   unfold bv bcs at HRt
   obtain ⟨kx,hkx⟩:∃ s,tx x.key=s:=⟨_,rfl⟩
   obtain ⟨tt,htt⟩:∃ s,tx x.bare.text=s:=⟨_,rfl⟩
   rw [hkx] at q0 HK
   rw [htt] at q3 HRt
   have HX:=Lib.hid hx
   have HKX:=Lib.hid hkx
   clear hrow hx hkx htt z1 z2
   cases hky:Bare.keyB x.key with
   | false =>
    obtain rfl:false=r:=by rw [← HR.out];exact (params_no1 hiL (by rw [HX.out];exact hky)).symm
    rw [hky] at HK
    clear hky HB
    go_wp2_with fail
    refine (HK.out _).mono ?_
    rintro e w1 ⟨rfl,rfl⟩
    go_wp2_with fail
    go_ret
    exact ⟨rfl,hN⟩
   | true =>
   rw [hky] at HK
   go_wp2_with fail
   refine (HK.out _).mono ?_
   rintro e w1 ⟨rfl,hw1⟩
   obtain rfl:=hw1.symm
   go_wp2_with fail
   refine (HRt.out _).mono ?_
   rintro e w2 ⟨rfl,hk2⟩
   have hN2:=hN.trans hk2
   cases hrt:Bare.rightI x.bare with
   | false =>
    obtain rfl:false=r:=by rw [← HR.out];exact (params_no2 hiL (by rw [HX.out];exact hrt)).symm
    clear hrt hky HB
    go_wp2_with fail
    go_ret
    exact ⟨rfl,hN2⟩
   | true =>
   have HKr:=Lib.hid (And.intro hky hrt)
   clear hky hrt hN hk2 q0 q1 q2 q3 q4 HK HRt
   go_upto_region 7 with fail
   go_loopw [4] (fun t wi=>∃ k:Nat,k ≤ i∧t = .int .i64 k∧Hid (∀ j,j < k→(L.getD j noP).key ≠ x.key)∧New w wi) (fun t _=>i - (intOf t).toNat)
   case atStart=>exact ⟨0,Nat.zero_le _,rfl,Lib.hid (fun j hj=>by omega),hN2⟩
   case round =>
    obtain ⟨k,hk,rfl,HBk,hNk⟩:=hrel
    by_cases hki:k < i
    ·have hkd:decide ((k:Int) < (i:Int))=true:=decide_eq_true (by omega)
     obtain ⟨b2,o2,e2,hrow⟩:=(RowR.new HD.out hNk).at.2.2 k (by omega)
     cases e2
     obtain ⟨b3,o3,e3,hrow3⟩:=(RowR.new HD.out hNk).at.2.2 i hlt
     cases e3
     have c0:wr.cell? ⟨b,o + k * 5,none⟩=some (.string (tx (L.getD k noP).key)):=hrow 0 _ rfl
     have c1:wr.cell? ⟨b,o + i * 5,none⟩=some (.string (tx (L.getD i noP).key)):=hrow3 0 _ rfl
     rw [HX.out,HKX.out] at c1
     have he:=eq_tx (tx (L.getD k noP).key) kx
     rw [bl_tx,← HKX.out,bl_tx,HKX.out] at he
     obtain ⟨ka,hka⟩:∃ s,tx (L.getD k noP).key=s:=⟨_,rfl⟩
     rw [hka] at c0 he
     clear hrow hrow3 hka
     go_upto_region 9 with fail
     refine piece (fun _=>_) (params9 _ rfl wr rfl rfl rfl c0 c1 (by omega) hlt (decide_eq_true (by omega)) hid he) ?_
     rintro a' w5 ⟨zg,rfl,hN5⟩
     simp only [pS]
     by_cases heq:(L.getD k noP).key=x.key
     ·obtain rfl:false=r:=by rw [← HR.out];exact (params_no3 hiL hki (by rw [HX.out];exact heq)).symm
      rw [decide_eq_true heq]
      clear heq he HB HBk c0 c1
      go_wp2_with fail
      go_ret
      exact ⟨rfl,hNk.trans hN5⟩
     ·have HB2:Hid (∀ j,j < k + 1→(L.getD j noP).key ≠ x.key):=Lib.hid (fun j hj=>by
       by_cases e:j < k
       ·exact HBk.out j e
       ·obtain rfl:j=k:=by omega
        exact heq)
      rw [decide_eq_false heq]
      clear heq he HBk c0 c1
      go_wp2_with fail
      go_roundw
      case rel=>exact ⟨k + 1,by omega,by go_num,HB2,hNk.trans hN5⟩
      case measure=>simp [intOf];omega
    ·obtain rfl:k=i:=by omega
     have hkd:decide ((k:Int) < (k:Int))=false:=decide_eq_false (by omega)
     have HB2:Hid (∀ j,j < k + 1→(Bare.keyB (L.getD j noP).key=true∧Bare.rightI (L.getD j noP).bare=true)∧∀ k,k < j→(L.getD k noP).key ≠ (L.getD j noP).key):=Lib.hid (fun j hj=>by
      by_cases e:j < k
      ·exact HB.out j e
      ·obtain rfl:j=k:=by omega
       rw [HX.out]
       exact ⟨HKr.out,HBk.out⟩)
     clear HB HBk
     go_wp2_with fail
     go_roundw
     case rel=>exact ⟨k + 1,by omega,by go_num,HB2,hNk⟩
     case measure=>simp [intOf];omega
  ·obtain rfl:i=n:=by omega
   have hid:decide ((i:Int) < (i:Int))=false:=decide_eq_false (by omega)
   obtain rfl:true=r:=by
    rw [← HR.out]
    exact (params_yes (fun j hj=>(HB.out j (by rw [HN.out] at hj;exact hj)).1) (fun j hj=>(HB.out j (by rw [HN.out] at hj;exact hj)).2)).symm
   clear HB
   go_wp2_with fail
   go_ret
   exact ⟨rfl,hN⟩


def begN (l:Bare.Bs) (d:Nat):Bool:=match l with
 | []=>false
 | c::_=>decide (c.toNat=d)
theorem begN_at (s:ByteArray) (d:Nat) (h:0 < s.size):begN (bl s) d=decide ((gb s 0).toNat=d):=by rw [first_drop s h];rfl
theorem begN_nil (s:ByteArray) (d:Nat) (h:s.size=0):begN (bl s) d=false:=by
 have:bl s = []:=List.length_eq_zero_iff.1 (by rw [bl_len];exact h)
 rw [this];rfl
theorem begins_r (s:ByteArray) (d:Nat) (w:World) (hs:s.size ≤ 9223372036854775807) (hd:d < 256) :
  Calls Tryz.prog 79 #[.string s,.int .u8 d] w fun e w'=>e = .returned (.bool (begN (bl s) d))∧w'=w:=by
 by_cases h0:s.size=0
 ·rw [begN_nil s d h0]
  have hp:decide ((0:Int) < (s.size:Int))=false:=decide_eq_false (by omega)
  go_enter Tryz.func79,Tryz.ntmps79
  go_wp2
  go_ret
  exact ⟨rfl,rfl⟩
 ·rw [begN_at s d (by omega)]
  have hp:decide ((0:Int) < (s.size:Int))=true:=decide_eq_true (by omega)
  have hix:∀ W,(Instr.index 9 (.string s) (.int .i64 0)).run Tryz.prog W = .ok (.int .u8 ((gb s 0).toNat:Nat)) W:=run_idx s 0 (by omega)
  obtain ⟨n,hn⟩:∃ n,(gb s 0).toNat=n:=⟨_,rfl⟩
  rw [hn] at hix ⊢
  clear hn
  obtain ⟨b,hb⟩:∃ b,decide (n=d)=b:=⟨_,rfl⟩
  have hbb:((n:Int) == (d:Int))=b:=by
   rw [← hb,Bool.eq_iff_iff,beq_iff_eq,decide_eq_true_eq]
   omega
  rw [hb]
  clear hb
  go_enter Tryz.func79,Tryz.ntmps79
  go_wp2
  go_ret
  exact ⟨rfl,rfl⟩
def blkL (tabs:Bool):Bare.Bs:=if tabs then [32,9] else [32]
theorem skip_step {l s:Bare.Bs} {c:UInt8} (h:l.contains c=true):Bare.skipB l (c::s)=Bare.skipB l s:=by
 unfold Bare.skipB
 rw [List.dropWhile_cons,if_pos h]
theorem skip_stop {l s:Bare.Bs} {c:UInt8} (h:l.contains c=false):Bare.skipB l (c::s)=c::s:=by
 unfold Bare.skipB
 rw [List.dropWhile_cons,if_neg (by rw [h];decide)]
theorem blk_has (tabs:Bool) (c:UInt8):(blkL tabs).contains c=(decide (c.toNat=32) || (tabs && decide (c.toNat=9))):=by
 have e:∀ d:Nat,d < 256→(c == UInt8.ofNat d)=decide (c.toNat=d):=fun d hd=>by
  rw [Bool.eq_iff_iff,beq_iff_eq,decide_eq_true_eq]
  constructor
  ·rintro rfl;simp [Nat.mod_eq_of_lt hd]
  ·intro h;rw [← UInt8.toNat_inj,h];simp [Nat.mod_eq_of_lt hd]
 have e1:=e 32 (by decide)
 have e2:=e 9 (by decide)
 rw [← e1,← e2]
 cases tabs
 ·show ([32]:Bare.Bs).contains c = _
  simp only [List.contains_cons,List.contains_nil,Bool.or_false,Bool.false_and]
  rfl
 ·show ([32,9]:Bare.Bs).contains c = _
  simp only [List.contains_cons,List.contains_nil,Bool.or_false,Bool.true_and]
  rfl
theorem blanks_r (s:ByteArray) (tabs:Bool) (w:World) (hs:s.size ≤ 1000000) :
  Calls Tryz.prog 76 #[.string s,.bool tabs] w fun e w'=>e = .returned (.string (tx (Bare.skipB (blkL tabs) (bl s))))∧w'=w:=by
 obtain ⟨R,hR⟩:∃ R,Bare.skipB (blkL tabs) (bl s)=R:=⟨_,rfl⟩
 have HR:=Lib.hid hR
 rw [hR]
 clear hR
 go_enter Tryz.func76,Tryz.ntmps76
 go_upto_region 1 with fail
 go_loop [0] (fun c=>∃ q:ByteArray,q.size ≤ s.size∧c = .string q∧Hid (Bare.skipB (blkL tabs) (bl q)=R)) (fun c=>match c with | .string q=>q.size | _=>0)
 case atStart=>exact ⟨s,Nat.le_refl _,rfl,HR⟩
 case round =>
  clear HR
  obtain ⟨q,hq,rfl,HR⟩:=hrel
  have HB:=Lib.hid (fun d hd W=>(begins_r q d W (by omega) hd).mono fun e w' h=>show e = .returned (.bool (begN (bl q) d))∧W=w' from ⟨h.1,h.2.symm⟩)
  by_cases h0:q.size=0
  ·have b1:=begN_nil q 32 h0
   have b2:=begN_nil q 9 h0
   have hnil:bl q = []:=List.length_eq_zero_iff.1 (by rw [bl_len];exact h0)
   have hqR:tx R=q:=by
    rw [← HR.out,hnil]
    show tx []=q
    rw [← hnil,tx_bl]
   have H1:Hid (∀ W,Calls Tryz.prog 79 #[.string q,.int .u8 32] W fun e w'=>e = .returned (.bool (begN (bl q) 32))∧W=w'):=Lib.hid (HB.out 32 (by decide))
   have H2:Hid (∀ W,Calls Tryz.prog 79 #[.string q,.int .u8 9] W fun e w'=>e = .returned (.bool (begN (bl q) 9))∧W=w'):=Lib.hid (HB.out 9 (by decide))
   rw [b1] at H1
   rw [b2] at H2
   clear HB b1 b2 hnil HR h0
   cases tabs with
   | true =>
    go_wp2_with (go_at_call 79;first | (with_reducible refine (H1.out _).mono ?_;rintro e w' ⟨rfl,rfl⟩) | (with_reducible refine (H2.out _).mono ?_;rintro e w' ⟨rfl,rfl⟩))
    go_ret
    exact ⟨by rw [hqR];rfl,rfl⟩
   | false =>
    go_wp2_with (go_at_call 79;first | (with_reducible refine (H1.out _).mono ?_;rintro e w' ⟨rfl,rfl⟩) | (with_reducible refine (H2.out _).mono ?_;rintro e w' ⟨rfl,rfl⟩))
    go_ret
    exact ⟨by rw [hqR];rfl,rfl⟩
  ·have b1:=begN_at q 32 (by omega)
   have b2:=begN_at q 9 (by omega)
   have hh:=blk_has tabs (gb q 0)
   have hf:=first_drop q (by omega)
   have hsl:∀ W,(Instr.slice 9 (.string q) (some (.int .i64 1)) none none).run Tryz.prog W = .ok (.string (tx ((bl q).drop 1))) W:=run_sl_l q 1 (by omega)
   have H1:Hid (∀ W,Calls Tryz.prog 79 #[.string q,.int .u8 32] W fun e w'=>e = .returned (.bool (begN (bl q) 32))∧W=w'):=Lib.hid (HB.out 32 (by decide))
   have H2:Hid (∀ W,Calls Tryz.prog 79 #[.string q,.int .u8 9] W fun e w'=>e = .returned (.bool (begN (bl q) 9))∧W=w'):=Lib.hid (HB.out 9 (by decide))
   rw [b1] at H1
   rw [b2] at H2
   have hgo:(blkL tabs).contains (gb q 0)=true→Hid (Bare.skipB (blkL tabs) ((bl q).drop 1)=R):=fun h=>Lib.hid (by
    rw [← HR.out]
    conv=>rhs;rw [hf]
    rw [skip_step h])
   have hst:(blkL tabs).contains (gb q 0)=false→tx R=q:=fun h=>by
    rw [← HR.out]
    conv=>lhs;rw [hf]
    rw [skip_stop h,← hf,tx_bl]
   obtain ⟨x,hx⟩:∃ x,tx ((bl q).drop 1)=x:=⟨_,rfl⟩
   have hxb:bl x=(bl q).drop 1:=by rw [← hx,bl_tx]
   have hxl:x.size + 1=q.size:=by rw [← bl_len x,hxb,List.length_drop,bl_len];omega
   rw [← hxb] at hgo
   rw [hx] at hsl
   rw [hh] at hgo hst
   obtain ⟨y1,hy1⟩:∃ b,decide ((gb q 0).toNat=32)=b:=⟨_,rfl⟩
   obtain ⟨y2,hy2⟩:∃ b,decide ((gb q 0).toNat=9)=b:=⟨_,rfl⟩
   rw [hy1] at hgo hst H1
   rw [hy2] at hgo hst H2
   clear HB b1 b2 hh hf hx hxb hy1 hy2 HR h0
   cases y1 with
   | true =>
    cases tabs with
    | true =>
     cases y2 with
     | true =>
      have hgo:=hgo rfl
      clear hst
      go_wp2_with (go_at_call 79;first | (with_reducible refine (H1.out _).mono ?_;rintro e w' ⟨rfl,rfl⟩) | (with_reducible refine (H2.out _).mono ?_;rintro e w' ⟨rfl,rfl⟩))
      go_round
      case rel=>exact ⟨x,by omega,rfl,hgo⟩
      case measure=>simp;omega
     | false =>
      have hgo:=hgo rfl
      clear hst
      go_wp2_with (go_at_call 79;first | (with_reducible refine (H1.out _).mono ?_;rintro e w' ⟨rfl,rfl⟩) | (with_reducible refine (H2.out _).mono ?_;rintro e w' ⟨rfl,rfl⟩))
      go_round
      case rel=>exact ⟨x,by omega,rfl,hgo⟩
      case measure=>simp;omega
    | false =>
     have hgo:=hgo rfl
     clear hst
     go_wp2_with (go_at_call 79;first | (with_reducible refine (H1.out _).mono ?_;rintro e w' ⟨rfl,rfl⟩) | (with_reducible refine (H2.out _).mono ?_;rintro e w' ⟨rfl,rfl⟩))
     go_round
     case rel=>exact ⟨x,by omega,rfl,hgo⟩
     case measure=>simp;omega
   | false =>
    cases tabs with
    | true =>
     cases y2 with
     | true =>
      have hgo:=hgo rfl
      clear hst
      go_wp2_with (go_at_call 79;first | (with_reducible refine (H1.out _).mono ?_;rintro e w' ⟨rfl,rfl⟩) | (with_reducible refine (H2.out _).mono ?_;rintro e w' ⟨rfl,rfl⟩))
      go_round
      case rel=>exact ⟨x,by omega,rfl,hgo⟩
      case measure=>simp;omega
     | false =>
      have hst:=hst rfl
      clear hgo
      replace hst:=Lib.hid hst
      go_wp2_with (go_at_call 79;first | (with_reducible refine (H1.out _).mono ?_;rintro e w' ⟨rfl,rfl⟩) | (with_reducible refine (H2.out _).mono ?_;rintro e w' ⟨rfl,rfl⟩))
      go_ret
      exact ⟨by rw [hst.out];rfl,rfl⟩
    | false =>
     have hst:=hst rfl
     clear hgo
     replace hst:=Lib.hid hst
     go_wp2_with (go_at_call 79;first | (with_reducible refine (H1.out _).mono ?_;rintro e w' ⟨rfl,rfl⟩) | (with_reducible refine (H2.out _).mono ?_;rintro e w' ⟨rfl,rfl⟩))
     go_ret
     exact ⟨by rw [hst.out];rfl,rfl⟩
theorem keyOf_at (s:ByteArray) (k:Nat) (h:k ≤ s.size) (hb:∀ j,j < k→keyAtB s j=true) (hs:k < s.size→keyAtB s k=false):Bare.keyOf (bl s)=(bl s).take k:=by
 by_cases h0:s.size=0
 ·have:bl s = []:=List.length_eq_zero_iff.1 (by rw [bl_len];exact h0)
  rw [this];simp [Bare.keyOf]
 ·have hf:=first_drop s (by omega)
  by_cases hk:k=0
  ·subst hk
   have h1:=hs (by omega)
   unfold keyAtB at h1
   have h2:Bare.smlB (gb s 0)=false:=by simpa using h1
   rw [hf,List.take_zero]
   show (if Bare.smlB (gb s 0)=true then _ else []) = []
   rw [if_neg (by rw [h2];decide)]
  ·have h1:=hb 0 (by omega)
   unfold keyAtB at h1
   have h2:Bare.smlB (gb s 0)=true:=by simpa using h1
   have hat:∀ j,1 ≤ j→keyAtB s j=Bare.inKey (gb s j):=fun j hj=>by
    unfold keyAtB
    rw [decide_eq_false (by omega)]
    rfl
   have hw:=Bare.while_at Bare.inKey ((bl s).drop 1) (k - 1) (by rw [List.length_drop,bl_len];omega) (fun j hj c hc=>by
    rw [List.getElem?_drop] at hc
    obtain ⟨-,rfl⟩:=get_gb hc
    rw [← hat _ (by omega)]
    exact hb (1 + j) (by omega)) (fun c hc=>by
    rw [List.getElem?_drop,show 1 + (k - 1)=k by omega] at hc
    obtain ⟨hl,rfl⟩:=get_gb hc
    rw [← hat _ (by omega)]
    exact hs hl)
   have ht:=Bare.takeWhile_take Bare.inKey ((bl s).drop 1)
   rw [hw] at ht
   obtain ⟨j,rfl⟩:∃ j,k=j + 1:=⟨k - 1,by omega⟩
   rw [hf,List.take_succ_cons]
   show (if Bare.smlB (gb s 0)=true then gb s 0::((bl s).drop 1).takeWhile Bare.inKey else []) = _
   rw [if_pos h2,← ht]
   rfl
theorem key_take (s:ByteArray) (k:Nat) (h:k < s.size) (hb:∀ j,j < k→keyAtB s j=true):Bare.keyB ((bl s).take (k + 1))=keyAtB s k:=by
 have hsz:(tx ((bl s).take (k + 1))).size=k + 1:=by rw [tx_size,List.length_take,bl_len];omega
 have hg:∀ j,j ≤ k→gb (tx ((bl s).take (k + 1))) j=gb s j:=fun j hj=>by
  have h1:=gb_get (tx ((bl s).take (k + 1))) j (by omega)
  rw [bl_tx,List.getElem?_take,if_pos (by omega),gb_get s j (by omega)] at h1
  exact (Option.some.inj h1).symm
 have:=keyB_of (tx ((bl s).take (k + 1)))
 rw [bl_tx,hsz,decide_eq_true (by omega),Bool.true_and] at this
 rw [this,Bool.eq_iff_iff,List.all_eq_true]
 constructor
 ·intro ha
  have:=ha k (List.mem_range.2 (by omega))
  unfold keyAtB at this ⊢
  rw [hg k (Nat.le_refl _)] at this
  exact this
 ·intro hk j hj
  have hj:=List.mem_range.1 hj
  have h2:keyAtB s j=true:=by
   by_cases e:j=k
   ·rw [e];exact hk
   ·exact hb j (by omega)
  unfold keyAtB at h2 ⊢
  rw [hg j (by omega)]
  exact h2
theorem keyof_r (s:ByteArray) (w:World) (hs:s.size ≤ 1000000) :
  Calls Tryz.prog 134 #[.string s] w fun e w'=>e = .returned (.tuple #[.string (tx (Bare.keyOf (bl s))),.string (tx ((bl s).drop (Bare.keyOf (bl s)).length)),.bool (!(Bare.keyOf (bl s)).isEmpty)])∧New w w':=by
 have HK:=Lib.hid (keyOf_at s)
 have HT:=Lib.hid (key_take s)
 have HR:=Lib.hid (fun (k:Nat) W=>key_r13 (tx ((bl s).take k)) W (by rw [tx_size,List.length_take,bl_len];omega))
 have hN0:New w w:=Mods.refl _ _
 obtain ⟨K,hK⟩:∃ K,Bare.keyOf (bl s)=K:=⟨_,rfl⟩
 rw [hK] at HK ⊢
 clear hK
 go_enter Tryz.func134,Tryz.ntmps134
 go_upto_region 2 with fail
 go_loop [5] (fun c=>∃ k:Nat,k ≤ s.size∧c = .int .i64 k∧Hid (∀ j,j < k→keyAtB s j=true)) (fun c=>s.size - (intOf c).toNat)
 case atStart=>exact ⟨0,Nat.zero_le _,rfl,Lib.hid fun i hi=>by omega⟩
 case round =>
  obtain ⟨k,hk,rfl,hbef⟩:=hrel
  by_cases hlt:k < s.size
  ·have hkd:decide ((k:Int) < (s.size:Int))=true:=decide_eq_true (by omega)
   have hsl2:∀ W,(Instr.slice 9 (.string s) none (some (.int .i64 ((k:Int) + 1))) none).run Tryz.prog W = .ok (.string (tx ((bl s).take (k + 1)))) W:=run_sl_h s (k + 1) (by omega)
   have htk:=HT.out k hlt hbef.out
   have HP:=Lib.hid (fun W=>(HR.out (k + 1) W).mono fun e w' h=>show e = .returned (.bool (keyAtB s k))∧W=w' from ⟨by rw [h.1,bl_tx,htk],h.2.symm⟩)
   obtain ⟨q,hq⟩:∃ q,tx ((bl s).take (k + 1))=q:=⟨_,rfl⟩
   rw [hq] at hsl2 HP
   have hnext:keyAtB s k=true→Hid (∀ j,j < k + 1→keyAtB s j=true):=fun hg=>Lib.hid fun i hi=>by
    by_cases hik:i < k
    ·exact hbef.out i hik
    ·obtain rfl:i=k:=by omega
     exact hg
   have hstop:keyAtB s k=false→K=(bl s).take k:=fun hg=>HK.out k hk hbef.out (fun _=>hg)
   obtain ⟨b,hb⟩:∃ b,keyAtB s k=b:=⟨_,rfl⟩
   rw [hb] at HP hnext hstop
   clear htk hq hb hbef
   cases b with
   | true =>
    have hh:=hnext rfl
    clear hnext hstop
    go_wp2_with (go_at_call 30;refine (HP.out _).mono ?_;rintro e w' ⟨rfl,rfl⟩)
    go_round
    case rel=>exact ⟨k + 1,by omega,by go_num,hh⟩
    case measure=>simp [intOf];omega
   | false =>
    have hh:=hstop rfl
    clear hnext hstop
    go_upto_region 4 with (go_at_call 30;refine (HP.out _).mono ?_;rintro e w' ⟨rfl,rfl⟩)
    clear hsl2 HP hkd
    have hlen:K.length=k:=by rw [hh,List.length_take,bl_len];omega
    have hsh:=run_sl_h s k (by omega)
    have hsl:=run_sl_l s k (by omega)
    have hem:(!K.isEmpty)=decide (0 < k):=by
     rw [← hlen]
     cases K <;> simp
    rw [← hh] at hsh
    rw [← hlen] at hsl
    rw [hlen] at hsl
    obtain ⟨x,hx⟩:∃ x,tx K=x:=⟨_,rfl⟩
    obtain ⟨y,hy⟩:∃ y,tx ((bl s).drop k)=y:=⟨_,rfl⟩
    rw [hx] at hsh
    rw [hy] at hsl
    have HE:Hid ((Ending.returned (.tuple #[.string (tx K),.string (tx ((bl s).drop K.length)),.bool (!K.isEmpty)])) = .returned (.tuple #[.string x,.string y,.bool (decide (0 < k))])):=Lib.hid (by rw [hem,hlen,hx,hy])
    clear hh hlen hem hx hy
    go_region
    go_wp2_with fail
    go_ret3
    exact ⟨HE.out.symm,hN0.drew⟩
  ·obtain rfl:k=s.size:=by omega
   have hkd:decide ((s.size:Int) < (s.size:Int))=false:=decide_eq_false (by omega)
   have hh:=HK.out s.size (Nat.le_refl _) hbef.out (fun h=>by omega)
   clear hbef
   go_upto_region 4 with fail
   clear hkd
   have hlen:K.length=s.size:=by rw [hh,List.length_take,bl_len];omega
   have hsh:=run_sl_h s s.size (by omega)
   have hsl:=run_sl_l s s.size (by omega)
   have hem:(!K.isEmpty)=decide (0 < s.size):=by
    rw [← hlen]
    cases K <;> simp
   rw [← hh] at hsh
   rw [← hlen] at hsl
   rw [hlen] at hsl
   obtain ⟨x,hx⟩:∃ x,tx K=x:=⟨_,rfl⟩
   obtain ⟨y,hy⟩:∃ y,tx ((bl s).drop s.size)=y:=⟨_,rfl⟩
   rw [hx] at hsh
   rw [hy] at hsl
   have HE:Hid ((Ending.returned (.tuple #[.string (tx K),.string (tx ((bl s).drop K.length)),.bool (!K.isEmpty)])) = .returned (.tuple #[.string x,.string y,.bool (decide (0 < s.size))])):=Lib.hid (by rw [hem,hlen,hx,hy])
   clear hh hlen hem hx hy
   go_region
   go_wp2_with fail
   go_ret3
   exact ⟨HE.out.symm,hN0.drew⟩


theorem lit29 (t:Array Value) (h:t.size=29):∃ u:Nat→Value,t=(u 0::u 1::u 2::u 3::u 4::u 5::u 6::u 7::u 8::u 9::u 10::u 11::u 12::u 13::u 14::u 15::u 16::u 17::u 18::u 19::u 20::u 21::u 22::u 23::u 24::u 25::u 26::u 27::u 28::([]:List Value)).toArray:=⟨fun i=>t.getD i undef,range_lit t 29 h⟩
noncomputable def reg_causeyref13_putParam_4:Code:=((Tryz.f172.body.bind (regionOf 4)).getD .skip)
theorem putp4 (t:Array Value) (hs:t.size=29) (w:World) {g B k n cap:Nat} {a b:ByteArray} {y:Bool}
  (hq0:t.getD 0 undef = .slice (some ⟨g,0,none⟩) n cap)
  (hq3:t.getD 3 undef = .pointer (some ⟨B,0,none⟩))
  (hq5:t.getD 5 undef = .int .i64 k)
  (c0:w.cell? ⟨g,k * 5,none⟩=some (.string a)) (c1:w.cell? ⟨B,0,none⟩=some (.string b)) (hk:k < n) (hy:(a.toList == b.toList)=y) :
  reg_causeyref13_putParam_4.wp Tryz.prog (Only fun a' W'=>∃ z:Nat→Value,a'=⟨((pz t z [12,13,14,15,16,17,18]).setIfInBounds 19 (.bool y)),[]⟩∧New w W') ⟨t,[]⟩ w:=by
 conv=>arg 2;whnf
 obtain ⟨u,rfl⟩:=lit29 t hs
 have hq0:u 0 = _:=hq0
 have hq3:u 3 = _:=hq3
 have hq5:u 5 = _:=hq5
 rw [hq0,hq3,hq5]
 clear hq0 hq3 hq5 hs
 have hid:decide ((k:Int) < (n:Int))=true:=decide_eq_true (by omega)
 refine wp_region_held (S:=fun W=>New w W) (by kernel_rfl) ?_
 show wpAnyH _ _ _ _ _ 8 _ _ w.drew
 have hN:New w w.drew:=(Mods.refl _ _).drew
 have hS:New w w.drew:=(Mods.refl _ _).drew
 refine tkI 0 (some 12) (.slice (some ⟨g,0,none⟩) n cap) hS ?_
 simp only [pS]
 refine tkI 1 (some 13) (.int .i64 k) hS ?_
 simp only [pS]
 refine tkI 2 (some 14) (.pointer (some ⟨g,k * 5,none⟩)) hS ?_
 simp only [pS]
 refine tkI 3 (some 15) (.pointer (some ⟨g,k * 5,none⟩)) hS ?_
 simp only [pS]
 refine tkA 4 rfl (some 16) (.string a) (.inl ⟨by rfl,fun W hW=>by have q:=hW.cell c0 id;go_simp⟩) hS ?_
 simp only [pS]
 refine tkI 5 (some 17) (.pointer (some ⟨B,0,none⟩)) hS ?_
 simp only [pS]
 refine tkA 6 rfl (some 18) (.string b) (.inl ⟨by rfl,fun W hW=>by have q:=hW.cell c1 id;go_simp⟩) hS ?_
 simp only [pS]
 refine tkA 7 rfl (some 19) (.bool y) (.inl ⟨by rfl,fun W hW=>by go_simp;first | done | exact hy⟩) hS ?_
 simp only [pS]
 refine wpAnyH_done (by kernel_rfl) ?_ _
 exact zc rfl hN
theorem putParam_r {base:Nat} (v:Value) (l:List Bare.Par) (p:Bare.Par) (w:World) (h:OwP base w v l.length (pf l)) (hnd:(l.map (·.key)).Nodup) (hl:l.length ≤ 1000000) (hb:base ≤ w.heap.size) :
  Calls Tryz.prog 172 #[v,.agg (pcs p).toArray] w fun e w'=>∃ v',e = .returned v'∧OwP base w' v' (Bare.setP l p).length (pf (Bare.setP l p))∧Mods (fun g=>v.ownBlock=some g) w w':=by
 have HL:=Lib.hid h
 obtain ⟨ao,cap,rfl⟩:=h.slice
 have hA:New w (w.alloc (.cells (pcs p).toArray 83)):=(Mods.refl _ _).alloc _
 have rB:=World.alloc_heap_new w (.cells (pcs p).toArray 83)
 obtain ⟨n,hn⟩:∃ n,l.length=n:=⟨_,rfl⟩
 have Hn:=Lib.hid hn
 rw [hn] at h HL hl ⊢
 have hLt:=Lib.hid (fun g hg=>(h.lt (g:=g) hg).2)
 clear h hn
 obtain ⟨Post,hPost⟩:∃ Post:Ending→World→Prop,(fun e w'=>∃ v',e = .returned v'∧OwP base w' v' (Bare.setP l p).length (pf (Bare.setP l p))∧Mods (fun g=>Value.ownBlock (.slice ao n cap)=some g) w w')=Post:=⟨_,rfl⟩
 have HPost:=Lib.hid hPost
 rw [hPost]
 clear hPost
 obtain ⟨W1,hW1⟩:∃ V,w.alloc (.cells (pcs p).toArray 83)=V:=⟨_,rfl⟩
 have hs1:W1.heap.size=w.heap.size + 1:=by rw [← hW1];simp
 have hW1':w.alloc (.cells #[.string (tx p.key),.int .u8 p.bare.kind,.int .i64 p.bare.int,.string (tx p.bare.text),.bool p.bare.yes] 83)=W1:=hW1
 rw [hW1] at hA rB
 obtain ⟨B,hB⟩:∃ b,w.heap.size=b:=⟨_,rfl⟩
 rw [hB] at rB hs1
 have hbB:base ≤ B:=by omega
 have hLB:Hid (∀ g,Value.ownBlock (.slice ao n cap)=some g→g < B):=Lib.hid fun g hg=>by have:=hLt.out g hg;omega
 have HR0:=Lib.hid rB
 unfold pcs
 go_enter Tryz.func172,Tryz.ntmps172
 go_upto_region 2 with fail
 clear hW1 hW1' hB hLt rB
 go_loopw [5] (fun t wr=>∃ k:Nat,k ≤ n∧t = .int .i64 k∧Hid (∀ j,j < k→(l.getD j noP).key ≠ p.key)∧New W1 wr) (fun t _=>n - (intOf t).toNat)
 case atStart=>exact ⟨0,Nat.zero_le _,rfl,Lib.hid fun i hi=>by omega,Mods.refl _ _⟩
 case round =>
  obtain ⟨k,hk,rfl,hbef,hN⟩:=hrel
  have ho:=HL.out.new (hA.trans hN)
  have rB:=hN.heap HR0.out id
  by_cases hlt:k < n
  ·have hkd:decide ((k:Int) < (n:Int))=true:=decide_eq_true (by omega)
   obtain ⟨g,og,rfl,-⟩:=(ho.row (by omega)).at.2.2 k hlt
   obtain rfl:og=0:=by
    rcases ho.2.2.2 with ⟨h,_⟩ | ⟨b',cap',cur,h,_⟩
    ·cases h
    ·cases h;rfl
   obtain ⟨b',o',e',hrw⟩:=(ho.row (by omega)).at.2.2 k hlt
   obtain ⟨rfl,rfl⟩:b'=g∧o'=0:=by cases e';exact ⟨rfl,rfl⟩
   rw [Nat.zero_add] at hrw
   obtain ⟨m0,m1,m2,m3,m4⟩:=cells5 hrw
   have hgB:b' < B:=hLB.out b' rfl
   obtain ⟨x,hx⟩:∃ x,l.getD k noP=x:=⟨_,rfl⟩
   have HX:=Lib.hid hx
   have m0:wr.cell? ⟨b',k * 5,none⟩=some (.string (tx x.key)):=by rw [← hx];exact m0
   obtain ⟨q0,q1,q2,q3,q4⟩:=par_cells rB
   have hey:=eq_tx (tx x.key) (tx p.key)
   rw [bl_tx,bl_tx] at hey
   by_cases heq:x.key=p.key
   ·rw [decide_eq_true heq] at hey
    have hset:=Lib.hid (setP_set (p:=p) hnd (show k < l.length by rw [Hn.out];exact hlt) (by rw [HX.out];exact heq))
    have z0:=ho.frozen rfl (k * 5)
    have z1:=ho.frozen rfl (k * 5 + 1)
    have z2:=ho.frozen rfl (k * 5 + 2)
    have z3:=ho.frozen rfl (k * 5 + 3)
    have z4:=ho.frozen rfl (k * 5 + 4)
    have HO:=Lib.hid ho
    have HM0:=Lib.hid m0
    have HQ:=Lib.hid q0
    have HTh:Hid (wr.there b' (k * 5) 5):=Lib.hid fun j hj=>by
     have:j=0 ∨ j=1 ∨ j=2 ∨ j=3 ∨ j=4:=by omega
     rcases this with rfl | rfl | rfl | rfl | rfl
     ·exact ⟨by rw [Nat.add_zero,m0];rfl,by rw [Nat.add_zero];exact z0⟩
     ·exact ⟨by rw [m1];rfl,z1⟩
     ·exact ⟨by rw [m2];rfl,z2⟩
     ·exact ⟨by rw [m3];rfl,z3⟩
     ·exact ⟨by rw [m4];rfl,z4⟩
    clear e' hrw m0 m1 m2 m3 m4 z0 z1 z2 z3 z4 ho hx heq hbef q0 q1 q2 q3 q4
    go_upto_region 4 with fail
    refine piece (fun _=>_) (putp4 _ rfl wr rfl rfl rfl HM0.out HQ.out hlt hey) ?_
    rintro a' w4 ⟨z,rfl,hN4⟩
    simp only [pS]
    have ho4:=HO.out.new hN4
    have hput:=Lib.hid (ho4.put hlt (.string (tx p.key)) (.int .u8 p.bare.kind) (.int .i64 p.bare.int) (.string (tx p.bare.text)) (.bool p.bare.yes) (pcs_one p))
    have hthere:w4.there b' (k * 5) 5:=fun j hj=>by
     obtain ⟨h1,h2⟩:=HTh.out j hj
     obtain ⟨u,hu⟩:=Option.isSome_iff_exists.1 h1
     exact ⟨by rw [hN4.cell hu id];rfl,by
      rcases ho4.2.2.2 with ⟨h,_⟩ | ⟨b2,cap',cur,h,_,hb,_⟩
      ·cases h
      ·cases h;exact frozen_row hb⟩
    have hN:=hN.trans hN4
    obtain ⟨q0,q1,q2,q3,q4⟩:=par_cells (hN4.heap rB id)
    clear ho4 HTh HO HM0 HQ rB
    go_wp2_with (refine wpList_store_midN rfl rfl 83 (.tmp 23) (.tmp 22) rfl b' (k * 5) (pcs p) rfl rfl hthere sizeP (pcs_one p) ?_)
    obtain ⟨W10,hW10⟩:∃ W10,w4.setCells b' (k * 5) (pcs p)=W10:=⟨_,rfl⟩
    have hp10:=hput.out
    have hW11:(((((w4.setCell ⟨b',k * 5 + 0,none⟩ (.string (tx p.key))).setCell ⟨b',k * 5 + 1,none⟩ (.int .u8 p.bare.kind)).setCell ⟨b',k * 5 + 2,none⟩ (.int .i64 p.bare.int)).setCell ⟨b',k * 5 + 3,none⟩ (.string (tx p.bare.text))).setCell ⟨b',k * 5 + 4,none⟩ (.bool p.bare.yes))=W10:=hW10
    rw [hW11] at hp10
    have hmg:Mods (fun x=>x=b') w4 W10:=by
     rw [← hW10]
     exact setCells_mods _ _ _ _
    rw [hW10]
    go_wp2_with fail
    rw [← HPost.out,hset.out]
    refine ⟨_,rfl,?_,((Mods.ofNew (hA.trans hN)).trans hmg).mono (fun g hg=>by rw [hg];rfl)⟩
    rw [List.length_set,Hn.out]
    refine hp10.congr (pf_len _) fun i hi=>?_
    unfold pf
    rw [getD_set]
    by_cases e:i=k
    ·subst e;rw [if_pos rfl,if_pos ⟨rfl,by rw [Hn.out];exact hi⟩];rfl
    ·rw [if_neg e,if_neg (fun h=>e h.1.symm)]
   ·rw [decide_eq_false heq] at hey
    have hh:Hid (∀ j,j < k + 1→(l.getD j noP).key ≠ p.key):=Lib.hid fun i hi=>by
     by_cases hik:i < k
     ·exact hbef.out i hik
     ·obtain rfl:i=k:=by omega
      rw [HX.out];exact heq
    have HM0:=Lib.hid m0
    have HQ:=Lib.hid q0
    clear e' hrw m0 m1 m2 m3 m4 ho hx heq hbef q0 q1 q2 q3 q4 rB
    go_upto_region 4 with fail
    refine piece (fun _=>_) (putp4 _ rfl wr rfl rfl rfl HM0.out HQ.out hlt hey) ?_
    rintro a' w4 ⟨z,rfl,hN4⟩
    simp only [pS]
    clear HM0 HQ
    go_wp2_with fail
    go_roundw
    case rel=>exact ⟨k + 1,by omega,by go_num,hh,hN.trans hN4⟩
    case measure=>simp [intOf];omega
  ·obtain rfl:k=n:=by omega
   have hkd:decide ((k:Int) < (k:Int))=false:=decide_eq_false (by omega)
   have hadd:=setP_add (p:=p) (fun i hi=>hbef.out i (by rw [Hn.out] at hi;exact hi))
   have HO:=Lib.hid ho
   obtain ⟨q0,q1,q2,q3,q4⟩:=par_cells rB
   have hwb:base ≤ wr.heap.size:=by have:=hN.size;omega
   clear hbef ho rB
   go_wp2_with (at_builtin;refine wpList_append_P (w:=wr) (c:=pcs p) _ _ rfl rfl rfl rfl rfl rfl (pcs_one p) HO.out (by omega) hwb ?_;intro v' W' ho' hm';obtain ⟨a',c',rfl⟩:=ho'.slice)
   go_wp2_with fail
   rw [← HPost.out,hadd]
   refine ⟨_,rfl,?_,hm' w _ (Mods.ofNew (hA.trans hN)) (fun g hg=>.inr hg)⟩
   rw [List.length_append,Hn.out]
   refine ho'.congr (pf_len _) fun i hi=>?_
   unfold pf
   by_cases e:i=k
   ·rw [if_pos e,e,List.getD_eq_getElem?_getD,List.getElem?_append_right (by rw [Hn.out];exact Nat.le_refl _),Hn.out,Nat.sub_self];rfl
   ·rw [if_neg e,List.getD_eq_getElem?_getD,List.getD_eq_getElem?_getD,List.getElem?_append_left (by rw [Hn.out];have:i < k + 1:=hi;omega)]


theorem begN_yes {s:ByteArray} {d:Nat} (hd:d < 256) (h:begN (bl s) d=true):0 < s.size∧bl s=UInt8.ofNat d::(bl s).drop 1:=by
 by_cases h0:s.size=0
 ·rw [begN_nil s d h0] at h;cases h
 ·rw [begN_at s d (by omega)] at h
  refine ⟨by omega,?_⟩
  conv=>lhs;rw [first_drop s (by omega)]
  congr 1
  rw [← UInt8.toNat_inj,of_decide_eq_true h]
  simp [Nat.mod_eq_of_lt hd]
theorem begN_no {s:ByteArray} {d:Nat} (hd:d < 256) (h:begN (bl s) d=false):(bl s).head? ≠ some (UInt8.ofNat d):=by
 by_cases h0:s.size=0
 ·have:bl s = []:=List.length_eq_zero_iff.1 (by rw [bl_len];exact h0)
  rw [this];intro h;cases h
 ·rw [begN_at s d (by omega)] at h
  rw [first_drop s (by omega)]
  intro e
  have e:gb s 0=UInt8.ofNat d:=Option.some.inj e
  refine of_decide_eq_false h ?_
  rw [e]
  simp [Nat.mod_eq_of_lt hd]
def ReadPs (r:Option (List Bare.Par × Bare.Bs)) (base:Nat) (e:Ending) (w':World):Prop:=match r with
 | none=>e = .returned (.tuple #[.slice none 0 0,.string ⟨#[]⟩,.bool false])
 | some (ps,q)=>∃ v,e = .returned (.tuple #[v,.string (tx q),.bool true])∧OwP base w' v ps.length (pf ps)
theorem readParams_r (s:ByteArray) (w:World) (hs:s.size ≤ 1000000) :
  Calls Tryz.prog 137 #[.string s] w fun e w'=>ReadPs (Bare.readParams [] (bl s)) w.heap.size e w'∧New w w':=by
 obtain ⟨R,hR⟩:∃ R,Bare.readParams [] (bl s)=R:=⟨_,rfl⟩
 have HR:=Lib.hid hR
 rw [hR]
 clear hR
 have hN0:New w w:=Mods.refl _ _
 obtain ⟨B,hB⟩:∃ B,w.heap.size=B:=⟨_,rfl⟩
 have hNs:Hid (∀ W,New w W→B ≤ W.heap.size):=Lib.hid fun W h=>by have:=h.size;omega
 have hBw:w.heap.size ≤ B:=by omega
 rw [hB]
 have ho0:=OwP.nil B w (pf []) (pf_len [])
 obtain ⟨Post,hPost⟩:∃ Post:Ending→World→Prop,(fun e w'=>ReadPs R B e w'∧New w w')=Post:=⟨_,rfl⟩
 have HPost:=Lib.hid hPost
 rw [hPost]
 clear hPost hB
 go_enter Tryz.func137,Tryz.ntmps137
 go_upto_region 2 with fail
 go_loopw [0,5] (fun t v wr=>∃ (q:ByteArray) (l:List Bare.Par),t = .string q∧q.size ≤ s.size∧OwP B wr v l.length (pf l)∧(l.map (·.key)).Nodup∧l.length + q.size ≤ s.size∧Hid (Bare.readParams l (bl q)=R)∧New w wr) (fun t _ _=>match t with | .string q=>q.size | _=>0)
 case atStart=>exact ⟨s,[],rfl,Nat.le_refl _,ho0,.nil,by simp,HR,hN0⟩
 case round =>
  clear HR ho0 hN0
  obtain ⟨wo,hwo⟩:∃ x,x=wr:=⟨_,rfl⟩
  subst hwo
  obtain ⟨q,l,rfl,hq,ho,hnd,hlen,HR,hN⟩:=hrel
  have HO:=Lib.hid ho
  obtain ⟨va,vc,rfl⟩:=ho.slice
  obtain ⟨n,hn⟩:∃ n,l.length=n:=⟨_,rfl⟩
  have Hn:=Lib.hid hn
  rw [hn] at HO hlen
  rw [hn]
  clear ho hn
  have hb:=Lib.hid (begins_r q 59 wo (by omega) (by decide))
  cases h59:begN (bl q) 59 with
  | false =>
   rw [h59] at hb
   have hend:=Bare.readParams_end l (bl q) (begN_no (by decide) h59)
   have hRR:R=some (l,bl q):=by rw [← HR.out,hend]
   clear HR h59 hend
   have hb:Hid (Calls Tryz.prog 79 #[.string q,.int .u8 59] wo fun e w'=>e = .returned (.bool false)∧w'=wo):=hb
   go_wp2_with (go_at_call 79;refine hb.out.mono ?_;rintro e w' ⟨rfl,rfl⟩)
   go_ret3
   rw [← HPost.out]
   subst hRR
   exact ⟨⟨.slice va n vc,by rw [tx_bl];rfl,by rw [Hn.out];exact HO.out⟩,hN⟩
  | true =>
   rw [h59] at hb
   obtain ⟨hq0,hq1⟩:=begN_yes (by decide) h59
   have hsl:∀ W,(Instr.slice 9 (.string q) (some (.int .i64 1)) none none).run Tryz.prog W = .ok (.string (tx ((bl q).drop 1))) W:=run_sl_l q 1 (by omega)
   have hRs:=HR.out
   rw [hq1,show (UInt8.ofNat 59:UInt8)=59 from rfl,Bare.readParams_semi] at hRs
   obtain ⟨r,hr⟩:∃ r,(bl q).drop 1=r:=⟨_,rfl⟩
   have hrl:r.length + 1=q.size:=by rw [← hr,List.length_drop,bl_len];omega
   rw [hr] at hsl hRs
   have HBl:=Lib.hid (blanks_r (tx r) false wo (by rw [tx_size];omega))
   rw [bl_tx,show blkL false = [32] from rfl] at HBl
   obtain ⟨s2,hs2⟩:∃ x,Bare.skipB [32] r=x:=⟨_,rfl⟩
   have hs2l:s2.length ≤ r.length:=by rw [← hs2];exact Bare.skip_len _ _
   rw [hs2] at HBl hRs
   have HKy:=Lib.hid (keyof_r (tx s2) wo (by rw [tx_size];omega))
   rw [bl_tx] at HKy
   obtain ⟨K,hK⟩:∃ x,Bare.keyOf s2=x:=⟨_,rfl⟩
   have hkey:Bare.readKey s2=if K.isEmpty then none else some (K,s2.drop K.length):=by unfold Bare.readKey;rw [hK]
   rw [hkey] at hRs
   rw [hK] at HKy
   obtain ⟨r1,hr1⟩:∃ x,s2.drop K.length=x:=⟨_,rfl⟩
   have hr1l:r1.length ≤ r.length:=by rw [← hr1,List.length_drop];omega
   rw [hr1] at HKy hRs
   have hb:Hid (Calls Tryz.prog 79 #[.string q,.int .u8 59] wo fun e w'=>e = .returned (.bool true)∧w'=wo):=hb
   obtain ⟨rx,hrx⟩:∃ x,tx r=x:=⟨_,rfl⟩
   rw [hrx] at hsl HBl
   obtain ⟨sx2,hsx2⟩:∃ x,tx s2=x:=⟨_,rfl⟩
   rw [hsx2] at HBl HKy
   obtain ⟨KX,hKX⟩:∃ x,tx K=x:=⟨_,rfl⟩
   rw [hKX] at HKy
   obtain ⟨x1,hx1⟩:∃ x,tx r1=x:=⟨_,rfl⟩
   rw [hx1] at HKy
   have hx1s:x1.size=r1.length:=by rw [← hx1,tx_size]
   have hx1b:bl x1=r1:=by rw [← hx1,bl_tx]
   have hR2:=Lib.hid hRs
   clear HR h59 hq1 hr hRs hs2 hK hkey hr1 hrx hsx2
   go_upto_region 4 with (first | (go_at_call 79;refine hb.out.mono ?_;rintro e w' ⟨rfl,rfl⟩) | (go_at_call 76;refine HBl.out.mono ?_;rintro e w' ⟨rfl,rfl⟩) | (go_at_call 134;refine HKy.out.mono ?_;rintro e w4 ⟨rfl,hN4⟩))
   clear hb HBl HKy hsl
   cases hem:K.isEmpty with
   | true =>
    have hRR:R=none:=by rw [← hR2.out,hem];rfl
    clear hR2 hem hKX hx1 hx1s hx1b
    go_wp2_with fail
    go_ret3
    rw [← HPost.out]
    subst hRR
    exact ⟨rfl,hN.trans hN4⟩
   | false =>
    have hR3:=hR2.out
    rw [hem] at hR3
    simp only [Bool.false_eq_true,if_false] at hR3
    replace hR3:=Lib.hid hR3
    clear hR2 hem hx1
    have HO4:=Lib.hid (HO.out.new hN4)
    have hNw:=hN.trans hN4
    clear HO hN hN4
    have rP:=World.alloc_heap_new w4 (.cells #[.string KX,.int .u8 6,.int .i64 0,.string ⟨#[]⟩,.bool true] 83)
    have hA:New w4 (w4.alloc (.cells #[.string KX,.int .u8 6,.int .i64 0,.string ⟨#[]⟩,.bool true] 83)):=(Mods.refl _ _).alloc _
    go_upto_region 7 with fail
    obtain ⟨w5,hw5⟩:∃ V,w4.alloc (.cells #[.string KX,.int .u8 6,.int .i64 0,.string ⟨#[]⟩,.bool true] 83)=V:=⟨_,rfl⟩
    obtain ⟨P,hP⟩:∃ b,w4.heap.size=b:=⟨_,rfl⟩
    rw [hw5] at rP hA ⊢
    rw [hP] at rP ⊢
    have hPB:B ≤ P:=by have:=hNs.out _ hNw;omega
    have HOlt:Hid (∀ g,Value.ownBlock (.slice va n vc)=some g→B ≤ g∧g < P):=Lib.hid fun g hg=>by have:=HO4.out.lt hg;omega
    replace HO4:=Lib.hid (HO4.out.new hA)
    replace hNw:=hNw.trans hA
    clear hw5 hP hA
    have hb:=Lib.hid (begins_r x1 61 w5 (by omega) (by decide))
    rw [hx1b] at hb
    cases h61:begN r1 61 with
    | false =>
     have hno:=begN_no (s:=x1) (d:=61) (by decide) (by rw [hx1b];exact h61)
     rw [hx1b] at hno
     have hval:Bare.readVal r1=some (Bare.yesI,r1):=by
      unfold Bare.readVal
      split
      ·exact absurd rfl hno
      ·rfl
     have hR4:=hR3.out
     rw [hval] at hR4
     simp only at hR4
     replace hR4:=Lib.hid hR4
     rw [h61] at hb
     have hb:Hid (Calls Tryz.prog 79 #[.string x1,.int .u8 61] w5 fun e w'=>e = .returned (.bool false)∧w'=w5):=hb
     have HPp:=Lib.hid (putParam_r (base:=B) (.slice va n vc) l ⟨K,Bare.yesI⟩ w5 (by rw [Hn.out];exact HO4.out) hnd (by rw [Hn.out];omega) (by have:=hNs.out _ hNw;exact this))
     unfold pcs Bare.yesI at HPp
     simp only at HPp
     rw [hKX] at HPp
     have HPp:Hid (Calls Tryz.prog 172 #[.slice va n vc,.agg #[.string KX,.int .u8 6,.int .i64 0,.string ⟨#[]⟩,.bool true]] w5 fun e w'=>∃ v',e = .returned v'∧OwP B w' v' (Bare.setP l ⟨K,Bare.yesI⟩).length (pf (Bare.setP l ⟨K,Bare.yesI⟩))∧Mods (fun g=>Value.ownBlock (.slice va n vc)=some g) w5 w'):=HPp
     have k0:=cell_of_row _ _ 0 _ _ _ rP
     have k1:=cell_of_row _ _ 1 _ _ _ rP
     have k2:=cell_of_row _ _ 2 _ _ _ rP
     have k3:=cell_of_row _ _ 3 _ _ _ rP
     have k4:=cell_of_row _ _ 4 _ _ _ rP
     simp only [List.getElem?_toArray,List.getElem?_cons_zero,List.getElem?_cons_succ] at k0 k1 k2 k3 k4
     clear hR3 h61 hno hval
     go_wp2_with (first | (go_at_call 79;refine hb.out.mono ?_;rintro e w' ⟨rfl,rfl⟩) | (go_at_call 172;refine HPp.out.mono ?_;rintro e w9 ⟨v9,rfl,ho9,hm9⟩))
     go_roundw
     case rel=>exact ⟨x1,Bare.setP l ⟨K,Bare.yesI⟩,rfl,by omega,ho9,setP_nodup hnd,by have:=setP_len l ⟨K,Bare.yesI⟩;have:=Hn.out;omega,by rw [hx1b];exact hR4,((Mods.ofNew hNw).trans hm9).new (fun g hg=>by have:=(HOlt.out g hg).1;omega)⟩
     case measure=>simp;omega
    | true =>
     obtain ⟨hx0,hx2⟩:=begN_yes (s:=x1) (d:=61) (by decide) (by rw [hx1b];exact h61)
     rw [hx1b] at hx2
     have hsl:∀ W,(Instr.slice 9 (.string x1) (some (.int .i64 1)) none none).run Tryz.prog W = .ok (.string (tx ((bl x1).drop 1))) W:=run_sl_l x1 1 (by omega)
     rw [hx1b] at hsl
     obtain ⟨r1',hr1'⟩:∃ x,r1.drop 1=x:=⟨_,rfl⟩
     have hr1l':r1'.length ≤ r1.length:=by rw [← hr1',List.length_drop];omega
     rw [hr1'] at hsl hx2
     have hval:Bare.readVal r1=Bare.parseI r1':=by rw [hx2];rfl
     have hR4:=hR3.out
     rw [hval] at hR4
     have HPa:=parse_r (tx r1') w5 (by rw [tx_size];omega)
     rw [bl_tx] at HPa
     rw [h61] at hb
     have hb:Hid (Calls Tryz.prog 79 #[.string x1,.int .u8 61] w5 fun e w'=>e = .returned (.bool true)∧w'=w5):=hb
     obtain ⟨xx,hxx⟩:∃ x,tx r1'=x:=⟨_,rfl⟩
     rw [hxx] at hsl HPa
     clear hR3 h61 hval hx2 hr1' hxx
     cases hp:Bare.parseI r1' with
     | none =>
      rw [hp] at HPa hR4
      simp only at hR4
      have HPa:Hid (Calls Tryz.prog 10 #[.string xx] w5 fun e w'=>e = .returned (.tuple #[.agg #[.int .u8 0,.int .i64 0,.string ⟨#[]⟩,.bool false],.string ⟨#[]⟩,.int .i64 120])∧New w5 w'):=HPa
      clear hp
      go_upto_region 9 with (first | (go_at_call 79;refine hb.out.mono ?_;rintro e w' ⟨rfl,rfl⟩) | (go_at_call 10;refine HPa.out.mono ?_;rintro e w6 ⟨rfl,hN6⟩))
      have hA6:New w6 (w6.alloc (.cells #[.int .u8 0,.int .i64 0,.string ⟨#[]⟩,.bool false] 23)):=(Mods.refl _ _).alloc _
      clear hb HPa hsl
      go_wp2_with fail
      go_ret3
      rw [← HPost.out]
      subst hR4
      exact ⟨rfl,(hNw.trans hN6).trans hA6⟩
     | some br =>
      obtain ⟨⟨bk,bn,bt,by'⟩,r2⟩:=br
      have hpl:=Bare.parseI_len hp
      rw [hp] at HPa hR4
      simp only at hR4
      obtain ⟨BT,hBT⟩:∃ x,tx bt=x:=⟨_,rfl⟩
      obtain ⟨x2,hx2⟩:∃ x,tx r2=x:=⟨_,rfl⟩
      have hx2s:x2.size=r2.length:=by rw [← hx2,tx_size]
      have hx2b:bl x2=r2:=by rw [← hx2,bl_tx]
      have HPa:Hid (Calls Tryz.prog 10 #[.string xx] w5 fun e w'=>e = .returned (.tuple #[.agg #[.int .u8 bk,.int .i64 bn,.string BT,.bool by'],.string x2,.int .i64 0])∧New w5 w'):=by
       rw [← hBT,← hx2]
       exact Lib.hid HPa
      replace hR4:=Lib.hid hR4
      clear hp hx2
      go_upto_region 9 with (first | (go_at_call 79;refine hb.out.mono ?_;rintro e w' ⟨rfl,rfl⟩) | (go_at_call 10;refine HPa.out.mono ?_;rintro e w6 ⟨rfl,hN6⟩))
      have hA6:New w6 (w6.alloc (.cells #[.int .u8 bk,.int .i64 bn,.string BT,.bool by'] 23)):=(Mods.refl _ _).alloc _
      have rQ:=World.alloc_heap_new w6 (.cells #[.int .u8 bk,.int .i64 bn,.string BT,.bool by'] 23)
      obtain ⟨w7,hw7⟩:∃ V,w6.alloc (.cells #[.int .u8 bk,.int .i64 bn,.string BT,.bool by'] 23)=V:=⟨_,rfl⟩
      obtain ⟨Q,hQ⟩:∃ b,w6.heap.size=b:=⟨_,rfl⟩
      rw [hw7] at rQ hA6 ⊢
      rw [hQ] at rQ ⊢
      have rP7:=(hN6.trans hA6).heap rP id
      have hN7:=(hNw.trans hN6).trans hA6
      have HO7:=Lib.hid (HO4.out.new (hN6.trans hA6))
      clear hb HPa hsl hw7 hQ hA6 hN6 rP HO4 hNw
      have k0:=cell_of_row _ _ 0 _ _ _ rQ
      have k1:=cell_of_row _ _ 1 _ _ _ rQ
      have k2:=cell_of_row _ _ 2 _ _ _ rQ
      have k3:=cell_of_row _ _ 3 _ _ _ rQ
      simp only [List.getElem?_toArray,List.getElem?_cons_zero,List.getElem?_cons_succ] at k0 k1 k2 k3
      have hthere:w7.there P 1 4:=fun j hj=>by
       have:j=0 ∨ j=1 ∨ j=2 ∨ j=3:=by omega
       rcases this with rfl | rfl | rfl | rfl
       ·exact ⟨by rw [cell_of_row _ _ 1 _ _ _ rP7];rfl,frozen_row (i:=1) rP7⟩
       ·exact ⟨by rw [cell_of_row _ _ 2 _ _ _ rP7];rfl,frozen_row (i:=2) rP7⟩
       ·exact ⟨by rw [cell_of_row _ _ 3 _ _ _ rP7];rfl,frozen_row (i:=3) rP7⟩
       ·exact ⟨by rw [cell_of_row _ _ 4 _ _ _ rP7];rfl,frozen_row (i:=4) rP7⟩
      have hone:=one4 bk bn BT by'
      have HRP:=Lib.hid rP7
      clear rQ rP7
      go_upto_region 12 with (refine wpList_store_midN rfl rfl 23 (.tmp 41) (.tmp 39) rfl P 1 [.int .u8 bk,.int .i64 bn,.string BT,.bool by'] rfl rfl hthere info_bare hone ?_)
      obtain ⟨w8,hW8⟩:∃ w8,w7.setCells P 1 [.int .u8 bk,.int .i64 bn,.string BT,.bool by']=w8:=⟨_,rfl⟩
      rw [hW8]
      have rP8:w8.heap[P]? = some (.cells #[.string KX,.int .u8 bk,.int .i64 bn,.string BT,.bool by'] 83 (0,0)):=by
       have:=setCell_heap (i:=4) (setCell_heap (i:=3) (setCell_heap (i:=2) (setCell_heap (i:=1) HRP.out (.int .u8 bk)) (.int .i64 bn)) (.string BT)) (.bool by')
       have e:((((w7.setCell ⟨P,1,none⟩ (.int .u8 bk)).setCell ⟨P,2,none⟩ (.int .i64 bn)).setCell ⟨P,3,none⟩ (.string BT)).setCell ⟨P,4,none⟩ (.bool by'))=w8:=hW8
       rw [e] at this
       exact this
      have hmP:Mods (fun x=>x=P) w7 w8:=by
       rw [← hW8]
       exact setCells_mods _ _ _ _
      have hN8:New w w8:=((Mods.ofNew hN7).trans hmP).new (fun g hg=>by omega)
      have HO8:=Lib.hid (HO7.out.mods hmP (fun g hg e=>by have:=(HOlt.out g hg).2;omega))
      clear hthere hW8 hmP k0 k1 k2 k3 hN7 HO7 HRP
      have HPp:=Lib.hid (putParam_r (base:=B) (.slice va n vc) l ⟨K,⟨bk,bn,bt,by'⟩⟩ w8 (by rw [Hn.out];exact HO8.out) hnd (by rw [Hn.out];omega) (by have:=hNs.out _ hN8;exact this))
      unfold pcs at HPp
      simp only at HPp
      rw [hKX,hBT] at HPp
      obtain ⟨p,hpp⟩:∃ p:Bare.Par,(⟨K,⟨bk,bn,bt,by'⟩⟩:Bare.Par)=p:=⟨_,rfl⟩
      rw [hpp] at HPp hR4
      have k0:=cell_of_row _ _ 0 _ _ _ rP8
      have k1:=cell_of_row _ _ 1 _ _ _ rP8
      have k2:=cell_of_row _ _ 2 _ _ _ rP8
      have k3:=cell_of_row _ _ 3 _ _ _ rP8
      have k4:=cell_of_row _ _ 4 _ _ _ rP8
      simp only [List.getElem?_toArray,List.getElem?_cons_zero,List.getElem?_cons_succ] at k0 k1 k2 k3 k4
      clear rP8 hpp
      go_wp2_with (go_at_call 172;refine HPp.out.mono ?_;rintro e w9 ⟨v9,rfl,ho9,hm9⟩)
      go_roundw
      case rel=>exact ⟨x2,Bare.setP l p,rfl,by omega,ho9,setP_nodup hnd,by have:=setP_len l p;have:=Hn.out;omega,by rw [hx2b];exact hR4,((Mods.ofNew hN8).trans hm9).new (fun g hg=>by have:=(HOlt.out g hg).1;omega)⟩
      case measure=>simp;omega


theorem item_end {fn:Func} {R:Ending→World→Prop} {tmps:Array Value} {W:World} {B:Nat} {a b c d g v v2:Value} (hf:fn.results = #[.cell 2 85,.tmp 3,.tmp 4]) (hp:tmps.getD 2 undef = .pointer (some ⟨B,0,none⟩)) (hq:tmps.getD 3 undef=v) (hr:tmps.getD 4 undef=v2)
  (hg:W.heap[B]? = some (.cells #[a,b,c,d,g] 85 (0,0))) (hR:R (.returned (.tuple #[.agg #[a,b,c,d,g],v,v2])) W):bodyPost Tryz.prog fn R .ret ⟨tmps,[]⟩ W :=
 bodyPost_ret (results_row3 (p:=2) (q:=3) (r:=4) hf tmps W B 85 #[a,b,c,d,g] (0,0) _ hp hg Tryz.underlying85 rfl sizeX hq hr) rfl hR
def ReadX (r:Option (Bare.Itm × Bare.Bs)) (base:Nat) (e:Ending) (w':World):Prop:=match r with
 | none=>∃ (k n:Int) (t:ByteArray) (y:Bool),e = .returned (.tuple #[.agg #[.int .u8 k,.int .i64 n,.string t,.bool y,.slice none 0 0],.string ⟨#[]⟩,.bool false])
 | some (x,q)=>∃ (pa:Option Addr) (pc:Nat),e = .returned (.tuple #[.agg (ics x (.slice pa x.params.length pc)).toArray,.string (tx q),.bool true])∧OwP base w' (.slice pa x.params.length pc) x.params.length (pf x.params)
theorem readItem_r (s:ByteArray) (w:World) (hs:s.size ≤ 1000000) :
  Calls Tryz.prog 136 #[.string s] w fun e w'=>ReadX (Bare.readItem (bl s)) w.heap.size e w'∧New w w':=by
 obtain ⟨R,hR⟩:∃ R,Bare.readItem (bl s)=R:=⟨_,rfl⟩
 have HR:=Lib.hid hR
 rw [hR]
 clear hR
 have hA:New w (w.alloc (.cells #[.int .u8 0,.int .i64 0,.string ⟨#[]⟩,.bool false,.slice none 0 0] 85)):=(Mods.refl _ _).alloc _
 have rB:=World.alloc_heap_new w (.cells #[.int .u8 0,.int .i64 0,.string ⟨#[]⟩,.bool false,.slice none 0 0] 85)
 have HPa:=Lib.hid (fun W=>parse_r s W hs)
 have HPs:=Lib.hid (fun q h W=>readParams_r q W h)
 obtain ⟨Post,hPost⟩:∃ Post:Ending→World→Prop,(fun e w'=>ReadX R w.heap.size e w'∧New w w')=Post:=⟨_,rfl⟩
 have HPost:=Lib.hid hPost
 rw [hPost]
 clear hPost
 go_enter Tryz.func136,Tryz.ntmps136
 go_upto_region 1 with fail
 obtain ⟨W1,hW1⟩:∃ V,w.alloc (.cells #[.int .u8 0,.int .i64 0,.string ⟨#[]⟩,.bool false,.slice none 0 0] 85)=V:=⟨_,rfl⟩
 obtain ⟨B,hB⟩:∃ B,w.heap.size=B:=⟨_,rfl⟩
 rw [hW1] at hA rB ⊢
 rw [hB] at rB ⊢
 have HB:=Lib.hid hB
 have hBw:w.heap.size ≤ B:=by omega
 clear hW1 hB
 cases hp:Bare.parseI (bl s) with
 | none =>
  have hRR:R=none:=by rw [← HR.out];unfold Bare.readItem;rw [hp]
  have HP:Hid (∀ W,Calls Tryz.prog 10 #[.string s] W fun e w'=>e = .returned (.tuple #[.agg #[.int .u8 0,.int .i64 0,.string ⟨#[]⟩,.bool false],.string ⟨#[]⟩,.int .i64 120])∧New W w'):=Lib.hid fun W=>(HPa.out W).mono fun e w' h=>by rw [hp] at h;exact h
  clear HPa HPs hp HR
  go_upto_region 2 with (go_at_call 10;refine (HP.out _).mono ?_;rintro e w2 ⟨rfl,hN2⟩)
  have hA2:New w2 (w2.alloc (.cells #[.int .u8 0,.int .i64 0,.string ⟨#[]⟩,.bool false] 23)):=(Mods.refl _ _).alloc _
  obtain ⟨w3,hw3⟩:∃ V,w2.alloc (.cells #[.int .u8 0,.int .i64 0,.string ⟨#[]⟩,.bool false] 23)=V:=⟨_,rfl⟩
  rw [hw3] at hA2 ⊢
  have rB3:=(hN2.trans hA2).heap rB id
  clear hw3
  go_wp2_with (refine op_skip rfl (run_store_row 85 (.tmp 2) (.tmp 18) rfl B rfl 85 [.int .u8 0,.int .i64 0,.string ⟨#[]⟩,.bool false,.slice none 0 0] [.int .u8 0,.int .i64 0,.string ⟨#[]⟩,.bool false,.slice none 0 0] rfl rB3 sizeX rfl (by intro x hx;simp only [List.mem_cons,List.not_mem_nil,or_false] at hx;rcases hx with rfl | rfl | rfl | rfl | rfl <;> rfl)) ?_)
  have hrow:=setRow_heap w3 B _ #[.int .u8 0,.int .i64 0,.string ⟨#[]⟩,.bool false,.slice none 0 0] _ _ rB3
  refine item_end (by kernel_rfl) rfl rfl rfl hrow ?_
  rw [← HPost.out]
  subst hRR
  exact ⟨⟨0,0,_,false,rfl⟩,((hA.trans hN2).trans hA2).setRow hBw _⟩
 | some br =>
  obtain ⟨⟨bk,bn,bt,by'⟩,r⟩:=br
  have hpl:=Bare.parseI_len hp
  rw [bl_len] at hpl
  obtain ⟨BT,hBT⟩:∃ x,tx bt=x:=⟨_,rfl⟩
  have HBT:=Lib.hid hBT
  obtain ⟨rx,hrx⟩:∃ x,tx r=x:=⟨_,rfl⟩
  have hrs:rx.size=r.length:=by rw [← hrx,tx_size]
  have hrb:bl rx=r:=by rw [← hrx,bl_tx]
  have HP:Hid (∀ W,Calls Tryz.prog 10 #[.string s] W fun e w'=>e = .returned (.tuple #[.agg #[.int .u8 bk,.int .i64 bn,.string BT,.bool by'],.string rx,.int .i64 0])∧New W w'):=Lib.hid fun W=>(HPa.out W).mono fun e w' h=>by rw [hp] at h;rw [← hBT,← hrx];exact h
  have hRs:(match Bare.readParams [] r with | none=>none | some (ps,r')=>some ((⟨⟨bk,bn,bt,by'⟩,ps⟩:Bare.Itm),r'))=R:=by rw [← HR.out];unfold Bare.readItem;rw [hp];rfl
  have HRs:=Lib.hid hRs
  have HQ:=Lib.hid (fun W=>HPs.out rx (by omega) W)
  rw [hrb] at HQ
  clear HPa HPs hp HR hRs hBT hrx
  go_upto_region 2 with (go_at_call 10;refine (HP.out _).mono ?_;rintro e w2 ⟨rfl,hN2⟩)
  have hA2:New w2 (w2.alloc (.cells #[.int .u8 bk,.int .i64 bn,.string BT,.bool by'] 23)):=(Mods.refl _ _).alloc _
  have rQ:=World.alloc_heap_new w2 (.cells #[.int .u8 bk,.int .i64 bn,.string BT,.bool by'] 23)
  obtain ⟨w3,hw3⟩:∃ V,w2.alloc (.cells #[.int .u8 bk,.int .i64 bn,.string BT,.bool by'] 23)=V:=⟨_,rfl⟩
  obtain ⟨Q,hQ⟩:∃ b,w2.heap.size=b:=⟨_,rfl⟩
  rw [hw3] at hA2 rQ ⊢
  rw [hQ] at rQ ⊢
  have rB3:=(hN2.trans hA2).heap rB id
  have hN3:=(hA.trans hN2).trans hA2
  have hBs:B < w3.heap.size:=(Array.getElem?_eq_some_iff.1 rB3).1
  clear hw3 hQ HP hN2 hA2 rB hA
  have HQ3:=HQ.out w3
  unfold ReadPs at HQ3
  have HQ3:=Lib.hid HQ3
  clear HQ
  cases hq:Bare.readParams [] r with
  | none =>
   have hRR:R=none:=by rw [← HRs.out,hq]
   rw [hq] at HQ3
   simp only at HQ3
   clear hq HRs
   go_upto_region 5 with (go_at_call 137;refine HQ3.out.mono ?_;rintro e w4 ⟨rfl,hN4⟩)
   have rB4:=hN4.heap rB3 id
   have rQ4:=hN4.heap rQ id
   obtain ⟨⟨c0,c1,c2,c3⟩,-⟩:=row_facts rQ4
   clear HQ3 rB3 rQ
   go_wp2_with (refine op_skip rfl (run_store_row 85 (.tmp 2) (.tmp 27) rfl B rfl 85 [.int .u8 0,.int .i64 0,.string ⟨#[]⟩,.bool false,.slice none 0 0] [.int .u8 bk,.int .i64 bn,.string BT,.bool by',.slice none 0 0] rfl rB4 sizeX rfl (by intro x hx;simp only [List.mem_cons,List.not_mem_nil,or_false] at hx;rcases hx with rfl | rfl | rfl | rfl | rfl <;> rfl)) ?_)
   have hrow:=setRow_heap w4 B _ #[.int .u8 bk,.int .i64 bn,.string BT,.bool by',.slice none 0 0] _ _ rB4
   refine item_end (by kernel_rfl) rfl rfl rfl hrow ?_
   rw [← HPost.out]
   subst hRR
   exact ⟨⟨bk,bn,_,by',rfl⟩,(hN3.trans hN4).setRow hBw _⟩
  | some pr =>
   obtain ⟨ps,r'⟩:=pr
   have hRR:R=some (⟨⟨bk,bn,bt,by'⟩,ps⟩,r'):=by rw [← HRs.out,hq]
   rw [hq] at HQ3
   simp only at HQ3
   obtain ⟨rx',hrx'⟩:∃ x,tx r'=x:=⟨_,rfl⟩
   have HRX:=Lib.hid hrx'
   rw [hrx'] at HQ3
   clear hq HRs hrx'
   go_upto_region 5 with (go_at_call 137;refine HQ3.out.mono ?_;rintro e w4 ⟨⟨v4,rfl,ho4⟩,hN4⟩;obtain ⟨pa,pc,rfl⟩:=ho4.slice)
   have rB4:=hN4.heap rB3 id
   have rQ4:=hN4.heap rQ id
   have HO4:=Lib.hid ho4
   obtain ⟨⟨c0,c1,c2,c3⟩,-⟩:=row_facts rQ4
   obtain ⟨pn,hpn⟩:∃ n,ps.length=n:=⟨_,rfl⟩
   have HPN:=Lib.hid hpn
   rw [hpn] at HO4 ⊢
   clear HQ3 rB3 rQ ho4 hpn
   go_wp2_with (refine op_skip rfl (run_store_row 85 (.tmp 2) (.tmp 27) rfl B rfl 85 [.int .u8 0,.int .i64 0,.string ⟨#[]⟩,.bool false,.slice none 0 0] [.int .u8 bk,.int .i64 bn,.string BT,.bool by',.slice pa pn pc] rfl rB4 sizeX rfl (by intro x hx;simp only [List.mem_cons,List.not_mem_nil,or_false] at hx;rcases hx with rfl | rfl | rfl | rfl | rfl <;> rfl)) ?_)
   have hrow:=setRow_heap w4 B _ #[.int .u8 bk,.int .i64 bn,.string BT,.bool by',.slice pa pn pc] _ _ rB4
   have hmR:=mods_setRow rB4 #[.int .u8 bk,.int .i64 bn,.string BT,.bool by',.slice pa pn pc]
   refine item_end (by kernel_rfl) rfl rfl rfl hrow ?_
   rw [← HPost.out]
   subst hRR
   refine ⟨⟨pa,pc,?_,?_⟩,(hN3.trans hN4).setRow hBw _⟩
   ·rw [HRX.out]
    unfold ics
    simp only
    rw [HBT.out,HPN.out]
    rfl
   ·show OwP _ _ (.slice pa ps.length pc) ps.length (pf ps)
    rw [HPN.out]
    exact (HO4.out.mods hmR (fun g hg e=>by have:=(HO4.out.lt hg).1;omega)).mono (by omega)
end Go.Proofs.YtnknmmbnhoanfaaGreatDoor
