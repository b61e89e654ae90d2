/- Texts joined. -/
import Derived.Test.YtkiiameibdhdfaaGreatDoorE02
import Derived.Test.YtkiiameibdhdfaaGreatDoorE03
import Derived.Test.YtkiiameibdhdfaaGreatDoorE07
import Derived.Test.YtkiiameibdhdfaaGreatDoorE08
import Derived.Test.YtkiiameibdhdfaaGreatDoorE05
import Derived.Test.YtkiiameibdhdfaaGreatDoorE06
import Derived.Test.YtkiiameibdhdfaaGreatDoorE12
import Derived.Test.YtkiiameibdhdfaaGreatDoorE09
import Derived.Test.YtkiiameibdhdfaaGreatDoorE13
import Derived.Test.YtkiiameibdhdfaaGreatDoorE10
import Derived.Deep.CutBlock
import Derived.Deep.DeepCutAuto
set_option linter.unusedSimpArgs false
set_option linter.unusedVariables false
set_option maxHeartbeats 16000000
set_option maxRecDepth 100000
namespace Go.Proofs.YtkiiameibdhdfaaGreatDoor
open Go.RowKit Go.Shelf Go.Cs
attribute [local go_sem] Oper.semAt_some


theorem digit_r:PredB 127 #[] Bare.digB:=by
 intro c w
 unfold Bare.digB
 obtain ⟨n,hn⟩:∃ n,c.toNat=n:=⟨_,rfl⟩
 rw [hn]
 clear hn
 by_cases h1:48 ≤ n
 ·by_cases h2:n ≤ 57
  ·go_enter Tryz.func127,Tryz.ntmps127
   go_wp2_with fail
   go_ret
   refine ⟨congrArg (fun b=>Ending.returned (.bool b)) ?_,rfl⟩
   rw [Bool.eq_iff_iff]
   first | done | (simp;done) | (simp;omega) | (constructor <;> intro h <;> simp_all <;> omega)
  ·go_enter Tryz.func127,Tryz.ntmps127
   go_wp2_with fail
   go_ret
   refine ⟨congrArg (fun b=>Ending.returned (.bool b)) ?_,rfl⟩
   rw [Bool.eq_iff_iff]
   first | done | (simp;done) | (simp;omega) | (constructor <;> intro h <;> simp_all <;> omega)
 ·go_enter Tryz.func127,Tryz.ntmps127
  go_wp2_with fail
  go_ret
  refine ⟨congrArg (fun b=>Ending.returned (.bool b)) ?_,rfl⟩
  rw [Bool.eq_iff_iff]
  first | done | (simp;done) | (simp;omega) | (constructor <;> intro h <;> simp_all <;> omega)
theorem letter_r:PredB 126 #[] Bare.letB:=by
 intro c w
 unfold Bare.letB
 obtain ⟨n,hn⟩:∃ n,c.toNat=n:=⟨_,rfl⟩
 rw [hn]
 clear hn
 have hcase:(97 ≤ n∧n ≤ 122) ∨ (97 ≤ n∧122 < n) ∨ (n < 97∧90 < n) ∨ (65 ≤ n∧n ≤ 90) ∨ n < 65:=by omega
 rcases hcase with ⟨h1,h2⟩ | ⟨h1,h2⟩ | ⟨h1,h2⟩ | ⟨h1,h2⟩ | h1
 all_goals
  go_enter Tryz.func126,Tryz.ntmps126
  go_wp2_with fail
  go_ret
  refine ⟨congrArg (fun b=>Ending.returned (.bool b)) ?_,rfl⟩
  rw [Bool.eq_iff_iff]
  first | done | (simp;done) | (simp;omega) | (constructor <;> intro h <;> simp_all <;> omega)
theorem mark_r:PredB 128 #[] (fun c=>Bare.marks.contains c):=by
 intro c w
 obtain ⟨r,hr⟩:∃ r,Bare.marks.contains c=r:=⟨_,rfl⟩
 have hy:∀ k,k < 17→gb (tx Bare.marks) k=c→r=true:=fun k hk hg=>by
  rw [← hr,← hg,List.contains_iff_mem]
  have:=gb_get (tx Bare.marks) k hk
  rw [bl_tx] at this
  exact List.mem_of_getElem? this
 have hn:(∀ k,k < 17→gb (tx Bare.marks) k ≠ c)→r=false:=fun h=>by
  rw [← hr,Bool.eq_false_iff]
  intro hc
  rw [List.contains_iff_mem] at hc
  obtain ⟨k,hk⟩:=List.mem_iff_getElem?.1 hc
  have hk1:k < 17:=(List.getElem?_eq_some_iff.1 hk).1
  have:=gb_get (tx Bare.marks) k hk1
  rw [bl_tx,hk] at this
  exact h k hk1 (Option.some.inj this).symm
 show Calls _ _ (#[Value.int .u8 (c.toNat:Nat)] ++ #[]) w fun e w'=>e = .returned (.bool (Bare.marks.contains c))∧w'=w
 rw [hr]
 clear hr
 have hi:∀ k,k < 17→∀ W,(Instr.index 9 (.string ⟨#[33,35,36,37,38,39,42,43,45,46,94,95,96,124,126,58,47]⟩) (.int .i64 (k:Nat))).run Tryz.prog W = .ok (.int .u8 ((gb (tx Bare.marks) k).toNat:Nat)) W:=fun k hk=>run_idx (tx Bare.marks) k hk
 go_enter Tryz.func128,Tryz.ntmps128
 go_wp2_with fail
 go_loop [4] (fun c'=>∃ k:Nat,k ≤ 17∧c' = .int .i64 k∧Hid (∀ j,j < k→gb (tx Bare.marks) j ≠ c)) (fun c=>17 - (intOf c).toNat)
 case atStart=>exact ⟨0,Nat.zero_le _,rfl,Lib.hid fun i hi=>by omega⟩
 case round =>
  obtain ⟨k,hk,rfl,hbef⟩:=hrel
  by_cases hlt:k < 17
  ·have hix:=hi k hlt
   have hnext:gb (tx Bare.marks) k ≠ c→Hid (∀ j,j < k + 1→gb (tx Bare.marks) j ≠ c):=fun hg=>Lib.hid fun i hi=>by
    by_cases hik:i < k
    ·exact hbef.out i hik
    ·obtain rfl:i=k:=by omega
     exact hg
   have hstop:=hy k hlt
   by_cases hg:gb (tx Bare.marks) k=c
   ·have hh:=hstop hg
    rw [hg] at hix
    clear hnext hstop hg hbef hi hy hn
    subst hh
    obtain ⟨n,hn⟩:∃ n,c.toNat=n:=⟨_,rfl⟩
    rw [hn] at hix ⊢
    go_wp2_with fail
    go_ret
    exact ⟨rfl,rfl⟩
   ·have hh:=hnext hg
    have hne:((gb (tx Bare.marks) k).toNat:Int) ≠ (c.toNat:Int):=fun e=>hg (UInt8.toNat_inj.1 (Int.ofNat_inj.1 e))
    obtain ⟨m,hm⟩:∃ m,(gb (tx Bare.marks) k).toNat=m:=⟨_,rfl⟩
    rw [hm] at hix hne
    obtain ⟨n,hn⟩:∃ n,c.toNat=n:=⟨_,rfl⟩
    rw [hn] at hne ⊢
    have heq:((m:Int) == (n:Int))=false:=by simpa using hne
    clear hnext hstop hg hbef hi hy hm hne
    go_wp2_with fail
    go_round
    case rel=>exact ⟨k + 1,by omega,by go_num,hh⟩
    case measure=>simp [intOf];omega
  ·obtain rfl:k=17:=by omega
   have hh:=hn hbef.out
   clear hi hy hn hbef
   subst hh
   go_wp2_with fail
   go_ret
   exact ⟨rfl,rfl⟩


theorem tok_bad2 (k:Nat) (c:UInt8):((k == 0 && (!Bare.letB c && !(c == 42))) || (!Bare.letB c && (!Bare.digB c && !Bare.marks.contains c))) = !tokAt k c:=by
 have h42:c=42→Bare.marks.contains c=true:=by rintro rfl;decide
 unfold tokAt Bare.headTok Bare.inTok
 by_cases hk:k=0
 ·subst hk
  by_cases h:c=42
  ·have hm:=h42 h
   have hb:(c == 42)=true:=by simpa using h
   rw [hm,hb,if_pos rfl]
   cases Bare.letB c <;> cases Bare.digB c <;> rfl
  ·have hb:(c == 42)=false:=by simpa using h
   rw [hb,if_pos rfl]
   cases Bare.letB c <;> cases Bare.digB c <;> cases Bare.marks.contains c <;> rfl
 ·have:(k == 0)=false:=by simpa using hk
  rw [if_neg hk,this]
  cases Bare.letB c <;> cases Bare.digB c <;> cases Bare.marks.contains c <;> rfl
theorem token_r (s:ByteArray) (w:World) (hs:s.size ≤ 9223372036854775807) :
    Calls Tryz.prog 77 #[.string s] w fun e w'=>e = .returned (.bool (Bare.tokB (bl s)))∧w'=w:=by
  have HB:=Lib.hid (tokB_at (bl s))
  obtain ⟨r,hr⟩:∃ r,Bare.tokB (bl s)=r:=⟨_,rfl⟩
  rw [hr] at HB ⊢
  clear hr
  go_enter Tryz.func77,Tryz.ntmps77
  go_wp2_with fail
  go_loop [3,4] (fun c _=>∃ k:Nat,k ≤ s.size∧c = .int .i64 k∧Hid (∀ j,j < k→tokAt j (gb s j)=true)) (fun c _=>s.size - (intOf c).toNat)
  case atStart=>exact ⟨0,Nat.zero_le _,rfl,Lib.hid fun i hi=>by omega⟩
  case round =>
    obtain ⟨k,hk,rfl,hbef⟩:=hrel
    by_cases hlt:k < s.size
    · have hix:=run_idx s k hlt
      have hnext:tokAt k (gb s k)=true→Hid (∀ j,j < k + 1→tokAt j (gb s j)=true):=fun hg=>Lib.hid fun i hi=>by
        by_cases hik:i < k
        · exact hbef.out i hik
        · obtain rfl:i=k:=by omega
          exact hg
      have hstop:tokAt k (gb s k)=false→r=false:=fun hg=>by
        rw [Bool.eq_false_iff]
        intro h
        have:=(HB.out.1 h).2 k _ (gb_get s k hlt)
        rw [hg] at this;cases this
      have Hbad:=Lib.hid (tok_bad2 k (gb s k))
      have HL:=Lib.hid (letter_r (gb s k))
      have HD:=Lib.hid (digit_r (gb s k))
      have HM:∀ W,Calls Tryz.prog 128 (#[Value.int .u8 ((gb s k).toNat:Nat)] ++ #[]) W fun e w'=>e = .returned (.bool (Bare.marks.contains (gb s k)))∧w'=W:=mark_r (gb s k)
      replace HM:=Lib.hid HM
      have hEM:(gb s k == 42)=true→Bare.marks.contains (gb s k)=true:=fun h=>by rw [eq_of_beq h];decide
      have h42:((gb s k) == 42)=decide (((gb s k).toNat:Int)=42):=by
        rw [Bool.eq_iff_iff,beq_iff_eq,decide_eq_true_eq,← UInt8.toNat_inj]
        show (gb s k).toNat=42 ↔ _
        omega
      have hk0:(k == 0)=decide ((k:Int)=0):=by
        rw [Bool.eq_iff_iff,beq_iff_eq,decide_eq_true_eq];omega
      rw [h42,hk0] at Hbad
      rw [h42] at hEM
      clear hbef h42 hk0
      obtain ⟨T,hT⟩:∃ x,tokAt k (gb s k)=x:=⟨_,rfl⟩
      obtain ⟨L,hL⟩:∃ x,Bare.letB (gb s k)=x:=⟨_,rfl⟩
      obtain ⟨D,hD⟩:∃ x,Bare.digB (gb s k)=x:=⟨_,rfl⟩
      obtain ⟨M,hM⟩:∃ x,Bare.marks.contains (gb s k)=x:=⟨_,rfl⟩
      rw [hT] at Hbad hnext hstop
      rw [hL] at Hbad HL
      rw [hD] at Hbad HD
      rw [hM] at Hbad HM hEM
      obtain ⟨n,hn⟩:∃ x,(gb s k).toNat=x:=⟨_,rfl⟩
      rw [hn] at HL HD HM Hbad hix hEM
      clear hT hL hD hM hn
      obtain ⟨E,hE⟩:∃ x,decide ((n:Int)=42)=x:=⟨_,rfl⟩
      have hE2:((n:Int) == 42)=E:=hE
      have hE3:((n:Int) != 42) = !E:=by rw [← hE2];rfl
      obtain ⟨Z,hZ⟩:∃ x,decide ((k:Int)=0)=x:=⟨_,rfl⟩
      have hZ2:((k:Int) == 0)=Z:=hZ
      rw [hE,hZ] at Hbad
      rw [hE] at hEM
      have hcase:(Z=true∧L=true∧T=true) ∨ (Z=false∧L=true∧T=true) ∨ (Z=true∧L=false∧E=true∧D=true∧T=true) ∨ (Z=true∧L=false∧E=true∧D=false∧M=true∧T=true) ∨ (Z=true∧L=false∧E=false∧T=false) ∨ (Z=false∧L=false∧D=true∧T=true) ∨ (Z=false∧L=false∧D=false∧M=true∧T=true) ∨ (Z=false∧L=false∧D=false∧M=false∧T=false):=by
        have:=Hbad.out
        revert this hEM
        cases L <;> cases E <;> cases Z <;> cases D <;> cases M <;> cases T <;> simp
      clear Hbad hEM
      rcases hcase with ⟨rfl,rfl,rfl⟩ | ⟨rfl,rfl,rfl⟩ | ⟨rfl,rfl,rfl,rfl,rfl⟩ | ⟨rfl,rfl,rfl,rfl,rfl,rfl⟩ | ⟨rfl,rfl,rfl,rfl⟩ | ⟨rfl,rfl,rfl,rfl⟩ | ⟨rfl,rfl,rfl,rfl,rfl⟩ | ⟨rfl,rfl,rfl,rfl,rfl⟩
      all_goals
        try simp only [Bool.not_true,Bool.not_false] at hE3
        first
        | (have hh:=hnext rfl
           clear hnext hstop
           go_wp2_with (first | (go_at_call 126;refine (HL.out _).mono ?_;rintro e w' ⟨rfl,rfl⟩) | (go_at_call 127;refine (HD.out _).mono ?_;rintro e w' ⟨rfl,rfl⟩) | (go_at_call 128;refine (HM.out _).mono ?_;rintro e w' ⟨rfl,rfl⟩))
           go_round
           case rel=>exact ⟨k + 1,by omega,by go_num,hh⟩
           case measure=>simp [intOf];omega)
        | (have hh:=hstop rfl
           clear hnext hstop
           subst hh
           go_wp2_with (first | (go_at_call 126;refine (HL.out _).mono ?_;rintro e w' ⟨rfl,rfl⟩) | (go_at_call 127;refine (HD.out _).mono ?_;rintro e w' ⟨rfl,rfl⟩) | (go_at_call 128;refine (HM.out _).mono ?_;rintro e w' ⟨rfl,rfl⟩))
           go_ret
           exact ⟨rfl,rfl⟩)
    · obtain rfl:k=s.size:=by omega
      have hr:r=decide (0 < s.size):=by
        rw [Bool.eq_iff_iff,HB.out,decide_eq_true_eq]
        have hl:=bl_len s
        constructor
        · rintro ⟨h,-⟩
          have:=List.length_pos_iff.2 h
          omega
        · intro h
          refine ⟨fun e=>by rw [e] at hl;simp at hl;omega,fun k c hk=>?_⟩
          obtain ⟨h1,rfl⟩:=get_gb hk
          exact hbef.out k h1
      subst hr
      clear HB hbef
      by_cases h0:0 < s.size
      · go_wp2_with fail
        go_ret
        exact ⟨by simp [h0],rfl⟩
      · go_wp2_with fail
        go_ret
        exact ⟨by simp [h0],rfl⟩


theorem gb_six (k:Nat) (h:k < 64):gb (tx Bare.sx) k=Bare.s6 k:=by
 have:=gb_get (tx Bare.sx) k h
 rw [bl_tx] at this
 unfold Bare.s6
 rw [List.getD_eq_getElem?_getD,this]
 rfl


theorem run_sx (k:Nat) (h:k < 64) (W:World):(Instr.index 9 (.string ⟨#[65,66,67,68,69,70,71,72,73,74,75,76,77,78,79,80,81,82,83,84,85,86,87,88,89,90,97,98,99,100,101,102,103,104,105,106,107,108,109,110,111,112,113,114,115,116,117,118,119,120,121,122,48,49,50,51,52,53,54,55,56,57,43,47]⟩) (.int .i64 (k:Nat))).run Tryz.prog W = .ok (.int .u8 ((Bare.s6 k).toNat:Nat)) W:=by
 have:=run_idx (tx Bare.sx) k h W
 rw [gb_six k h] at this
 exact this
theorem lit67 (t:Array Value) (h:t.size=67):∃ u:Nat→Value,t=(u 0::u 1::u 2::u 3::u 4::u 5::u 6::u 7::u 8::u 9::u 10::u 11::u 12::u 13::u 14::u 15::u 16::u 17::u 18::u 19::u 20::u 21::u 22::u 23::u 24::u 25::u 26::u 27::u 28::u 29::u 30::u 31::u 32::u 33::u 34::u 35::u 36::u 37::u 38::u 39::u 40::u 41::u 42::u 43::u 44::u 45::u 46::u 47::u 48::u 49::u 50::u 51::u 52::u 53::u 54::u 55::u 56::u 57::u 58::u 59::u 60::u 61::u 62::u 63::u 64::u 65::u 66::([]:List Value)).toArray:=⟨fun i=>t.getD i undef,range_lit t 67 h⟩
noncomputable def reg_causeyref12_Sixes_13:Code:=((Tryz.f79.body.bind (regionOf 13)).getD .skip)
theorem sixes13 (t:Array Value) (hs:t.size=67) (w:World) {N a0 a1 a2 a3:Nat}
  (hq5:t.getD 5 undef = .int .i64 N)
  (e0:(N:Int) / 262144=(a0:Int)) (e1:(N:Int) / 4096 % 64=(a1:Int)) (e2:(N:Int) / 64 % 64=(a2:Int)) (e3:(N:Int) % 64=(a3:Int)) (h0:a0 < 64) (h1:a1 < 64) (h2:a2 < 64) (h3:a3 < 64) (w0:IntKind.i64.wrap (a0:Int)=(a0:Int)) (w1:IntKind.i64.wrap ((N:Int) / 4096)=(N:Int) / 4096) (w2:IntKind.i64.wrap ((N:Int) / 64)=(N:Int) / 64) :
  reg_causeyref12_Sixes_13.wp Tryz.prog (Only fun a' W'=>∃ z:Nat→Value,∃ X,a'=⟨((pz t z [38,39,40,41,42,43,44,45,46,47,48,49,50,51,52]).setIfInBounds 8 (.slice (some ⟨X,0,none⟩) 4 4)),[]⟩∧W'.heap[X]? = some (.cells #[.int .u8 ((Bare.s6 a0).toNat:Nat),.int .u8 ((Bare.s6 a1).toNat:Nat),.int .u8 ((Bare.s6 a2).toNat:Nat),.int .u8 ((Bare.s6 a3).toNat:Nat)] 5 (0,0))∧w.heap.size ≤ X∧New w W') ⟨t,[]⟩ w:=by
 conv=>arg 2;whnf
 obtain ⟨u,rfl⟩:=lit67 t hs
 have hq5:u 5 = _:=hq5
 rw [hq5]
 clear hq5 hs
 refine wp_region_held (S:=fun W=>New w W) (by kernel_rfl) ?_
 show wpAnyH _ _ _ _ _ 16 _ _ w.drew
 have hN:New w w.drew:=(Mods.refl _ _).drew
 have hS:New w w.drew:=(Mods.refl _ _).drew
 refine tkI 0 (some 38) (.int .i64 N) hS ?_
 simp only [pS]
 refine tkA 1 rfl (some 39) (.int .i64 a0) (.inl ⟨by rfl,fun W hW=>by go_simp;first | done | exact w0 | exact e0⟩) hS ?_
 simp only [pS]
 refine tkA 2 rfl (some 40) (.int .u8 ((Bare.s6 a0).toNat:Nat)) (.inl ⟨by rfl,fun W hW=>by have hz:=run_sx a0 h0 W;go_simp⟩) hS ?_
 simp only [pS]
 refine tkI 3 (some 41) (.int .i64 N) hS ?_
 simp only [pS]
 refine tkA 4 rfl (some 42) (.int .i64 ((N:Int) / 4096)) (.inl ⟨by rfl,fun W hW=>by go_simp;first | done | exact w1⟩) hS ?_
 simp only [pS]
 refine tkA 5 rfl (some 43) (.int .i64 a1) (.inl ⟨by rfl,fun W hW=>by go_simp;first | done | exact e1⟩) hS ?_
 simp only [pS]
 refine tkA 6 rfl (some 44) (.int .u8 ((Bare.s6 a1).toNat:Nat)) (.inl ⟨by rfl,fun W hW=>by have hz:=run_sx a1 h1 W;go_simp⟩) hS ?_
 simp only [pS]
 refine tkI 7 (some 45) (.int .i64 N) hS ?_
 simp only [pS]
 refine tkA 8 rfl (some 46) (.int .i64 ((N:Int) / 64)) (.inl ⟨by rfl,fun W hW=>by go_simp;first | done | exact w2⟩) hS ?_
 simp only [pS]
 refine tkA 9 rfl (some 47) (.int .i64 a2) (.inl ⟨by rfl,fun W hW=>by go_simp;first | done | exact e2⟩) hS ?_
 simp only [pS]
 refine tkA 10 rfl (some 48) (.int .u8 ((Bare.s6 a2).toNat:Nat)) (.inl ⟨by rfl,fun W hW=>by have hz:=run_sx a2 h2 W;go_simp⟩) hS ?_
 simp only [pS]
 refine tkI 11 (some 49) (.int .i64 N) hS ?_
 simp only [pS]
 refine tkA 12 rfl (some 50) (.int .i64 a3) (.inl ⟨by rfl,fun W hW=>by go_simp;first | done | exact e3⟩) hS ?_
 simp only [pS]
 refine tkA 13 rfl (some 51) (.int .u8 ((Bare.s6 a3).toNat:Nat)) (.inl ⟨by rfl,fun W hW=>by have hz:=run_sx a3 h3 W;go_simp⟩) hS ?_
 simp only [pS]
 refine tkO 14 ?_
 refine opH_value (some 52) rfl (by rfl) rfl (v:=.slice (some ⟨w.drew.heap.size,0,none⟩) 4 4) (w':=w.drew.alloc (.cells #[.int .u8 ((Bare.s6 a0).toNat:Nat),.int .u8 ((Bare.s6 a1).toNat:Nat),.int .u8 ((Bare.s6 a2).toNat:Nat),.int .u8 ((Bare.s6 a3).toNat:Nat)] 5)) (by go_simp) ?_
 have hA:New w.drew (w.drew.alloc (.cells #[.int .u8 ((Bare.s6 a0).toNat:Nat),.int .u8 ((Bare.s6 a1).toNat:Nat),.int .u8 ((Bare.s6 a2).toNat:Nat),.int .u8 ((Bare.s6 a3).toNat:Nat)] 5)):=(Mods.refl _ _).alloc _
 have rX:=World.alloc_heap_new w.drew (.cells #[.int .u8 ((Bare.s6 a0).toNat:Nat),.int .u8 ((Bare.s6 a1).toNat:Nat),.int .u8 ((Bare.s6 a2).toNat:Nat),.int .u8 ((Bare.s6 a3).toNat:Nat)] 5)
 have hS:=hS.trans hA
 refine ⟨hS,?_⟩
 simp only [pS]
 refine tkI 15 (some 8) (.slice (some ⟨w.drew.heap.size,0,none⟩) 4 4) hS ?_
 simp only [pS]
 refine wpAnyH_done (by kernel_rfl) ?_ _
 exact zc1 _ rfl ⟨rX,hN.size,hS⟩
def nv (l:Bare.Bs):Nat→Nat
 | 0=>0
 | m + 1=>nv l m * 256 + (l.getD m 0).toNat
theorem nv_chunk (l:Bare.Bs):(Bare.chunk l).1=nv l 3:=by
 unfold Bare.chunk nv nv nv nv
 simp only
 omega
theorem nv_lt (l:Bare.Bs):nv l 2 ≤ 65535∧nv l 1 ≤ 255∧nv l 0=0:=by
 unfold nv nv nv
 have h0:=UInt8.toNat_lt (l.getD 0 0)
 have h1:=UInt8.toNat_lt (l.getD 1 0)
 omega
theorem nv_small (l:Bare.Bs) {m:Nat} (h:m < 3):nv l m ≤ 65535:=by
 have:=nv_lt l
 rcases (by omega:m=0 ∨ m=1 ∨ m=2) with rfl | rfl | rfl <;> omega
theorem sixes_step {l:Bare.Bs} (h:l ≠ []):Bare.sixes l=Bare.four (Bare.chunk l) ++ Bare.sixes (l.drop 3):=by
 rw [Bare.sixes_four,Bare.chunks_cons h,List.flatMap_cons,← Bare.sixes_four]
theorem four_cells {N h a0 a1 a2 a3:Nat} (e0:(N:Int) / 262144=(a0:Int)) (e1:(N:Int) / 4096 % 64=(a1:Int)) (e2:(N:Int) / 64 % 64=(a2:Int)) (e3:(N:Int) % 64=(a3:Int)) (h0:a0 < 64) (hh:1 ≤ h) :
  u8s (Bare.four (N,h)) = [.int .u8 ((Bare.s6 a0).toNat:Nat),.int .u8 ((Bare.s6 a1).toNat:Nat),.int .u8 ((if h < 2 then 61 else Bare.s6 a2).toNat:Nat),.int .u8 ((if h < 3 then 61 else Bare.s6 a3).toNat:Nat)]:=by
 have f0:N / 2 ^ (18 - 6 * 0) % 64=a0:=by simp;omega
 have f1:N / 2 ^ (18 - 6 * 1) % 64=a1:=by simp;omega
 have f2:N / 2 ^ (18 - 6 * 2) % 64=a2:=by simp;omega
 have f3:N / 2 ^ (18 - 6 * 3) % 64=a3:=by simp;omega
 unfold Bare.four Bare.letterOf
 simp only [f0,f1,f2,f3]
 rw [if_neg (by omega:¬ h < 0),if_neg (by omega:¬ h < 1)]
 rfl
theorem sixes_r (s:ByteArray) (w:World) (hs:s.size ≤ 1000000) :
  Calls Tryz.prog 79 #[.string s] w fun e w'=>e = .returned (.string (tx (Bare.sixes (bl s))))∧New w w':=by
 obtain ⟨i0,hi,hz0,hz1,hz2⟩:=info_parts infoB'
 obtain ⟨R,hR⟩:∃ R,Bare.sixes (bl s)=R:=⟨_,rfl⟩
 have HR:Hid (([]:Bare.Bs) ++ Bare.sixes ((bl s).drop 0)=R):=Lib.hid (by simpa using hR)
 rw [hR]
 clear hR
 have hN0:New w w:=Mods.refl _ _
 obtain ⟨B,hB⟩:∃ B,w.heap.size=B:=⟨_,rfl⟩
 have hown0:=World.ownsRow_nil w B 5 1
 have hNs:∀ W,New w W→B ≤ W.heap.size:=fun W h=>by have:=h.size;omega
 go_enter Tryz.func79,Tryz.ntmps79
 go_upto_region 3 with fail
 go_loopw [3,4] (fun v i W=>∃ (j:Nat) (acc:Bare.Bs),j ≤ s.size + 2∧i = .int .i64 j∧acc.length ≤ 2 * j∧W.ownsRow B 5 1 v acc.length (u8s acc)∧New w W∧Hid (acc ++ Bare.sixes ((bl s).drop j)=R)) (fun _ i _=>s.size + 3 - (intOf i).toNat)
 case atStart=>exact ⟨0,[],by omega,rfl,by simp,hown0,hN0,HR⟩
 case round =>
  clear HR hN0 hown0
  obtain ⟨wo,hwo⟩:∃ x,x=wr:=⟨_,rfl⟩
  subst hwo
  obtain ⟨j,acc,hj,rfl,hal,hown,hN,HR⟩:=hrel
  by_cases hlt:j < s.size
  ·obtain ⟨l,hl⟩:∃ l,(bl s).drop j=l:=⟨_,rfl⟩
   have hll:l.length=s.size - j:=by rw [← hl,List.length_drop,bl_len]
   have hlg:∀ m,j + m < s.size→l.getD m 0=gb s (j + m):=fun m hm=>by
    rw [← hl,List.getD_eq_getElem?_getD,List.getElem?_drop,gb_get s (j + m) hm];rfl
   have hl0:∀ m,¬ j + m < s.size→l.getD m 0=0:=fun m hm=>by
    rw [List.getD_eq_getElem?_getD,List.getElem?_eq_none (by omega)];rfl
   have hst:=sixes_step (l:=l) (by intro e;rw [e] at hll;simp at hll;omega)
   have hR2:acc ++ (Bare.four (Bare.chunk l) ++ Bare.sixes ((bl s).drop (j + 3)))=R:=by
    rw [← HR.out,hl,hst,← hl,List.drop_drop]
   have HR2:=Lib.hid hR2
   obtain ⟨hv,hhv⟩:∃ h,s.size - j=h:=⟨_,rfl⟩
   have hv1:1 ≤ hv:=by omega
   have hjv:s.size=j + hv:=by omega
   have HL:=Lib.hid (And.intro hlg hl0)
   have HOW:=Lib.hid hown
   have hch:Bare.chunk l=(nv l 3,min 3 hv):=by
    rw [← nv_chunk]
    unfold Bare.chunk
    rw [hll,hhv]
   have HCH:=Lib.hid hch
   have HJV:=Lib.hid hjv
   have hsj:(s.size:Int)=(j:Int) + (hv:Int):=by omega
   have hjb:(j:Int) + (hv:Int) ≤ 1000000:=by omega
   clear hst hR2 hlg hl0 hown HR hl hll hhv hch hjv
   go_upto_region 7 with fail
   go_loop [5,6,7] (fun a b c=>∃ m:Nat,m ≤ 3∧a = .int .i64 (nv l m:Nat)∧b = .int .i64 (min m hv:Nat)∧c = .int .i64 m) (fun _ _ c=>3 - (intOf c).toNat)
   case atStart=>exact ⟨0,by omega,rfl,by simp,rfl⟩
   case round =>
    obtain ⟨m,hm,rfl,rfl,rfl⟩:=hrel
    by_cases hm3:m < 3
    ·have hb:=nv_small l hm3
     obtain ⟨x,hx⟩:∃ x,nv l m=x:=⟨_,rfl⟩
     have hx1:nv l (m + 1)=x * 256 + (l.getD m 0).toNat:=by rw [← hx];rfl
     rw [hx] at hb ⊢
     by_cases hin:m < hv
     ·have hmi:min m hv=m:=by omega
      have hmi2:min (m + 1) hv=m + 1:=by omega
      have hsz:=HJV.out
      have hix:=run_idx s (j + m) (by omega)
      have hg:=HL.out.1 m (by omega)
      have hix2:∀ W,(Instr.index 9 (.string s) (.int .i64 ((j:Int) + (m:Int)))).run Tryz.prog W = .ok (.int .u8 ((l.getD m 0).toNat:Nat)) W:=fun W=>by rw [hg];exact hix W
      obtain ⟨b,hbb⟩:∃ b,(l.getD m 0).toNat=b:=⟨_,rfl⟩
      have hb256:b < 256:=by rw [← hbb];exact UInt8.toNat_lt _
      rw [hbb] at hix2 hx1
      rw [hmi]
      have hlj:(j:Int) + (m:Int) < (j:Int) + (hv:Int):=by omega
      clear hmi hix hg hbb hx hsz
      go_wp2_with fail
      go_round
      case rel=>exact ⟨m + 1,by omega,by rw [hx1];go_num,by rw [hmi2];go_num,by go_num⟩
      case measure=>simp [intOf];omega
     ·have hmi:min m hv=hv:=by omega
      have hmi2:min (m + 1) hv=hv:=by omega
      have hg:=HL.out.2 m (by have:=HJV.out;omega)
      rw [hg] at hx1
      rw [hmi]
      have hlj:¬ (j:Int) + (m:Int) < (j:Int) + (hv:Int):=by omega
      clear hmi hg hx
      go_wp2_with fail
      go_round
      case rel=>exact ⟨m + 1,by omega,by rw [hx1];simp,by rw [hmi2],by go_num⟩
      case measure=>simp [intOf];omega
    ·obtain rfl:m=3:=by omega
     have hNlt:nv l 3 < 16777216:=by rw [← nv_chunk];exact Bare.chunk_lt l
     have HCH2:=HCH.out
     obtain ⟨N,hNN⟩:∃ N,nv l 3=N:=⟨_,rfl⟩
     obtain ⟨h,hh⟩:∃ h,min 3 hv=h:=⟨_,rfl⟩
     have hh13:1 ≤ h∧h ≤ 3:=by omega
     obtain ⟨hh1,hh3⟩:=hh13
     rw [hNN] at hNlt HCH2 ⊢
     rw [hh] at HCH2 ⊢
     replace HCH2:=Lib.hid HCH2
     clear hNN hh hm hm3
     obtain ⟨a0,e0,h0⟩:∃ a:Nat,(N:Int) / 262144=(a:Int)∧a < 64:=⟨N / 262144,by omega,by omega⟩
     obtain ⟨a1,e1,h1⟩:∃ a:Nat,(N:Int) / 4096 % 64=(a:Int)∧a < 64:=⟨N / 4096 % 64,by omega,by omega⟩
     obtain ⟨a2,e2,h2⟩:∃ a:Nat,(N:Int) / 64 % 64=(a:Int)∧a < 64:=⟨N / 64 % 64,by omega,by omega⟩
     obtain ⟨a3,e3,h3⟩:∃ a:Nat,(N:Int) % 64=(a:Int)∧a < 64:=⟨N % 64,by omega,by omega⟩
     have HF:=Lib.hid (four_cells e0 e1 e2 e3 h0 hh1)
     go_upto_region 13 with fail
     refine piece (fun _=>_) (sixes13 _ rfl wo rfl e0 e1 e2 e3 h0 h1 h2 h3 (IntWalk.i64_in _ ⟨by omega,by omega⟩) (IntWalk.i64_in _ ⟨by omega,by omega⟩) (IntWalk.i64_in _ ⟨by omega,by omega⟩)) ?_
     rintro a' W1 ⟨z,X,rfl,rX,hXw,hN1⟩
     simp only [pS]
     have ho1:=Mods.ownsRow hN1 HOW.out (fun _ _ h=>h)
     have HOlt:=Lib.hid HOW.out.lt
     have HO1:=Lib.hid ho1
     clear e0 e1 e2 e3 h0 h1 h2 h3 hNlt ho1
     go_upto_region 15 with fail
     go_loopw [9] (fun t W=>∃ m:Nat,h + 1 ≤ m∧m ≤ 4∧t = .int .i64 m∧W.heap[X]? = some (.cells #[.int .u8 ((Bare.s6 a0).toNat:Nat),.int .u8 ((Bare.s6 a1).toNat:Nat),.int .u8 ((if h < 2∧2 < m then 61 else Bare.s6 a2).toNat:Nat),.int .u8 ((if h < 3∧3 < m then 61 else Bare.s6 a3).toNat:Nat)] 5 (0,0))∧Mods (fun b=>b=X) W1 W) (fun t _=>4 - (intOf t).toNat)
     case atStart=>exact ⟨h + 1,by omega,by omega,by go_num,by rw [if_neg (by omega),if_neg (by omega)];exact rX,Mods.refl _ _⟩
     case round =>
      obtain ⟨m,hm1,hm4,rfl,rX2,hM⟩:=hrel
      clear rX
      have hXl:=(Array.getElem?_eq_some_iff.1 rX2).1
      by_cases hlt4:m < 4
      ·have hmd:decide ((m:Int) < 4)=true:=decide_eq_true (by omega)
       rcases (by omega:m=2 ∨ m=3) with rfl | rfl
       ·have c2:=cell_of_row _ _ 2 _ _ _ rX2
        have f2:=frozen_row (i:=2) rX2
        have s2:=setCell_heap (i:=2) rX2 (.int .u8 61)
        simp only [List.getElem?_toArray,List.getElem?_cons_zero,List.getElem?_cons_succ] at c2
        simp only [pS] at s2
        have hM2:=hM.trans (setMods wr X 2 (.int .u8 61))
        clear rX2
        go_wp2_with fail
        go_roundw
        case rel=>exact ⟨3,by omega,by omega,by go_num,by rw [s2,if_pos (show h < 2∧2 < 3 by omega),if_neg (show ¬ (h < 3∧3 < 3) by omega),if_neg (show ¬ (h < 3∧3 < 2) by omega)];rfl,hM2⟩
        case measure=>simp [intOf]
       ·have c2:=cell_of_row _ _ 3 _ _ _ rX2
        have f2:=frozen_row (i:=3) rX2
        have s2:=setCell_heap (i:=3) rX2 (.int .u8 61)
        simp only [List.getElem?_toArray,List.getElem?_cons_zero,List.getElem?_cons_succ] at c2
        simp only [pS] at s2
        have hM2:=hM.trans (setMods wr X 3 (.int .u8 61))
        clear rX2
        go_wp2_with fail
        go_roundw
        case rel=>exact ⟨4,by omega,by omega,by go_num,by rw [s2,if_pos (show h < 3∧3 < 4 by omega)];congr 6;simp,hM2⟩
        case measure=>simp [intOf]
      ·obtain rfl:m=4:=by omega
       have ho2:=Mods.ownsRow hM HO1.out (fun g hg e=>by have:=(HOlt.out g hg).2;omega)
       have hN2:New w wr:=((Mods.ofNew (hN.trans hN1)).trans hM).new (fun g hg=>by have:=hNs _ hN;omega)
       have hf:=HF.out
       have e2:(if h < 2∧2 < 4 then (61:UInt8) else Bare.s6 a2)=if h < 2 then 61 else Bare.s6 a2:=by congr 1;simp
       have e3:(if h < 3∧3 < 4 then (61:UInt8) else Bare.s6 a3)=if h < 3 then 61 else Bare.s6 a3:=by congr 1;simp
       rw [e2,e3] at rX2
       have rX3:wr.heap[X]? = some (.cells (u8s (Bare.four (N,h))).toArray 5 (0,0)):=by rw [hf];exact rX2
       obtain ⟨F,hF⟩:∃ F,Bare.four (N,h)=F:=⟨_,rfl⟩
       have hFl:F.length=4:=by rw [← hF];rfl
       rw [hF] at rX3
       have HFF:=Lib.hid hF
       have hlu:(u8s F).length=4:=by rw [u8s_len];exact hFl
       have hou:∀ u ∈ u8s F,u.oneCell'=true:=fun u hu=>by
        obtain ⟨c,-,rfl⟩:=List.mem_map.1 hu
        rfl
       have HRX:=Lib.hid rX3
       have HO2:=Lib.hid ho2
       have hBW:=hNs _ hN2
       clear rX2 e2 e3 hf hF HF hm1 hm4 hlt4 rX3 ho2
       go_wp2_with (at_builtin;refine wpList_append_own _ rfl _ _ 113 rfl B 5 i0 _ 1 1 Tryz.underlying113 hi hz0 hz1 hz2 rfl (by decide) _ _ _ rfl HO2.out ⟨X,0,none⟩ 4 4 (u8s F) rfl (by rw [hlu]) (fun k u hk=>by rw [add_at,cell_of_row _ _ _ _ _ _ HRX.out];simpa using hk) hou (by unfold maxLen;omega) (by have:=HO2.out.1;omega) (by omega) ?_)
       intro v' W3 hown' hgrow _
       have hN3:New w W3:=hN2.grown hgrow (fun g hg=>.inl (by have:=(HO2.out.lt g hg).1;omega))
       have hown3:W3.ownsRow B 5 1 v' (acc ++ F).length (u8s (acc ++ F)):=by
        have:u8s (acc ++ F)=u8s acc ++ u8s F:=by simp [u8s]
        rw [this,List.length_append,hFl]
        exact hown'
       clear hown' hgrow
       go_wp2_with fail
       go_roundw
       case rel=>exact ⟨j + 3,acc ++ F,by omega,by go_num,by rw [List.length_append,hFl];omega,hown3,hN3,Lib.hid (by
        have:=HR2.out
        rw [HCH2.out,HFF.out] at this
        rw [List.append_assoc]
        exact this)⟩
       case measure=>simp [intOf];omega
  ·have hlj:¬ (j:Int) < (s.size:Int):=by omega
   have hnil:(bl s).drop j = []:=List.drop_eq_nil_of_le (by rw [bl_len];omega)
   have hac:acc=R:=by rw [← HR.out,hnil];simp [Bare.sixes]
   subst hac
   have hcv:=conv_own (w:=wo) hown
   clear HR hnil
   go_wp2_with fail
   go_ret
   exact ⟨rfl,hN⟩


theorem drop_one (s:ByteArray) (k:Nat) (h:k < s.size):(bl s).drop k=gb s k::(bl s).drop (k + 1):=by
 have hl:k < (bl s).length:=by rw [bl_len];exact h
 rw [List.drop_eq_getElem_cons hl]
 have:=gb_get s k h
 rw [List.getElem?_eq_getElem hl] at this
 rw [Option.some.inj this]


theorem first_drop (s:ByteArray) (h:0 < s.size):bl s=gb s 0::(bl s).drop 1:=by
 have:=drop_one s 0 h
 rw [List.drop_zero] at this
 exact this


def othB (c:UInt8):Bool:=Bare.digB c || [95,45,46].contains c
theorem sml_of {c:UInt8} {n:Nat} (hn:c.toNat=n):Bare.smlB c=((decide (97 ≤ n) && decide (n ≤ 122)) || decide (n=42)):=by
 unfold Bare.smlB
 rw [hn]
 congr 1
 rw [Bool.eq_iff_iff,beq_iff_eq,decide_eq_true_eq]
 constructor
 ·rintro rfl;rw [← hn];rfl
 ·intro h;rw [← UInt8.toNat_inj,hn,h];rfl
theorem oth_of {c:UInt8} {n:Nat} (hn:c.toNat=n):othB c=((decide (48 ≤ n) && decide (n ≤ 57)) || (decide (n=95) || (decide (n=45) || decide (n=46)))):=by
 have e:∀ d:Nat,d < 256→(c == UInt8.ofNat d)=decide (n=d):=fun d hd=>by
  rw [Bool.eq_iff_iff,beq_iff_eq,decide_eq_true_eq]
  constructor
  ·rintro rfl;rw [← hn];simp [Nat.mod_eq_of_lt hd]
  ·intro h;rw [← UInt8.toNat_inj,hn,h];simp [Nat.mod_eq_of_lt hd]
 unfold othB Bare.digB
 rw [hn]
 have e1:=e 95 (by decide)
 have e2:=e 45 (by decide)
 have e3:=e 46 (by decide)
 have:([95,45,46]:List UInt8).contains c=(c == UInt8.ofNat 95 || (c == UInt8.ofNat 45 || c == UInt8.ofNat 46)):=by
  simp only [List.contains_cons,List.contains_nil,Bool.or_false]
  rfl
 rw [this,e1,e2,e3]
theorem lit69 (t:Array Value) (h:t.size=69):∃ u:Nat→Value,t=(u 0::u 1::u 2::u 3::u 4::u 5::u 6::u 7::u 8::u 9::u 10::u 11::u 12::u 13::u 14::u 15::u 16::u 17::u 18::u 19::u 20::u 21::u 22::u 23::u 24::u 25::u 26::u 27::u 28::u 29::u 30::u 31::u 32::u 33::u 34::u 35::u 36::u 37::u 38::u 39::u 40::u 41::u 42::u 43::u 44::u 45::u 46::u 47::u 48::u 49::u 50::u 51::u 52::u 53::u 54::u 55::u 56::u 57::u 58::u 59::u 60::u 61::u 62::u 63::u 64::u 65::u 66::u 67::u 68::([]:List Value)).toArray:=⟨fun i=>t.getD i undef,range_lit t 69 h⟩
noncomputable def reg_causeyref13_Key_4:Code:=((Tryz.f123.body.bind (regionOf 4)).getD .skip)
theorem key4 (t:Array Value) (hs:t.size=69) (w:World) {s:ByteArray} {k n:Nat} {x2:Value}
  (hq0:t.getD 0 undef = .string s)
  (hq1:t.getD 1 undef=undef)
  (hq2:t.getD 2 undef=x2)
  (hq3:t.getD 3 undef = .int .i64 k)
  (hq66:t.getD 66 undef=undef)
  (hq67:t.getD 67 undef=undef)
  (hq68:t.getD 68 undef=undef)
  (hk:k < s.size) (hn:(gb s k).toNat=n) :
  reg_causeyref13_Key_4.wp Tryz.prog (Only fun a' W'=>(a'.tmps.size=69∧a'.defers = []∧a'.tmps.getD 0 undef = .string s∧a'.tmps.getD 1 undef=undef∧a'.tmps.getD 2 undef=x2∧a'.tmps.getD 3 undef = .int .i64 k∧a'.tmps.getD 66 undef=undef∧a'.tmps.getD 67 undef=undef∧a'.tmps.getD 68 undef=undef∧a'.tmps.getD 4 undef = .bool (Bare.smlB (gb s k)))∧W'=w) ⟨t,[]⟩ w:=by
 conv=>arg 2;whnf
 obtain ⟨u,rfl⟩:=lit69 t hs
 have hq0:u 0 = _:=hq0
 have hq1:u 1 = _:=hq1
 have hq2:u 2 = _:=hq2
 have hq3:u 3 = _:=hq3
 have hq66:u 66 = _:=hq66
 have hq67:u 67 = _:=hq67
 have hq68:u 68 = _:=hq68
 rw [hq0,hq1,hq2,hq3,hq66,hq67,hq68]
 clear hq0 hq1 hq2 hq3 hq66 hq67 hq68 hs
 have hix:=fun W=>run_idx s k hk W
 rw [hn] at hix
 rw [sml_of hn]
 clear hn
 by_cases h1:97 ≤ n
 ·by_cases h2:n ≤ 122
  ·rw [decide_eq_true h1,decide_eq_true h2]
   go_wp2_with fail
   exact ⟨⟨rfl,rfl,rfl,rfl,rfl,rfl,rfl,rfl,rfl,rfl⟩,rfl⟩
  ·rw [decide_eq_false h2,decide_eq_false (show ¬ n=42 by omega)]
   have h3:((n:Int) == 42)=false:=by simp;omega
   go_wp2_with fail
   exact ⟨⟨rfl,rfl,rfl,rfl,rfl,rfl,rfl,rfl,rfl,by simp;omega⟩,rfl⟩
 ·by_cases h2:n=42
  ·subst h2
   go_wp2_with fail
   exact ⟨⟨rfl,rfl,rfl,rfl,rfl,rfl,rfl,rfl,rfl,rfl⟩,rfl⟩
  ·rw [decide_eq_false h1,decide_eq_false h2]
   have h3:((n:Int) == 42)=false:=by simp;omega
   go_wp2_with fail
   exact ⟨⟨rfl,rfl,rfl,rfl,rfl,rfl,rfl,rfl,rfl,rfl⟩,rfl⟩
noncomputable def reg_causeyref13_Key_5:Code:=((Tryz.f123.body.bind (regionOf 5)).getD .skip)
theorem key5 (t:Array Value) (hs:t.size=69) (w:World) {s:ByteArray} {k n:Nat} {x2:Value} {b4:Bool}
  (hq0:t.getD 0 undef = .string s)
  (hq1:t.getD 1 undef=undef)
  (hq2:t.getD 2 undef=x2)
  (hq3:t.getD 3 undef = .int .i64 k)
  (hq66:t.getD 66 undef=undef)
  (hq67:t.getD 67 undef=undef)
  (hq68:t.getD 68 undef=undef)
  (hq4:t.getD 4 undef = .bool b4)
  (hk:k < s.size) (hn:(gb s k).toNat=n) :
  reg_causeyref13_Key_5.wp Tryz.prog (Only fun a' W'=>(a'.tmps.size=69∧a'.defers = []∧a'.tmps.getD 0 undef = .string s∧a'.tmps.getD 1 undef=undef∧a'.tmps.getD 2 undef=x2∧a'.tmps.getD 3 undef = .int .i64 k∧a'.tmps.getD 66 undef=undef∧a'.tmps.getD 67 undef=undef∧a'.tmps.getD 68 undef=undef∧a'.tmps.getD 4 undef = .bool b4∧a'.tmps.getD 5 undef = .bool (othB (gb s k)))∧W'=w) ⟨t,[]⟩ w:=by
 conv=>arg 2;whnf
 obtain ⟨u,rfl⟩:=lit69 t hs
 have hq0:u 0 = _:=hq0
 have hq1:u 1 = _:=hq1
 have hq2:u 2 = _:=hq2
 have hq3:u 3 = _:=hq3
 have hq66:u 66 = _:=hq66
 have hq67:u 67 = _:=hq67
 have hq68:u 68 = _:=hq68
 have hq4:u 4 = _:=hq4
 rw [hq0,hq1,hq2,hq3,hq66,hq67,hq68,hq4]
 clear hq0 hq1 hq2 hq3 hq66 hq67 hq68 hq4 hs
 have hix:=fun W=>run_idx s k hk W
 rw [hn] at hix
 rw [oth_of hn]
 clear hn
 by_cases h1:48 ≤ n
 ·by_cases h2:n ≤ 57
  ·rw [decide_eq_true h1,decide_eq_true h2]
   go_wp2_with fail
   exact ⟨⟨rfl,rfl,rfl,rfl,rfl,rfl,rfl,rfl,rfl,rfl,rfl⟩,rfl⟩
  ·by_cases h3:n=95
   ·subst h3
    go_wp2_with fail
    exact ⟨⟨rfl,rfl,rfl,rfl,rfl,rfl,rfl,rfl,rfl,rfl,rfl⟩,rfl⟩
   ·rw [decide_eq_false h2,decide_eq_false h3,decide_eq_false (show ¬ n=45 by omega),decide_eq_false (show ¬ n=46 by omega)]
    have g1:((n:Int) == 95)=false:=by simp;omega
    have g2:((n:Int) == 45)=false:=by simp;omega
    have g3:((n:Int) == 46)=false:=by simp;omega
    go_wp2_with fail
    exact ⟨⟨rfl,rfl,rfl,rfl,rfl,rfl,rfl,rfl,rfl,rfl,by simp;omega⟩,rfl⟩
 ·by_cases h2:n=45
  ·subst h2
   go_wp2_with fail
   exact ⟨⟨rfl,rfl,rfl,rfl,rfl,rfl,rfl,rfl,rfl,rfl,rfl⟩,rfl⟩
  ·by_cases h3:n=46
   ·subst h3
    go_wp2_with fail
    exact ⟨⟨rfl,rfl,rfl,rfl,rfl,rfl,rfl,rfl,rfl,rfl,rfl⟩,rfl⟩
   ·rw [decide_eq_false h1,decide_eq_false h2,decide_eq_false h3,decide_eq_false (show ¬ n=95 by omega)]
    have g1:((n:Int) == 95)=false:=by simp;omega
    have g2:((n:Int) == 45)=false:=by simp;omega
    have g3:((n:Int) == 46)=false:=by simp;omega
    go_wp2_with fail
    exact ⟨⟨rfl,rfl,rfl,rfl,rfl,rfl,rfl,rfl,rfl,rfl,rfl⟩,rfl⟩
def keyAtB (s:ByteArray) (k:Nat):Bool:=Bare.smlB (gb s k) || (!decide (k=0) && othB (gb s k))
theorem keyB_of (s:ByteArray):Bare.keyB (bl s)=(decide (0 < s.size) && (List.range s.size).all (keyAtB s)):=by
 by_cases h0:s.size=0
 ·have:bl s = []:=List.length_eq_zero_iff.1 (by rw [bl_len];exact h0)
  rw [this,decide_eq_false (by omega)];rfl
 ·rw [decide_eq_true (by omega),Bool.true_and,first_drop s (by omega)]
  show (Bare.smlB (gb s 0) && ((bl s).drop 1).all Bare.inKey) = _
  rw [Bool.eq_iff_iff,Bool.and_eq_true,List.all_eq_true,List.all_eq_true]
  constructor
  ·rintro ⟨h1,h2⟩ k hk
   rw [List.mem_range] at hk
   unfold keyAtB
   by_cases e:k=0
   ·subst e;rw [h1];rfl
   ·have:=h2 (gb s k) (List.mem_iff_getElem?.2 ⟨k - 1,by rw [List.getElem?_drop,show 1 + (k - 1)=k by omega];exact gb_get s k hk⟩)
    rw [decide_eq_false e]
    exact this
  ·intro h
   refine ⟨?_,fun x hx=>?_⟩
   ·have:=h 0 (List.mem_range.2 (by omega))
    unfold keyAtB at this
    simpa using this
   ·obtain ⟨i,hi⟩:=List.mem_iff_getElem?.1 hx
    rw [List.getElem?_drop] at hi
    obtain ⟨hl,rfl⟩:=get_gb hi
    have:=h (1 + i) (List.mem_range.2 hl)
    unfold keyAtB at this
    rw [decide_eq_false (by omega)] at this
    exact this
theorem key_r13 (s:ByteArray) (w:World) (hs:s.size ≤ 9223372036854775807) :
  Calls Tryz.prog 123 #[.string s] w fun e w'=>e = .returned (.bool (Bare.keyB (bl s)))∧w'=w:=by
 have hof:=keyB_of s
 obtain ⟨z,hz⟩:∃ z,Bare.keyB (bl s)=z:=⟨_,rfl⟩
 rw [hz] at hof ⊢
 have HO:=Lib.hid hof
 clear hof hz
 go_enter Tryz.func123,Tryz.ntmps123
 go_upto_region 2 with fail
 go_loop [3] (fun c=>∃ k:Nat,k ≤ s.size∧c = .int .i64 k∧Hid (∀ j,j < k→keyAtB s j=true)) (fun c=>s.size - (intOf c).toNat)
 case atStart=>exact ⟨0,Nat.zero_le _,rfl,Lib.hid fun i hi=>by omega⟩
 case round =>
  obtain ⟨k,hk,rfl,hbef⟩:=hrel
  by_cases hlt:k < s.size
  ·have hkd:decide ((k:Int) < (s.size:Int))=true:=decide_eq_true (by omega)
   obtain ⟨n,hn⟩:∃ n,(gb s k).toNat=n:=⟨_,rfl⟩
   have hnext:keyAtB s k=true→Hid (∀ j,j < k + 1→keyAtB s j=true):=fun hg=>Lib.hid fun i hi=>by
    by_cases hik:i < k
    ·exact hbef.out i hik
    ·obtain rfl:i=k:=by omega
     exact hg
   have hstop:keyAtB s k=false→z=false:=fun hg=>by
    rw [HO.out]
    have:(List.range s.size).all (keyAtB s)=false:=by
     refine Bool.eq_false_iff.2 fun h=>?_
     have:=List.all_eq_true.1 h k (List.mem_range.2 hlt)
     rw [hg] at this
     cases this
    rw [this,Bool.and_false]
   have hat:keyAtB s k=(Bare.smlB (gb s k) || (!decide (k=0) && othB (gb s k))):=rfl
   go_upto_region 4 with fail
   refine piece (fun _=>_) (key4 (x2:=u2) _ rfl _ rfl rfl rfl rfl rfl rfl rfl hlt hn) ?_
   rintro ⟨t,dfs⟩ w4 ⟨⟨hs4,hd4,hq0,hq1,hq2,hq3,hq66,hq67,hq68,hq4⟩,rfl⟩
   simp only at hs4 hd4 hq0 hq1 hq2 hq3 hq66 hq67 hq68 hq4
   subst hd4
   obtain ⟨u,rfl⟩:=lit69 t hs4
   have hp0:u 0 = .string s:=hq0
   have hp1:u 1=undef:=hq1
   have hp2:u 2=u2:=hq2
   have hp3:u 3 = .int .i64 k:=hq3
   have hp66:u 66=undef:=hq66
   have hp67:u 67=undef:=hq67
   have hp68:u 68=undef:=hq68
   have hp4:u 4 = .bool (Bare.smlB (gb s k)):=hq4
   rw [hp0,hp1,hp2,hp66,hp67,hp68,hp3,hp4]
   clear hp66 hq66 hp67 hq67 hp68 hq68 hp0 hp1 hp2 hp3 hp4 hq0 hq1 hq2 hq3 hq4 hs4
   obtain ⟨b4,hb4⟩:∃ b,Bare.smlB (gb s k)=b:=⟨_,rfl⟩
   rw [hb4] at hat ⊢
   go_upto_region 5 with fail
   refine piece (fun _=>_) (key5 (x2:=u2) _ rfl _ rfl rfl rfl rfl rfl rfl rfl rfl hlt hn) ?_
   rintro ⟨t,dfs⟩ w5 ⟨⟨hs4,hd4,hq0,hq1,hq2,hq3,hq66,hq67,hq68,hq4,hq5⟩,rfl⟩
   simp only at hs4 hd4 hq0 hq1 hq2 hq3 hq66 hq67 hq68 hq4 hq5
   subst hd4
   obtain ⟨u,rfl⟩:=lit69 t hs4
   have hp0:u 0 = .string s:=hq0
   have hp1:u 1=undef:=hq1
   have hp2:u 2=u2:=hq2
   have hp3:u 3 = .int .i64 k:=hq3
   have hp66:u 66=undef:=hq66
   have hp67:u 67=undef:=hq67
   have hp68:u 68=undef:=hq68
   have hp4:u 4 = .bool b4:=hq4
   have hp5:u 5 = .bool (othB (gb s k)):=hq5
   rw [hp0,hp1,hp2,hp66,hp67,hp68,hp3,hp4,hp5]
   clear hp66 hq66 hp67 hq67 hp68 hq68 hp0 hp1 hp2 hp3 hp4 hp5 hq0 hq1 hq2 hq3 hq4 hq5 hs4
   obtain ⟨b5,hb5⟩:∃ b,othB (gb s k)=b:=⟨_,rfl⟩
   rw [hb5] at hat ⊢
   clear hb4 hb5 hn hbef hkd
   cases b4 with
   | true =>
    have hh:=hnext (by rw [hat];rfl)
    clear hnext hstop hat
    go_wp2_with fail
    go_round
    case rel=>exact ⟨k + 1,by omega,by go_num,hh⟩
    case measure=>simp [intOf];omega
   | false =>
    by_cases hk0:k=0
    ·have hh:=hstop (by rw [hat,decide_eq_true hk0];rfl)
     have hd:((k:Int) == 0)=true:=by simp [hk0]
     clear hnext hstop hat hk0
     subst hh
     go_wp2_with fail
     go_ret
     exact ⟨rfl,rfl⟩
    ·have hd:((k:Int) == 0)=false:=by simp [hk0]
     cases b5 with
     | true =>
      have hh:=hnext (by rw [hat,decide_eq_false hk0];rfl)
      clear hnext hstop hat
      go_wp2_with fail
      go_round
      case rel=>exact ⟨k + 1,by omega,by go_num,hh⟩
      case measure=>simp [intOf];omega
     | false =>
      have hh:=hstop (by rw [hat,decide_eq_false hk0];rfl)
      clear hnext hstop hat hk0
      subst hh
      go_wp2_with fail
      go_ret
      exact ⟨rfl,rfl⟩
  ·obtain rfl:k=s.size:=by omega
   have hkd:decide ((s.size:Int) < (s.size:Int))=false:=decide_eq_false (by omega)
   have hall:(List.range s.size).all (keyAtB s)=true:=List.all_eq_true.2 fun j hj=>hbef.out j (List.mem_range.1 hj)
   have hz2:decide (0 < s.size)=z:=by rw [HO.out,hall,Bool.and_true]
   clear hbef hall HO
   subst hz2
   go_wp2_with fail
   go_ret
   exact ⟨rfl,rfl⟩


def ReadPs (r:Option (List Bare.Par × Bare.Bs)) (base:Nat) (e:Ending) (w':World):Prop:=match r with
 | none=>e = .returned (.tuple #[.slice none 0 0,.string ⟨#[]⟩,.bool false])
 | some (ps,q)=>∃ v,e = .returned (.tuple #[v,.string (tx q),.bool true])∧OwP base w' v ps.length (pf ps)


def ReadX (r:Option (Bare.Itm × Bare.Bs)) (base:Nat) (e:Ending) (w':World):Prop:=match r with
 | none=>∃ (k n:Int) (t:ByteArray) (y:Bool),e = .returned (.tuple #[.agg #[.int .u8 k,.int .i64 n,.string t,.bool y,.slice none 0 0],.string ⟨#[]⟩,.bool false])
 | some (x,q)=>∃ (pa:Option Addr) (pc:Nat),e = .returned (.tuple #[.agg (ics x (.slice pa x.params.length pc)).toArray,.string (tx q),.bool true])∧OwP base w' (.slice pa x.params.length pc) x.params.length (pf x.params)


def ReadI (r:Option (List Bare.Itm × List Bare.Par × Bare.Bs)) (e:Ending) (w':World):Prop:=match r with
 | none=>∃ (ia:Option Addr) (il ic:Nat),e = .returned (.tuple #[.agg #[.string ⟨#[]⟩,.bool true,.slice ia il ic,.slice none 0 0],.string ⟨#[]⟩,.bool false])
 | some (its,ps,q)=>∃ (ia pa:Option Addr) (ic pc:Nat),e = .returned (.tuple #[.agg #[.string ⟨#[]⟩,.bool true,.slice ia its.length ic,.slice pa ps.length pc],.string (tx q),.bool true])∧RdI true w' (.slice ia its.length ic) its∧RdP true w' (.slice pa ps.length pc) ps
theorem OwP.rdP {base:Nat} {W:World} {v:Value} {L:List Bare.Par} (h:OwP base W v L.length (pf L)) (hl:L.length ≤ 281474976710656):RdP true W v L:=⟨h.row hl,fun _=>h.tag⟩
theorem far_row {W:World} {B:Nat} {cs:Array Value} (r:W.heap[B]? = some (.cells cs 64 (0,0))):FarI W (fun b=>b=B):=fun g cs' t fr hg hc=>by
 subst hg
 rw [r] at hc
 cases hc
 decide


theorem RdI.one {W:World} {A:Nat} {x:Bare.Itm} {pv:Value} {fr:Nat × Nat} (h:W.heap[A]? = some (.cells (ics x pv).toArray 71 fr)) (hp:RdP true W pv x.params):RdI true W (.slice (some ⟨A,0,none⟩) 1 1) [x]:=by
 refine ⟨fun _=>pv,⟨by show 1 ≤ _;omega,some ⟨A,0,none⟩,1,rfl,fun i hi=>⟨A,0,rfl,?_⟩⟩,fun _ g hg=>by cases hg;exact ⟨_,_,h⟩,fun i hi=>?_⟩
 ·obtain rfl:i=0:=by simp at hi;omega
  intro j v hv
  have c:=cell_of_row _ _ j _ _ _ h
  simp only [Nat.zero_mul,Nat.add_zero,Nat.zero_add]
  rw [c,List.getElem?_toArray]
  exact hv
 ·obtain rfl:i=0:=by simp at hi;omega
  exact hp
def InnK (r:Option (List Bare.Itm × List Bare.Par × Bare.Bs)) (w':World) (iv pv:Value) (t:ByteArray) (ok:Bool):Prop:=match r with
 | none=>ok=false
 | some (its,ps,q)=>ok=true∧t=tx q∧RdI true w' iv its∧RdP true w' pv ps
def ItmK (r:Option (Bare.Itm × Bare.Bs)) (w':World) (k n:Int) (t:ByteArray) (y:Bool) (pv:Value) (q:ByteArray) (ok:Bool):Prop:=match r with
 | none=>ok=false
 | some (x,q')=>ok=true∧q=tx q'∧k=x.bare.kind∧n=x.bare.int∧t=tx x.bare.text∧y=x.bare.yes∧RdP true w' pv x.params
def ParK (r:Option (List Bare.Par × Bare.Bs)) (w':World) (pv:Value) (q:ByteArray) (ok:Bool):Prop:=match r with
 | none=>ok=false
 | some (ps,q')=>ok=true∧q=tx q'∧RdP true w' pv ps
theorem ReadI.all {r:Option (List Bare.Itm × List Bare.Par × Bare.Bs)} {e:Ending} {w':World} (h:ReadI r e w'):∃ (ia pa:Option Addr) (il ic pl pc:Nat) (t:ByteArray) (ok:Bool),e = .returned (.tuple #[.agg #[.string ⟨#[]⟩,.bool true,.slice ia il ic,.slice pa pl pc],.string t,.bool ok])∧InnK r w' (.slice ia il ic) (.slice pa pl pc) t ok:=by
 cases r with
 | none =>
  obtain ⟨ia,il,ic,e⟩:=h
  exact ⟨ia,none,il,ic,0,0,_,_,e,rfl⟩
 | some x =>
  obtain ⟨its,ps,q⟩:=x
  obtain ⟨ia,pa,ic,pc,e,h1,h2⟩:=h
  exact ⟨ia,pa,_,ic,_,pc,_,_,e,rfl,rfl,h1,h2⟩
theorem ReadX.all {r:Option (Bare.Itm × Bare.Bs)} {base:Nat} {e:Ending} {w':World} (h:ReadX r base e w') (hs:∀ x q,r=some (x,q)→x.params.length ≤ 281474976710656):∃ (k n:Int) (t:ByteArray) (y:Bool) (pa:Option Addr) (pl pc:Nat) (q:ByteArray) (ok:Bool),e = .returned (.tuple #[.agg #[.int .u8 k,.int .i64 n,.string t,.bool y,.slice pa pl pc],.string q,.bool ok])∧ItmK r w' k n t y (.slice pa pl pc) q ok:=by
 cases r with
 | none =>
  obtain ⟨k,n,t,y,e⟩:=h
  exact ⟨k,n,t,y,none,0,0,_,_,e,rfl⟩
 | some x =>
  obtain ⟨x,q⟩:=x
  obtain ⟨pa,pc,e,h1⟩:=h
  exact ⟨_,_,_,_,pa,_,pc,_,_,e,rfl,rfl,rfl,rfl,rfl,rfl,h1.rdP (hs _ _ rfl)⟩
theorem ReadPs.all {r:Option (List Bare.Par × Bare.Bs)} {base:Nat} {e:Ending} {w':World} (h:ReadPs r base e w') (hs:∀ x q,r=some (x,q)→x.length ≤ 281474976710656):∃ (pa:Option Addr) (pl pc:Nat) (q:ByteArray) (ok:Bool),e = .returned (.tuple #[.slice pa pl pc,.string q,.bool ok])∧ParK r w' (.slice pa pl pc) q ok:=by
 cases r with
 | none=>exact ⟨none,0,0,_,_,h,rfl⟩
 | some x =>
  obtain ⟨ps,q⟩:=x
  obtain ⟨v,e,h1⟩:=h
  obtain ⟨pa,pc,rfl⟩:=h1.slice
  exact ⟨pa,_,pc,_,_,e,rfl,rfl,h1.rdP (hs _ _ rfl)⟩
theorem RdP.none (W:World):RdP true W (.slice none 0 0) []:=⟨RowR.nil _ _ _ _ _,fun _ g hg=>by cases hg⟩


theorem wpList_append_D {ops:Array Oper} {Q:Exit→Act→World→Prop} {rest:List Oper} {o:Oper} {a:Act} {w W:World} (s x:Operand) {base:Nat} {v:Value} {d:List Bare.Mem} {m:Bare.Mem} {ia pa:Option Addr} {il ic pl pc:Nat} (hgd:o.guard=none) (hop:o.op = .call { callee:=.builtin .append,args:=#[s,x],argTypes:=#[51,51] })
  (hs:a.eval s=v) (hx:a.eval x = .slice (some ⟨w.heap.size,0,none⟩) 1 1) (hW:w.alloc (.cells (mcs m (.slice ia il ic) (.slice pa pl pc)).toArray 64)=W) (hown:OwD base w v d) (hi:RdI true w (.slice ia il ic) m.items) (hp:RdP true w (.slice pa pl pc) m.params) (hn:d.length ≤ 2000000) (hbase:base ≤ w.heap.size)
  (h:∀ v' W',OwD base W' v' (d ++ [m])→(∀ (w0:World) (S:Nat→Prop),Mods S w0 w→(∀ g,v.ownBlock=some g→w0.heap.size ≤ g ∨ S g)→Mods S w0 W')→wpList Tryz.prog ops Q rest (a.put o.dst v') W'):wpList Tryz.prog ops Q (o::rest) a W:=by
 refine wpList_plain hgd fun K hK=>?_
 obtain ⟨v',w',hr,ho,hg⟩:=run_append_D hop hs hx hW hown hi hp hn hbase
 unfold Oper.wp
 rw [hr]
 exact hK _ _ (h v' w' ho hg)


theorem run_spread_P {o:Oper} {a:Act} {w W:World} {s x:Operand} {ao:Option Addr} {n cap:Nat} {f:Nat→List Value} (hop:o.op = .call { callee:=.builtin .append,args:=#[s,x],argTypes:=#[62,62] })
  (hs:a.eval s = .slice (some ⟨w.heap.size,0,none⟩) 0 0) (hx:a.eval x = .slice ao n cap) (hW:w.alloc (.cells #[] 73)=W) (hf:∀ i,(f i).length=5) (h1:∀ i,i < n→∀ u ∈ f i,u.oneCell'=true) (hv:RowR w (.slice ao n cap) n 5 f) (hn:n ≤ 2513169434880) :
  ∃ v' W',(execOp a.eval o).run Tryz.prog W = .ok (.value v') W'∧OwP w.heap.size W' v' n f∧New w W':=by
 obtain ⟨i0,hi,hz0,hz1,hz2⟩:=info_parts infoP
 obtain ⟨g1,g2⟩:=hv.cells (by decide) hf
 have hfl:=flatF_len hf n
 have hone:=flatF_one h1
 have hown:W.ownsRow w.heap.size 73 5 (.slice (some ⟨w.heap.size,0,none⟩) 0 0) 0 []:=by
  rw [← hW];exact World.ownsRow_made w #[] 0 (Nat.le_refl _) (Nat.zero_le _) rfl
 have hbase:w.heap.size ≤ W.heap.size:=by rw [← hW];simp
 cases ao with
 | none =>
  obtain rfl:n=0:=g1 rfl
  have hr:(Builtin.append_ #[62,62] o.type #[.slice (some ⟨w.heap.size,0,none⟩) 0 0,.slice none 0 cap]).run Tryz.prog W = .ok (.slice (some ⟨w.heap.size,0,none⟩) 0 0) W:=by
   simp [Builtin.append_,run_underlying Tryz.underlying62,sizeOf,typeInfo,hi,Builtin.lenOf,Builtin.firstCells,storeCells]
  refine ⟨_,W,?_,⟨hf,h1,hown⟩,by rw [← hW];exact (Mods.refl _ _).alloc _⟩
  simp [execOp,hop,resolve,invoke,builtin,hs,hx,hr,Result.andThen]
 | some b =>
  obtain ⟨v',w',hr,ho,hg,-⟩:=run_append_own (P:=Tryz.prog) W w.heap.size 62 o.type 73 i0 _ 5 56 Tryz.underlying62 hi hz0 hz1 hz2 rfl (by decide) _ 0 [] hown b n cap (flatF n f) hfl (fun j u hj=>by rw [← hW];exact Lib.cell?_alloc_some _ (g2 b rfl j u hj)) hone (by unfold maxLen;omega) (by omega) hbase
  refine ⟨v',w',?_,⟨hf,h1,?_⟩,?_⟩
  ·simp [execOp,hop,resolve,invoke,builtin,hs,hx,hr,Result.andThen]
  ·simpa using ho
  ·have hA:New w W:=by rw [← hW];exact (Mods.refl _ _).alloc _
   exact hA.grown hg (by intro k hk;simp [Value.ownBlock] at hk;exact .inl (by omega))
theorem wpOp_spread_P {ops:Array Oper} {Q:Exit→Act→World→Prop} {i:Nat} {o:Oper} (d:Option Tmp) {a:Act} {w W:World} {K:Act→World→Prop} (hi:ops[i]? = some o) (hw:Region.wanted o (yielded ops a.tmps)=true) (hd:o.dst=d) (s x:Operand) {ao:Option Addr} {n cap:Nat} {f:Nat→List Value} (hop:o.op = .call { callee:=.builtin .append,args:=#[s,x],argTypes:=#[62,62] })
  (hs:a.eval s = .slice (some ⟨w.heap.size,0,none⟩) 0 0) (hx:a.eval x = .slice ao n cap) (hW:w.alloc (.cells #[] 73)=W) (hf:∀ i,(f i).length=5) (h1:∀ i,i < n→∀ u ∈ f i,u.oneCell'=true) (hv:RowR w (.slice ao n cap) n 5 f) (hn:n ≤ 2513169434880)
  (h:∀ v' W',OwP w.heap.size W' v' n f→New w W'→K (a.put d v') W'):wpOp Tryz.prog ops Q i K a W:=by
 obtain ⟨v',w',hr,ho,hg⟩:=run_spread_P hop hs hx hW hf h1 hv hn
 exact opH_value d hi hw hd hr (h v' w' ho hg)
theorem wpOp_append_It {ops:Array Oper} {Q:Exit→Act→World→Prop} {i:Nat} {o:Oper} (d:Option Tmp) {a:Act} {w W:World} {K:Act→World→Prop} (hi:ops[i]? = some o) (hw:Region.wanted o (yielded ops a.tmps)=true) (hd:o.dst=d) (s x:Operand) {base:Nat} {v:Value} {L:List Bare.Itm} {y:Bare.Itm} {ya:Option Addr} {yl yc:Nat} (hop:o.op = .call { callee:=.builtin .append,args:=#[s,x],argTypes:=#[61,61] })
  (hs:a.eval s=v) (hx:a.eval x = .slice (some ⟨w.heap.size,0,none⟩) 1 1) (hW:w.alloc (.cells (ics y (.slice ya yl yc)).toArray 71)=W) (hown:OwIt base w v L) (hy:RdP true w (.slice ya yl yc) y.params) (hn:L.length ≤ 2000000) (hbase:base ≤ w.heap.size)
  (h:∀ v' W',OwIt base W' v' (L ++ [y])→(∀ (w0:World) (S:Nat→Prop),Mods S w0 w→(∀ g,v.ownBlock=some g→w0.heap.size ≤ g ∨ S g)→Mods S w0 W')→K (a.put d v') W'):wpOp Tryz.prog ops Q i K a W:=by
 obtain ⟨v',w',hr,ho,hg⟩:=run_append_It hop hs hx hW hown hy hn hbase
 exact opH_value d hi hw hd hr (h v' w' ho hg)
theorem lit55 (t:Array Value) (h:t.size=55):∃ u:Nat→Value,t=(u 0::u 1::u 2::u 3::u 4::u 5::u 6::u 7::u 8::u 9::u 10::u 11::u 12::u 13::u 14::u 15::u 16::u 17::u 18::u 19::u 20::u 21::u 22::u 23::u 24::u 25::u 26::u 27::u 28::u 29::u 30::u 31::u 32::u 33::u 34::u 35::u 36::u 37::u 38::u 39::u 40::u 41::u 42::u 43::u 44::u 45::u 46::u 47::u 48::u 49::u 50::u 51::u 52::u 53::u 54::([]:List Value)).toArray:=⟨fun i=>t.getD i undef,range_lit t 55 h⟩
noncomputable def reg_causeyref13_Own_10:Code:=((Tryz.f31.body.bind (regionOf 10)).getD .skip)
theorem own10r (t:Array Value) (hs:t.size=55) (w:World) {base B g o n m ic pc k oc:Nat} {oa pa:Option Addr} {L:List Bare.Itm} {y:Bare.Itm}
  (hq5:t.getD 5 undef = .pointer (some ⟨B,0,none⟩))
  (hq6:t.getD 6 undef = .slice oa k oc)
  (hq7:t.getD 7 undef = .int .i64 k)
  (c2:w.cell? ⟨B,2,none⟩=some (.slice (some ⟨g,o,none⟩) n ic)) (d0:w.cell? ⟨g,o + k * 5,none⟩=some (.int .u8 y.bare.kind)) (d1:w.cell? ⟨g,o + k * 5 + 1,none⟩=some (.int .i64 y.bare.int)) (d2:w.cell? ⟨g,o + k * 5 + 2,none⟩=some (.string (tx y.bare.text))) (d3:w.cell? ⟨g,o + k * 5 + 3,none⟩=some (.bool y.bare.yes)) (d4:w.cell? ⟨g,o + k * 5 + 4,none⟩=some (.slice pa m pc)) (hi:k < n) (hv:RowR w (.slice pa m pc) m 5 (pf y.params)) (hm:y.params.length=m) (hmb:m ≤ 2513169434880) (hO:OwIt base w (.slice oa k oc) L) (hL:L.length=k) (hkl:k ≤ 2000000) (hbase:base ≤ w.heap.size) (hnB:¬ (Value.slice oa k oc).ownBlock=some B) (hng:¬ (Value.slice oa k oc).ownBlock=some g) :
  reg_causeyref13_Own_10.wp Tryz.prog (Only fun a' W'=>∃ z:Nat→Value,∃ v',a'=⟨((pz t z [25,26,27,28,29,30,31,32,33,34,35,36,37,38,39,40,41,42]).setIfInBounds 6 (v')),[]⟩∧OwIt base W' v' (L ++ [y])∧Mods (fun b=>(Value.slice oa k oc).ownBlock=some b) w W') ⟨t,[]⟩ w:=by
 conv=>arg 2;whnf
 obtain ⟨u,rfl⟩:=lit55 t hs
 have hq5:u 5 = _:=hq5
 have hq6:u 6 = _:=hq6
 have hq7:u 7 = _:=hq7
 rw [hq5,hq6,hq7]
 clear hq5 hq6 hq7 hs
 have hid:decide ((k:Int) < (n:Int))=true:=decide_eq_true (by omega)
 refine wp_region_held (S:=fun W=>Mods (fun b=>(Value.slice oa k oc).ownBlock=some b) w W) (by kernel_rfl) ?_
 show wpAnyH _ _ _ _ _ 19 _ _ w.drew
 have hN:New w w.drew:=(Mods.refl _ _).drew
 have hS:Mods (fun b=>(Value.slice oa k oc).ownBlock=some b) w w.drew:=(Mods.refl _ _).drew
 refine tkI 0 (some 25) (.slice oa k oc) hS ?_
 simp only [pS]
 refine tkI 1 (some 26) (.pointer (some ⟨B,2,none⟩)) hS ?_
 simp only [pS]
 refine tkA 2 rfl (some 27) (.slice (some ⟨g,o,none⟩) n ic) (.inl ⟨by rfl,fun W hW=>by have q:=hW.cell c2 hnB;go_simp⟩) hS ?_
 simp only [pS]
 refine tkI 3 (some 28) (.int .i64 k) hS ?_
 simp only [pS]
 refine tkI 4 (some 29) (.pointer (some ⟨g,o + k * 5,none⟩)) hS ?_
 simp only [pS]
 refine tkI 5 (some 30) (.pointer (some ⟨g,o + k * 5,none⟩)) hS ?_
 simp only [pS]
 refine tkA 6 rfl (some 31) (.agg #[.int .u8 y.bare.kind,.int .i64 y.bare.int,.string (tx y.bare.text),.bool y.bare.yes]) (.inl ⟨by rfl,fun W hW=>by have q0:=hW.cell d0 hng;have q1:=hW.cell d1 hng;have q2:=hW.cell d2 hng;have q3:=hW.cell d3 hng;go_simp⟩) hS ?_
 simp only [pS]
 refine tkI 8 (some 33) (.pointer (some ⟨B,2,none⟩)) hS ?_
 simp only [pS]
 refine tkA 9 rfl (some 34) (.slice (some ⟨g,o,none⟩) n ic) (.inl ⟨by rfl,fun W hW=>by have q:=hW.cell c2 hnB;go_simp⟩) hS ?_
 simp only [pS]
 refine tkI 10 (some 35) (.int .i64 k) hS ?_
 simp only [pS]
 refine tkI 11 (some 36) (.pointer (some ⟨g,o + k * 5,none⟩)) hS ?_
 simp only [pS]
 refine tkI 12 (some 37) (.pointer (some ⟨g,o + k * 5 + 4,none⟩)) hS ?_
 simp only [pS]
 refine tkA 13 rfl (some 38) (.slice pa m pc) (.inl ⟨by rfl,fun W hW=>by have q:=hW.cell d4 hng;go_simp⟩) hS ?_
 simp only [pS]
 refine tkO 7 ?_
 have hA7:New w.drew (w.drew.alloc (.cells #[] 73)):=(Mods.refl _ _).alloc _
 refine opH_value (some 32) (w':=w.drew.alloc (.cells #[] 73)) (v:=.slice (some ⟨w.drew.heap.size,0,none⟩) 0 0) rfl (by rfl) rfl (by go_simp) ?_
 refine ⟨hS.trans (Mods.ofNew hA7),?_⟩
 simp only [pS]
 refine tkO 14 ?_
 refine wpOp_spread_P (w:=w.drew) (f:=pf y.params) (ao:=pa) (n:=m) (cap:=pc) (some 39) rfl (by rfl) rfl (.tmp 32) (.tmp 38) rfl rfl rfl rfl (pf_len _) (fun i _=>pcs_one _) (hv.new hN) hmb ?_
 intro v14 w14 ho14 hk14
 obtain ⟨qa,qc,rfl⟩:=ho14.slice
 refine ⟨hS.trans (Mods.ofNew hk14),?_⟩
 have hN:=hN.trans hk14
 have hS:Mods (fun b=>(Value.slice oa k oc).ownBlock=some b) w w14:=Mods.ofNew hN
 simp only [pS]
 refine tkI 15 (some 40) (.agg #[.int .u8 y.bare.kind,.int .i64 y.bare.int,.string (tx y.bare.text),.bool y.bare.yes,.slice qa m qc]) hS ?_
 simp only [pS]
 refine tkO 16 ?_
 obtain ⟨w16,hw16⟩:∃ V,w14.alloc (.cells #[.int .u8 y.bare.kind,.int .i64 y.bare.int,.string (tx y.bare.text),.bool y.bare.yes,.slice qa m qc] 71)=V:=⟨_,rfl⟩
 refine opH_value (some 41) (w':=w14.alloc (.cells #[.int .u8 y.bare.kind,.int .i64 y.bare.int,.string (tx y.bare.text),.bool y.bare.yes,.slice qa m qc] 71)) (v:=.slice (some ⟨w14.heap.size,0,none⟩) 1 1) rfl (by rfl) rfl (by go_simp) ?_
 refine ⟨hS.trans (Mods.ofNew ((Mods.refl _ _).alloc _)),?_⟩
 simp only [pS]
 refine tkO 17 ?_
 have hy14:RdP true w14 (.slice qa m qc) y.params:=by rw [← hm] at ho14 ⊢;exact ho14.rdP (by omega)
 refine wpOp_append_It (w:=w14) (y:=y) (ya:=qa) (yl:=m) (yc:=qc) (L:=L) (base:=base) (some 42) rfl (by rfl) rfl (.tmp 25) (.tmp 41) rfl rfl rfl rfl (by rw [← hL] at hO ⊢;exact hO.new hN) hy14 (by omega) (Nat.le_trans hbase hN.size) ?_
 intro v17 w17 ho17 hm17
 have hS:Mods (fun b=>(Value.slice oa k oc).ownBlock=some b) w w17:=hm17 w _ (Mods.ofNew hN) (fun g hg=>.inr hg)
 refine ⟨hS,?_⟩
 simp only [pS]
 refine tkI 18 (some 6) (v17) hS ?_
 simp only [pS]
 refine wpAnyH_done (by kernel_rfl) ?_ _
 exact zc1 v17 rfl ⟨ho17,hS⟩


theorem wpList_spread_P {ops:Array Oper} {Q:Exit→Act→World→Prop} {rest:List Oper} {o:Oper} {a:Act} {w W:World} (s x:Operand) {ao:Option Addr} {n cap:Nat} {f:Nat→List Value} (hgd:o.guard=none) (hop:o.op = .call { callee:=.builtin .append,args:=#[s,x],argTypes:=#[62,62] })
  (hs:a.eval s = .slice (some ⟨w.heap.size,0,none⟩) 0 0) (hx:a.eval x = .slice ao n cap) (hW:w.alloc (.cells #[] 73)=W) (hf:∀ i,(f i).length=5) (h1:∀ i,i < n→∀ u ∈ f i,u.oneCell'=true) (hv:RowR w (.slice ao n cap) n 5 f) (hn:n ≤ 2513169434880)
  (h:∀ v' W',OwP w.heap.size W' v' n f→New w W'→wpList Tryz.prog ops Q rest (a.put o.dst v') W'):wpList Tryz.prog ops Q (o::rest) a W:=by
 refine wpList_plain hgd fun K hK=>?_
 obtain ⟨v',w',hr,ho,hg⟩:=run_spread_P hop hs hx hW hf h1 hv hn
 unfold Oper.wp
 rw [hr]
 exact hK _ _ (h v' w' ho hg)
theorem cell_lt {W:World} {b o:Nat} {v:Value} (h:W.cell? ⟨b,o,none⟩=some v):b < W.heap.size:=by
 rcases Nat.lt_or_ge b W.heap.size with h' | h'
 ·exact h'
 ·have:W.heap[b]? = none:=Array.getElem?_eq_none h'
  simp [World.cell?,this] at h
theorem take_snoc {α:Type} (l:List α) (k:Nat) (x:α) (h:k < l.length):l.take (k + 1)=l.take k ++ [l.getD k x]:=by
 rw [List.take_add_one,List.getElem?_eq_getElem h]
 simp [List.getD,h]
def FitO (m:Bare.Mem):Prop:=m.items.length ≤ 1000000∧m.params.length ≤ 2513169434880∧∀ j,j < m.items.length→(m.items.getD j Bare.noI).params.length ≤ 2513169434880
theorem own_r13 {τ:Bool} (v:Value) (d:List Bare.Mem) (w:World) (h:RdD τ w v d) (hd:d.length ≤ 1000000) (hf:∀ i,i < d.length→FitO (d.getD i noM)) :
  Calls Tryz.prog 31 #[v] w fun e w'=>∃ v',e = .returned v'∧OwD w.heap.size w' v' d∧New w w':=by
 obtain ⟨iv,pv,hrow,-,hip⟩:=h
 obtain ⟨ao,cap,rfl⟩:=hrow.slice
 have HRow:=Lib.hid hrow
 have HIP:=Lib.hid hip
 have HF:=Lib.hid hf
 obtain ⟨n,hn⟩:∃ n,d.length=n:=⟨_,rfl⟩
 have Hn:=Lib.hid hn
 rw [hn] at HRow HIP HF hd ⊢
 clear hrow hip hf hn
 have hN0:New w w:=Mods.refl _ _
 obtain ⟨Post,hPost⟩:∃ Post:Ending→World→Prop,(fun e w'=>∃ v',e = .returned v'∧OwD w.heap.size w' v' d∧New w w')=Post:=⟨_,rfl⟩
 have HPost:=Lib.hid hPost
 rw [hPost]
 clear hPost
 go_enter Tryz.func31,Tryz.ntmps31
 go_upto_region 3 with fail
 go_loopw [3,4] (fun v t wr=>∃ (k:Nat) (oa:Option Addr) (oc:Nat),k ≤ n∧t = .int .i64 k∧v = .slice oa k oc∧Hid (OwD w.heap.size wr (.slice oa k oc) (d.take k))∧New w wr) (fun _ t _=>n - (intOf t).toNat)
 case atStart=>exact ⟨0,none,0,Nat.zero_le _,rfl,rfl,Lib.hid (OwD.nil _ _),hN0⟩
 case round =>
  clear hN0
  obtain ⟨k,oa,oc,hk,rfl,rfl,HO,hN⟩:=hrel
  by_cases hlt:k < n
  ·have hkd:decide ((k:Int) < (n:Int))=true:=decide_eq_true (by omega)
   obtain ⟨m,hm⟩:∃ m,d.getD k noM=m:=⟨_,rfl⟩
   obtain ⟨gd,od,rfl,hrw⟩:=HRow.out.at.2.2 k hlt
   obtain ⟨q0,q1,q2,q3⟩:=cells4 hrw
   have hIP:=HIP.out k hlt
   have hFt:=HF.out k hlt
   have hsn:=take_snoc d k noM (by rw [Hn.out];exact hlt)
   rw [hm] at q0 q1 hIP hFt hsn
   obtain ⟨hI,hP⟩:=hIP
   obtain ⟨ivk,hik⟩:∃ x,iv k=x:=⟨_,rfl⟩
   obtain ⟨pvk,hpk⟩:∃ x,pv k=x:=⟨_,rfl⟩
   rw [hik] at q2 hI
   rw [hpk] at q3 hP
   obtain ⟨ip,hir,-,hipp⟩:=hI
   obtain ⟨ja,jc,rfl⟩:=hir.slice
   obtain ⟨pa,pc,rfl⟩:=hP.1.slice
   obtain ⟨l,hl⟩:∃ l,m.items.length=l:=⟨_,rfl⟩
   obtain ⟨np,hnp⟩:∃ l,m.params.length=l:=⟨_,rfl⟩
   have HSn:=Lib.hid hsn
   have HIr:=Lib.hid hir
   have HIpp:=Lib.hid hipp
   have HP:=Lib.hid hP.1
   have HFt:=Lib.hid hFt
   have HLl:=Lib.hid hl
   have HNp:=Lib.hid hnp
   rw [hl] at HIr HIpp q2
   rw [hnp] at HP q3
   obtain ⟨kx,hkx⟩:∃ x,tx m.key=x:=⟨_,rfl⟩
   obtain ⟨yb,hyb⟩:∃ x,m.inner=x:=⟨_,rfl⟩
   have HKx:=Lib.hid hkx
   have HYb:=Lib.hid hyb
   have q0:w.cell? ⟨gd,od + k * 4,none⟩=some (.string (tx m.key)):=q0
   have q1:w.cell? ⟨gd,od + k * 4 + 1,none⟩=some (.bool m.inner):=q1
   rw [hkx] at q0
   rw [hyb] at q1
   have q0:=hN.cell q0 id
   have q1:=hN.cell q1 id
   have q2:=hN.cell q2 id
   have q3:=hN.cell q3 id
   clear hrw hsn hir hipp hP hFt hl hnp hkx hyb hm hik hpk
   go_upto_region 6 with fail
   obtain ⟨w1,M,hW1,hM,rM,hN1,hMs⟩:∃ V M,wr.alloc (.cells #[.string kx,.bool yb,.slice ja l jc,.slice pa np pc] 64)=V∧wr.heap.size=M∧V.heap[M]? = some (.cells #[.string kx,.bool yb,.slice ja l jc,.slice pa np pc] 64 (0,0))∧New wr V∧M + 1=V.heap.size:=⟨_,_,rfl,rfl,World.alloc_heap_new _ _,(Mods.refl _ _).alloc _,by simp⟩
   rw [hW1,hM]
   have HO1:=Lib.hid (HO.out.new hN1)
   have hNw:=hN.trans hN1
   have hwM:w.heap.size ≤ M:=by have:=hN.size;omega
   have hOl:Hid (∀ g,Value.ownBlock (.slice oa k oc)=some g→g < M):=Lib.hid fun g hg=>by have:=(HO.out.lt hg).2;omega
   have hMs':M + 1 ≤ w1.heap.size:=by omega
   have hMs2:w1.heap.size ≤ M + 1:=by omega
   clear hW1 hM q0 q1 q2 q3 HO hN1 hMs hN
   go_upto_region 8 with fail
   have HRM0:=Lib.hid rM
   clear rM
   go_loopw [6,7] (fun v t wr=>∃ (j:Nat) (oa:Option Addr) (oc:Nat),j ≤ l∧t = .int .i64 j∧v = .slice oa j oc∧Hid (OwIt (M + 1) wr (.slice oa j oc) (m.items.take j))∧New w1 wr) (fun _ t _=>l - (intOf t).toNat)
   case atStart=>exact ⟨0,none,0,Nat.zero_le _,rfl,rfl,Lib.hid (OwIt.nil _ _),Mods.refl _ _⟩
   case round =>
    obtain ⟨j,ia,ic,hj,rfl,rfl,HIt,hNj⟩:=hrel
    have rM:=hNj.heap HRM0.out id
    have c2:=cell_of_row _ _ 2 _ _ _ rM
    simp only [gS] at c2
    by_cases hjl:j < l
    ·have hjd:decide ((j:Int) < (l:Int))=true:=decide_eq_true (by omega)
     obtain ⟨y,hy⟩:∃ y,m.items.getD j Bare.noI=y:=⟨_,rfl⟩
     obtain ⟨g,og,rfl,hrw⟩:=HIr.out.at.2.2 j hjl
     have hpp:=HIpp.out j hjl
     have hfj:=HFt.out.2.2 j (by rw [HLl.out];exact hjl)
     have hsj:=take_snoc m.items j Bare.noI (by rw [HLl.out];exact hjl)
     rw [hy] at hrw hpp hfj hsj
     obtain ⟨qa,qc,hq⟩:=hpp.1.slice
     rw [hq] at hrw hpp
     obtain ⟨d0,d1,d2,d3,d4⟩:=cells5 hrw
     have hgw:=cell_lt d0
     have hNx:=hNw.trans hNj
     have d0:=hNx.cell d0 id
     have d1:=hNx.cell d1 id
     have d2:=hNx.cell d2 id
     have d3:=hNx.cell d3 id
     have d4:=hNx.cell d4 id
     have hv:=hpp.1.new hNx
     have hOB:∀ b,Value.ownBlock (.slice ia j ic)=some b→M + 1 ≤ b:=fun b hb=>(HIt.out.lt hb).1
     have hnB:¬ Value.ownBlock (.slice ia j ic)=some M:=fun e=>by have:=hOB _ e;omega
     have hng:¬ Value.ownBlock (.slice ia j ic)=some g:=fun e=>by have:=hOB _ e;omega
     have hjj:(m.items.take j).length=j:=by rw [List.length_take,HLl.out];omega
     have hbs:M + 1 ≤ wr.heap.size:=by have:=hNj.size;omega
     have hil:=HFt.out.1
     rw [HLl.out] at hil
     obtain ⟨mq,hmq⟩:∃ q,y.params.length=q:=⟨_,rfl⟩
     have HPc:=fun t hs h1 h2 h3=>own10r t hs wr (y:=y) (L:=m.items.take j) (base:=M + 1) (m:=mq) h1 h2 h3 c2 d0 d1 d2 d3 (by rw [← hmq];exact d4) hjl (by rw [← hmq];exact hv) hmq (by rw [← hmq];exact hfj) HIt.out hjj (by omega) hbs hnB hng
     have HPc:=Lib.hid HPc
     have HSj:=Lib.hid hsj
     have hOB:=Lib.hid hOB
     clear hrw hpp hfj hsj hv d0 d1 d2 d3 d4 hq hmq hy hjj hnB hng
     go_upto_region 10 with fail
     clear c2 rM
     refine piece (fun _=>_) (HPc.out _ rfl rfl rfl rfl) ?_
     rintro a' w4 ⟨z,v4,rfl,ho4,hm4⟩
     simp only [pS]
     rw [← HSj.out] at ho4
     obtain ⟨xa,xc,rfl⟩:=ho4.slice
     have hj1:(m.items.take (j + 1)).length=j + 1:=by rw [List.length_take,HLl.out];omega
     rw [hj1] at ho4 ⊢
     have hN4:New w1 w4:=((Mods.ofNew hNj).trans hm4).new (fun b hb=>by
      have h1:M + 1 ≤ b:=hOB.out b hb
      omega)
     clear hj1 HPc HIt
     go_wp2_with fail
     go_roundw
     case rel=>exact ⟨j + 1,xa,xc,by omega,by go_num,rfl,Lib.hid ho4,hN4⟩
     case measure=>simp [intOf];omega
    ·obtain rfl:j=l:=by omega
     have hjd:decide ((j:Int) < (j:Int))=false:=decide_eq_false (by omega)
     have htk:m.items.take j=m.items:=List.take_of_length_le (by rw [HLl.out];exact Nat.le_refl _)
     have HX:=HIt.out
     rw [htk] at HX
     have hil:=HFt.out.1
     rw [HLl.out] at hil
     have HRi:=HX.reads (by rw [HLl.out];omega)
     have HRi:=Lib.hid HRi
     have HPp:=Lib.hid (HP.out.new (hNw.trans hNj))
     have f2:=frozen_row (i:=2) rM
     have hwx:=hNj.size
     have HO2:=Lib.hid (HO1.out.new hNj)
     have hNx:=hNw.trans hNj
     clear HX htk HIt HIr HIpp HO1
     go_upto_region 12 with fail
     have hm5:=setMods wr M 2 (.slice ia j ic)
     have rM5:=setCell_heap (i:=2) rM (.slice ia j ic)
     simp only [pS] at rM5
     obtain ⟨w5,hw5⟩:∃ V,wr.setCell ⟨M,2,none⟩ (.slice ia j ic)=V:=⟨_,rfl⟩
     rw [hw5] at hm5 rM5 ⊢
     clear hw5 c2 f2
     have hN5:New w w5:=((Mods.ofNew hNx).trans hm5).new (fun b hb=>by omega)
     have HRi5:=Lib.hid (HRi.out.far hm5 (far_row rM))
     have hPp5:RowR w5 (.slice pa np pc) np 5 (fun i=>pcs (m.params.getD i noP)):=HP.out.new hN5
     have HPp5:=Lib.hid hPp5
     have HO5:Hid (OwD w.heap.size w5 (.slice oa k oc) (d.take k)):=Lib.hid (HO2.out.mods hm5 (fun g hg e=>by have:=hOl.out g hg;omega) (far_row rM))
     have hs5:=hm5.size
     have HNpl:m.params.length ≤ 2513169434880:=HFt.out.2.1
     rw [HNp.out] at HNpl
     have hk5:(d.take k).length ≤ 2000000:=by rw [List.length_take];omega
     clear HRi HPp HO2 hPp5 hm5 rM HRM0 HP
     have hA5:New w5 (w5.alloc (.cells #[] 73)):=(Mods.refl _ _).alloc _
     have r5':=hA5.heap rM5 id
     have c3:=cell_of_row _ _ 3 _ _ _ r5'
     simp only [gS] at c3
     go_upto_region 13 with (at_builtin;refine wpList_spread_P (w:=w5) (f:=fun i=>pcs (m.params.getD i noP)) _ _ rfl rfl rfl rfl rfl (fun _=>rfl) (fun i _=>pcs_one _) HPp5.out HNpl ?_;intro v6 w6 ho6 hk6;obtain ⟨za,zc,rfl⟩:=ho6.slice;have rM6:=hk6.heap rM5 id;have c36:=cell_of_row _ _ 3 _ _ _ rM6;simp only [gS] at c36;have f36:=frozen_row (i:=3) rM6)
     have hm7:=setMods w6 M 3 (.slice za np zc)
     have rM7:=setCell_heap (i:=3) rM6 (.slice za np zc)
     simp only [pS] at rM7
     obtain ⟨w7,hw7⟩:∃ V,w6.setCell ⟨M,3,none⟩ (.slice za np zc)=V:=⟨_,rfl⟩
     rw [hw7] at hm7 rM7 ⊢
     clear hw7 c3 c36 f36
     have hN6:=hN5.trans hk6
     have hN7:New w w7:=((Mods.ofNew hN6).trans hm7).new (fun b hb=>by omega)
     have HRi7:=Lib.hid ((HRi5.out.new hk6).far hm7 (far_row rM6))
     have ho6':OwP w5.heap.size w6 (.slice za np zc) m.params.length (pf m.params):=by rw [HNp.out];exact ho6
     have HPp7:Hid (RdP true w7 (.slice za np zc) m.params):=Lib.hid (by
      have h1:=ho6'.rdP (by rw [HNp.out];omega)
      exact h1.far hm7 (far_row rM6))
     have HO7:Hid (OwD w.heap.size w7 (.slice oa k oc) (d.take k)):=Lib.hid ((HO5.out.new hk6).mods hm7 (fun g hg e=>by have:=hOl.out g hg;omega) (far_row rM6))
     have hs7:=hm7.size
     have hs6:=hk6.size
     have k0:=cell_of_row _ _ 0 _ _ _ rM7
     have k1:=cell_of_row _ _ 1 _ _ _ rM7
     have k2:=cell_of_row _ _ 2 _ _ _ rM7
     have k3:=cell_of_row _ _ 3 _ _ _ rM7
     simp only [gS] at k0 k1 k2 k3
     have hmc:mcs m (.slice ia j ic) (.slice za np zc) = [.string kx,.bool yb,.slice ia j ic,.slice za np zc]:=by unfold mcs;rw [HKx.out,HYb.out]
     have hb7:w.heap.size ≤ w7.heap.size:=by omega
     have hOl':Hid (∀ g,Value.ownBlock (.slice oa k oc)=some g→w.heap.size ≤ g ∨ False):=Lib.hid fun g hg=>.inl (by have:=(HO7.out.lt hg).1;omega)
     clear rM5 r5' rM6 rM7 ho6 ho6' HRi5 HPp5 HO5 hA5
     have HMC:=Lib.hid hmc
     clear hmc
     go_wp2_with (at_builtin;refine wpList_append_D (w:=w7) (m:=m) (ia:=ia) (il:=j) (ic:=ic) (pa:=za) (pl:=np) (pc:=zc) _ _ rfl rfl rfl rfl (by rw [HMC.out]) HO7.out HRi7.out HPp7.out hk5 hb7 ?_;intro v8 w8 ho8 hm8;obtain ⟨ya,yc,rfl⟩:=ho8.slice)
     have hN8:New w w8:=hm8 w (fun _=>False) hN7 hOl'.out
     have el:(d.take k ++ [m]).length=k + 1:=by rw [List.length_append,List.length_take,Hn.out];simp;omega
     rw [el,← HSn.out] at ho8
     have hmin:min k d.length + 1=k + 1:=by rw [Hn.out];omega
     go_roundw
     case rel=>exact ⟨k + 1,ya,yc,by omega,by go_num,by rw [hmin],Lib.hid ho8,hN8⟩
     case measure=>simp [intOf];omega
  ·obtain rfl:k=n:=by omega
   have hkd:decide ((k:Int) < (k:Int))=false:=decide_eq_false (by omega)
   have htk:d.take k=d:=List.take_of_length_le (by rw [Hn.out];exact Nat.le_refl _)
   have HX:=HO.out
   rw [htk] at HX
   have HX:=Lib.hid HX
   clear htk HO
   go_wp2_with fail
   rw [← HPost.out]
   exact ⟨_,rfl,HX.out,hN⟩
end Go.Proofs.YtkiiameibdhdfaaGreatDoor
