/- Texts joined. -/
import Derived.Test.YtkiiameibdhdfaaGreatDoorS01
import Derived.BigRegion
import Derived.Lib.SmallJoins
import Derived.Test.YtkiiameibdhdfaaGreatDoorS00
import Derived.Shelf.Strings.BuilderK
import Derived.OwnWalkIn
import Derived.TacticsInMore
import Derived.LoopNIn
import Derived.LoopIn
import Derived.WalkLawsBesides
import Derived.Lib.AppendIntMem
import Derived.Test.YtkiiameibdhdfaaGreatDoorRows
import Derived.LaidMore
import Derived.OpenShut
import Derived.ProofKit
import Derived.Stop.Joined
import Derived.Lib.LaidTab
import Derived.HandedShaped
set_option linter.unusedSimpArgs false
set_option linter.unusedVariables false
set_option maxHeartbeats 16000000
set_option maxRecDepth 100000
namespace Go.Proofs.YtkiiameibdhdfaaGreatDoor
open Go.RowKit Go.Shelf Go.Cs
attribute [local go_sem] Oper.semAt_some


def ent (k:Nat) (val:Value) (i:Nat):MapEntry:={ key:=.int .u8 (k:Nat),val:=val,born:=i }
abbrev numF:Value:=fn 147
abbrev boolF:Value:=fn 154
structure FitsAt (W:World) (M b3 b4 b5:Nat):Prop where
 map:W.heap[M]? = some (.map [ent 1 numF 0,ent 2 numF 1,ent 3 (clo b3) 2,ent 4 (clo b4) 3,ent 5 (clo b5) 4,ent 6 boolF 5].toArray 6)
 str:Boxed W b3 67 (fn 150)
 tok:Boxed W b4 67 (fn 152)
 byt:Boxed W b5 67 (fn 153)
theorem FitsAt.new {W W':World} {M b3 b4 b5:Nat} (h:FitsAt W M b3 b4 b5) (hN:New W W'):FitsAt W' M b3 b4 b5 :=
 ⟨hN.heap h.map id,hN.boxed h.str id,hN.boxed h.tok id,hN.boxed h.byt id⟩
theorem opIn_call' {P:Program} {ops:Array Oper} {Q:Exit→Act→World→Prop} {r:Option Nat} {i:Nat} {o:Oper} (d:Option Tmp) {a:Act} {w:World} {K:Act→World→Prop} (hp:plainOp o=true) (hi:ops[i]? = some o) (hg:o.guard=none) (hd:o.dst=d)
  (f:FuncId) (args:Array Value) (h:(execOp a.eval o).run P w = .ok (.enter f args) w) (hc:Calls P f args w fun e w'=>∃ v,e = .returned v∧K (a.put d v) w'):wpOpIn (Fr r) 0 P ops Q i K a w:=by
 subst hd
 unfold Go.wpOpIn
 simp only [hi,Region.wanted,hg,if_true,Oper.wpIn,semAt_plain hp,h]
 refine ⟨fun _ _=>trivial,fun h=>by simp [Fence.wide] at h,(callsIn_wide (n:=0)).2 (hc.mono ?_)⟩
 rintro e w' ⟨v,rfl,hk⟩
 exact hk
theorem info_bare:(Tryz.prog.info? 66).map (·.size)=some 4:=by kernel_rfl


theorem results_row3 {P:Program} {fn:Func} {p q r:Tmp} {ty:TypeId} (h:fn.results = #[.cell p ty,.tmp q,.tmp r]) (tmps:Array Value) (w:World) (g:Nat) (t:TypeId) (cs:Array Value) (fr:Nat × Nat) (d:TypeDesc)
  (hp:tmps.getD p undef = .pointer (some ⟨g,0,none⟩)) (hg:w.heap[g]? = some (.cells cs t fr))
  (hu:P.underlying ty=some d) (hd:(match d with | .struct _ | .array _ _=>true | _=>false)=true) (hi:(P.info? ty).map (·.size)=some cs.size) {v v2:Value} (hq:tmps.getD q undef=v) (hr:tmps.getD r undef=v2) :
  (results fn tmps).run P w = .ok (.tuple #[.agg cs,v,v2]) w:=by
 subst hq
 subst hr
 have hp':tmps[p]?.getD undef = .pointer (some ⟨g,0,none⟩):=by simpa using hp
 simp [results,h,hp',asAddr,run_loadVar_row w g t ty cs fr d hg hu hd hi]
theorem read_end {fn:Func} {R:Ending→World→Prop} {tmps:Array Value} {W:World} {B:Nat} {a b c d v v2:Value} (hf:fn.results = #[.cell 2 66,.tmp 3,.tmp 4]) (hp:tmps.getD 2 undef = .pointer (some ⟨B,0,none⟩)) (hq:tmps.getD 3 undef=v) (hr:tmps.getD 4 undef=v2)
  (hg:W.heap[B]? = some (.cells #[a,b,c,d] 66 (0,0))) (hR:R (.returned (.tuple #[.agg #[a,b,c,d],v,v2])) W):bodyPost Tryz.prog fn R .ret ⟨tmps,[]⟩ W :=
 bodyPost_ret (results_row3 (p:=2) (q:=3) (r:=4) hf tmps W B 66 #[a,b,c,d] (0,0) _ hp hg Tryz.underlying66 rfl info_bare hq hr) rfl hR
theorem range_lit (t:Array Value) (n:Nat) (h:t.size=n):t=((List.range n).map fun i=>t.getD i undef).toArray:=by
 apply Array.ext
 ·simp [h]
 ·intro i h1 h2
  simp [h1]
def u8s (l:Bare.Bs):List Value:=l.map fun c=>.int .u8 (c.toNat:Nat)
theorem u8s_len (l:Bare.Bs):(u8s l).length=l.length:=by simp [u8s]
theorem u8s_get {l:Bare.Bs} {i:Nat} {c:UInt8} (h:l[i]? = some c):(u8s l)[i]? = some (.int .u8 (c.toNat:Nat)):=by
 unfold u8s
 rw [List.getElem?_map,h]
 rfl
theorem u8s_snoc (l:Bare.Bs) (c:UInt8):u8s (l ++ [c])=u8s l ++ [.int .u8 (c.toNat:Nat)]:=by simp [u8s]
theorem byte_val (m:Nat):((UInt8.ofNat (m % 256)).toNat:Int)=(m:Int) % 256:=by
 rw [UInt8.toNat_ofNat']
 omega
theorem nums_tx (l:Bare.Bs):strOfNums (l.map fun c=>((c.toNat:Nat):Int))=tx l:=by
 unfold strOfNums tx
 congr 2
 rw [List.map_map]
 conv=>rhs;rw [← List.map_id l]
 apply List.map_congr_left
 intro c _
 simp
theorem conv_own {w:World} {base:Nat} {v:Value} {l:Bare.Bs} (h:w.ownsRow base 5 1 v l.length (u8s l)):(convert 113 9 v).run Tryz.prog w = .ok (.string (tx l)) w:=by
 rcases h.2 with ⟨rfl,h0⟩ | ⟨g,cap,cur,rfl,hb,hg,h1,h2,h3,h4⟩
 ·rw [run_convert_bytes_nil w 113 5 Tryz.underlying113 Tryz.underlying5 0 0 9 Tryz.underlying9]
  obtain rfl:l = []:=List.length_eq_zero_iff.1 h0
  rfl
 ·rw [run_convert_bytes_arg w 113 5 Tryz.underlying113 Tryz.underlying5 g 0 l.length cap (l.map fun c=>((c.toNat:Nat):Int)) (by simp) (fun i hi=>?_) 9 Tryz.underlying9,nums_tx]
  have e:(u8s l)[i]? = some (.int .u8 (((l[i]'hi).toNat:Nat):Int)):=u8s_get (List.getElem?_eq_getElem hi)
  rw [Nat.zero_add]
  have hc:w.cell? ⟨g,i,none⟩=cur[i]?:=cell_of_row _ _ _ _ _ _ hg
  rw [hc]
  rw [← h4,List.getElem?_take] at e
  rw [if_pos (by omega)] at e
  rw [← Array.getElem?_toList,e,List.getD_eq_getElem?_getD,List.getElem?_map,List.getElem?_eq_getElem hi]
  rfl
theorem infoB':(Tryz.prog.info? 5).map (fun i=>(i.zero,i.size,i.bytes))=some (some (.int .u8 0),1,1):=by kernel_rfl
def noIt:Bare.It:=⟨0,0,[],false⟩
def ReadP (r:Option (Bare.It × Bare.Bs)) (w:World) (e:Ending) (w':World):Prop :=
 e = .returned (match r with | some (b,rest)=>.tuple #[bv b,.string (tx rest),.int .i64 0] | none=>.tuple #[bv noIt,.string ⟨#[]⟩,.int .i64 120])∧New w w'
theorem one4 (k n:Int) (s:ByteArray) (y:Bool):∀ v ∈ ([.int .u8 k,.int .i64 n,.string s,.bool y]:List Value),v.oneCell'=true:=by
 intro v hv
 simp at hv
 rcases hv with rfl | rfl | rfl | rfl <;> rfl
theorem no_row (w:World):New w (w.alloc (.cells #[.int .u8 0,.int .i64 0,.string ⟨#[]⟩,.bool false] 66))∧(w.alloc (.cells #[.int .u8 0,.int .i64 0,.string ⟨#[]⟩,.bool false] 66)).heap[w.heap.size]? = some (.cells #[.int .u8 0,.int .i64 0,.string ⟨#[]⟩,.bool false] 66 (0,0)) :=
 ⟨(Mods.refl _ _).alloc _,World.alloc_heap_new w _⟩
theorem row_facts {W:World} {B:Nat} {a b c d:Value} (h:W.heap[B]? = some (.cells #[a,b,c,d] 66 (0,0))) :
  (W.cell? ⟨B,0,none⟩=some a∧W.cell? ⟨B,1,none⟩=some b∧W.cell? ⟨B,2,none⟩=some c∧W.cell? ⟨B,3,none⟩=some d)∧(W.frozen? ⟨B,0,none⟩=false∧W.frozen? ⟨B,1,none⟩=false∧W.frozen? ⟨B,2,none⟩=false∧W.frozen? ⟨B,3,none⟩=false) :=
 ⟨⟨cell_of_row _ _ 0 _ _ _ h,cell_of_row _ _ 1 _ _ _ h,cell_of_row _ _ 2 _ _ _ h,cell_of_row _ _ 3 _ _ _ h⟩,frozen_row (i:=0) h,frozen_row (i:=1) h,frozen_row (i:=2) h,frozen_row (i:=3) h⟩
theorem set4 {w W:World} {B:Nat} {a b c d:Value} (hN:New w W) (hB:w.heap.size ≤ B) (h:W.heap[B]? = some (.cells #[a,b,c,d] 66 (0,0))) (a' b' c' d':Value) :
  New w ((((W.setCell ⟨B,0,none⟩ a').setCell ⟨B,1,none⟩ b').setCell ⟨B,2,none⟩ c').setCell ⟨B,3,none⟩ d')∧((((W.setCell ⟨B,0,none⟩ a').setCell ⟨B,1,none⟩ b').setCell ⟨B,2,none⟩ c').setCell ⟨B,3,none⟩ d').heap[B]? = some (.cells #[a',b',c',d'] 66 (0,0)):=by
 refine ⟨(((hN.setCell (p:=⟨B,0,none⟩) (.inl hB) _).setCell (p:=⟨B,1,none⟩) (.inl hB) _).setCell (p:=⟨B,2,none⟩) (.inl hB) _).setCell (p:=⟨B,3,none⟩) (.inl hB) _,?_⟩
 have h1:=heap_setCell_same W B 0 _ 66 a' h
 have h2:=heap_setCell_same _ B 1 _ 66 b' h1
 have h3:=heap_setCell_same _ B 2 _ 66 c' h2
 have h4:=heap_setCell_same _ B 3 _ 66 d' h3
 exact h4
theorem geq_marks (c:UInt8):decide (0 ≤ Lib.indexByte Bare.marks c)=Bare.marks.contains c:=(Lib.contains_iff_indexByte Bare.marks c).symm
theorem tok1_p:PredB 219 #[] Bare.inTok:=by
 intro c w
 have HL:=Lib.hid (letter_p c)
 have HD:=Lib.hid (digit_p c)
 have Ho:=geq_marks c
 have hback:((c.toNat:Nat):Int).toNat.toUInt8=c:=by simp
 have HK:∀ W,Calls Tryz.prog 76 #[.string ⟨#[33,35,36,37,38,39,42,43,45,46,94,95,96,124,126,58,47]⟩,.int .u8 (c.toNat:Nat)] W fun e w'=>e = .returned (.int .i64 (Lib.indexByte Bare.marks c))∧w'=W:=fun W =>
  (Tryz.strings_IndexByte _ _ W).mono (by rintro e w' ⟨rfl,hw⟩;rw [hback];exact ⟨rfl,hw⟩)
 have HK:=Lib.hid HK
 unfold Bare.inTok
 obtain ⟨o,ho⟩:∃ o,Lib.indexByte Bare.marks c=o:=⟨_,rfl⟩
 rw [ho] at HK Ho
 obtain ⟨L,hL⟩:∃ x,Bare.letB c=x:=⟨_,rfl⟩
 obtain ⟨D,hD⟩:∃ x,Bare.digB c=x:=⟨_,rfl⟩
 obtain ⟨M,hM⟩:∃ x,Bare.marks.contains c=x:=⟨_,rfl⟩
 rw [hL] at HL ⊢
 rw [hD] at HD ⊢
 rw [hM] at Ho ⊢
 obtain ⟨n,hn⟩:∃ x,c.toNat=x:=⟨_,rfl⟩
 rw [hn] at HL HD HK ⊢
 clear ho hL hD hM hn hback
 have hcase:(L=true) ∨ (L=false∧D=true) ∨ (L=false∧D=false):=by cases L <;> cases D <;> simp
 rcases hcase with rfl | ⟨rfl,rfl⟩ | ⟨rfl,rfl⟩
 all_goals
  go_enter Tryz.func219,Tryz.ntmps219
  go_wp2_with (first | (go_at_call 175;refine (HL.out _).mono ?_;rintro e w' ⟨rfl,rfl⟩) | (go_at_call 176;refine (HD.out _).mono ?_;rintro e w' ⟨rfl,rfl⟩) | (go_at_call 76;refine (HK.out _).mono ?_;rintro e w' ⟨rfl,rfl⟩))
  go_ret
  first | exact ⟨rfl,rfl⟩ | exact ⟨by simp [Ho],rfl⟩
theorem token_read (s:ByteArray) (w:World) (hs:s.size ≤ 1000000) :
  Calls Tryz.prog 210 #[.string s] w (ReadP (some (⟨4,0,(bl s).takeWhile Bare.inTok,false⟩,(bl s).drop ((bl s).takeWhile Bare.inTok).length)) w):=by
 have HR:=Lib.hid (fun W=>run_any 219 #[] _ tok1_p (enters_of Tryz.func219 (by kernel_rfl) rfl) s W (by omega))
 have hle:=Bare.takeWhile_len Bare.inTok (bl s)
 have htk:=Bare.takeWhile_take Bare.inTok (bl s)
 unfold ReadP bv bcs
 simp only
 rw [← htk]
 rw [htk]
 obtain ⟨n,hn⟩:∃ n,((bl s).takeWhile Bare.inTok).length=n:=⟨_,rfl⟩
 rw [hn] at HR hle htk ⊢
 rw [bl_len] at hle
 rw [← htk]
 have h1:=run_sl_h s n hle
 have h2:=run_sl_l s n hle
 obtain ⟨x,hx⟩:∃ x,tx ((bl s).take n)=x:=⟨_,rfl⟩
 obtain ⟨y,hy⟩:∃ x,tx ((bl s).drop n)=x:=⟨_,rfl⟩
 rw [hx] at h1 ⊢
 rw [hy] at h2 ⊢
 clear hx hy hn htk
 obtain ⟨hN,hr⟩:=no_row w
 go_enter Tryz.func210,Tryz.ntmps210
 go_upto_region 2 with (go_at_call 217;refine (HR.out _).mono ?_;rintro e w' ⟨rfl,rfl⟩)
 obtain ⟨W,hW⟩:∃ W,w.alloc (.cells #[.int .u8 0,.int .i64 0,.string ⟨#[]⟩,.bool false] 66)=W:=⟨_,rfl⟩
 rw [hW] at hN hr ⊢
 obtain ⟨B,hB⟩:∃ B,w.heap.size=B:=⟨_,rfl⟩
 have hBw:w.heap.size ≤ B:=by omega
 rw [hB] at hr ⊢
 clear hW hB
 obtain ⟨⟨c0,c1,c2,c3⟩,f0,f1,f2,f3⟩:=row_facts hr
 go_region
 obtain ⟨hN2,hr2⟩:=set4 hN hBw hr (.int .u8 4) (.int .i64 0) (.string x) (.bool false)
 have hN2:=hN2.drew
 have hr2:((((W.setCell ⟨B,0,none⟩ (.int .u8 4)).setCell ⟨B,1,none⟩ (.int .i64 0)).setCell ⟨B,2,none⟩ (.string x)).setCell ⟨B,3,none⟩ (.bool false)).drew.heap[B]? = some (.cells #[(.int .u8 4),(.int .i64 0),(.string x),(.bool false)] 66 (0,0)):=hr2
 obtain ⟨W2,hW2⟩:∃ W2,((((W.setCell ⟨B,0,none⟩ (.int .u8 4)).setCell ⟨B,1,none⟩ (.int .i64 0)).setCell ⟨B,2,none⟩ (.string x)).setCell ⟨B,3,none⟩ (.bool false)).drew=W2:=⟨_,rfl⟩
 rw [hW2] at hN2 hr2 ⊢
 go_wp2_with fail
 exact read_end (by kernel_rfl) rfl rfl rfl hr2 ⟨rfl,hN2⟩
def ansR (l:Bare.Bs):Option (Bare.It × Bare.Bs):=match l with
 | _::d::r=>if d=48 ∨ d=49 then some (⟨6,0,[],d == 49⟩,r) else none
 | _=>none
theorem half_facts:∀ k:Fin 256,(decide (((k.1:Nat):Int) / 2=24)=(decide (UInt8.ofNat k.1=48) || decide (UInt8.ofNat k.1=49)))∧((decide (UInt8.ofNat k.1=48) || decide (UInt8.ofNat k.1=49))=true→decide (bits BinOp.and IntKind.u8 ((k.1:Nat):Int) 1=1)=(UInt8.ofNat k.1 == 49)):=by decide +kernel
theorem half_fact (c:UInt8):(decide ((c.toNat:Int) / 2=24)=(decide (c=48) || decide (c=49)))∧((decide (c=48) || decide (c=49))=true→decide (bits BinOp.and IntKind.u8 (c.toNat:Int) 1=1)=(c == 49)):=by
 have h:=half_facts ⟨c.toNat,UInt8.toNat_lt c⟩
 simp only [UInt8.ofNat_toNat] at h
 exact h
theorem answer_read (s:ByteArray) (w:World) (hs:s.size ≤ 1000000) :
  Calls Tryz.prog 213 #[.string s] w (ReadP (ansR (bl s)) w):=by
 unfold ReadP
 obtain ⟨hN,hr⟩:=no_row w
 have hl:=bl_len s
 by_cases h2:s.size < 2
 ·have hlt:decide ((s.size:Int) < 2)=true:=decide_eq_true (by omega)
  have e:ansR (bl s)=none:=by
   unfold ansR
   match hb:bl s with
   | []=>rfl
   | [_]=>rfl
   | _::_::_=>rw [hb] at hl;simp at hl;omega
  rw [e]
  unfold bv bcs noIt
  simp only
  go_enter Tryz.func213,Tryz.ntmps213
  go_upto_region 2 with fail
  obtain ⟨W,hW⟩:∃ W,w.alloc (.cells #[.int .u8 0,.int .i64 0,.string ⟨#[]⟩,.bool false] 66)=W:=⟨_,rfl⟩
  rw [hW] at hN hr ⊢
  obtain ⟨B,hB⟩:∃ B,w.heap.size=B:=⟨_,rfl⟩
  have hBw:w.heap.size ≤ B:=by omega
  rw [hB] at hr ⊢
  clear hW hB
  obtain ⟨⟨c0,c1,c2,c3⟩,f0,f1,f2,f3⟩:=row_facts hr
  go_wp2_with fail
  obtain ⟨hN2,hr2⟩:=set4 hN hBw hr (.int .u8 0) (.int .i64 0) (.string ⟨#[]⟩) (.bool false)
  obtain ⟨W2,hW2⟩:∃ W2,((((W.setCell ⟨B,0,none⟩ (.int .u8 0)).setCell ⟨B,1,none⟩ (.int .i64 0)).setCell ⟨B,2,none⟩ (.string ⟨#[]⟩)).setCell ⟨B,3,none⟩ (.bool false))=W2:=⟨_,rfl⟩
  rw [hW2] at hN2 hr2 ⊢
  exact read_end (by kernel_rfl) rfl rfl rfl hr2 ⟨rfl,hN2⟩
 ·have hlt:decide ((s.size:Int) < 2)=false:=decide_eq_false (by omega)
  have hix:∀ W,(Instr.index 9 (.string s) (.int .i64 1)).run Tryz.prog W = .ok (.int .u8 ((gb s 1).toNat:Nat)) W:=run_idx s 1 (by omega)
  obtain ⟨c,r,hcr⟩:∃ c r,bl s=c::gb s 1::r:=by
   match hb:bl s with
   | []=>rw [hb] at hl;simp at hl;omega
   | [_]=>rw [hb] at hl;simp at hl;omega
   | c::d::r =>
    refine ⟨c,r,?_⟩
    have:=gb_get s 1 (by omega)
    rw [hb] at this
    simp at this
    rw [this]
  have h2:∀ W,(Instr.slice 9 (.string s) (some (.int .i64 2)) none none).run Tryz.prog W = .ok (.string (tx ((bl s).drop 2))) W:=run_sl_l s 2 (by omega)
  have hf:=half_fact (gb s 1)
  have hd:(bl s).drop 2=r:=by rw [hcr];rfl
  have e:ansR (bl s)=if gb s 1=48 ∨ gb s 1=49 then some (⟨6,0,[],gb s 1 == 49⟩,r) else none:=by rw [hcr];rfl
  rw [e]
  rw [hd] at h2
  obtain ⟨hf1,hf2⟩:=hf
  by_cases hok:gb s 1=48 ∨ gb s 1=49
  ·rw [if_pos hok]
   have hb:(decide (gb s 1=48) || decide (gb s 1=49))=true:=by simpa using hok
   have hf2:=hf2 hb
   rw [hb] at hf1
   unfold bv bcs
   simp only
   obtain ⟨y,hy⟩:∃ y,(gb s 1 == 49)=y:=⟨_,rfl⟩
   rw [hy] at hf2 ⊢
   obtain ⟨n,hn⟩:∃ n,(gb s 1).toNat=n:=⟨_,rfl⟩
   rw [hn] at hix hf1 hf2
   have hf3:((n:Int) / 2 != 24)=false:=by
    have:((n:Int) / 2 == 24)=true:=hf1
    simp [bne,this]
   obtain ⟨q,hq⟩:∃ q,bits BinOp.and IntKind.u8 (n:Int) 1=q:=⟨_,rfl⟩
   rw [hq] at hf2
   have hf4:(q == 1)=y:=hf2
   obtain ⟨x,hx⟩:∃ x,tx r=x:=⟨_,rfl⟩
   rw [hx] at h2 ⊢
   clear hn hb hy hx hcr hd e hok hl
   go_enter Tryz.func213,Tryz.ntmps213
   go_upto_region 3 with fail
   obtain ⟨W,hW⟩:∃ W,w.alloc (.cells #[.int .u8 0,.int .i64 0,.string ⟨#[]⟩,.bool false] 66)=W:=⟨_,rfl⟩
   rw [hW] at hN hr ⊢
   obtain ⟨B,hB⟩:∃ B,w.heap.size=B:=⟨_,rfl⟩
   have hBw:w.heap.size ≤ B:=by omega
   rw [hB] at hr ⊢
   clear hW hB
   obtain ⟨⟨c0,c1,c2,c3⟩,f0,f1,f2,f3⟩:=row_facts hr
   go_region
   obtain ⟨hN2,hr2⟩:=set4 hN hBw hr (.int .u8 6) (.int .i64 0) (.string (tx [])) (.bool y)
   have hN2:=hN2.drew
   have hr2:((((W.setCell ⟨B,0,none⟩ (.int .u8 6)).setCell ⟨B,1,none⟩ (.int .i64 0)).setCell ⟨B,2,none⟩ (.string (tx []))).setCell ⟨B,3,none⟩ (.bool y)).drew.heap[B]? = some (.cells #[(.int .u8 6),(.int .i64 0),(.string (tx [])),(.bool y)] 66 (0,0)):=hr2
   obtain ⟨W2,hW2⟩:∃ W2,((((W.setCell ⟨B,0,none⟩ (.int .u8 6)).setCell ⟨B,1,none⟩ (.int .i64 0)).setCell ⟨B,2,none⟩ (.string (tx []))).setCell ⟨B,3,none⟩ (.bool y)).drew=W2:=⟨_,rfl⟩
   rw [hW2] at hN2 hr2 ⊢
   go_wp2_with fail
   exact read_end (by kernel_rfl) rfl rfl rfl hr2 ⟨rfl,hN2⟩
  ·rw [if_neg hok]
   have hb:(decide (gb s 1=48) || decide (gb s 1=49))=false:=by
    rw [Bool.eq_false_iff];simpa using hok
   rw [hb] at hf1
   unfold bv bcs noIt
   simp only
   obtain ⟨n,hn⟩:∃ n,(gb s 1).toNat=n:=⟨_,rfl⟩
   rw [hn] at hix hf1
   have hf3:((n:Int) / 2 != 24)=true:=by
    have:((n:Int) / 2 == 24)=false:=hf1
    simp [bne,this]
   clear hn hb hcr hd e hok hl hf2
   go_enter Tryz.func213,Tryz.ntmps213
   go_upto_region 2 with fail
   obtain ⟨W,hW⟩:∃ W,w.alloc (.cells #[.int .u8 0,.int .i64 0,.string ⟨#[]⟩,.bool false] 66)=W:=⟨_,rfl⟩
   rw [hW] at hN hr ⊢
   obtain ⟨B,hB⟩:∃ B,w.heap.size=B:=⟨_,rfl⟩
   have hBw:w.heap.size ≤ B:=by omega
   rw [hB] at hr ⊢
   clear hW hB
   obtain ⟨⟨c0,c1,c2,c3⟩,f0,f1,f2,f3⟩:=row_facts hr
   go_wp2_with fail
   obtain ⟨hN2,hr2⟩:=set4 hN hBw hr (.int .u8 0) (.int .i64 0) (.string ⟨#[]⟩) (.bool false)
   obtain ⟨W2,hW2⟩:∃ W2,((((W.setCell ⟨B,0,none⟩ (.int .u8 0)).setCell ⟨B,1,none⟩ (.int .i64 0)).setCell ⟨B,2,none⟩ (.string ⟨#[]⟩)).setCell ⟨B,3,none⟩ (.bool false))=W2:=⟨_,rfl⟩
   rw [hW2] at hN2 hr2 ⊢
   exact read_end (by kernel_rfl) rfl rfl rfl hr2 ⟨rfl,hN2⟩


theorem trimB_lib (c:UInt8) (l:Bare.Bs):Lib.trimRightB l c=Bare.trimR c l:=by
 first | rfl | (unfold Lib.trimRightB Bare.trimR;rfl)
def sofar (short acc:Bare.Bs) (N bt k:Nat):Prop:=Bare.take6 0 0 short=(Bare.take6 (N % 2 ^ bt) bt (short.drop k)).map (acc ++ ·)
theorem sofar_none {short acc:Bare.Bs} {N bt k:Nat} {c:UInt8} (h:sofar short acc N bt k) (hd:short.drop k=c::short.drop (k + 1)) (hv:Bare.v6 c=none):Bare.take6 0 0 short=none:=by
 rw [h,hd,Bare.t6_no _ _ _ _ hv];rfl
theorem sofar_few {short acc:Bare.Bs} {N bt k v:Nat} {c:UInt8} (h:sofar short acc N bt k) (hd:short.drop k=c::short.drop (k + 1)) (hv:Bare.v6 c=some v) (hb:bt=0):sofar short acc ((N * 64 + v) % 4294967296) (bt + 6) (k + 1):=by
 unfold sofar at h ⊢
 rw [h,hd,Bare.take6_few N bt c _ v hv hb]
theorem sofar_more {short acc:Bare.Bs} {N bt k v:Nat} {c:UInt8} (h:sofar short acc N bt k) (hd:short.drop k=c::short.drop (k + 1)) (hv:Bare.v6 c=some v) (hb:bt=2 ∨ bt=4 ∨ bt=6) :
  sofar short (acc ++ [UInt8.ofNat ((N * 64 + v) % 4294967296 / 2 ^ (bt - 2) % 256)]) ((N * 64 + v) % 4294967296) (bt - 2) (k + 1):=by
 unfold sofar at h ⊢
 rw [h,hd,Bare.take6_more N bt c _ v hv hb,Option.map_map]
 congr 1
 funext l
 simp
theorem sofar_end {short acc:Bare.Bs} {N bt k:Nat} (h:sofar short acc N bt k) (hk:short.length ≤ k):Bare.take6 0 0 short=if N % 2 ^ bt=0 then some acc else none:=by
 unfold sofar at h
 rw [h,List.drop_eq_nil_of_le hk,Bare.take6_end]
 split <;> simp
theorem or64 (N v:Nat) (hv:v < 64):bits BinOp.or IntKind.u32 ((N:Int) * 64 % 4294967296) (v:Int)=(((N * 64 + v) % 4294967296:Nat):Int):=by
 have e:((N:Int) * 64 % 4294967296)=((N * 64 % 4294967296:Nat):Int):=by omega
 have e2:N * 64 % 4294967296=(N % 67108864) <<< 6:=by rw [Nat.shiftLeft_eq];omega
 rw [e,u32_or_nat _ _ (by omega) (by omega),e2,← Nat.shiftLeft_add_eq_or_of_lt (by omega:v < 2 ^ 6),Nat.shiftLeft_eq]
 congr 1
 omega
def unsixV (r:Option Bare.Bs):Value:=match r with
 | some l=>.tuple #[.string (tx l),.bool true]
 | none=>.tuple #[.string ⟨#[]⟩,.bool false]
theorem lit62 (t:Array Value) (h:t.size=62):∃ u:Nat→Value,t=(u 0::u 1::u 2::u 3::u 4::u 5::u 6::u 7::u 8::u 9::u 10::u 11::u 12::u 13::u 14::u 15::u 16::u 17::u 18::u 19::u 20::u 21::u 22::u 23::u 24::u 25::u 26::u 27::u 28::u 29::u 30::u 31::u 32::u 33::u 34::u 35::u 36::u 37::u 38::u 39::u 40::u 41::u 42::u 43::u 44::u 45::u 46::u 47::u 48::u 49::u 50::u 51::u 52::u 53::u 54::u 55::u 56::u 57::u 58::u 59::u 60::u 61::([]:List Value)).toArray:=⟨fun i=>t.getD i undef,range_lit t 62 h⟩
theorem unsix_any (s:ByteArray) (w:World) (hs:s.size ≤ 1000000) :
  Calls Tryz.prog 221 #[.string s] w fun e w'=>e = .returned (unsixV (Bare.unsix (bl s)))∧New w w':=by
 obtain ⟨r,hr⟩:∃ r,Bare.unsix (bl s)=r:=⟨_,rfl⟩
 have HR:=Lib.hid hr
 unfold Bare.unsix at HR
 rw [hr]
 clear hr
 have HT:=Lib.hid (fun W=>(Tryz.strings_TrimRight_one s 61 (by decide) W (by omega)).mono fun e w' h=>show e = .returned (.string (tx (Bare.trimR 61 (bl s))))∧W=w' from ⟨by rw [h.1,trimB_lib],h.2.symm⟩)
 have hle:(Bare.trimR 61 (bl s)).length ≤ s.size:=by
  obtain ⟨k,hk⟩:=Bare.trimR_spec 61 (bl s)
  have:=congrArg List.length hk
  rw [List.length_append,bl_len] at this
  omega
 obtain ⟨sh,hsh⟩:∃ x,Bare.trimR 61 (bl s)=x:=⟨_,rfl⟩
 obtain ⟨t,ht⟩:∃ t,tx sh=t:=⟨_,rfl⟩
 have htl:sh=bl t:=by rw [← ht]
 have hts:sh.length=t.size:=by rw [← ht,tx_size]
 simp only [hsh,bl_len] at HR
 rw [hsh,ht] at HT
 rw [hsh,hts] at hle
 rw [hts] at HR
 clear hsh ht hts
 subst htl
 go_enter Tryz.func221,Tryz.ntmps221
 go_upto_region 1 with fail
 refine wp_scope_fwd 0 (fun a W=>(a.tmps.size=62∧a.defers = [])∧Hid (r=none)∧New w W) rfl ?first ?pass
 case pass =>
  rintro ⟨z,dfs⟩ W ⟨⟨hs,hd⟩,hrn,hN⟩
  simp only at hs hd
  subst hd
  obtain ⟨u,rfl⟩:=lit62 z hs
  clear hs
  have hr:=hrn.out
  subst hr
  clear hrn HR
  go_wp2_with fail
  rw [Exit.noGoto_ret]
  go_ret2
  exact ⟨rfl,hN⟩
 case first =>
  have hN0:New w w:=Mods.refl _ _
  by_cases h4:s.size % 4=0
  case neg =>
   have g4:¬ (s.size:Int) % 4=0:=by omega
   have hrn:Hid (r=none):=Lib.hid (by rw [← HR.out,if_pos (.inl h4)])
   clear HR h4 hle
   go_wp2_with (go_at_call 141;refine (HT.out _).mono ?_;rintro e w' ⟨rfl,rfl⟩)
   exact wp_goto (And.intro rfl ⟨⟨rfl,rfl⟩,hrn,hN0⟩)
  by_cases h2:2 < s.size - t.size
  ·have g4:(s.size:Int) % 4=0:=by omega
   have g2:2 < (s.size:Int) - (t.size:Int):=by omega
   have hrn:Hid (r=none):=Lib.hid (by rw [← HR.out,if_pos (.inr h2)])
   clear HR h4 hle h2
   go_wp2_with (go_at_call 141;refine (HT.out _).mono ?_;rintro e w' ⟨rfl,rfl⟩)
   exact wp_goto (And.intro rfl ⟨⟨rfl,rfl⟩,hrn,hN0⟩)
  have g4:(s.size:Int) % 4=0:=by omega
  have g2:(s.size:Int) - (t.size:Int) ≤ 2:=by omega
  have hr:Hid (Bare.take6 0 0 (bl t)=r):=Lib.hid (by rw [← HR.out,if_neg (by rintro (h | h);exact h h4;exact h2 h)])
  have hts:t.size ≤ 1000000:=by omega
  clear HR h4 hle h2
  go_wp2_with (go_at_call 141;refine (HT.out _).mono ?_;rintro e w' ⟨rfl,rfl⟩)
  clear HT g4 g2
  obtain ⟨i0,hi,hz0,hz1,hz2⟩:=info_parts infoB'
  go_loopw [26,4,5,6] (fun c v n b wr=>∃ (k:Nat) (acc:Bare.Bs) (N bt:Nat),k ≤ t.size∧c = .int .i64 k∧n = .int .u32 N∧b = .int .i64 bt∧wr.ownsRow w.heap.size 5 1 v acc.length (u8s acc)∧New w wr∧Hid (sofar (bl t) acc N bt k)∧N < 4294967296∧(bt=0 ∨ bt=2 ∨ bt=4 ∨ bt=6)∧acc.length ≤ k) (fun c _ _ _ _=>t.size - (intOf c).toNat)
  case atStart=>exact ⟨0,[],0,0,Nat.zero_le _,rfl,rfl,rfl,World.ownsRow_nil _ _ _ _,hN0,Lib.hid (by unfold sofar;simp),by omega,.inl rfl,Nat.zero_le _⟩
  case round =>
   obtain ⟨k,acc,N,bt,hk,rfl,rfl,rfl,hown,hN,hso,hN32,hbt,hacc⟩:=hrel
   by_cases hlt:k < t.size
   ·have hkd:decide ((k:Int) < (t.size:Int))=true:=decide_eq_true (by omega)
    have hix:=run_idx t k hlt
    have hdr:(bl t).drop k=gb t k::(bl t).drop (k + 1):=by
     have:=gb_get t k hlt
     obtain ⟨h1,h2⟩:=List.getElem?_eq_some_iff.1 this
     rw [List.drop_eq_getElem_cons h1,h2]
    have hback:((gb t k).toNat:Int).toNat.toUInt8=gb t k:=by simp
    have HK:∀ W,Calls Tryz.prog 76 #[.string (tx Bare.sx),.int .u8 ((gb t k).toNat:Nat)] W fun e w'=>e = .returned (.int .i64 (match Bare.v6 (gb t k) with | some v=>(v:Int) | none=>-1))∧W=w':=fun W =>
     (Tryz.strings_IndexByte _ _ W).mono (by rintro e w' ⟨rfl,hw⟩;rw [hback];exact ⟨congrArg (fun z=>Ending.returned (.int .i64 z)) (Bare.index_v6 _),hw.symm⟩)
    cases hv:Bare.v6 (gb t k) with
    | none =>
     have hrn:Hid (r=none):=Lib.hid (by rw [← hr.out];exact sofar_none hso.out hdr hv)
     rw [hv] at HK
     simp only at HK
     have HK:=Lib.hid HK
     clear hso hdr hv hr
     go_wp2_with (go_at_call 76;refine (HK.out _).mono ?_;rintro e w' ⟨rfl,rfl⟩)
     exact wp_goto (And.intro rfl ⟨⟨rfl,rfl⟩,hrn,hN⟩)
    | some v =>
     have hv64:=(Bare.v6_facts hv).1
     rw [hv] at HK
     simp only at HK
     have HK:=Lib.hid HK
     go_upto_region 10 with (go_at_call 76;refine (HK.out _).mono ?_;rintro e w' ⟨rfl,rfl⟩)
     have hor:=or64 N v hv64
     obtain ⟨N2,hN2⟩:∃ N2,(N * 64 + v) % 4294967296=N2:=⟨_,rfl⟩
     rw [hN2] at hor
     have hN2l:N2 < 4294967296:=by omega
     clear hix hkd hback
     by_cases hb0:bt=0
     ·have hs2:=Lib.hid (sofar_few hso.out hdr hv hb0)
      rw [hN2] at hs2
      subst hb0
      clear hso hdr hv hN2
      go_wp2_with fail
      go_roundw
      case rel=>exact ⟨k + 1,acc,N2,6,by omega,by go_num,rfl,by go_num,hown,hN,hs2,hN2l,by omega,by omega⟩
      case measure=>simp [intOf];omega
     ·have hs2:=Lib.hid (sofar_more hso.out hdr hv (by omega))
      rw [hN2] at hs2
      clear hso hdr hv hN2
      have hb2:bt=2 ∨ bt=4 ∨ bt=6:=by omega
      clear hb0 hbt
      rcases hb2 with rfl | rfl | rfl
      ·have hz:((UInt8.ofNat (N2 / 2 ^ (2 - 2) % 256)).toNat:Int)=(N2:Int) % 256:=by rw [byte_val];simp
       obtain ⟨cc,hcc⟩:∃ cc,UInt8.ofNat (N2 / 2 ^ (2 - 2) % 256)=cc:=⟨_,rfl⟩
       rw [hcc] at hz hs2
       clear hcc
       go_upto_region 13 with fail
       go_wp2_with (at_builtin;refine wpList_append_own _ rfl _ _ 113 rfl w.heap.size 5 i0 _ 1 1 Tryz.underlying113 hi hz0 hz1 hz2 rfl (by decide) _ _ _ rfl (hown.alloc _) ⟨wr.heap.size,0,none⟩ 1 1 [.int .u8 ((N2:Int) % 256)] rfl rfl ?c1 ?c2 ?c3 ?c4 ?c5 ?_)
       case c1=>exact cell_one_new _ _ _
       case c2=>simp [Value.oneCell']
       case c3=>unfold maxLen;omega
       case c4=>have:=hown.1;simp;omega
       case c5=>have:=hN.size;simp;omega
       intro v' W2 hown' hgrow _
       have hN3:New w W2:=(hN.alloc _).grown hgrow (fun g hg=>.inl (hown.lt g hg).1)
       have hown3:W2.ownsRow w.heap.size 5 1 v' (acc ++ [cc]).length (u8s (acc ++ [cc])):=by
        have:u8s (acc ++ [cc])=u8s acc ++ [.int .u8 ((N2:Int) % 256)]:=by rw [u8s_snoc,hz]
        rw [this,List.length_append]
        exact hown'
       clear hown hown' hgrow
       go_wp2_with fail
       go_roundw
       case rel=>exact ⟨k + 1,acc ++ [cc],N2,2 - 2,by omega,by go_num,rfl,rfl,hown3,hN3,hs2,hN2l,by omega,by rw [List.length_append];show acc.length + 1 ≤ k + 1;omega⟩
       case measure=>simp [intOf];omega
      ·have hz:((UInt8.ofNat (N2 / 2 ^ (4 - 2) % 256)).toNat:Int)=(N2:Int) / 4 % 256:=by rw [byte_val];simp
       obtain ⟨cc,hcc⟩:∃ cc,UInt8.ofNat (N2 / 2 ^ (4 - 2) % 256)=cc:=⟨_,rfl⟩
       rw [hcc] at hz hs2
       clear hcc
       go_upto_region 13 with fail
       go_wp2_with (at_builtin;refine wpList_append_own _ rfl _ _ 113 rfl w.heap.size 5 i0 _ 1 1 Tryz.underlying113 hi hz0 hz1 hz2 rfl (by decide) _ _ _ rfl (hown.alloc _) ⟨wr.heap.size,0,none⟩ 1 1 [.int .u8 ((N2:Int) / 4 % 256)] rfl rfl ?c1 ?c2 ?c3 ?c4 ?c5 ?_)
       case c1=>exact cell_one_new _ _ _
       case c2=>simp [Value.oneCell']
       case c3=>unfold maxLen;omega
       case c4=>have:=hown.1;simp;omega
       case c5=>have:=hN.size;simp;omega
       intro v' W2 hown' hgrow _
       have hN3:New w W2:=(hN.alloc _).grown hgrow (fun g hg=>.inl (hown.lt g hg).1)
       have hown3:W2.ownsRow w.heap.size 5 1 v' (acc ++ [cc]).length (u8s (acc ++ [cc])):=by
        have:u8s (acc ++ [cc])=u8s acc ++ [.int .u8 ((N2:Int) / 4 % 256)]:=by rw [u8s_snoc,hz]
        rw [this,List.length_append]
        exact hown'
       clear hown hown' hgrow
       go_wp2_with fail
       go_roundw
       case rel=>exact ⟨k + 1,acc ++ [cc],N2,4 - 2,by omega,by go_num,rfl,rfl,hown3,hN3,hs2,hN2l,by omega,by rw [List.length_append];show acc.length + 1 ≤ k + 1;omega⟩
       case measure=>simp [intOf];omega
      ·have hz:((UInt8.ofNat (N2 / 2 ^ (6 - 2) % 256)).toNat:Int)=(N2:Int) / 16 % 256:=by rw [byte_val];simp
       obtain ⟨cc,hcc⟩:∃ cc,UInt8.ofNat (N2 / 2 ^ (6 - 2) % 256)=cc:=⟨_,rfl⟩
       rw [hcc] at hz hs2
       clear hcc
       go_upto_region 13 with fail
       go_wp2_with (at_builtin;refine wpList_append_own _ rfl _ _ 113 rfl w.heap.size 5 i0 _ 1 1 Tryz.underlying113 hi hz0 hz1 hz2 rfl (by decide) _ _ _ rfl (hown.alloc _) ⟨wr.heap.size,0,none⟩ 1 1 [.int .u8 ((N2:Int) / 16 % 256)] rfl rfl ?c1 ?c2 ?c3 ?c4 ?c5 ?_)
       case c1=>exact cell_one_new _ _ _
       case c2=>simp [Value.oneCell']
       case c3=>unfold maxLen;omega
       case c4=>have:=hown.1;simp;omega
       case c5=>have:=hN.size;simp;omega
       intro v' W2 hown' hgrow _
       have hN3:New w W2:=(hN.alloc _).grown hgrow (fun g hg=>.inl (hown.lt g hg).1)
       have hown3:W2.ownsRow w.heap.size 5 1 v' (acc ++ [cc]).length (u8s (acc ++ [cc])):=by
        have:u8s (acc ++ [cc])=u8s acc ++ [.int .u8 ((N2:Int) / 16 % 256)]:=by rw [u8s_snoc,hz]
        rw [this,List.length_append]
        exact hown'
       clear hown hown' hgrow
       go_wp2_with fail
       go_roundw
       case rel=>exact ⟨k + 1,acc ++ [cc],N2,6 - 2,by omega,by go_num,rfl,rfl,hown3,hN3,hs2,hN2l,by omega,by rw [List.length_append];show acc.length + 1 ≤ k + 1;omega⟩
       case measure=>simp [intOf];omega
   ·obtain rfl:k=t.size:=by omega
    have hkd:decide ((t.size:Int) < (t.size:Int))=false:=decide_eq_false (by omega)
    have he:=Lib.hid (sofar_end hso.out (by rw [bl_len];exact Nat.le_refl _))
    clear hso
    rcases hbt with rfl | rfl | rfl | rfl
    ·have hand:bits BinOp.and IntKind.u32 (N:Int) 0=((N % 1:Nat):Int):=by
      have:=u32_and_nat N 0 hN32 (by decide)
      rw [show (0:Nat)=2 ^ 0 - 1 from rfl,Nat.and_two_pow_sub_one_eq_mod] at this
      exact this
     have he':Bare.take6 0 0 (bl t)=if N % 1=0 then some acc else none:=he.out
     rw [hr.out] at he'
     obtain ⟨y,hy⟩:∃ y,N % 1=y:=⟨_,rfl⟩
     rw [hy] at hand he'
     clear hy he hr
     by_cases hy0:y=0
     ·subst hy0
      rw [if_pos rfl] at he'
      subst he'
      have hcv:=conv_own hown
      go_wp2_with fail
      simp only [Exit.jump]
      go_ret2
      exact ⟨rfl,hN⟩
     ·have hyd:((y:Int) == 0)=false:=by rw [beq_eq_false_iff_ne];omega
      rw [if_neg hy0] at he'
      have hrn:Hid (r=none):=Lib.hid he'
      clear he' hy0
      go_wp2_with fail
      refine wp_label ?_
      go_wp2_with fail
      obtain rfl:=hrn.out
      simp only [Exit.jump]
      go_ret2
      exact ⟨rfl,hN⟩
    ·have hand:bits BinOp.and IntKind.u32 (N:Int) 3=((N % 4:Nat):Int):=by
      have:=u32_and_nat N 3 hN32 (by decide)
      rw [show (3:Nat)=2 ^ 2 - 1 from rfl,Nat.and_two_pow_sub_one_eq_mod] at this
      exact this
     have he':Bare.take6 0 0 (bl t)=if N % 4=0 then some acc else none:=he.out
     rw [hr.out] at he'
     obtain ⟨y,hy⟩:∃ y,N % 4=y:=⟨_,rfl⟩
     rw [hy] at hand he'
     clear hy he hr
     by_cases hy0:y=0
     ·subst hy0
      rw [if_pos rfl] at he'
      subst he'
      have hcv:=conv_own hown
      go_wp2_with fail
      simp only [Exit.jump]
      go_ret2
      exact ⟨rfl,hN⟩
     ·have hyd:((y:Int) == 0)=false:=by rw [beq_eq_false_iff_ne];omega
      rw [if_neg hy0] at he'
      have hrn:Hid (r=none):=Lib.hid he'
      clear he' hy0
      go_wp2_with fail
      refine wp_label ?_
      go_wp2_with fail
      obtain rfl:=hrn.out
      simp only [Exit.jump]
      go_ret2
      exact ⟨rfl,hN⟩
    ·have hand:bits BinOp.and IntKind.u32 (N:Int) 15=((N % 16:Nat):Int):=by
      have:=u32_and_nat N 15 hN32 (by decide)
      rw [show (15:Nat)=2 ^ 4 - 1 from rfl,Nat.and_two_pow_sub_one_eq_mod] at this
      exact this
     have he':Bare.take6 0 0 (bl t)=if N % 16=0 then some acc else none:=he.out
     rw [hr.out] at he'
     obtain ⟨y,hy⟩:∃ y,N % 16=y:=⟨_,rfl⟩
     rw [hy] at hand he'
     clear hy he hr
     by_cases hy0:y=0
     ·subst hy0
      rw [if_pos rfl] at he'
      subst he'
      have hcv:=conv_own hown
      go_wp2_with fail
      simp only [Exit.jump]
      go_ret2
      exact ⟨rfl,hN⟩
     ·have hyd:((y:Int) == 0)=false:=by rw [beq_eq_false_iff_ne];omega
      rw [if_neg hy0] at he'
      have hrn:Hid (r=none):=Lib.hid he'
      clear he' hy0
      go_wp2_with fail
      refine wp_label ?_
      go_wp2_with fail
      obtain rfl:=hrn.out
      simp only [Exit.jump]
      go_ret2
      exact ⟨rfl,hN⟩
    ·have hand:bits BinOp.and IntKind.u32 (N:Int) 63=((N % 64:Nat):Int):=by
      have:=u32_and_nat N 63 hN32 (by decide)
      rw [show (63:Nat)=2 ^ 6 - 1 from rfl,Nat.and_two_pow_sub_one_eq_mod] at this
      exact this
     have he':Bare.take6 0 0 (bl t)=if N % 64=0 then some acc else none:=he.out
     rw [hr.out] at he'
     obtain ⟨y,hy⟩:∃ y,N % 64=y:=⟨_,rfl⟩
     rw [hy] at hand he'
     clear hy he hr
     by_cases hy0:y=0
     ·subst hy0
      rw [if_pos rfl] at he'
      subst he'
      have hcv:=conv_own hown
      go_wp2_with fail
      simp only [Exit.jump]
      go_ret2
      exact ⟨rfl,hN⟩
     ·have hyd:((y:Int) == 0)=false:=by rw [beq_eq_false_iff_ne];omega
      rw [if_neg hy0] at he'
      have hrn:Hid (r=none):=Lib.hid he'
      clear he' hy0
      go_wp2_with fail
      refine wp_label ?_
      go_wp2_with fail
      obtain rfl:=hrn.out
      simp only [Exit.jump]
      go_ret2
      exact ⟨rfl,hN⟩


structure Tab (W:World):Prop where
 pow : Lib.TabIs Tryz.prog W "internal/strconv.uint64pow10" .u64 Lib.pow10Tab
 max:∃ m,W.cell? ⟨0,0,none⟩=some (.int .i64 m)
theorem gPow : Tryz.prog.globalNamed "internal/strconv.uint64pow10" = some 3 := by kernel_rfl
theorem Tab.new {W W':World} (h:Tab W) (hN:New W W'):Tab W':=by
 refine ⟨?_,?_⟩
 ·exact Go.Joins.tab_stays gPow h.pow hN.toBelow (Nat.le_refl _)
 ·obtain ⟨m,hm⟩:=h.max
  exact ⟨m,hN.cell hm id⟩
theorem drewN_new (w:World) (n:Nat):New w (w.drewN n):=(Mods.refl _ _).drewN n
theorem cut_any (s:ByteArray) (w:World) (hs:s.size ≤ 1000000) (hT:Tab w) :
  Calls Tryz.prog 220 #[.string s,.string ⟨#[58]⟩] w fun e w'=>e = .returned (.tuple #[.string (tx (Lib.cut (bl s) [58]).1),.string (tx (Lib.cut (bl s) [58]).2.1),.bool (Lib.cut (bl s) [58]).2.2])∧New w w':=by
 obtain ⟨m,hm⟩:=hT.max
 refine (Tryz.strings_Cut s ⟨#[58]⟩ m w (by omega) hm).mono ?_
 rintro e w' ⟨he,n,hw⟩
 exact ⟨he,by rw [hw];exact drewN_new _ _⟩
theorem packed_read (s:ByteArray) (w:World) (hs:s.size ≤ 1000000) (h0:0 < s.size) (hT:Tab w) :
  Calls Tryz.prog 212 #[.string s] w (ReadP (Bare.packed ((bl s).drop 1)) w):=by
 have hs1:∀ W,(Instr.slice 9 (.string s) (some (.int .i64 1)) none none).run Tryz.prog W = .ok (.string (tx ((bl s).drop 1))) W:=run_sl_l s 1 (by omega)
 obtain ⟨T,hTt⟩:∃ T,tx ((bl s).drop 1)=T:=⟨_,rfl⟩
 have hTl:(bl s).drop 1=bl T:=by rw [← hTt]
 have hTs:T.size ≤ 1000000:=by rw [← hTt,tx_size,List.length_drop,bl_len];omega
 rw [hTt] at hs1
 rw [hTl]
 clear hTt hTl
 have HC:=Lib.hid (fun W (hN:New w W)=>cut_any T W hTs (hT.new hN))
 rw [Bare.cut_colon,bl_len] at HC
 have hin:=Bare.takeWhile_len (· != 58) (bl T)
 unfold Bare.packed
 simp only
 rw [bl_len]
 obtain ⟨inn,hinn⟩:∃ x,(bl T).takeWhile (· != 58)=x:=⟨_,rfl⟩
 rw [hinn] at HC hin ⊢
 rw [bl_len] at hin
 clear hinn
 obtain ⟨hN,hr⟩:=no_row w
 by_cases hend:inn.length=T.size
 ·rw [if_pos hend] at HC
  rw [if_pos hend]
  simp only at HC
  rw [tx_bl] at HC
  have HU:=Lib.hid (fun W=>unsix_any T W hTs)
  obtain ⟨r,hr'⟩:∃ r,Bare.unsix (bl T)=r:=⟨_,rfl⟩
  rw [hr'] at HU
  clear hr' hend hin
  unfold ReadP bv bcs noIt unsixV at *
  simp only
  cases r <;> simp only at HU
  all_goals
   go_enter Tryz.func212,Tryz.ntmps212
   go_upto_region 1 with fail
   obtain ⟨W,hW⟩:∃ W,w.alloc (.cells #[.int .u8 0,.int .i64 0,.string ⟨#[]⟩,.bool false] 66)=W:=⟨_,rfl⟩
   rw [hW] at hN hr ⊢
   obtain ⟨B,hB⟩:∃ B,w.heap.size=B:=⟨_,rfl⟩
   have hBw:w.heap.size ≤ B:=by omega
   rw [hB] at hr ⊢
   clear hW hB
   obtain ⟨⟨c0,c1,c2,c3⟩,f0,f1,f2,f3⟩:=row_facts hr
   go_upto_region 4 with (first | (go_at_call 220;refine (HC.out _ hN).mono ?_;rintro e w1 ⟨rfl,hN1⟩) | (go_at_call 221;refine (HU.out _).mono ?_;rintro e w2 ⟨rfl,hN2⟩))
   have hN:=hN.trans (hN1.trans hN2)
   have hr:=(hN1.trans hN2).heap hr id
   clear c0 c1 c2 c3 f0 f1 f2 f3
   obtain ⟨⟨c0,c1,c2,c3⟩,f0,f1,f2,f3⟩:=row_facts hr
   go_wp2_with fail
   obtain ⟨hN2,hr2⟩:=set4 hN hBw hr (.int .u8 0) (.int .i64 0) (.string ⟨#[]⟩) (.bool false)
   obtain ⟨W2,hW2⟩:∃ W2,((((w2.setCell ⟨B,0,none⟩ (.int .u8 0)).setCell ⟨B,1,none⟩ (.int .i64 0)).setCell ⟨B,2,none⟩ (.string ⟨#[]⟩)).setCell ⟨B,3,none⟩ (.bool false))=W2:=⟨_,rfl⟩
   rw [hW2] at hN2 hr2 ⊢
   exact read_end (by kernel_rfl) rfl rfl rfl hr2 ⟨rfl,hN2⟩
 ·rw [if_neg hend] at HC
  rw [if_neg hend]
  simp only at HC
  have HU:=Lib.hid (fun W=>unsix_any (tx inn) W (by rw [tx_size];omega))
  rw [bl_tx] at HU
  obtain ⟨r,hr'⟩:∃ r,Bare.unsix inn=r:=⟨_,rfl⟩
  rw [hr'] at HU ⊢
  obtain ⟨ti,hti⟩:∃ x,tx inn=x:=⟨_,rfl⟩
  obtain ⟨x,hx⟩:∃ x,tx ((bl T).drop (inn.length + 1))=x:=⟨_,rfl⟩
  rw [hti] at HU HC
  rw [hx] at HC
  cases r with
  | none =>
   unfold ReadP bv bcs noIt unsixV at *
   simp only [Option.map_none]
   simp only at HU
   clear hr' hend hin hti hx
   go_enter Tryz.func212,Tryz.ntmps212
   go_upto_region 1 with fail
   obtain ⟨W,hW⟩:∃ W,w.alloc (.cells #[.int .u8 0,.int .i64 0,.string ⟨#[]⟩,.bool false] 66)=W:=⟨_,rfl⟩
   rw [hW] at hN hr ⊢
   obtain ⟨B,hB⟩:∃ B,w.heap.size=B:=⟨_,rfl⟩
   have hBw:w.heap.size ≤ B:=by omega
   rw [hB] at hr ⊢
   clear hW hB
   obtain ⟨⟨c0,c1,c2,c3⟩,f0,f1,f2,f3⟩:=row_facts hr
   go_upto_region 4 with (first | (go_at_call 220;refine (HC.out _ hN).mono ?_;rintro e w1 ⟨rfl,hN1⟩) | (go_at_call 221;refine (HU.out _).mono ?_;rintro e w2 ⟨rfl,hN2⟩))
   have hN:=hN.trans (hN1.trans hN2)
   have hr:=(hN1.trans hN2).heap hr id
   clear c0 c1 c2 c3 f0 f1 f2 f3
   obtain ⟨⟨c0,c1,c2,c3⟩,f0,f1,f2,f3⟩:=row_facts hr
   go_wp2_with fail
   obtain ⟨hN2,hr2⟩:=set4 hN hBw hr (.int .u8 0) (.int .i64 0) (.string ⟨#[]⟩) (.bool false)
   obtain ⟨W2,hW2⟩:∃ W2,((((w2.setCell ⟨B,0,none⟩ (.int .u8 0)).setCell ⟨B,1,none⟩ (.int .i64 0)).setCell ⟨B,2,none⟩ (.string ⟨#[]⟩)).setCell ⟨B,3,none⟩ (.bool false))=W2:=⟨_,rfl⟩
   rw [hW2] at hN2 hr2 ⊢
   exact read_end (by kernel_rfl) rfl rfl rfl hr2 ⟨rfl,hN2⟩
  | some t =>
   unfold ReadP bv bcs unsixV at *
   simp only [Option.map_some]
   simp only at HU
   rw [hx]
   obtain ⟨y,hy⟩:∃ y,tx t=y:=⟨_,rfl⟩
   rw [hy] at HU ⊢
   clear hr' hend hin hti hx hy
   go_enter Tryz.func212,Tryz.ntmps212
   go_upto_region 1 with fail
   obtain ⟨W,hW⟩:∃ W,w.alloc (.cells #[.int .u8 0,.int .i64 0,.string ⟨#[]⟩,.bool false] 66)=W:=⟨_,rfl⟩
   rw [hW] at hN hr ⊢
   obtain ⟨B,hB⟩:∃ B,w.heap.size=B:=⟨_,rfl⟩
   have hBw:w.heap.size ≤ B:=by omega
   rw [hB] at hr ⊢
   clear hW hB
   obtain ⟨⟨c0,c1,c2,c3⟩,f0,f1,f2,f3⟩:=row_facts hr
   go_upto_region 5 with (first | (go_at_call 220;refine (HC.out _ hN).mono ?_;rintro e w1 ⟨rfl,hN1⟩) | (go_at_call 221;refine (HU.out _).mono ?_;rintro e w2 ⟨rfl,hN2⟩))
   have hN:=hN.trans (hN1.trans hN2)
   have hr:=(hN1.trans hN2).heap hr id
   clear c0 c1 c2 c3 f0 f1 f2 f3
   obtain ⟨⟨c0,c1,c2,c3⟩,f0,f1,f2,f3⟩:=row_facts hr
   go_wp2_with fail
   obtain ⟨hN2,hr2⟩:=set4 hN hBw hr (.int .u8 5) (.int .i64 0) (.string y) (.bool false)
   obtain ⟨W2,hW2⟩:∃ W2,((((w2.setCell ⟨B,0,none⟩ (.int .u8 5)).setCell ⟨B,1,none⟩ (.int .i64 0)).setCell ⟨B,2,none⟩ (.string y)).setCell ⟨B,3,none⟩ (.bool false))=W2:=⟨_,rfl⟩
   rw [hW2] at hN2 hr2 ⊢
   exact read_end (by kernel_rfl) rfl rfl rfl hr2 ⟨rfl,hN2⟩


def Kx (B:Nat) (A A':World):Prop:=Mods (fun b=>b=B) A A'∧∀ c t fr,A.heap[B]? = some (.cells c t fr)→∃ c',A'.heap[B]? = some (.cells c' t fr)
theorem Kx.keeps {B:Nat}:∀ A A',Kx B A A'→∀ (k:Nat) (o:Obj),A.heap[k]? = some o→o.isCells=false→A'.heap[k]? = some o:=fun A A' h k o hk ho=>h.1.block k o hk (.inr ho)
theorem Kx.set (B:Nat) (A:World) (v:Value):Kx B A (A.setCell ⟨B,0,none⟩ v) :=
 ⟨setMods A B 0 v,fun c t fr h=>⟨_,setCell_heap h v⟩⟩
def left (B:Nat) (w:World):Nat:=match w.cell? ⟨B,0,none⟩ with
 | some (.string s)=>s.size
 | _=>0


abbrev TB:Nat:=149
def SI (w:World) (b X:Nat) (l:Bare.Bs) (W:World):Prop:=Lib.IsBuilderF TB 5 b b (Lib.byteCells l) W∧(∃ c fr,W.heap[X]? = some (.cells c 9 fr))∧Mods (fun k=>b ≤ k) w W
theorem SI.has {w W:World} {b X:Nat} {l:Bare.Bs} (h:SI w b X l W):∃ c t fr,W.heap[b]? = some (.cells c t fr):=by
 rcases h.1 with ⟨_,v,hb,_⟩ | ⟨_,v,hb,_⟩
 ·exact ⟨_,_,_,hb⟩
 ·exact ⟨_,_,_,hb⟩
end Go.Proofs.YtkiiameibdhdfaaGreatDoor
namespace Go.Proofs.YtkiiameibdhdfaaGreatDoor
open Go.RowKit Go.Shelf Go.Cs Go.ChangeShapes Go.WideShapes Go.ChangeAt

def laidL:List (String × DataW Unit):=Rows.urgentEachRow.laid
theorem tPow:(Tryz.prog.globals[3]?).map (·.type)=some 226:=by kernel_rfl
theorem tab_of_laid {W:World} (h:laidMetH Tryz.prog laidL W) (hs:W.ShapedOpen Tryz.prog):Tab W:=by
 have hmax:=cell_of_shapedOpen_int (P:=Tryz.prog) (g:=0) (t:=3) (zero:=#[.int .i64 0]) hs (of_decide_eq_true (by kernel_rfl)) (by kernel_rfl) rfl (by kernel_rfl) (by kernel_rfl) Tryz.underlying3
 rw [MakeChecks.laidMetH_plain _ _ _ (by kernel_rfl)] at h
 obtain ⟨ps,⟨g0,t0,cs0,f0,p0,q0,hg0,ht0,hv0,hd0,⟨g1,t1,cs1,f1,p1,q1,hg1,ht1,hv1,hd1,⟨g,t,cs,fuel,p,q,hg,ht,hv,hd,_,_⟩,_⟩,_⟩,_,_⟩:=h
 obtain rfl:=Option.some.inj (gPow.symm.trans hg)
 obtain rfl:=Option.some.inj (tPow.symm.trans ht)
 have hd':DataW.trod (fun _=>()) Tryz.prog W 0 (fun _=>true) false fuel 226 cs.toList=some (Lib.tabData .u64 Lib.pow10Tab,p):=hd
 have e:=Lib.cells_of_tab Tryz.underlying226 Tryz.underlying212 (by kernel_rfl) (by kernel_rfl) hd'
 refine ⟨?_,?_⟩
 ·unfold Lib.TabIs
  rw [hv,← e]
 ·exact hmax
noncomputable def laidW (os:Os):World :=
 { World.doorLaid Tryz.prog 400 os with heap:=(World.doorLaid Tryz.prog 400 os).heap.modify 1 fun
   | .cells _ t frozen=>.cells (Pinned.utf8FirstZ.map fun n=>Value.int .u8 (n:Nat)).toArray t frozen
   | o=>o }
theorem laidW_met (os:Os) (args:Array Value):laidMetH Tryz.prog laidL ((laidW os).forCall (fun _ _=>0) ⟨#[],args,[]⟩).memory :=
 laidMetH_of_parts3 (fuel:=8) (laidMet_of_run' 8 (by kernel_rfl) (by kernel_rfl)) (by kernel_rfl) (by kernel_rfl)
end Go.Proofs.YtkiiameibdhdfaaGreatDoor
