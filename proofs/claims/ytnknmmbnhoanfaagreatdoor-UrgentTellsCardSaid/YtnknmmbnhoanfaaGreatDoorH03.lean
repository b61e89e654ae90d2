/- Texts joined. -/
import Derived.Test.YtnknmmbnhoanfaaGreatDoorH02
import Derived.BigRegion
import Derived.Lib.SmallJoins
import Derived.Test.YtnknmmbnhoanfaaGreatDoorH00
import Derived.Shelf.Strings.BuilderK
import Derived.OwnWalkIn
import Derived.TacticsInMore
import Derived.LoopNIn
import Derived.LoopIn
import Derived.WalkLawsBesides
set_option linter.unusedSimpArgs false
set_option linter.unusedVariables false
set_option maxHeartbeats 16000000
set_option maxRecDepth 100000
namespace Go.Proofs.YtnknmmbnhoanfaaGreatDoor
open Go.RowKit Go.Shelf Go.Cs
attribute [local go_sem] Oper.semAt_some


theorem results_row3 {P:Program} {fn:Func} {p q r:Tmp} {ty:TypeId} (h:fn.results = #[.cell p ty,.tmp q,.tmp r]) (tmps:Array Value) (w:World) (g:Nat) (t:TypeId) (cs:Array Value) (fr:Nat × Nat) (d:TypeDesc)
  (hp:tmps.getD p undef = .pointer (some ⟨g,0,none⟩)) (hg:w.heap[g]? = some (.cells cs t fr))
  (hu:P.underlying ty=some d) (hd:(match d with | .struct _ | .array _ _=>true | _=>false)=true) (hi:(P.info? ty).map (·.size)=some cs.size) {v v2:Value} (hq:tmps.getD q undef=v) (hr:tmps.getD r undef=v2) :
  (results fn tmps).run P w = .ok (.tuple #[.agg cs,v,v2]) w:=by
 subst hq
 subst hr
 have hp':tmps[p]?.getD undef = .pointer (some ⟨g,0,none⟩):=by simpa using hp
 simp [results,h,hp',asAddr,run_loadVar_row w g t ty cs fr d hg hu hd hi]
theorem read_end {fn:Func} {R:Ending→World→Prop} {tmps:Array Value} {W:World} {B:Nat} {a b c d v v2:Value} (hf:fn.results = #[.cell 2 23,.tmp 3,.tmp 4]) (hp:tmps.getD 2 undef = .pointer (some ⟨B,0,none⟩)) (hq:tmps.getD 3 undef=v) (hr:tmps.getD 4 undef=v2)
  (hg:W.heap[B]? = some (.cells #[a,b,c,d] 23 (0,0))) (hR:R (.returned (.tuple #[.agg #[a,b,c,d],v,v2])) W):bodyPost Tryz.prog fn R .ret ⟨tmps,[]⟩ W :=
 bodyPost_ret (results_row3 (p:=2) (q:=3) (r:=4) hf tmps W B 23 #[a,b,c,d] (0,0) _ hp hg Tryz.underlying23 rfl info_bare hq hr) rfl hR
theorem range_lit (t:Array Value) (n:Nat) (h:t.size=n):t=((List.range n).map fun i=>t.getD i undef).toArray:=by
 apply Array.ext
 ·simp [h]
 ·intro i h1 h2
  simp [h1]
def u8s (l:Bare.Bs):List Value:=l.map fun c=>.int .u8 (c.toNat:Nat)
theorem u8s_len (l:Bare.Bs):(u8s l).length=l.length:=by simp [u8s]
theorem u8s_get {l:Bare.Bs} {i:Nat} {c:UInt8} (h:l[i]? = some c):(u8s l)[i]? = some (.int .u8 (c.toNat:Nat)):=by
 unfold u8s
 rw [List.getElem?_map,h]
 rfl
theorem u8s_snoc (l:Bare.Bs) (c:UInt8):u8s (l ++ [c])=u8s l ++ [.int .u8 (c.toNat:Nat)]:=by simp [u8s]
theorem byte_val (m:Nat):((UInt8.ofNat (m % 256)).toNat:Int)=(m:Int) % 256:=by
 rw [UInt8.toNat_ofNat']
 omega
theorem nums_tx (l:Bare.Bs):strOfNums (l.map fun c=>((c.toNat:Nat):Int))=tx l:=by
 unfold strOfNums tx
 congr 2
 rw [List.map_map]
 conv=>rhs;rw [← List.map_id l]
 apply List.map_congr_left
 intro c _
 simp
theorem conv_own {w:World} {base:Nat} {v:Value} {l:Bare.Bs} (h:w.ownsRow base 5 1 v l.length (u8s l)):(convert 62 9 v).run Tryz.prog w = .ok (.string (tx l)) w:=by
 rcases h.2 with ⟨rfl,h0⟩ | ⟨g,cap,cur,rfl,hb,hg,h1,h2,h3,h4⟩
 ·rw [run_convert_bytes_nil w 62 5 Tryz.underlying62 Tryz.underlying5 0 0 9 Tryz.underlying9]
  obtain rfl:l = []:=List.length_eq_zero_iff.1 h0
  rfl
 ·rw [run_convert_bytes_arg w 62 5 Tryz.underlying62 Tryz.underlying5 g 0 l.length cap (l.map fun c=>((c.toNat:Nat):Int)) (by simp) (fun i hi=>?_) 9 Tryz.underlying9,nums_tx]
  have e:(u8s l)[i]? = some (.int .u8 (((l[i]'hi).toNat:Nat):Int)):=u8s_get (List.getElem?_eq_getElem hi)
  rw [Nat.zero_add]
  have hc:w.cell? ⟨g,i,none⟩=cur[i]?:=cell_of_row _ _ _ _ _ _ hg
  rw [hc]
  rw [← h4,List.getElem?_take] at e
  rw [if_pos (by omega)] at e
  rw [← Array.getElem?_toList,e,List.getD_eq_getElem?_getD,List.getElem?_map,List.getElem?_eq_getElem hi]
  rfl
theorem infoB':(Tryz.prog.info? 5).map (fun i=>(i.zero,i.size,i.bytes))=some (some (.int .u8 0),1,1):=by kernel_rfl
def noIt:Bare.It:=⟨0,0,[],false⟩
def ReadP (r:Option (Bare.It × Bare.Bs)) (w:World) (e:Ending) (w':World):Prop :=
 e = .returned (match r with | some (b,rest)=>.tuple #[bv b,.string (tx rest),.int .i64 0] | none=>.tuple #[bv noIt,.string ⟨#[]⟩,.int .i64 120])∧New w w'
theorem one4 (k n:Int) (s:ByteArray) (y:Bool):∀ v ∈ ([.int .u8 k,.int .i64 n,.string s,.bool y]:List Value),v.oneCell'=true:=by
 intro v hv
 simp at hv
 rcases hv with rfl | rfl | rfl | rfl <;> rfl
theorem no_row (w:World):New w (w.alloc (.cells #[.int .u8 0,.int .i64 0,.string ⟨#[]⟩,.bool false] 23))∧(w.alloc (.cells #[.int .u8 0,.int .i64 0,.string ⟨#[]⟩,.bool false] 23)).heap[w.heap.size]? = some (.cells #[.int .u8 0,.int .i64 0,.string ⟨#[]⟩,.bool false] 23 (0,0)) :=
 ⟨(Mods.refl _ _).alloc _,World.alloc_heap_new w _⟩
theorem row_facts {W:World} {B:Nat} {a b c d:Value} (h:W.heap[B]? = some (.cells #[a,b,c,d] 23 (0,0))) :
  (W.cell? ⟨B,0,none⟩=some a∧W.cell? ⟨B,1,none⟩=some b∧W.cell? ⟨B,2,none⟩=some c∧W.cell? ⟨B,3,none⟩=some d)∧(W.frozen? ⟨B,0,none⟩=false∧W.frozen? ⟨B,1,none⟩=false∧W.frozen? ⟨B,2,none⟩=false∧W.frozen? ⟨B,3,none⟩=false) :=
 ⟨⟨cell_of_row _ _ 0 _ _ _ h,cell_of_row _ _ 1 _ _ _ h,cell_of_row _ _ 2 _ _ _ h,cell_of_row _ _ 3 _ _ _ h⟩,frozen_row (i:=0) h,frozen_row (i:=1) h,frozen_row (i:=2) h,frozen_row (i:=3) h⟩
theorem set4 {w W:World} {B:Nat} {a b c d:Value} (hN:New w W) (hB:w.heap.size ≤ B) (h:W.heap[B]? = some (.cells #[a,b,c,d] 23 (0,0))) (a' b' c' d':Value) :
  New w ((((W.setCell ⟨B,0,none⟩ a').setCell ⟨B,1,none⟩ b').setCell ⟨B,2,none⟩ c').setCell ⟨B,3,none⟩ d')∧((((W.setCell ⟨B,0,none⟩ a').setCell ⟨B,1,none⟩ b').setCell ⟨B,2,none⟩ c').setCell ⟨B,3,none⟩ d').heap[B]? = some (.cells #[a',b',c',d'] 23 (0,0)):=by
 refine ⟨(((hN.setCell (p:=⟨B,0,none⟩) (.inl hB) _).setCell (p:=⟨B,1,none⟩) (.inl hB) _).setCell (p:=⟨B,2,none⟩) (.inl hB) _).setCell (p:=⟨B,3,none⟩) (.inl hB) _,?_⟩
 have h1:=heap_setCell_same W B 0 _ 23 a' h
 have h2:=heap_setCell_same _ B 1 _ 23 b' h1
 have h3:=heap_setCell_same _ B 2 _ 23 c' h2
 have h4:=heap_setCell_same _ B 3 _ 23 d' h3
 exact h4
theorem geq_marks (c:UInt8):decide (0 ≤ Lib.indexByte Bare.marks c)=Bare.marks.contains c:=(Lib.contains_iff_indexByte Bare.marks c).symm
theorem tok1_p:PredB 109 #[] Bare.inTok:=by
 intro c w
 have HL:=Lib.hid (letter_p c)
 have HD:=Lib.hid (digit_p c)
 have Ho:=geq_marks c
 have hback:((c.toNat:Nat):Int).toNat.toUInt8=c:=by simp
 have HK:∀ W,Calls Tryz.prog 63 #[.string ⟨#[33,35,36,37,38,39,42,43,45,46,94,95,96,124,126,58,47]⟩,.int .u8 (c.toNat:Nat)] W fun e w'=>e = .returned (.int .i64 (Lib.indexByte Bare.marks c))∧w'=W:=fun W =>
  (Tryz.strings_IndexByte _ _ W).mono (by rintro e w' ⟨rfl,hw⟩;rw [hback];exact ⟨rfl,hw⟩)
 have HK:=Lib.hid HK
 unfold Bare.inTok
 obtain ⟨o,ho⟩:∃ o,Lib.indexByte Bare.marks c=o:=⟨_,rfl⟩
 rw [ho] at HK Ho
 obtain ⟨L,hL⟩:∃ x,Bare.letB c=x:=⟨_,rfl⟩
 obtain ⟨D,hD⟩:∃ x,Bare.digB c=x:=⟨_,rfl⟩
 obtain ⟨M,hM⟩:∃ x,Bare.marks.contains c=x:=⟨_,rfl⟩
 rw [hL] at HL ⊢
 rw [hD] at HD ⊢
 rw [hM] at Ho ⊢
 obtain ⟨n,hn⟩:∃ x,c.toNat=x:=⟨_,rfl⟩
 rw [hn] at HL HD HK ⊢
 clear ho hL hD hM hn hback
 have hcase:(L=true) ∨ (L=false∧D=true) ∨ (L=false∧D=false):=by cases L <;> cases D <;> simp
 rcases hcase with rfl | ⟨rfl,rfl⟩ | ⟨rfl,rfl⟩
 all_goals
  go_enter Tryz.func109,Tryz.ntmps109
  go_wp2_with (first | (go_at_call 52;refine (HL.out _).mono ?_;rintro e w' ⟨rfl,rfl⟩) | (go_at_call 50;refine (HD.out _).mono ?_;rintro e w' ⟨rfl,rfl⟩) | (go_at_call 63;refine (HK.out _).mono ?_;rintro e w' ⟨rfl,rfl⟩))
  go_ret
  first | exact ⟨rfl,rfl⟩ | exact ⟨by simp [Ho],rfl⟩
theorem token_read (s:ByteArray) (w:World) (hs:s.size ≤ 1000000) :
  Calls Tryz.prog 53 #[.string s] w (ReadP (some (⟨4,0,(bl s).takeWhile Bare.inTok,false⟩,(bl s).drop ((bl s).takeWhile Bare.inTok).length)) w):=by
 have HR:=Lib.hid (fun W=>run_any 109 #[] _ tok1_p (enters_of Tryz.func109 (by kernel_rfl) rfl) s W (by omega))
 have hle:=Bare.takeWhile_len Bare.inTok (bl s)
 have htk:=Bare.takeWhile_take Bare.inTok (bl s)
 unfold ReadP bv bcs
 simp only
 rw [← htk]
 rw [htk]
 obtain ⟨n,hn⟩:∃ n,((bl s).takeWhile Bare.inTok).length=n:=⟨_,rfl⟩
 rw [hn] at HR hle htk ⊢
 rw [bl_len] at hle
 rw [← htk]
 have h1:=run_sl_h s n hle
 have h2:=run_sl_l s n hle
 obtain ⟨x,hx⟩:∃ x,tx ((bl s).take n)=x:=⟨_,rfl⟩
 obtain ⟨y,hy⟩:∃ x,tx ((bl s).drop n)=x:=⟨_,rfl⟩
 rw [hx] at h1 ⊢
 rw [hy] at h2 ⊢
 clear hx hy hn htk
 obtain ⟨hN,hr⟩:=no_row w
 go_enter Tryz.func53,Tryz.ntmps53
 go_upto_region 2 with (go_at_call 107;refine (HR.out _).mono ?_;rintro e w' ⟨rfl,rfl⟩)
 obtain ⟨W,hW⟩:∃ W,w.alloc (.cells #[.int .u8 0,.int .i64 0,.string ⟨#[]⟩,.bool false] 23)=W:=⟨_,rfl⟩
 rw [hW] at hN hr ⊢
 obtain ⟨B,hB⟩:∃ B,w.heap.size=B:=⟨_,rfl⟩
 have hBw:w.heap.size ≤ B:=by omega
 rw [hB] at hr ⊢
 clear hW hB
 obtain ⟨⟨c0,c1,c2,c3⟩,f0,f1,f2,f3⟩:=row_facts hr
 go_region
 obtain ⟨hN2,hr2⟩:=set4 hN hBw hr (.int .u8 4) (.int .i64 0) (.string x) (.bool false)
 have hN2:=hN2.drew
 have hr2:((((W.setCell ⟨B,0,none⟩ (.int .u8 4)).setCell ⟨B,1,none⟩ (.int .i64 0)).setCell ⟨B,2,none⟩ (.string x)).setCell ⟨B,3,none⟩ (.bool false)).drew.heap[B]? = some (.cells #[(.int .u8 4),(.int .i64 0),(.string x),(.bool false)] 23 (0,0)):=hr2
 obtain ⟨W2,hW2⟩:∃ W2,((((W.setCell ⟨B,0,none⟩ (.int .u8 4)).setCell ⟨B,1,none⟩ (.int .i64 0)).setCell ⟨B,2,none⟩ (.string x)).setCell ⟨B,3,none⟩ (.bool false)).drew=W2:=⟨_,rfl⟩
 rw [hW2] at hN2 hr2 ⊢
 go_wp2_with fail
 exact read_end (by kernel_rfl) rfl rfl rfl hr2 ⟨rfl,hN2⟩
def ansR (l:Bare.Bs):Option (Bare.It × Bare.Bs):=match l with
 | _::d::r=>if d=48 ∨ d=49 then some (⟨6,0,[],d == 49⟩,r) else none
 | _=>none
theorem half_facts:∀ k:Fin 256,(decide (((k.1:Nat):Int) / 2=24)=(decide (UInt8.ofNat k.1=48) || decide (UInt8.ofNat k.1=49)))∧((decide (UInt8.ofNat k.1=48) || decide (UInt8.ofNat k.1=49))=true→decide (bits BinOp.and IntKind.u8 ((k.1:Nat):Int) 1=1)=(UInt8.ofNat k.1 == 49)):=by decide +kernel
theorem half_fact (c:UInt8):(decide ((c.toNat:Int) / 2=24)=(decide (c=48) || decide (c=49)))∧((decide (c=48) || decide (c=49))=true→decide (bits BinOp.and IntKind.u8 (c.toNat:Int) 1=1)=(c == 49)):=by
 have h:=half_facts ⟨c.toNat,UInt8.toNat_lt c⟩
 simp only [UInt8.ofNat_toNat] at h
 exact h
theorem answer_read (s:ByteArray) (w:World) (hs:s.size ≤ 1000000) :
  Calls Tryz.prog 56 #[.string s] w (ReadP (ansR (bl s)) w):=by
 unfold ReadP
 obtain ⟨hN,hr⟩:=no_row w
 have hl:=bl_len s
 by_cases h2:s.size < 2
 ·have hlt:decide ((s.size:Int) < 2)=true:=decide_eq_true (by omega)
  have e:ansR (bl s)=none:=by
   unfold ansR
   match hb:bl s with
   | []=>rfl
   | [_]=>rfl
   | _::_::_=>rw [hb] at hl;simp at hl;omega
  rw [e]
  unfold bv bcs noIt
  simp only
  go_enter Tryz.func56,Tryz.ntmps56
  go_upto_region 2 with fail
  obtain ⟨W,hW⟩:∃ W,w.alloc (.cells #[.int .u8 0,.int .i64 0,.string ⟨#[]⟩,.bool false] 23)=W:=⟨_,rfl⟩
  rw [hW] at hN hr ⊢
  obtain ⟨B,hB⟩:∃ B,w.heap.size=B:=⟨_,rfl⟩
  have hBw:w.heap.size ≤ B:=by omega
  rw [hB] at hr ⊢
  clear hW hB
  obtain ⟨⟨c0,c1,c2,c3⟩,f0,f1,f2,f3⟩:=row_facts hr
  go_wp2_with fail
  obtain ⟨hN2,hr2⟩:=set4 hN hBw hr (.int .u8 0) (.int .i64 0) (.string ⟨#[]⟩) (.bool false)
  obtain ⟨W2,hW2⟩:∃ W2,((((W.setCell ⟨B,0,none⟩ (.int .u8 0)).setCell ⟨B,1,none⟩ (.int .i64 0)).setCell ⟨B,2,none⟩ (.string ⟨#[]⟩)).setCell ⟨B,3,none⟩ (.bool false))=W2:=⟨_,rfl⟩
  rw [hW2] at hN2 hr2 ⊢
  exact read_end (by kernel_rfl) rfl rfl rfl hr2 ⟨rfl,hN2⟩
 ·have hlt:decide ((s.size:Int) < 2)=false:=decide_eq_false (by omega)
  have hix:∀ W,(Instr.index 9 (.string s) (.int .i64 1)).run Tryz.prog W = .ok (.int .u8 ((gb s 1).toNat:Nat)) W:=run_idx s 1 (by omega)
  obtain ⟨c,r,hcr⟩:∃ c r,bl s=c::gb s 1::r:=by
   match hb:bl s with
   | []=>rw [hb] at hl;simp at hl;omega
   | [_]=>rw [hb] at hl;simp at hl;omega
   | c::d::r =>
    refine ⟨c,r,?_⟩
    have:=gb_get s 1 (by omega)
    rw [hb] at this
    simp at this
    rw [this]
  have h2:∀ W,(Instr.slice 9 (.string s) (some (.int .i64 2)) none none).run Tryz.prog W = .ok (.string (tx ((bl s).drop 2))) W:=run_sl_l s 2 (by omega)
  have hf:=half_fact (gb s 1)
  have hd:(bl s).drop 2=r:=by rw [hcr];rfl
  have e:ansR (bl s)=if gb s 1=48 ∨ gb s 1=49 then some (⟨6,0,[],gb s 1 == 49⟩,r) else none:=by rw [hcr];rfl
  rw [e]
  rw [hd] at h2
  obtain ⟨hf1,hf2⟩:=hf
  by_cases hok:gb s 1=48 ∨ gb s 1=49
  ·rw [if_pos hok]
   have hb:(decide (gb s 1=48) || decide (gb s 1=49))=true:=by simpa using hok
   have hf2:=hf2 hb
   rw [hb] at hf1
   unfold bv bcs
   simp only
   obtain ⟨y,hy⟩:∃ y,(gb s 1 == 49)=y:=⟨_,rfl⟩
   rw [hy] at hf2 ⊢
   obtain ⟨n,hn⟩:∃ n,(gb s 1).toNat=n:=⟨_,rfl⟩
   rw [hn] at hix hf1 hf2
   have hf3:((n:Int) / 2 != 24)=false:=by
    have:((n:Int) / 2 == 24)=true:=hf1
    simp [bne,this]
   obtain ⟨q,hq⟩:∃ q,bits BinOp.and IntKind.u8 (n:Int) 1=q:=⟨_,rfl⟩
   rw [hq] at hf2
   have hf4:(q == 1)=y:=hf2
   obtain ⟨x,hx⟩:∃ x,tx r=x:=⟨_,rfl⟩
   rw [hx] at h2 ⊢
   clear hn hb hy hx hcr hd e hok hl
   go_enter Tryz.func56,Tryz.ntmps56
   go_upto_region 3 with fail
   obtain ⟨W,hW⟩:∃ W,w.alloc (.cells #[.int .u8 0,.int .i64 0,.string ⟨#[]⟩,.bool false] 23)=W:=⟨_,rfl⟩
   rw [hW] at hN hr ⊢
   obtain ⟨B,hB⟩:∃ B,w.heap.size=B:=⟨_,rfl⟩
   have hBw:w.heap.size ≤ B:=by omega
   rw [hB] at hr ⊢
   clear hW hB
   obtain ⟨⟨c0,c1,c2,c3⟩,f0,f1,f2,f3⟩:=row_facts hr
   go_region
   obtain ⟨hN2,hr2⟩:=set4 hN hBw hr (.int .u8 6) (.int .i64 0) (.string (tx [])) (.bool y)
   have hN2:=hN2.drew
   have hr2:((((W.setCell ⟨B,0,none⟩ (.int .u8 6)).setCell ⟨B,1,none⟩ (.int .i64 0)).setCell ⟨B,2,none⟩ (.string (tx []))).setCell ⟨B,3,none⟩ (.bool y)).drew.heap[B]? = some (.cells #[(.int .u8 6),(.int .i64 0),(.string (tx [])),(.bool y)] 23 (0,0)):=hr2
   obtain ⟨W2,hW2⟩:∃ W2,((((W.setCell ⟨B,0,none⟩ (.int .u8 6)).setCell ⟨B,1,none⟩ (.int .i64 0)).setCell ⟨B,2,none⟩ (.string (tx []))).setCell ⟨B,3,none⟩ (.bool y)).drew=W2:=⟨_,rfl⟩
   rw [hW2] at hN2 hr2 ⊢
   go_wp2_with fail
   exact read_end (by kernel_rfl) rfl rfl rfl hr2 ⟨rfl,hN2⟩
  ·rw [if_neg hok]
   have hb:(decide (gb s 1=48) || decide (gb s 1=49))=false:=by
    rw [Bool.eq_false_iff];simpa using hok
   rw [hb] at hf1
   unfold bv bcs noIt
   simp only
   obtain ⟨n,hn⟩:∃ n,(gb s 1).toNat=n:=⟨_,rfl⟩
   rw [hn] at hix hf1
   have hf3:((n:Int) / 2 != 24)=true:=by
    have:((n:Int) / 2 == 24)=false:=hf1
    simp [bne,this]
   clear hn hb hcr hd e hok hl hf2
   go_enter Tryz.func56,Tryz.ntmps56
   go_upto_region 2 with fail
   obtain ⟨W,hW⟩:∃ W,w.alloc (.cells #[.int .u8 0,.int .i64 0,.string ⟨#[]⟩,.bool false] 23)=W:=⟨_,rfl⟩
   rw [hW] at hN hr ⊢
   obtain ⟨B,hB⟩:∃ B,w.heap.size=B:=⟨_,rfl⟩
   have hBw:w.heap.size ≤ B:=by omega
   rw [hB] at hr ⊢
   clear hW hB
   obtain ⟨⟨c0,c1,c2,c3⟩,f0,f1,f2,f3⟩:=row_facts hr
   go_wp2_with fail
   obtain ⟨hN2,hr2⟩:=set4 hN hBw hr (.int .u8 0) (.int .i64 0) (.string ⟨#[]⟩) (.bool false)
   obtain ⟨W2,hW2⟩:∃ W2,((((W.setCell ⟨B,0,none⟩ (.int .u8 0)).setCell ⟨B,1,none⟩ (.int .i64 0)).setCell ⟨B,2,none⟩ (.string ⟨#[]⟩)).setCell ⟨B,3,none⟩ (.bool false))=W2:=⟨_,rfl⟩
   rw [hW2] at hN2 hr2 ⊢
   exact read_end (by kernel_rfl) rfl rfl rfl hr2 ⟨rfl,hN2⟩


theorem trimB_lib (c:UInt8) (l:Bare.Bs):Lib.trimRightB l c=Bare.trimR c l:=by
 first | rfl | (unfold Lib.trimRightB Bare.trimR;rfl)
def sofar (short acc:Bare.Bs) (N bt k:Nat):Prop:=Bare.take6 0 0 short=(Bare.take6 (N % 2 ^ bt) bt (short.drop k)).map (acc ++ ·)
theorem sofar_none {short acc:Bare.Bs} {N bt k:Nat} {c:UInt8} (h:sofar short acc N bt k) (hd:short.drop k=c::short.drop (k + 1)) (hv:Bare.v6 c=none):Bare.take6 0 0 short=none:=by
 rw [h,hd,Bare.t6_no _ _ _ _ hv];rfl
theorem sofar_few {short acc:Bare.Bs} {N bt k v:Nat} {c:UInt8} (h:sofar short acc N bt k) (hd:short.drop k=c::short.drop (k + 1)) (hv:Bare.v6 c=some v) (hb:bt=0):sofar short acc ((N * 64 + v) % 4294967296) (bt + 6) (k + 1):=by
 unfold sofar at h ⊢
 rw [h,hd,Bare.take6_few N bt c _ v hv hb]
theorem sofar_more {short acc:Bare.Bs} {N bt k v:Nat} {c:UInt8} (h:sofar short acc N bt k) (hd:short.drop k=c::short.drop (k + 1)) (hv:Bare.v6 c=some v) (hb:bt=2 ∨ bt=4 ∨ bt=6) :
  sofar short (acc ++ [UInt8.ofNat ((N * 64 + v) % 4294967296 / 2 ^ (bt - 2) % 256)]) ((N * 64 + v) % 4294967296) (bt - 2) (k + 1):=by
 unfold sofar at h ⊢
 rw [h,hd,Bare.take6_more N bt c _ v hv hb,Option.map_map]
 congr 1
 funext l
 simp
theorem sofar_end {short acc:Bare.Bs} {N bt k:Nat} (h:sofar short acc N bt k) (hk:short.length ≤ k):Bare.take6 0 0 short=if N % 2 ^ bt=0 then some acc else none:=by
 unfold sofar at h
 rw [h,List.drop_eq_nil_of_le hk,Bare.take6_end]
 split <;> simp
theorem or64 (N v:Nat) (hv:v < 64):bits BinOp.or IntKind.u32 ((N:Int) * 64 % 4294967296) (v:Int)=(((N * 64 + v) % 4294967296:Nat):Int):=by
 have e:((N:Int) * 64 % 4294967296)=((N * 64 % 4294967296:Nat):Int):=by omega
 have e2:N * 64 % 4294967296=(N % 67108864) <<< 6:=by rw [Nat.shiftLeft_eq];omega
 rw [e,u32_or_nat _ _ (by omega) (by omega),e2,← Nat.shiftLeft_add_eq_or_of_lt (by omega:v < 2 ^ 6),Nat.shiftLeft_eq]
 congr 1
 omega
def unsixV (r:Option Bare.Bs):Value:=match r with
 | some l=>.tuple #[.string (tx l),.bool true]
 | none=>.tuple #[.string ⟨#[]⟩,.bool false]
theorem lit62 (t:Array Value) (h:t.size=62):∃ u:Nat→Value,t=(u 0::u 1::u 2::u 3::u 4::u 5::u 6::u 7::u 8::u 9::u 10::u 11::u 12::u 13::u 14::u 15::u 16::u 17::u 18::u 19::u 20::u 21::u 22::u 23::u 24::u 25::u 26::u 27::u 28::u 29::u 30::u 31::u 32::u 33::u 34::u 35::u 36::u 37::u 38::u 39::u 40::u 41::u 42::u 43::u 44::u 45::u 46::u 47::u 48::u 49::u 50::u 51::u 52::u 53::u 54::u 55::u 56::u 57::u 58::u 59::u 60::u 61::([]:List Value)).toArray:=⟨fun i=>t.getD i undef,range_lit t 62 h⟩
theorem unsix_any (s:ByteArray) (w:World) (hs:s.size ≤ 1000000) :
  Calls Tryz.prog 11 #[.string s] w fun e w'=>e = .returned (unsixV (Bare.unsix (bl s)))∧New w w':=by
 obtain ⟨r,hr⟩:∃ r,Bare.unsix (bl s)=r:=⟨_,rfl⟩
 have HR:=Lib.hid hr
 unfold Bare.unsix at HR
 rw [hr]
 clear hr
 have HT:=Lib.hid (fun W=>(Tryz.strings_TrimRight_one s 61 (by decide) W (by omega)).mono fun e w' h=>show e = .returned (.string (tx (Bare.trimR 61 (bl s))))∧W=w' from ⟨by rw [h.1,trimB_lib],h.2.symm⟩)
 have hle:(Bare.trimR 61 (bl s)).length ≤ s.size:=by
  obtain ⟨k,hk⟩:=Bare.trimR_spec 61 (bl s)
  have:=congrArg List.length hk
  rw [List.length_append,bl_len] at this
  omega
 obtain ⟨sh,hsh⟩:∃ x,Bare.trimR 61 (bl s)=x:=⟨_,rfl⟩
 obtain ⟨t,ht⟩:∃ t,tx sh=t:=⟨_,rfl⟩
 have htl:sh=bl t:=by rw [← ht]
 have hts:sh.length=t.size:=by rw [← ht,tx_size]
 simp only [hsh,bl_len] at HR
 rw [hsh,ht] at HT
 rw [hsh,hts] at hle
 rw [hts] at HR
 clear hsh ht hts
 subst htl
 go_enter Tryz.func11,Tryz.ntmps11
 go_upto_region 1 with fail
 refine wp_scope_fwd 0 (fun a W=>(a.tmps.size=62∧a.defers = [])∧Hid (r=none)∧New w W) rfl ?first ?pass
 case pass =>
  rintro ⟨z,dfs⟩ W ⟨⟨hs,hd⟩,hrn,hN⟩
  simp only at hs hd
  subst hd
  obtain ⟨u,rfl⟩:=lit62 z hs
  clear hs
  have hr:=hrn.out
  subst hr
  clear hrn HR
  go_wp2_with fail
  rw [Exit.noGoto_ret]
  go_ret2
  exact ⟨rfl,hN⟩
 case first =>
  have hN0:New w w:=Mods.refl _ _
  by_cases h4:s.size % 4=0
  case neg =>
   have g4:¬ (s.size:Int) % 4=0:=by omega
   have hrn:Hid (r=none):=Lib.hid (by rw [← HR.out,if_pos (.inl h4)])
   clear HR h4 hle
   go_wp2_with (go_at_call 62;refine (HT.out _).mono ?_;rintro e w' ⟨rfl,rfl⟩)
   exact wp_goto (And.intro rfl ⟨⟨rfl,rfl⟩,hrn,hN0⟩)
  by_cases h2:2 < s.size - t.size
  ·have g4:(s.size:Int) % 4=0:=by omega
   have g2:2 < (s.size:Int) - (t.size:Int):=by omega
   have hrn:Hid (r=none):=Lib.hid (by rw [← HR.out,if_pos (.inr h2)])
   clear HR h4 hle h2
   go_wp2_with (go_at_call 62;refine (HT.out _).mono ?_;rintro e w' ⟨rfl,rfl⟩)
   exact wp_goto (And.intro rfl ⟨⟨rfl,rfl⟩,hrn,hN0⟩)
  have g4:(s.size:Int) % 4=0:=by omega
  have g2:(s.size:Int) - (t.size:Int) ≤ 2:=by omega
  have hr:Hid (Bare.take6 0 0 (bl t)=r):=Lib.hid (by rw [← HR.out,if_neg (by rintro (h | h);exact h h4;exact h2 h)])
  have hts:t.size ≤ 1000000:=by omega
  clear HR h4 hle h2
  go_wp2_with (go_at_call 62;refine (HT.out _).mono ?_;rintro e w' ⟨rfl,rfl⟩)
  clear HT g4 g2
  obtain ⟨i0,hi,hz0,hz1,hz2⟩:=info_parts infoB'
  go_loopw [26,4,5,6] (fun c v n b wr=>∃ (k:Nat) (acc:Bare.Bs) (N bt:Nat),k ≤ t.size∧c = .int .i64 k∧n = .int .u32 N∧b = .int .i64 bt∧wr.ownsRow w.heap.size 5 1 v acc.length (u8s acc)∧New w wr∧Hid (sofar (bl t) acc N bt k)∧N < 4294967296∧(bt=0 ∨ bt=2 ∨ bt=4 ∨ bt=6)∧acc.length ≤ k) (fun c _ _ _ _=>t.size - (intOf c).toNat)
  case atStart=>exact ⟨0,[],0,0,Nat.zero_le _,rfl,rfl,rfl,World.ownsRow_nil _ _ _ _,hN0,Lib.hid (by unfold sofar;simp),by omega,.inl rfl,Nat.zero_le _⟩
  case round =>
   obtain ⟨k,acc,N,bt,hk,rfl,rfl,rfl,hown,hN,hso,hN32,hbt,hacc⟩:=hrel
   by_cases hlt:k < t.size
   ·have hkd:decide ((k:Int) < (t.size:Int))=true:=decide_eq_true (by omega)
    have hix:=run_idx t k hlt
    have hdr:(bl t).drop k=gb t k::(bl t).drop (k + 1):=by
     have:=gb_get t k hlt
     obtain ⟨h1,h2⟩:=List.getElem?_eq_some_iff.1 this
     rw [List.drop_eq_getElem_cons h1,h2]
    have hback:((gb t k).toNat:Int).toNat.toUInt8=gb t k:=by simp
    have HK:∀ W,Calls Tryz.prog 63 #[.string (tx Bare.sx),.int .u8 ((gb t k).toNat:Nat)] W fun e w'=>e = .returned (.int .i64 (match Bare.v6 (gb t k) with | some v=>(v:Int) | none=>-1))∧W=w':=fun W =>
     (Tryz.strings_IndexByte _ _ W).mono (by rintro e w' ⟨rfl,hw⟩;rw [hback];exact ⟨congrArg (fun z=>Ending.returned (.int .i64 z)) (Bare.index_v6 _),hw.symm⟩)
    cases hv:Bare.v6 (gb t k) with
    | none =>
     have hrn:Hid (r=none):=Lib.hid (by rw [← hr.out];exact sofar_none hso.out hdr hv)
     rw [hv] at HK
     simp only at HK
     have HK:=Lib.hid HK
     clear hso hdr hv hr
     go_wp2_with (go_at_call 63;refine (HK.out _).mono ?_;rintro e w' ⟨rfl,rfl⟩)
     exact wp_goto (And.intro rfl ⟨⟨rfl,rfl⟩,hrn,hN⟩)
    | some v =>
     have hv64:=(Bare.v6_facts hv).1
     rw [hv] at HK
     simp only at HK
     have HK:=Lib.hid HK
     go_upto_region 10 with (go_at_call 63;refine (HK.out _).mono ?_;rintro e w' ⟨rfl,rfl⟩)
     have hor:=or64 N v hv64
     obtain ⟨N2,hN2⟩:∃ N2,(N * 64 + v) % 4294967296=N2:=⟨_,rfl⟩
     rw [hN2] at hor
     have hN2l:N2 < 4294967296:=by omega
     clear hix hkd hback
     by_cases hb0:bt=0
     ·have hs2:=Lib.hid (sofar_few hso.out hdr hv hb0)
      rw [hN2] at hs2
      subst hb0
      clear hso hdr hv hN2
      go_wp2_with fail
      go_roundw
      case rel=>exact ⟨k + 1,acc,N2,6,by omega,by go_num,rfl,by go_num,hown,hN,hs2,hN2l,by omega,by omega⟩
      case measure=>simp [intOf];omega
     ·have hs2:=Lib.hid (sofar_more hso.out hdr hv (by omega))
      rw [hN2] at hs2
      clear hso hdr hv hN2
      have hb2:bt=2 ∨ bt=4 ∨ bt=6:=by omega
      clear hb0 hbt
      rcases hb2 with rfl | rfl | rfl
      ·have hz:((UInt8.ofNat (N2 / 2 ^ (2 - 2) % 256)).toNat:Int)=(N2:Int) % 256:=by rw [byte_val];simp
       obtain ⟨cc,hcc⟩:∃ cc,UInt8.ofNat (N2 / 2 ^ (2 - 2) % 256)=cc:=⟨_,rfl⟩
       rw [hcc] at hz hs2
       clear hcc
       go_upto_region 13 with fail
       go_wp2_with (at_builtin;refine wpList_append_own _ rfl _ _ 62 rfl w.heap.size 5 i0 _ 1 1 Tryz.underlying62 hi hz0 hz1 hz2 rfl (by decide) _ _ _ rfl (hown.alloc _) ⟨wr.heap.size,0,none⟩ 1 1 [.int .u8 ((N2:Int) % 256)] rfl rfl ?c1 ?c2 ?c3 ?c4 ?c5 ?_)
       case c1=>exact cell_one_new _ _ _
       case c2=>simp [Value.oneCell']
       case c3=>unfold maxLen;omega
       case c4=>have:=hown.1;simp;omega
       case c5=>have:=hN.size;simp;omega
       intro v' W2 hown' hgrow _
       have hN3:New w W2:=(hN.alloc _).grown hgrow (fun g hg=>.inl (hown.lt g hg).1)
       have hown3:W2.ownsRow w.heap.size 5 1 v' (acc ++ [cc]).length (u8s (acc ++ [cc])):=by
        have:u8s (acc ++ [cc])=u8s acc ++ [.int .u8 ((N2:Int) % 256)]:=by rw [u8s_snoc,hz]
        rw [this,List.length_append]
        exact hown'
       clear hown hown' hgrow
       go_wp2_with fail
       go_roundw
       case rel=>exact ⟨k + 1,acc ++ [cc],N2,2 - 2,by omega,by go_num,rfl,rfl,hown3,hN3,hs2,hN2l,by omega,by rw [List.length_append];show acc.length + 1 ≤ k + 1;omega⟩
       case measure=>simp [intOf];omega
      ·have hz:((UInt8.ofNat (N2 / 2 ^ (4 - 2) % 256)).toNat:Int)=(N2:Int) / 4 % 256:=by rw [byte_val];simp
       obtain ⟨cc,hcc⟩:∃ cc,UInt8.ofNat (N2 / 2 ^ (4 - 2) % 256)=cc:=⟨_,rfl⟩
       rw [hcc] at hz hs2
       clear hcc
       go_upto_region 13 with fail
       go_wp2_with (at_builtin;refine wpList_append_own _ rfl _ _ 62 rfl w.heap.size 5 i0 _ 1 1 Tryz.underlying62 hi hz0 hz1 hz2 rfl (by decide) _ _ _ rfl (hown.alloc _) ⟨wr.heap.size,0,none⟩ 1 1 [.int .u8 ((N2:Int) / 4 % 256)] rfl rfl ?c1 ?c2 ?c3 ?c4 ?c5 ?_)
       case c1=>exact cell_one_new _ _ _
       case c2=>simp [Value.oneCell']
       case c3=>unfold maxLen;omega
       case c4=>have:=hown.1;simp;omega
       case c5=>have:=hN.size;simp;omega
       intro v' W2 hown' hgrow _
       have hN3:New w W2:=(hN.alloc _).grown hgrow (fun g hg=>.inl (hown.lt g hg).1)
       have hown3:W2.ownsRow w.heap.size 5 1 v' (acc ++ [cc]).length (u8s (acc ++ [cc])):=by
        have:u8s (acc ++ [cc])=u8s acc ++ [.int .u8 ((N2:Int) / 4 % 256)]:=by rw [u8s_snoc,hz]
        rw [this,List.length_append]
        exact hown'
       clear hown hown' hgrow
       go_wp2_with fail
       go_roundw
       case rel=>exact ⟨k + 1,acc ++ [cc],N2,4 - 2,by omega,by go_num,rfl,rfl,hown3,hN3,hs2,hN2l,by omega,by rw [List.length_append];show acc.length + 1 ≤ k + 1;omega⟩
       case measure=>simp [intOf];omega
      ·have hz:((UInt8.ofNat (N2 / 2 ^ (6 - 2) % 256)).toNat:Int)=(N2:Int) / 16 % 256:=by rw [byte_val];simp
       obtain ⟨cc,hcc⟩:∃ cc,UInt8.ofNat (N2 / 2 ^ (6 - 2) % 256)=cc:=⟨_,rfl⟩
       rw [hcc] at hz hs2
       clear hcc
       go_upto_region 13 with fail
       go_wp2_with (at_builtin;refine wpList_append_own _ rfl _ _ 62 rfl w.heap.size 5 i0 _ 1 1 Tryz.underlying62 hi hz0 hz1 hz2 rfl (by decide) _ _ _ rfl (hown.alloc _) ⟨wr.heap.size,0,none⟩ 1 1 [.int .u8 ((N2:Int) / 16 % 256)] rfl rfl ?c1 ?c2 ?c3 ?c4 ?c5 ?_)
       case c1=>exact cell_one_new _ _ _
       case c2=>simp [Value.oneCell']
       case c3=>unfold maxLen;omega
       case c4=>have:=hown.1;simp;omega
       case c5=>have:=hN.size;simp;omega
       intro v' W2 hown' hgrow _
       have hN3:New w W2:=(hN.alloc _).grown hgrow (fun g hg=>.inl (hown.lt g hg).1)
       have hown3:W2.ownsRow w.heap.size 5 1 v' (acc ++ [cc]).length (u8s (acc ++ [cc])):=by
        have:u8s (acc ++ [cc])=u8s acc ++ [.int .u8 ((N2:Int) / 16 % 256)]:=by rw [u8s_snoc,hz]
        rw [this,List.length_append]
        exact hown'
       clear hown hown' hgrow
       go_wp2_with fail
       go_roundw
       case rel=>exact ⟨k + 1,acc ++ [cc],N2,6 - 2,by omega,by go_num,rfl,rfl,hown3,hN3,hs2,hN2l,by omega,by rw [List.length_append];show acc.length + 1 ≤ k + 1;omega⟩
       case measure=>simp [intOf];omega
   ·obtain rfl:k=t.size:=by omega
    have hkd:decide ((t.size:Int) < (t.size:Int))=false:=decide_eq_false (by omega)
    have he:=Lib.hid (sofar_end hso.out (by rw [bl_len];exact Nat.le_refl _))
    clear hso
    rcases hbt with rfl | rfl | rfl | rfl
    ·have hand:bits BinOp.and IntKind.u32 (N:Int) 0=((N % 1:Nat):Int):=by
      have:=u32_and_nat N 0 hN32 (by decide)
      rw [show (0:Nat)=2 ^ 0 - 1 from rfl,Nat.and_two_pow_sub_one_eq_mod] at this
      exact this
     have he':Bare.take6 0 0 (bl t)=if N % 1=0 then some acc else none:=he.out
     rw [hr.out] at he'
     obtain ⟨y,hy⟩:∃ y,N % 1=y:=⟨_,rfl⟩
     rw [hy] at hand he'
     clear hy he hr
     by_cases hy0:y=0
     ·subst hy0
      rw [if_pos rfl] at he'
      subst he'
      have hcv:=conv_own hown
      go_wp2_with fail
      simp only [Exit.jump]
      go_ret2
      exact ⟨rfl,hN⟩
     ·have hyd:((y:Int) == 0)=false:=by rw [beq_eq_false_iff_ne];omega
      rw [if_neg hy0] at he'
      have hrn:Hid (r=none):=Lib.hid he'
      clear he' hy0
      go_wp2_with fail
      refine wp_label ?_
      go_wp2_with fail
      obtain rfl:=hrn.out
      simp only [Exit.jump]
      go_ret2
      exact ⟨rfl,hN⟩
    ·have hand:bits BinOp.and IntKind.u32 (N:Int) 3=((N % 4:Nat):Int):=by
      have:=u32_and_nat N 3 hN32 (by decide)
      rw [show (3:Nat)=2 ^ 2 - 1 from rfl,Nat.and_two_pow_sub_one_eq_mod] at this
      exact this
     have he':Bare.take6 0 0 (bl t)=if N % 4=0 then some acc else none:=he.out
     rw [hr.out] at he'
     obtain ⟨y,hy⟩:∃ y,N % 4=y:=⟨_,rfl⟩
     rw [hy] at hand he'
     clear hy he hr
     by_cases hy0:y=0
     ·subst hy0
      rw [if_pos rfl] at he'
      subst he'
      have hcv:=conv_own hown
      go_wp2_with fail
      simp only [Exit.jump]
      go_ret2
      exact ⟨rfl,hN⟩
     ·have hyd:((y:Int) == 0)=false:=by rw [beq_eq_false_iff_ne];omega
      rw [if_neg hy0] at he'
      have hrn:Hid (r=none):=Lib.hid he'
      clear he' hy0
      go_wp2_with fail
      refine wp_label ?_
      go_wp2_with fail
      obtain rfl:=hrn.out
      simp only [Exit.jump]
      go_ret2
      exact ⟨rfl,hN⟩
    ·have hand:bits BinOp.and IntKind.u32 (N:Int) 15=((N % 16:Nat):Int):=by
      have:=u32_and_nat N 15 hN32 (by decide)
      rw [show (15:Nat)=2 ^ 4 - 1 from rfl,Nat.and_two_pow_sub_one_eq_mod] at this
      exact this
     have he':Bare.take6 0 0 (bl t)=if N % 16=0 then some acc else none:=he.out
     rw [hr.out] at he'
     obtain ⟨y,hy⟩:∃ y,N % 16=y:=⟨_,rfl⟩
     rw [hy] at hand he'
     clear hy he hr
     by_cases hy0:y=0
     ·subst hy0
      rw [if_pos rfl] at he'
      subst he'
      have hcv:=conv_own hown
      go_wp2_with fail
      simp only [Exit.jump]
      go_ret2
      exact ⟨rfl,hN⟩
     ·have hyd:((y:Int) == 0)=false:=by rw [beq_eq_false_iff_ne];omega
      rw [if_neg hy0] at he'
      have hrn:Hid (r=none):=Lib.hid he'
      clear he' hy0
      go_wp2_with fail
      refine wp_label ?_
      go_wp2_with fail
      obtain rfl:=hrn.out
      simp only [Exit.jump]
      go_ret2
      exact ⟨rfl,hN⟩
    ·have hand:bits BinOp.and IntKind.u32 (N:Int) 63=((N % 64:Nat):Int):=by
      have:=u32_and_nat N 63 hN32 (by decide)
      rw [show (63:Nat)=2 ^ 6 - 1 from rfl,Nat.and_two_pow_sub_one_eq_mod] at this
      exact this
     have he':Bare.take6 0 0 (bl t)=if N % 64=0 then some acc else none:=he.out
     rw [hr.out] at he'
     obtain ⟨y,hy⟩:∃ y,N % 64=y:=⟨_,rfl⟩
     rw [hy] at hand he'
     clear hy he hr
     by_cases hy0:y=0
     ·subst hy0
      rw [if_pos rfl] at he'
      subst he'
      have hcv:=conv_own hown
      go_wp2_with fail
      simp only [Exit.jump]
      go_ret2
      exact ⟨rfl,hN⟩
     ·have hyd:((y:Int) == 0)=false:=by rw [beq_eq_false_iff_ne];omega
      rw [if_neg hy0] at he'
      have hrn:Hid (r=none):=Lib.hid he'
      clear he' hy0
      go_wp2_with fail
      refine wp_label ?_
      go_wp2_with fail
      obtain rfl:=hrn.out
      simp only [Exit.jump]
      go_ret2
      exact ⟨rfl,hN⟩


structure Tab (W:World):Prop where
 pow : Lib.TabIs Tryz.prog W "internal/strconv.uint64pow10" .u64 Lib.pow10Tab
 max:∃ m,W.cell? ⟨0,0,none⟩=some (.int .i64 m)
theorem gPow : Tryz.prog.globalNamed "internal/strconv.uint64pow10" = some 1 := by kernel_rfl
theorem Tab.new {W W':World} (h:Tab W) (hN:New W W'):Tab W':=by
 refine ⟨?_,?_⟩
 ·exact Go.Joins.tab_stays gPow h.pow hN.toBelow (Nat.le_refl _)
 ·obtain ⟨m,hm⟩:=h.max
  exact ⟨m,hN.cell hm id⟩
theorem drewN_new (w:World) (n:Nat):New w (w.drewN n):=(Mods.refl _ _).drewN n
theorem cut_any (s:ByteArray) (w:World) (hs:s.size ≤ 1000000) (hT:Tab w) :
  Calls Tryz.prog 111 #[.string s,.string ⟨#[58]⟩] w fun e w'=>e = .returned (.tuple #[.string (tx (Lib.cut (bl s) [58]).1),.string (tx (Lib.cut (bl s) [58]).2.1),.bool (Lib.cut (bl s) [58]).2.2])∧New w w':=by
 obtain ⟨m,hm⟩:=hT.max
 refine (Tryz.strings_Cut s ⟨#[58]⟩ m w (by omega) hm).mono ?_
 rintro e w' ⟨he,n,hw⟩
 exact ⟨he,by rw [hw];exact drewN_new _ _⟩
theorem packed_read (s:ByteArray) (w:World) (hs:s.size ≤ 1000000) (h0:0 < s.size) (hT:Tab w) :
  Calls Tryz.prog 55 #[.string s] w (ReadP (Bare.packed ((bl s).drop 1)) w):=by
 have hs1:∀ W,(Instr.slice 9 (.string s) (some (.int .i64 1)) none none).run Tryz.prog W = .ok (.string (tx ((bl s).drop 1))) W:=run_sl_l s 1 (by omega)
 obtain ⟨T,hTt⟩:∃ T,tx ((bl s).drop 1)=T:=⟨_,rfl⟩
 have hTl:(bl s).drop 1=bl T:=by rw [← hTt]
 have hTs:T.size ≤ 1000000:=by rw [← hTt,tx_size,List.length_drop,bl_len];omega
 rw [hTt] at hs1
 rw [hTl]
 clear hTt hTl
 have HC:=Lib.hid (fun W (hN:New w W)=>cut_any T W hTs (hT.new hN))
 rw [Bare.cut_colon,bl_len] at HC
 have hin:=Bare.takeWhile_len (· != 58) (bl T)
 unfold Bare.packed
 simp only
 rw [bl_len]
 obtain ⟨inn,hinn⟩:∃ x,(bl T).takeWhile (· != 58)=x:=⟨_,rfl⟩
 rw [hinn] at HC hin ⊢
 rw [bl_len] at hin
 clear hinn
 obtain ⟨hN,hr⟩:=no_row w
 by_cases hend:inn.length=T.size
 ·rw [if_pos hend] at HC
  rw [if_pos hend]
  simp only at HC
  rw [tx_bl] at HC
  have HU:=Lib.hid (fun W=>unsix_any T W hTs)
  obtain ⟨r,hr'⟩:∃ r,Bare.unsix (bl T)=r:=⟨_,rfl⟩
  rw [hr'] at HU
  clear hr' hend hin
  unfold ReadP bv bcs noIt unsixV at *
  simp only
  cases r <;> simp only at HU
  all_goals
   go_enter Tryz.func55,Tryz.ntmps55
   go_upto_region 1 with fail
   obtain ⟨W,hW⟩:∃ W,w.alloc (.cells #[.int .u8 0,.int .i64 0,.string ⟨#[]⟩,.bool false] 23)=W:=⟨_,rfl⟩
   rw [hW] at hN hr ⊢
   obtain ⟨B,hB⟩:∃ B,w.heap.size=B:=⟨_,rfl⟩
   have hBw:w.heap.size ≤ B:=by omega
   rw [hB] at hr ⊢
   clear hW hB
   obtain ⟨⟨c0,c1,c2,c3⟩,f0,f1,f2,f3⟩:=row_facts hr
   go_upto_region 4 with (first | (go_at_call 111;refine (HC.out _ hN).mono ?_;rintro e w1 ⟨rfl,hN1⟩) | (go_at_call 11;refine (HU.out _).mono ?_;rintro e w2 ⟨rfl,hN2⟩))
   have hN:=hN.trans (hN1.trans hN2)
   have hr:=(hN1.trans hN2).heap hr id
   clear c0 c1 c2 c3 f0 f1 f2 f3
   obtain ⟨⟨c0,c1,c2,c3⟩,f0,f1,f2,f3⟩:=row_facts hr
   go_wp2_with fail
   obtain ⟨hN2,hr2⟩:=set4 hN hBw hr (.int .u8 0) (.int .i64 0) (.string ⟨#[]⟩) (.bool false)
   obtain ⟨W2,hW2⟩:∃ W2,((((w2.setCell ⟨B,0,none⟩ (.int .u8 0)).setCell ⟨B,1,none⟩ (.int .i64 0)).setCell ⟨B,2,none⟩ (.string ⟨#[]⟩)).setCell ⟨B,3,none⟩ (.bool false))=W2:=⟨_,rfl⟩
   rw [hW2] at hN2 hr2 ⊢
   exact read_end (by kernel_rfl) rfl rfl rfl hr2 ⟨rfl,hN2⟩
 ·rw [if_neg hend] at HC
  rw [if_neg hend]
  simp only at HC
  have HU:=Lib.hid (fun W=>unsix_any (tx inn) W (by rw [tx_size];omega))
  rw [bl_tx] at HU
  obtain ⟨r,hr'⟩:∃ r,Bare.unsix inn=r:=⟨_,rfl⟩
  rw [hr'] at HU ⊢
  obtain ⟨ti,hti⟩:∃ x,tx inn=x:=⟨_,rfl⟩
  obtain ⟨x,hx⟩:∃ x,tx ((bl T).drop (inn.length + 1))=x:=⟨_,rfl⟩
  rw [hti] at HU HC
  rw [hx] at HC
  cases r with
  | none =>
   unfold ReadP bv bcs noIt unsixV at *
   simp only [Option.map_none]
   simp only at HU
   clear hr' hend hin hti hx
   go_enter Tryz.func55,Tryz.ntmps55
   go_upto_region 1 with fail
   obtain ⟨W,hW⟩:∃ W,w.alloc (.cells #[.int .u8 0,.int .i64 0,.string ⟨#[]⟩,.bool false] 23)=W:=⟨_,rfl⟩
   rw [hW] at hN hr ⊢
   obtain ⟨B,hB⟩:∃ B,w.heap.size=B:=⟨_,rfl⟩
   have hBw:w.heap.size ≤ B:=by omega
   rw [hB] at hr ⊢
   clear hW hB
   obtain ⟨⟨c0,c1,c2,c3⟩,f0,f1,f2,f3⟩:=row_facts hr
   go_upto_region 4 with (first | (go_at_call 111;refine (HC.out _ hN).mono ?_;rintro e w1 ⟨rfl,hN1⟩) | (go_at_call 11;refine (HU.out _).mono ?_;rintro e w2 ⟨rfl,hN2⟩))
   have hN:=hN.trans (hN1.trans hN2)
   have hr:=(hN1.trans hN2).heap hr id
   clear c0 c1 c2 c3 f0 f1 f2 f3
   obtain ⟨⟨c0,c1,c2,c3⟩,f0,f1,f2,f3⟩:=row_facts hr
   go_wp2_with fail
   obtain ⟨hN2,hr2⟩:=set4 hN hBw hr (.int .u8 0) (.int .i64 0) (.string ⟨#[]⟩) (.bool false)
   obtain ⟨W2,hW2⟩:∃ W2,((((w2.setCell ⟨B,0,none⟩ (.int .u8 0)).setCell ⟨B,1,none⟩ (.int .i64 0)).setCell ⟨B,2,none⟩ (.string ⟨#[]⟩)).setCell ⟨B,3,none⟩ (.bool false))=W2:=⟨_,rfl⟩
   rw [hW2] at hN2 hr2 ⊢
   exact read_end (by kernel_rfl) rfl rfl rfl hr2 ⟨rfl,hN2⟩
  | some t =>
   unfold ReadP bv bcs unsixV at *
   simp only [Option.map_some]
   simp only at HU
   rw [hx]
   obtain ⟨y,hy⟩:∃ y,tx t=y:=⟨_,rfl⟩
   rw [hy] at HU ⊢
   clear hr' hend hin hti hx hy
   go_enter Tryz.func55,Tryz.ntmps55
   go_upto_region 1 with fail
   obtain ⟨W,hW⟩:∃ W,w.alloc (.cells #[.int .u8 0,.int .i64 0,.string ⟨#[]⟩,.bool false] 23)=W:=⟨_,rfl⟩
   rw [hW] at hN hr ⊢
   obtain ⟨B,hB⟩:∃ B,w.heap.size=B:=⟨_,rfl⟩
   have hBw:w.heap.size ≤ B:=by omega
   rw [hB] at hr ⊢
   clear hW hB
   obtain ⟨⟨c0,c1,c2,c3⟩,f0,f1,f2,f3⟩:=row_facts hr
   go_upto_region 5 with (first | (go_at_call 111;refine (HC.out _ hN).mono ?_;rintro e w1 ⟨rfl,hN1⟩) | (go_at_call 11;refine (HU.out _).mono ?_;rintro e w2 ⟨rfl,hN2⟩))
   have hN:=hN.trans (hN1.trans hN2)
   have hr:=(hN1.trans hN2).heap hr id
   clear c0 c1 c2 c3 f0 f1 f2 f3
   obtain ⟨⟨c0,c1,c2,c3⟩,f0,f1,f2,f3⟩:=row_facts hr
   go_wp2_with fail
   obtain ⟨hN2,hr2⟩:=set4 hN hBw hr (.int .u8 5) (.int .i64 0) (.string y) (.bool false)
   obtain ⟨W2,hW2⟩:∃ W2,((((w2.setCell ⟨B,0,none⟩ (.int .u8 5)).setCell ⟨B,1,none⟩ (.int .i64 0)).setCell ⟨B,2,none⟩ (.string y)).setCell ⟨B,3,none⟩ (.bool false))=W2:=⟨_,rfl⟩
   rw [hW2] at hN2 hr2 ⊢
   exact read_end (by kernel_rfl) rfl rfl rfl hr2 ⟨rfl,hN2⟩
end Go.Proofs.YtnknmmbnhoanfaaGreatDoor
namespace Go.Cs
open Go.RowKit
variable {P:Program}
def IterAtK (P:Program) (g:Nat) (lb:Array Value) (L:List (Array Value)) (S:Nat→Prop) (T:World→World→Prop) (E:World→Prop) (W:World):Prop :=
 ∀ (l:Nat) (J Jx:Nat→World→Prop),(∀ k,∀ A A',J k A→T A A'→J k A')→(∀ k,∀ A A',Jx k A→T A A'→Jx k A') →
  (∀ k x W1,L[k]? = some x→J k W1→YieldAt Fence.wide 0 P l x W1 fun e W' =>
   (e = .returned (.bool true)∧J (k + 1) W'∧Mods S W1 W') ∨ (e = .returned (.bool false)∧Jx (k + 1) W')) →
  J 0 W →
  Calls P g (#[.func (.yield l) #[] #[]] ++ lb) W fun e W'=>(∃ v,e = .returned v)∧((J L.length W'∧E W') ∨ ∃ k,k ≤ L.length∧Jx k W')
theorem rangeListK_core (r:Option Nat)
  {g:Operand} {ps:Array Tmp} {assign body:Code} {Q:Exit→Act→World→Prop} {a:Act} {w:World}
  {gf:Nat} {lb:Array Value} (hg:a.eval g = .func (.func gf) #[] lb) (eg:∀ args w,(callFunc gf args).run P w = .ok (.enter gf args) w)
  (L:List (Array Value)) (S:Nat→Prop) (T:World→World→Prop) (E:World→Prop) (hE:Stab w.heap.size E) (hit:∀ W,New w W→IterAtK P gf lb L S T E W) (hps:∀ x ∈ L,x.size=ps.size)
  (W0:World) (hW0:New w W0) (mark:List Deferred) (d:Nat)
  (henter:∀ fn,(Instr.enterLoop fn a.tmps ps assign body r).run P w = .ok (W0.heap.size,mark) (W0.alloc (.loop { state:=.ready,pending:=none,fn,tmps:=a.tmps,params:=ps,assign,body,defers:=d })))
  (I:Nat→World→Prop) (Ix:Code→Nat→World→Prop) (hTK:∀ A A',T A A'→∀ (k:Nat) (o:Obj),A.heap[k]? = some o→o.isCells=false→A'.heap[k]? = some o) (hIT:∀ k A A',I k A→T A A'→I k A') (hIxT:∀ c k A A',Ix c k A→T A A'→Ix c k A') (hI:∀ k,Stab w.heap.size (I k)) (hIx:∀ c k,Stab w.heap.size (Ix c k)) (h0:I 0 w)
  (hround:∀ (l k:Nat) (x:Array Value) (W:World),L[k]? = some x→w.heap.size ≤ l→(∃ r,W.heap[l]? = some (.loop r))→I k W →
   assign.wpIn (Fr (some l)) 0 P (Exit.then (fun a1 W1=>Mods S W W1∧∀ W2,Quiet w.heap.size W1 W2→(∃ r,W2.heap[l]? = some (.loop r))→body.wpIn (Fr (some l)) 0 P (roundQ S I Ix (k + 1) W2) a1 W2) (fun _ _ _=>False))
    { tmps:=(ps.zip x).foldl (fun t (p,v)=>t.setIfInBounds p v) a.tmps,defers:=[] } W)
  (hdone:∀ W,I L.length W→E W→Others W0 W→Q .normal { a with defers:=mark ++ a.defers } W)
  (hstop:∀ c k W,k ≤ L.length→Ix c k W→Others W0 W→c.wpIn (Fr r) 0 P Q { a with defers:=mark ++ a.defers } W) :
  (Code.rangeFunc g ps assign body).wpIn (Fr r) 0 P Q a w:=by
 refine wpIn_rangeFunc ?_
 intro fn _
 obtain ⟨rec,hrec⟩:∃ rec:LoopState→Option Code→Loop,rec=fun st pe=>{ state:=st,pending:=pe,fn,tmps:=a.tmps,params:=ps,assign,body,defers:=d }:=⟨_,rfl⟩
 obtain ⟨W1,hW1⟩:∃ W1,W0.alloc (.loop (rec .ready none))=W1:=⟨_,rfl⟩
 obtain ⟨l,hl0⟩:∃ l,W0.heap.size=l:=⟨_,rfl⟩
 have hL1:W1.heap[l]? = some (.loop (rec .ready none)):=by rw [← hW1,← hl0];exact World.alloc_heap_new W0 _
 have hN1:New w W1:=by rw [← hW1];exact hW0.alloc _
 have hwl:w.heap.size ≤ l:=by rw [← hl0];exact hW0.size
 have hC1:Others W0 W1:=fun k o hk _=>by
  rw [← hW1];exact (Below.heap_alloc W0 _ k (Array.getElem?_eq_some_iff.1 hk).1).trans hk
 refine ⟨l,mark,W1,{ target:=.fn (.func gf) lb,args:=#[.func (.yield l) #[] #[]] },W1,gf,
  #[.func (.yield l) #[] #[]] ++ lb,W1,?_,?_,fun _ _=>trivial,?_,fun h=>by simp [Fence.wide] at h,?_⟩
 ·rw [← hW1,hrec,← hl0];exact henter fn
 ·simp only [resolve,hg]
  simp [go_sem]
 ·simp [invoke,go_sem,eg]
 ·have hlW0:∀ {k:Nat} {o:Obj},W0.heap[k]? = some o→k ≠ l:=fun hk=>by have:=(Array.getElem?_eq_some_iff.1 hk).1;omega
  have hput:∀ (W:World) (o:Obj),Others W0 W→Others W0 (W.putObj l o):=fun W o h k o' hk ho =>
   (World.putObj_heap_other (hlW0 hk)).trans (h k o' hk ho)
  refine Calls.mono (R:=fun e W'=>(∃ v,e = .returned v) ∧
    (((I L.length W'∧W'.heap[l]? = some (.loop (rec .ready none))∧Others W0 W')∧E W') ∨
     ∃ k,k ≤ L.length∧∃ c,Ix c k W'∧W'.heap[l]? = some (.loop (rec .done (some c)))∧Others W0 W')) ?_ ?_ |> callsIn_wide.2
  ·refine hit W1 hN1 l
    (fun k W=>I k W∧W.heap[l]? = some (.loop (rec .ready none))∧Others W0 W)
    (fun k W=>∃ c,Ix c k W∧W.heap[l]? = some (.loop (rec .done (some c)))∧Others W0 W)
    (fun k A A' h hn=>⟨hIT k A A' h.1 hn,hTK _ _ hn _ _ h.2.1 rfl,fun j o hj ho=>hTK _ _ hn _ _ (h.2.2 j o hj ho) ho⟩)
    (fun k A A' h hn=>by
     obtain ⟨c,h1,h2,h3⟩:=h
     exact ⟨c,hIxT c k A A' h1 hn,hTK _ _ hn _ _ h2 rfl,fun j o hj ho=>hTK _ _ hn _ _ (h3 j o hj ho) ho⟩)
    ?_ ⟨hI 0 w W1 h0 (hN1.quiet _),hL1,hC1⟩
   rintro k x W hx ⟨hi,hl,hk⟩
   have hy:=run_yield (P:=P) (args:=x) hl (by rw [hrec];exact hps x (List.mem_of_getElem? hx))
   rw [hrec] at hy
   refine ⟨fn,_,assign,body,hy,roundIn_of_wpIn trivial (wpIn_mono (hround l k x W hx hwl ⟨_,hl⟩ hi) ?_)⟩
   clear hy
   rintro e a1 Wa he
   cases e with
   | normal =>
    obtain ⟨hma,hb⟩:=he
    have hla:=hma.block _ _ hl (.inr rfl)
    have hka:Others W0 Wa:=fun j o hj ho=>hma.block _ _ (hk j o hj ho) (.inr ho)
    have hlt:l < Wa.heap.size:=(Array.getElem?_eq_some_iff.1 hla).1
    refine ⟨_,run_beginRound hla (by rw [hrec]),?_⟩
    obtain ⟨Wb,hWb⟩:∃ Wb,Wa.putObj l (.loop { rec .ready none with state:=.busy })=Wb:=⟨_,rfl⟩
    have hl2:Wb.heap[l]? = some (.loop { rec .ready none with state:=.busy }):=by rw [← hWb];exact World.putObj_heap_same hlt
    have hk2:Others W0 Wb:=by rw [← hWb];exact hput _ _ hka
    have hqb:Quiet w.heap.size Wa Wb:=by rw [← hWb];exact Quiet.putObj _ hla rfl hwl
    rw [hWb]
    refine wpIn_mono (hb Wb hqb ⟨_,hl2⟩) ?_
    have fin:∀ (jump:Option Code) (W3:World),Mods S Wb W3 →
      (Instr.endRound l jump).run P W3 = .ok (.bool jump.isNone) (W3.putObj l (.loop (rec (if jump.isNone then .ready else .done) jump))) ∧
      W3.heap[l]? = some (.loop { rec .ready none with state:=.busy }) ∧
      (W3.putObj l (.loop (rec (if jump.isNone then .ready else .done) jump))).heap[l]? = some (.loop (rec (if jump.isNone then .ready else .done) jump)) ∧
      Others W0 (W3.putObj l (.loop (rec (if jump.isNone then .ready else .done) jump))):=fun jump W3 hm3=>by
     have hl3:=hm3.block _ _ hl2 (.inr rfl)
     have:=run_endRound (P:=P) jump hl3
     rw [hrec] at this ⊢
     exact ⟨this,by rw [hrec] at hl3;exact hl3,World.putObj_heap_same (Array.getElem?_eq_some_iff.1 hl3).1,hput _ _ fun j o hj ho=>hm3.block _ _ (hk2 j o hj ho) (.inr ho)⟩
    rintro e a3 W3 hp
    cases e with
    | normal =>
     obtain ⟨hm3,hi3⟩:=hp
     obtain ⟨hr,hl3,hl4,hk4⟩:=fin none W3 hm3
     refine ⟨_,_,hr,.inl ⟨rfl,⟨hI _ _ _ hi3 (Quiet.putObj _ hl3 rfl hwl),hl4,hk4⟩,?_⟩⟩
     refine ⟨(hm3.os.trans hqb.os).trans hma.os,(hm3.tape.trans hqb.tape).trans hma.tape,(hm3.output.trans hqb.output).trans hma.output,?_,?_⟩
     ·simp only [World.putObj_size];exact Nat.le_trans hma.size (Nat.le_trans hqb.size hm3.size)
     ·intro j o hj ho
      by_cases e:j=l
      ·subst e;rw [hl] at hj;cases hj;exact hl4
      ·refine (World.putObj_heap_other e).trans (hm3.block _ _ ?_ ho)
       rw [← hWb];exact (World.putObj_heap_other e).trans (hma.block _ _ hj ho)
    | ret =>
     obtain ⟨hm3,hi3⟩:=hp
     obtain ⟨hr,hl3,hl4,hk4⟩:=fin (some .ret) W3 hm3
     exact ⟨_,_,hr,.inr ⟨rfl,.ret,hIx _ _ _ _ hi3 (Quiet.putObj _ hl3 rfl hwl),hl4,hk4⟩⟩
    | exit id =>
     obtain ⟨hm3,hi3⟩:=hp
     obtain ⟨hr,hl3,hl4,hk4⟩:=fin (some (.exit id)) W3 hm3
     exact ⟨_,_,hr,.inr ⟨rfl,.exit id,hIx _ _ _ _ hi3 (Quiet.putObj _ hl3 rfl hwl),hl4,hk4⟩⟩
    | goto t =>
     obtain ⟨hm3,hi3⟩:=hp
     obtain ⟨hr,hl3,hl4,hk4⟩:=fin (some (.goto t)) W3 hm3
     exact ⟨_,_,hr,.inr ⟨rfl,.goto t,hIx _ _ _ _ hi3 (Quiet.putObj _ hl3 rfl hwl),hl4,hk4⟩⟩
    | panic ch=>exact hp.elim
    | outgrown=>exact hp.elim
   | exit id=>exact he.elim
   | goto t=>exact he.elim
   | ret=>exact he.elim
   | panic ch=>exact he.elim
   | outgrown=>exact he.elim
  ·rintro e W2 ⟨⟨v,rfl⟩,(⟨⟨hi,hl,hk⟩,hEE⟩ | ⟨k,hkl,c,hi,hl,hk⟩)⟩
   ·exact ⟨none,_,by have:=run_endLoop (P:=P) hl (by rw [hrec];simp);rw [hrec] at this;exact this,hdone _ (hI _ _ _ hi (Quiet.putObj _ hl rfl hwl)) (hE _ _ hEE (Quiet.putObj _ hl rfl hwl)) (hput _ _ hk)⟩
   ·exact ⟨some c,_,by have:=run_endLoop (P:=P) hl (by rw [hrec];simp);rw [hrec] at this;exact this,hstop c k _ hkl (hIx _ _ _ _ hi (Quiet.putObj _ hl rfl hwl)) (hput _ _ hk)⟩
theorem wp_rangeListK {α:Type} {g:Operand} {ps:Array Tmp} {assign body:Code} {Q:Exit→Act→World→Prop} {a:Act} {w:World}
  {gf:Nat} {lb:Array Value} (hg:a.eval g = .func (.func gf) #[] lb) (eg:∀ args w,(callFunc gf args).run P w = .ok (.enter gf args) w)
  (xs:List α) (enc:α→Array Value) (S:Nat→Prop) (T:World→World→Prop) (E:World→Prop) (hE:Stab w.heap.size E) (hit:∀ W,New w W→IterAtK P gf lb (xs.map enc) S T E W) (hps:∀ x,(enc x).size=ps.size)
  (I:Nat→World→Prop) (Ix:Code→Nat→World→Prop) (hTK:∀ A A',T A A'→∀ (k:Nat) (o:Obj),A.heap[k]? = some o→o.isCells=false→A'.heap[k]? = some o) (hIT:∀ k A A',I k A→T A A'→I k A') (hIxT:∀ c k A A',Ix c k A→T A A'→Ix c k A') (hI:∀ k,Stab w.heap.size (I k)) (hIx:∀ c k,Stab w.heap.size (Ix c k)) (h0:I 0 w) (upd:α→Array Value→Array Value)
  (hassign:∀ (l:Nat) (x:α) (W:World) (K:Act→World→Prop),K { tmps:=upd x a.tmps,defers:=[] } W →
   assign.wpIn (Fr (some l)) 0 P (Exit.then K (fun _ _ _=>False)) { tmps:=(ps.zip (enc x)).foldl (fun t (p,v)=>t.setIfInBounds p v) a.tmps,defers:=[] } W)
  (hbody:∀ (l k:Nat) (x:α) (W:World),xs[k]? = some x→w.heap.size ≤ l→(∃ r,W.heap[l]? = some (.loop r))→I k W→body.wpIn (Fr (some l)) 0 P (roundQ S I Ix (k + 1) W) { tmps:=upd x a.tmps,defers:=[] } W)
  (hdone:∀ W,I xs.length W→E W→W.heap[w.heap.size]? = some (.deferred (some []))→Q .normal { a with defers:={ target:=.collected w.heap.size,args:=#[] }::a.defers } W)
  (hstop:∀ c k W,k ≤ xs.length→Ix c k W→W.heap[w.heap.size]? = some (.deferred (some []))→c.wp P Q { a with defers:={ target:=.collected w.heap.size,args:=#[] }::a.defers } W) :
  (Code.rangeFunc g ps assign body).wp P Q a w:=by
 refine (wpIn_wide (n:=0)).1 ?_
 refine rangeListK_core (P:=P) none hg eg (xs.map enc) S T E hE hit ?_ (w.alloc (.deferred (some []))) ((Mods.refl _ _).alloc _) [{ target:=.collected w.heap.size,args:=#[] }] w.heap.size ?_ I Ix hTK hIT hIxT hI hIx h0 ?_ ?_ ?_
 ·intro x hx
  obtain ⟨y,_,rfl⟩:=List.mem_map.1 hx
  exact hps y
 ·intro fn
  rw [World.size_alloc]
  exact run_enterLoop_outer _ _ _ _ _
 ·intro l k x W hx hl hr hi
  rw [List.getElem?_map] at hx
  obtain ⟨y,hy,rfl⟩:=Option.map_eq_some_iff.1 hx
  exact hassign l y W _ ⟨Mods.refl _ _,fun W2 hq hr2=>hbody l k y W2 hy hl hr2 (hI k W W2 hi hq)⟩
 ·intro W hi hEE ho
  rw [List.length_map] at hi
  exact hdone W hi hEE (ho _ _ (World.alloc_heap_new w _) rfl)
 ·intro c k W hk hi ho
  rw [List.length_map] at hk
  exact (wpIn_wide (n:=0)).2 (hstop c k W hk hi (ho _ _ (World.alloc_heap_new w _) rfl))
end Go.Cs
namespace Go.Proofs
open Go.Shelf
def Tryz.lays167_ren:Go.Shelf.Ren:=⟨fun | 167=>68 | 240=>126 | 276=>165 | n=>n,fun | 0=>0 | 4=>4 | 5=>5 | 9=>9 | 20=>20 | 37=>62 | 70=>72 | 72=>74 | 75=>79 | 164=>170 | 80=>81 | n=>n,fun | n=>n⟩
theorem Tryz.lays167:Go.Proofs.Lays.n167 Tryz.prog Tryz.lays167_ren:={
 mixed:=by kernel_rfl
 f167:=Tryz.func68.trans (congrArg some (by kernel_rfl))
 f240:=Tryz.func126.trans (congrArg some (by kernel_rfl))
 f276:=Tryz.func165.trans (congrArg some (by kernel_rfl))
 t0:=Tryz.underlying0
 a0:=Tryz.isAgg0
 z0:=Tryz.sizeOf0
 v0:=Tryz.zeroValue0
 t4:=Tryz.underlying4
 a4:=Tryz.isAgg4
 z4:=Tryz.sizeOf4
 v4:=Tryz.zeroValue4
 t5:=Tryz.underlying5
 a5:=Tryz.isAgg5
 z5:=Tryz.sizeOf5
 v5:=Tryz.zeroValue5
 t9:=Tryz.underlying9
 a9:=Tryz.isAgg9
 z9:=Tryz.sizeOf9
 v9:=Tryz.zeroValue9
 t20:=Tryz.underlying20
 a20:=Tryz.isAgg20
 z20:=Tryz.sizeOf20
 v20:=Tryz.zeroValue20
 t37:=Tryz.underlying62
 a37:=Tryz.isAgg62
 z37:=Tryz.sizeOf62
 v37:=Tryz.zeroValue62
 t70:=Tryz.underlying72
 a70:=Tryz.isAgg72
 z70:=Tryz.sizeOf72
 v70:=Tryz.zeroValue72
 t72:=Tryz.underlying74
 a72:=Tryz.isAgg74
 z72:=Tryz.sizeOf74
 v72:=Tryz.zeroValue74
 t75:=Tryz.underlying79
 a75:=Tryz.isAgg79
 z75:=Tryz.sizeOf79
 v75:=Tryz.zeroValue79
 t164:=Tryz.underlying170
 a164:=Tryz.isAgg170
 z164:=Tryz.sizeOf170
 v164:=Tryz.zeroValue170 }
theorem Tryz.Builder_Extra_167:Builder.Extra Tryz.prog Tryz.lays167_ren:={
 sizeBuilder:=by kernel_rfl
 liesBuilder:=by kernel_rfl
 t5:=Tryz.underlying5
 a5:=Tryz.isAgg5
 z5:=Tryz.sizeOf5
 v5:=Tryz.zeroValue5
 infoByte:=by kernel_rfl
 cellsByte:=by kernel_rfl
 sizeByte:=by kernel_rfl
 neB5:=by decide }
open Go.RowKit in
theorem Tryz.Builder_WriteByte_k (B b:Nat) (bs:List Value) (c:Int) (w:World) (h:Lib.IsBuilderF 74 5 B b bs w) (hlen:bs.length + 1 ≤ 140737488355328) (hBw:B ≤ w.heap.size) :
  Calls Tryz.prog 68 #[.pointer (some ⟨b,0,none⟩),.int .u8 c] w fun e w'=>e = .returned .nilIface∧(Lib.BuilderAtF 74 5 B b (.pointer (some ⟨b,0,none⟩)) (bs ++ [.int .u8 c]) w'∧Below B w w'∧Lib.OthersKept 5 (some b) w w'):=Any.Builder_WriteByte_k Tryz.lays167 Tryz.Builder_Extra_167 B b bs c w h hlen hBw
end Go.Proofs
namespace Go.Proofs.YtnknmmbnhoanfaaGreatDoor
open Go.RowKit Go.Shelf Go.Cs
attribute [local go_sem] Oper.semAt_some


theorem min_if (x y:Int):(if y < x then y else x)=min x y:=by
 rw [Int.min_def]
 split <;> split <;> omega
theorem run_min2' (x y:Int) (W:World) (ts:Array TypeId) (t:TypeId):(Builtin.min_ ts t #[.int .i64 x,.int .i64 y]).run Tryz.prog W = .ok (.int .i64 (min x y)) W:=by
 rw [run_min_int2,min_if]
def encC (p:Nat × Nat):Array Value:=#[.int .u32 (p.1:Nat),.int .i64 (p.2:Nat)]
def cv (l:Bare.Bs):Nat→Nat
 | 0=>0
 | i + 1=>cv l i * 256 + (l.getD i 0).toNat
theorem cv_lt (l:Bare.Bs):∀ i,cv l i < 256 ^ i
 | 0=>by simp [cv]
 | i + 1=>by
  have:=cv_lt l i
  have h2:=UInt8.toNat_lt (l.getD i 0)
  rw [cv,Nat.pow_succ]
  omega
theorem cv_chunk (l:Bare.Bs):cv l 3=(Bare.chunk l).1:=by
 unfold Bare.chunk
 simp only [cv]
 omega
theorem or256 (n c:Nat) (hn:n < 65536) (hc:c < 256):bits BinOp.or IntKind.u32 ((n:Int) * 256) ((c:Int) % 4294967296)=((n * 256 + c:Nat):Int):=by
 have e:((n:Int) * 256)=((n * 256:Nat):Int):=by omega
 have e3:((c:Int) % 4294967296)=((c:Nat):Int):=by omega
 rw [e3]
 have e2:n * 256=n <<< 8:=by rw [Nat.shiftLeft_eq]
 rw [e,u32_or_nat _ _ (by omega) (by omega),e2,← Nat.shiftLeft_add_eq_or_of_lt (by omega:c < 2 ^ 8)]
def Kx (B:Nat) (A A':World):Prop:=Mods (fun b=>b=B) A A'∧∀ c t fr,A.heap[B]? = some (.cells c t fr)→∃ c',A'.heap[B]? = some (.cells c' t fr)
theorem Kx.keeps {B:Nat}:∀ A A',Kx B A A'→∀ (k:Nat) (o:Obj),A.heap[k]? = some o→o.isCells=false→A'.heap[k]? = some o:=fun A A' h k o hk ho=>h.1.block k o hk (.inr ho)
theorem Kx.set (B:Nat) (A:World) (v:Value):Kx B A (A.setCell ⟨B,0,none⟩ v) :=
 ⟨setMods A B 0 v,fun c t fr h=>⟨_,setCell_heap h v⟩⟩
def left (B:Nat) (w:World):Nat:=match w.cell? ⟨B,0,none⟩ with
 | some (.string s)=>s.size
 | _=>0
theorem threes1_iter (B:Nat) (l:Bare.Bs) (hl:l.length ≤ 1000000) (S:Nat→Prop) (hSB:¬ S B) (W:World) (hB:Boxed W B 9 (.string (tx l))) :
  IterAtK Tryz.prog 125 #[.pointer (some ⟨B,0,none⟩)] ((Bare.chunks l).map encC) S (Kx B) (fun _=>True) W:=by
 intro l0 J Jx hJ hJx hY h0
 refine (callsIn_wide (n:=0)).1 (callsIn_of_wp Tryz.func125 rfl trivial ?_ rfl)
 simp only [Tryz.ntmps125,List.size_toArray,List.length_cons,List.length_nil,Nat.reduceAdd,Nat.reduceSub,Array.replicate_succ,Array.replicate_zero,List.push_toArray,List.append_toArray,List.nil_append,List.cons_append]
 gi_wp2
 gi_loopw [] (fun wr=>∃ (k:Nat) (d:Bare.Bs),J k wr∧Boxed wr B 9 (.string (tx d))∧Hid ((Bare.chunks l).drop k=Bare.chunks d)∧d.length ≤ 1000000∧k ≤ (Bare.chunks l).length) (fun wr=>left B wr)
 case atStart=>exact ⟨0,l,h0,hB,Lib.hid rfl,hl,Nat.zero_le _⟩
 case round =>
  obtain ⟨k,d,hJk,hbx,Hd,hdl,hkl⟩:=hrel
  obtain ⟨c1,f1⟩:=hbx.both
  have hem:=tx_empty d
  obtain ⟨s,hs⟩:∃ s,tx d=s:=⟨_,rfl⟩
  have hss:s.size=d.length:=by rw [← hs,tx_size]
  rw [hs] at hbx c1 hem
  by_cases hd:d = []
  ·subst hd
   have he:k=(Bare.chunks l).length:=by
    have:=congrArg List.length Hd.out
    rw [List.length_drop] at this
    simp [Bare.chunks] at this
    omega
   have hem2:s.toList.isEmpty=true:=hem
   subst he
   clear hem hs hss Hd hdl
   gi_wp2
   go_end0
   exact ⟨⟨_,rfl⟩,.inl ⟨by rw [List.length_map];exact hJk,trivial⟩⟩
  ·have hem2:s.toList.isEmpty=false:=by rw [hem];cases d with | nil=>exact absurd rfl hd | cons a b=>rfl
   clear hem
   have hcc:=Bare.chunks_cons hd
   have hch:=cv_chunk d
   have hc2:(Bare.chunk d).2=min 3 d.length:=rfl
   have hget:(Bare.chunks l)[k]? = some (Bare.chunk d):=by
    have h:=congrArg List.head? Hd.out
    rw [List.head?_drop,hcc] at h
    exact h
   have Hn:Hid ((Bare.chunks l).drop (k + 1)=Bare.chunks (d.drop 3)):=Lib.hid (by
    have h:=congrArg List.tail Hd.out
    rw [List.tail_drop,hcc] at h
    exact h)
   gi_wp2
   gi_loop [3,12] (fun n c=>∃ i:Nat,i ≤ 3∧n = .int .u32 (cv d i:Nat)∧c = .int .i64 i) (fun _ c=>3 - (intOf c).toNat)
   case atStart=>exact ⟨0,by omega,rfl,rfl⟩
   case round =>
    obtain ⟨i,hi,rfl,rfl⟩:=hrel
    by_cases hi3:i < 3
    ·have hlt:=cv_lt d i
     have hp:256 ^ i ≤ 65536:=by
      have:i=0 ∨ i=1 ∨ i=2:=by omega
      rcases this with rfl | rfl | rfl <;> decide
     have hcs:cv d (i + 1)=cv d i * 256 + (d.getD i 0).toNat:=rfl
     obtain ⟨n,hn⟩:∃ n,cv d i=n:=⟨_,rfl⟩
     rw [hn] at hlt hcs ⊢
     have hn6:n < 65536:=by omega
     by_cases his:i < s.size
     ·have hix:=run_idx s i his
      have hgb:gb s i=d.getD i 0:=by rw [← hs];rfl
      rw [hgb] at hix
      have hor:=or256 n (d.getD i 0).toNat hn6 (UInt8.toNat_lt _)
      rw [← hcs] at hor
      obtain ⟨c,hc⟩:∃ c,(d.getD i 0).toNat=c:=⟨_,rfl⟩
      rw [hc] at hix hor
      have his':decide ((i:Int) < (s.size:Int))=true:=decide_eq_true (by omega)
      clear hn hcs hc hgb hlt
      gi_wp2
      go_round
      case rel=>exact ⟨i + 1,by omega,rfl,by go_num⟩
      case measure=>simp [intOf];omega
     ·have hg0:d.getD i 0=0:=by rw [List.getD_eq_getElem?_getD,List.getElem?_eq_none (by omega)];rfl
      rw [hg0,show (0:UInt8).toNat=0 from rfl,Nat.add_zero] at hcs
      have his':decide ((i:Int) < (s.size:Int))=false:=decide_eq_false (by omega)
      have HE:Hid (((n:Int) * 256)=((cv d (i + 1):Nat):Int)):=Lib.hid (by rw [hcs];omega)
      clear hn hg0 hlt hcs
      gi_wp2
      go_round
      case rel=>exact ⟨i + 1,by omega,by rw [← HE.out],by go_num⟩
      case measure=>simp [intOf];omega
    ·obtain rfl:i=3:=by omega
     rw [hch]
     have hmin:∀ W ts t,(Builtin.min_ ts t #[.int .i64 3,.int .i64 (s.size:Int)]).run Tryz.prog W = .ok (.int .i64 (min 3 (s.size:Int))) W:=fun W ts t=>run_min2' _ _ W ts t
     have hmn:min 3 (s.size:Int)=(((Bare.chunk d).2:Nat):Int):=by rw [hc2,hss];omega
     rw [hmn] at hmin
     have h2l:(Bare.chunk d).2 ≤ s.size:=by rw [hc2,hss];omega
     have h2p:0 < (Bare.chunk d).2:=by rw [hc2];have:=List.length_pos_iff.2 hd;omega
     have hsl:=run_sl_l s (Bare.chunk d).2 h2l
     have hdd:(bl s).drop (Bare.chunk d).2=d.drop 3:=by
      rw [← hs,bl_tx,hc2]
      by_cases h:3 ≤ d.length
      ·rw [Nat.min_eq_left h]
      ·rw [List.drop_eq_nil_of_le (by omega:d.length ≤ 3),List.drop_eq_nil_of_le (by omega)]
     rw [hdd] at hsl
     have hnx:(d.drop 3).length < s.size:=by rw [List.length_drop,hss];have:=List.length_pos_iff.2 hd;omega
     obtain ⟨nx,hnxe⟩:∃ x,tx (d.drop 3)=x:=⟨_,rfl⟩
     have Hnxe:=Lib.hid hnxe
     have hnxs:nx.size < s.size:=by rw [← hnxe,tx_size];exact hnx
     have hk1:k + 1 ≤ (Bare.chunks l).length:=(List.getElem?_eq_some_iff.1 hget).1
     rw [hnxe] at hsl
     obtain ⟨fn,tmps,assign,body,hy,hR⟩:=hY k (encC (Bare.chunk d)) wr (by rw [List.getElem?_map,hget];rfl) hJk
     clear hY
     dsimp only [encC] at hy
     obtain ⟨n,hn⟩:∃ n,(Bare.chunk d).1=n:=⟨_,rfl⟩
     obtain ⟨m,hm⟩:∃ m,(Bare.chunk d).2=m:=⟨_,rfl⟩
     rw [hn,hm] at hy
     rw [hm] at hmin hsl
     rw [hn]
     clear hmn hc2 hdd hch hget hss hs hnxe hnx
     gi_wp2
     refine ⟨rfl,hR.mono ?_⟩
     rintro e W3 (⟨rfl,hJ3,hm3⟩ | ⟨rfl,hJx3⟩)
     ·have hb3:=hm3.boxed hbx hSB
      obtain ⟨c3,f3⟩:=hb3.both
      gi_wp2
      go_roundw
      case rel=>exact ⟨k + 1,d.drop 3,hJ _ _ _ hJ3 (Kx.set B _ _),by rw [Hnxe.out];exact hb3.set _,Hn,by rw [List.length_drop];omega,hk1⟩
      case measure =>
       have e1:left B wr=s.size:=by unfold left;rw [c1]
       have e2:left B (W3.setCell ⟨B,0,none⟩ (.string nx))=nx.size:=by unfold left;rw [(hb3.set _).cell]
       rw [e1,e2]
       exact hnxs
     ·gi_wp2
      refine bodyPost_ret (results_none rfl _ _ _) rfl ?_
      exact ⟨⟨_,rfl⟩,.inr ⟨k + 1,by rw [List.length_map];exact hk1,hJx3⟩⟩


abbrev TB:Nat:=74
theorem run_idx32 (s:ByteArray) (k:Nat) (h:k < s.size) (w:World):(Instr.index 9 (.string s) (.int .u32 (k:Nat))).run Tryz.prog w = .ok (.int .u8 ((gb s k).toNat:Nat)) w:=by
 have e:=gb_eq s k h
 rw [← e]
 simp [go_sem,h]
theorem builder_keep {T e B b:Nat} {bs:List Value} {W W':World} (h:Lib.IsBuilderF T e B b bs W) (hk:∀ k c t fr,W.heap[k]? = some (.cells c t fr)→(k=b ∨ t=e)→W'.heap[k]? = some (.cells c t fr)):Lib.IsBuilderF T e B b bs W':=by
 have one:∀ p,Lib.BuilderAtF T e B b p bs W→Lib.BuilderAtF T e B b p bs W':=by
  rintro p ⟨h1,v,hb,hown,hne⟩
  refine ⟨h1,v,hk _ _ _ _ hb (.inl rfl),⟨hown.1,hown.2.imp id ?_⟩,hne⟩
  rintro ⟨g,cap,cur,fz,hv,hg,hh,r⟩
  exact ⟨g,cap,cur,fz,hv,hg,hk _ _ _ _ hh (.inr rfl),r⟩
 exact h.imp (one _) (one _)
theorem builder_new (W:World):Lib.IsBuilderF TB 5 W.heap.size W.heap.size [] (W.alloc (.cells #[.pointer none,.slice none 0 0] TB)) :=
 .inl ⟨Nat.le_refl _,.slice none 0 0,World.alloc_heap_new W _,⟨rfl,.inl ⟨rfl,rfl⟩⟩,by simp [Value.ownBlock]⟩
theorem kept_mods {B b X:Nat} {W W':World} {v:Value} (hB:Below B W W') (hO:Lib.OthersKept 5 (some b) W W') (hb:∃ c t fr,W.heap[b]? = some (.cells c t fr)) (hbX:X ≠ b) (hX:∃ c fr,W.heap[X]? = some (.cells c 9 fr)):Mods (fun k=>B ≤ k∧k ≠ X) W W' :=
 ⟨hB.os,hB.tape,hB.output,hB.size,fun k o hk ho=>by
  have hlt:=(Array.getElem?_eq_some_iff.1 hk).1
  by_cases hkB:k < B
  ·rw [hB.block k hkB];exact hk
  ·by_cases hkX:k=X
   ·subst hkX
    obtain ⟨c,fr,hc⟩:=hX
    refine hO _ _ hk (fun e=>hbX (by cases e;rfl)) (fun c' fz e=>?_)
    rw [hc] at hk
    cases hk
    cases e
   ·rcases ho with ho | ho
    ·exact absurd ⟨by omega,hkX⟩ ho
    ·refine hO _ _ hk (fun e=>?_) (fun c' fz e=>by subst e;cases ho)
     cases e
     obtain ⟨c,t,fr,hc⟩:=hb
     rw [hc] at hk
     cases hk
     cases ho⟩
theorem threes_any (s:ByteArray) (w:World):Calls Tryz.prog 67 #[.string s] w fun e w'=>e = .returned (.func (.func 125) #[] #[.pointer (some ⟨w.heap.size,0,none⟩)])∧w.alloc (.cells #[.string s] 9)=w':=by
 go_enter Tryz.func67,Tryz.ntmps67
 go_wp2
 go_ret
 exact ⟨rfl,rfl⟩
theorem four_get (p:Nat × Nat) (i:Nat) (h:i < 4):(Bare.four p).take (i + 1)=(Bare.four p).take i ++ [Bare.letterOf p i]:=by
 match i,h with
 | 0,_=>rfl
 | 1,_=>rfl
 | 2,_=>rfl
 | 3,_=>rfl
theorem cells_app (l:Bare.Bs) (c:UInt8):Lib.byteCells (l ++ [c])=Lib.byteCells l ++ [.int .u8 (c.toNat:Nat)]:=by simp [Lib.byteCells]
theorem four_len (L:List (Nat × Nat)):(L.flatMap Bare.four).length=4 * L.length:=by
 induction L with
 | nil=>rfl
 | cons a L ih =>
  rw [List.flatMap_cons,List.length_append,ih]
  show 4 + _ = _
  simp
  omega
theorem chunks_len:∀ l:Bare.Bs,(Bare.chunks l).length ≤ l.length
 | []=>by simp [Bare.chunks]
 | [_]=>by simp [Bare.chunks]
 | [_,_]=>by simp [Bare.chunks]
 | a::b::c::r=>by
  have:=chunks_len r
  simp only [Bare.chunks,List.length_cons]
  omega
theorem chunks_lt:∀ (l:Bare.Bs),∀ p ∈ Bare.chunks l,p.1 < 16777216
 | [],p,h=>by simp [Bare.chunks] at h
 | [_],p,h=>by simp [Bare.chunks] at h;subst h;exact Bare.chunk_lt _
 | [_,_],p,h=>by simp [Bare.chunks] at h;subst h;exact Bare.chunk_lt _
 | a::b::c::r,p,h=>by
  simp only [Bare.chunks,List.mem_cons] at h
  rcases h with rfl | h
  ·exact Bare.chunk_lt _
  ·exact chunks_lt r p h
def SI (w:World) (b X:Nat) (l:Bare.Bs) (W:World):Prop:=Lib.IsBuilderF TB 5 b b (Lib.byteCells l) W∧(∃ c fr,W.heap[X]? = some (.cells c 9 fr))∧Mods (fun k=>b ≤ k) w W
theorem SI.stab {w:World} {b X B:Nat} {l:Bare.Bs} (hB:w.heap.size ≤ B):Stab B (SI w b X l):=fun W W' h k =>
 ⟨builder_keep h.1 fun j c t fr hj _=>k.block j _ hj (.inr rfl),by obtain ⟨c,fr,hc⟩:=h.2.1;exact ⟨c,fr,k.block _ _ hc (.inr rfl)⟩,Stab.mods hB W W' h.2.2 k⟩
theorem SI.turn {w:World} {b X:Nat} {l:Bare.Bs} (hX:b ≤ X) (hne:X ≠ b):∀ A A',SI w b X l A→Kx X A A'→SI w b X l A':=fun A A' h k=>by
 obtain ⟨h1,⟨c,fr,hc⟩,h3⟩:=h
 refine ⟨builder_keep h1 fun j c' t fr' hj hor=>k.1.heap hj ?_,k.2 _ _ _ hc |>.imp fun c' h=>⟨fr,h⟩,h3.trans (k.1.mono fun i hi=>by omega)⟩
 rintro rfl
 rcases hor with e | e
 ·exact hne e
 ·rw [hc] at hj
  cases hj
  cases e
theorem SI.has {w W:World} {b X:Nat} {l:Bare.Bs} (h:SI w b X l W):∃ c t fr,W.heap[b]? = some (.cells c t fr):=by
 rcases h.1 with ⟨_,v,hb,_⟩ | ⟨_,v,hb,_⟩
 ·exact ⟨_,_,_,hb⟩
 ·exact ⟨_,_,_,hb⟩
theorem write_any {w W:World} {b X:Nat} {l:Bare.Bs} (hbw:b=w.heap.size) (hne:X ≠ b) (h:SI w b X l W) (hl:l.length ≤ 10000000) (c:UInt8) :
  Calls Tryz.prog 68 #[.pointer (some ⟨b,0,none⟩),.int .u8 (c.toNat:Nat)] W fun e W'=>e = .returned .nilIface∧SI w b X (l ++ [c]) W'∧Mods (fun k=>b ≤ k∧k ≠ X) W W':=by
 refine (Tryz.Builder_WriteByte_k b b (Lib.byteCells l) (c.toNat:Nat) W h.1 (by rw [Lib.byteCells_length];omega) (by have:=h.2.2.size;omega)).mono ?_
 rintro e W' ⟨rfl,h1,h2,h3⟩
 have hm:=kept_mods (v:=.nilIface) h2 h3 h.has hne h.2.1
 refine ⟨rfl,⟨.inr (by rw [cells_app];exact h1),?_,h.2.2.trans (hm.mono fun k hk=>hk.1)⟩,hm⟩
 obtain ⟨c',fr,hc⟩:=h.2.1
 exact ⟨c',fr,hm.heap hc (fun hh=>hh.2 rfl)⟩
theorem sixes_any (s:ByteArray) (w:World) (hs:s.size ≤ 1000000) :
  Calls Tryz.prog 17 #[.string s] w fun e w'=>e = .returned (.string (tx (Bare.sixes (bl s))))∧New w w':=by
 rw [Bare.sixes_four]
 obtain ⟨L,hL⟩:∃ L,Bare.chunks (bl s)=L:=⟨_,rfl⟩
 have hLl:L.length ≤ 1000000:=by rw [← hL];exact Nat.le_trans (chunks_len _) (by rw [bl_len];exact hs)
 have hLt:=Lib.hid (chunks_lt (bl s))
 have hit:=fun (B:Nat) S hSB W hB=>threes1_iter B (bl s) (by rw [bl_len];exact hs) S hSB W hB
 rw [tx_bl,hL] at hit
 rw [hL] at hLt ⊢
 have HIt:=Lib.hid hit
 clear hit hL
 have hb0:=builder_new w
 obtain ⟨b,hb⟩:∃ b,w.heap.size=b:=⟨_,rfl⟩
 have hN0:New w (w.alloc (.cells #[.pointer none,.slice none 0 0] TB)):=(Mods.refl _ _).alloc _
 have hz0:(w.alloc (.cells #[.pointer none,.slice none 0 0] TB)).heap.size=w.heap.size + 1:=by simp
 refine calls_of_marks Tryz.func17 rfl ?_
 simp only [Tryz.ntmps17,List.size_toArray,List.length_cons,List.length_nil,Nat.reduceAdd,Nat.reduceSub,Array.replicate_succ,Array.replicate_zero,List.push_toArray,List.append_toArray,List.nil_append,List.cons_append]
 go_upto_region 2 with fail
 obtain ⟨W0,hW0⟩:∃ W,w.alloc (.cells #[.pointer none,.slice none 0 0] TB)=W:=⟨_,rfl⟩
 rw [hW0] at hb0 hN0 hz0
 have hW0':w.alloc (.cells #[.pointer none,.slice none 0 0] 74)=W0:=hW0
 rw [hW0']
 rw [hb] at hb0 hz0
 try rw [hb]
 go_wp2_with fail
 refine (threes_any s W0).mono ?_
 rintro e W1 ⟨rfl,hW1⟩
 have hX:Boxed W1 (b + 1) 9 (.string s):=by rw [← hW1,← hz0];exact Boxed.new W0 _ _
 have hN01:New W0 W1:=by rw [← hW1];exact (Mods.refl _ _).alloc _
 have hS1:SI w b (b + 1) [] W1:=⟨builder_keep hb0 fun k c t fr hk _=>hN01.heap hk id,⟨_,_,hX⟩,Mods.ofNew (hN0.trans hN01)⟩
 have hNw1:=hN0.trans hN01
 rw [hz0]
 clear hW1 hW0 hW0' hb0 hN0 hz0 hN01
 have Hbw:=Lib.hid (hb.symm:b=w.heap.size)
 have hW1z:w.heap.size ≤ W1.heap.size:=hNw1.size
 clear hb
 go_wp2_with fail
 refine wp_rangeListK (gf:=125) (lb:=#[.pointer (some ⟨b + 1,0,none⟩)]) rfl (enters_of Tryz.func125 (by kernel_rfl) rfl) L encC (fun k=>b ≤ k∧k ≠ b + 1) (Kx (b + 1)) (fun _=>True) (.pure _)
  (fun W hW=>HIt.out (b + 1) _ (by omega) W (hW.boxed hX id)) (fun _=>rfl)
  (fun k W=>SI w b (b + 1) ((L.take k).flatMap Bare.four) W)
  (fun c k W=>False)
  Kx.keeps
  (fun k A A' h hm=>SI.turn (by omega) (by omega) A A' h hm)
  (fun c k A A' h _=>h.elim)
  (fun k=>SI.stab hW1z)
  (fun c k=>.pure _)
  hS1
  (fun p t=>(((t.setIfInBounds 9 (.int .u32 (p.1:Nat))).setIfInBounds 10 (.int .i64 (p.2:Nat))).setIfInBounds 4 (.int .u32 (p.1:Nat))).setIfInBounds 5 (.int .i64 (p.2:Nat))) ?assign ?body ?done ?stop
 case assign =>
  rintro lp p W K hK
  simp only [encC] at hK ⊢
  gi_wp2
  exact hK
 case body =>
  rintro lp k p W hp hl _ hS
  have hk:k < L.length:=(List.getElem?_eq_some_iff.1 hp).1
  have hpm:=List.mem_of_getElem? hp
  have hplt:=hLt.out p hpm
  have ht:(L.take (k + 1)).flatMap Bare.four=(L.take k).flatMap Bare.four ++ Bare.four p:=by
   obtain ⟨_,e⟩:=List.getElem?_eq_some_iff.1 hp
   rw [List.take_succ_eq_append_getElem hk,List.flatMap_append,e]
   simp
  have hal:((L.take k).flatMap Bare.four).length ≤ 4000000:=by rw [four_len,List.length_take];omega
  have HT:=Lib.hid ht
  obtain ⟨acc,hacc⟩:∃ acc,(L.take k).flatMap Bare.four=acc:=⟨_,rfl⟩
  rw [hacc] at hS hal HT
  obtain ⟨n,h⟩:=p
  simp only at hplt ⊢
  clear ht hacc hp hpm
  gi_wp2
  gi_loopw [11] (fun c wr=>∃ i:Nat,i ≤ 4∧c = .int .i64 i∧SI w b (b + 1) (acc ++ (Bare.four (n,h)).take i) wr∧Mods (fun k=>b ≤ k∧k ≠ b + 1) W wr) (fun c _=>4 - (intOf c).toNat)
  case atStart=>exact ⟨0,by omega,rfl,by rw [List.take_zero,List.append_nil];exact hS,Mods.refl _ _⟩
  case round =>
   obtain ⟨i,hi,rfl,hSr,hMr⟩:=hrel
   by_cases hi4:i < 4
   ·have hlen:(acc ++ (Bare.four (n,h)).take i).length ≤ 10000000:=by rw [List.length_append,List.length_take];show acc.length + min i 4 ≤ _;omega
    have hfg:=four_get (n,h) i hi4
    have HW:=Lib.hid (write_any Hbw.out (by omega) hSr hlen (Bare.letterOf (n,h) i))
    rw [List.append_assoc,← hfg] at HW
    clear hfg hlen hSr hal
    by_cases hgt:h < i
    ·have hle:Bare.letterOf (n,h) i=61:=by unfold Bare.letterOf;rw [if_pos hgt]
     rw [hle] at HW
     have hgd:decide ((h:Int) < (i:Int))=true:=decide_eq_true (by omega)
     clear hle
     gi_wp2
     refine at_round HW.out ?_
     rintro e W3 ⟨rfl,hS3,hM3⟩
     gi_wp2
     go_roundw
     case rel=>exact ⟨i + 1,by omega,by go_num,hS3,hMr.trans hM3⟩
     case measure=>simp [intOf];omega
    ·have hle:Bare.letterOf (n,h) i=Bare.s6 (n / 2 ^ (18 - 6 * i) % 64):=by unfold Bare.letterOf;rw [if_neg hgt]
     rw [hle] at HW
     have hgd:decide ((h:Int) < (i:Int))=false:=decide_eq_false (by omega)
     have hq:n / 2 ^ (18 - 6 * i) % 64 < 64:=Nat.mod_lt _ (by decide)
     have hidx:=run_idx32 (tx Bare.sx) (n / 2 ^ (18 - 6 * i) % 64) hq
     have hgs:gb (tx Bare.sx) (n / 2 ^ (18 - 6 * i) % 64)=Bare.s6 (n / 2 ^ (18 - 6 * i) % 64):=rfl
     rw [hgs] at hidx
     have hand:=u32_and_nat (n / 2 ^ (18 - 6 * i)) 63 (Nat.lt_of_le_of_lt (Nat.div_le_self _ _) (by omega)) (by decide)
     rw [show (63:Nat)=2 ^ 6 - 1 from rfl,Nat.and_two_pow_sub_one_eq_mod,show (2:Nat) ^ 6=64 from rfl] at hand
     obtain ⟨q,hqq⟩:∃ q,n / 2 ^ (18 - 6 * i) % 64=q:=⟨_,rfl⟩
     obtain ⟨z,hz⟩:∃ z,n / 2 ^ (18 - 6 * i)=z:=⟨_,rfl⟩
     rw [hqq] at hidx HW
     rw [hqq,hz] at hand
     obtain ⟨cc,hcc⟩:∃ cc,(Bare.s6 q).toNat=cc:=⟨_,rfl⟩
     rw [hcc] at hidx HW
     have hi':i=0 ∨ i=1 ∨ i=2 ∨ i=3:=by omega
     clear hle hgs hqq hcc hq
     have hidx:∀ W,(Instr.index 9 (.string ⟨#[65,66,67,68,69,70,71,72,73,74,75,76,77,78,79,80,81,82,83,84,85,86,87,88,89,90,97,98,99,100,101,102,103,104,105,106,107,108,109,110,111,112,113,114,115,116,117,118,119,120,121,122,48,49,50,51,52,53,54,55,56,57,43,47]⟩) (.int .u32 (q:Nat))).run Tryz.prog W = .ok (.int .u8 (cc:Nat)) W:=hidx
     have hand:bits BinOp.and IntKind.u32 (z:Int) 63=(q:Int):=hand
     rcases hi' with rfl | rfl | rfl | rfl
     ·have e:(n:Int) / 262144=(z:Int):=by
       have:n / 262144=z:=hz
       omega
      have hgd:decide ((h:Int) < 0)=false:=hgd
      rw [← e] at hand
      clear e hz hgt hi hi4
      gi_wp2
      refine at_round HW.out ?_
      rintro e W3 ⟨rfl,hS3,hM3⟩
      gi_wp2
      go_roundw
      case rel=>exact ⟨1,by omega,rfl,hS3,hMr.trans hM3⟩
      case measure=>simp [intOf]
     ·have e:(n:Int) / 4096=(z:Int):=by
       have:n / 4096=z:=hz
       omega
      have hgd:decide ((h:Int) < 1)=false:=hgd
      rw [← e] at hand
      clear e hz hgt hi hi4
      gi_wp2
      refine at_round HW.out ?_
      rintro e W3 ⟨rfl,hS3,hM3⟩
      gi_wp2
      go_roundw
      case rel=>exact ⟨2,by omega,rfl,hS3,hMr.trans hM3⟩
      case measure=>simp [intOf]
     ·have e:(n:Int) / 64=(z:Int):=by
       have:n / 64=z:=hz
       omega
      have hgd:decide ((h:Int) < 2)=false:=hgd
      rw [← e] at hand
      clear e hz hgt hi hi4
      gi_wp2
      refine at_round HW.out ?_
      rintro e W3 ⟨rfl,hS3,hM3⟩
      gi_wp2
      go_roundw
      case rel=>exact ⟨3,by omega,rfl,hS3,hMr.trans hM3⟩
      case measure=>simp [intOf]
     ·have e:(n:Int)=(z:Int):=by
       have:n / 1=z:=hz
       omega
      have hgd:decide ((h:Int) < 3)=false:=hgd
      rw [← e] at hand
      clear e hz hgt hi hi4
      gi_wp2
      refine at_round HW.out ?_
      rintro e W3 ⟨rfl,hS3,hM3⟩
      gi_wp2
      go_roundw
      case rel=>exact ⟨4,by omega,rfl,hS3,hMr.trans hM3⟩
      case measure=>simp [intOf]
   ·obtain rfl:i=4:=by omega
    rw [show (Bare.four (n,h)).take 4=Bare.four (n,h) from rfl,← HT.out] at hSr
    gi_wp2
    exact ⟨hMr.mono fun k hk=>hk,hSr⟩
 case done =>
  rintro W hS _ hD
  rw [List.take_of_length_le (Nat.le_refl _)] at hS
  have HStr:=Lib.hid (Tryz.Builder_String_any_k b b _ W hS.1 (by have h1:=hS.2.2.size;have h2:=Hbw.out;omega))
  have HM:=Lib.hid (hS.2.2.new fun k hk=>by have:=Hbw.out;omega)
  go_wp2_with (go_at_call 69;refine HStr.out.mono ?_;rintro e W3 ⟨rfl,h3,hB3,hO3⟩)
  have hD3:W3.heap[W1.heap.size]? = some (.deferred (some [])):=hO3 _ _ hD (fun e=>by
   cases e
   obtain ⟨c,t,fr,hc⟩:=hS.has
   rw [hc] at hD
   cases hD) (fun c fz e=>by cases e)
  have hM3:Mods (fun k=>b ≤ k) W W3:=⟨hB3.os,hB3.tape,hB3.output,hB3.size,fun k o hk ho=>by
   rcases ho with ho | ho
   ·have ho:¬ b ≤ k:=ho
    rw [hB3.block k (by omega)];exact hk
   ·refine hO3 _ _ hk (fun e=>?_) (fun c fz e=>by subst e;cases ho)
    cases e
    obtain ⟨c,t,fr,hc⟩:=hS.has
    rw [hc] at hk
    cases hk
    cases ho⟩
  have hN3:New w W3:=(hS.2.2.trans hM3).new fun k hk=>by have:=Hbw.out;omega
  refine marks_one rfl hD3 (v:=.string (tx (L.flatMap Bare.four))) ?_ ⟨rfl,hN3.putObj hW1z _⟩
  simp [results,Tryz.f17,go_sem]
 case stop =>
  rintro c k W hk h
  exact h.elim
end Go.Proofs.YtnknmmbnhoanfaaGreatDoor
