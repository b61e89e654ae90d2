/- Texts joined. -/
import Derived.Test.YtnknmmbnhoanfaaGreatDoorB01
import Derived.Test.YtnknmmbnhoanfaaGreatDoorB02
import Derived.Test.YtnknmmbnhoanfaaGreatDoorB00
import Derived.MapKept
import Derived.Laws.StructEq
import Derived.Test.YtnknmmbnhoanfaaGreatDoorB03
import Derived.ChangeMaps5
import Derived.WalkKit
set_option linter.unusedSimpArgs false
set_option linter.unusedVariables false
set_option maxHeartbeats 16000000
set_option maxRecDepth 100000
namespace Go.Bare
open Go.Lib
structure Par where
 key:Bs
 bare:It
 deriving DecidableEq
structure Itm where
 bare:It
 params:List Par
 deriving DecidableEq
structure Mem where
 key:Bs
 inner:Bool
 items:List Itm
 params:List Par
 deriving DecidableEq
def smlB (c:UInt8):Bool:=(decide (97 ≤ c.toNat) && decide (c.toNat ≤ 122)) || c == 42
def inKey (c:UInt8):Bool:=smlB c || (digB c || [95,45,46].contains c)
def keyB:Bs→Bool
 | []=>false
 | c::r=>smlB c && r.all inKey
def aloneB:List Bs→Bool
 | []=>true
 | k::r=>keyB k && (!r.contains k && aloneB r)
def yesI:It:=⟨6,0,[],true⟩
def textI (b:It):Bs:=(printI b).getD []
def valued (b:It):Bs:=if b=yesI then [] else 61::textI b
def told (l:List Par):Bs:=l.flatMap fun p=>59::(p.key ++ valued p.bare)
def noI:Itm:=⟨⟨0,0,[],false⟩,[]⟩
def Behind (x:Bs):Prop:=∀ c,x.head? = some c→c=44 ∨ c=59 ∨ c=32 ∨ c=41 ∨ c=40 ∨ c=9
def BehindP (x:Bs):Prop:=∀ c,x.head? = some c→c=44 ∨ c=32 ∨ c=41 ∨ c=9
theorem BehindP.behind {x:Bs} (h:BehindP x):Behind x:=fun c hc=>by rcases h c hc with rfl | rfl | rfl | rfl <;> decide
def BehindM (x:Bs):Prop:=∀ c,x.head? = some c→c=44 ∨ c=32 ∨ c=9
theorem BehindM.p {x:Bs} (h:BehindM x):BehindP x:=fun c hc=>by rcases h c hc with rfl | rfl | rfl <;> decide
def LastOk (l:Bs):Prop:=∀ q,l.getLast? = some q→q ≠ 32
theorem LastOk.nil:LastOk []:=fun q h=>by cases h
theorem LastOk.app {a b:Bs} (hb:LastOk b) (ha:b = []→LastOk a):LastOk (a ++ b):=by
 intro q hq
 rw [List.getLast?_append] at hq
 cases hbb:b.getLast? with
 | none =>
  rw [hbb] at hq
  exact ha (List.getLast?_eq_none_iff.1 hbb) q hq
 | some v =>
  rw [hbb] at hq
  cases hq
  exact hb _ hbb
theorem LastOk.cons {c:UInt8} {l:Bs} (hc:c ≠ 32) (h:LastOk l):LastOk (c::l):=by
 rw [← List.singleton_append]
 exact LastOk.app h fun _ q hq=>by cases hq;exact hc
theorem LastOk.all {p:UInt8→Bool} (hp:p 32=false) {l:Bs} (h:l.all p=true):LastOk l:=fun q hq=>by
 have hm:=List.mem_of_getLast? hq
 have:=List.all_eq_true.1 h q hm
 rintro rfl
 rw [hp] at this
 cases this
end Go.Bare

namespace Go.Bare
abbrev Pr:=Int × Bool
abbrev Wt:=Int × Pr
def pre (K:List Wt) (s:Int):List Wt:=K.takeWhile fun w=>decide (w.1 ≠ s)
def look (K:List Wt) (s:Int):Option Pr:=(K.find? fun w=>decide (w.1=s)).map (·.2)
def Many (K:List Wt) (s:Int) (M:Nat):Prop:=∃ l:List Int,l.Nodup∧M ≤ l.length∧∀ t ∈ l,t ∈ (pre K s).map (·.1)
structure Kept (M:Nat) (last:Int) (waits K:List Wt):Prop where
 look:∀ w ∈ waits,look K w.1=some w.2
 order:waits.Pairwise fun a b=>b.1 ∈ (pre K a.1).map (·.1)
 diff:(waits.map (·.1)).Nodup
 gone:∀ s,last < s→s ∈ K.map (·.1)→s ∉ waits.map (·.1)→Many K s M
 most:waits.length ≤ M
theorem pre_cons {K:List Wt} {t s:Int} {q:Pr} (h:t ≠ s):pre ((t,q)::K) s=(t,q)::pre K s:=by
 unfold pre
 rw [List.takeWhile_cons,if_pos (by simpa using h)]
theorem look_cons {K:List Wt} {t s:Int} {q:Pr} (h:t ≠ s):look ((t,q)::K) s=look K s:=by
 unfold look
 rw [List.find?_cons]
 simp [h]
theorem look_self (K:List Wt) (t:Int) (q:Pr):look ((t,q)::K) t=some q:=by
 unfold look
 simp
theorem Many.cons {K:List Wt} {t s:Int} {q:Pr} {M:Nat} (h:Many K s M) (hne:t ≠ s):Many ((t,q)::K) s M:=by
 obtain ⟨l,h1,h2,h3⟩:=h
 refine ⟨l,h1,h2,fun x hx=>?_⟩
 rw [pre_cons hne,List.map_cons]
 exact List.mem_cons_of_mem _ (h3 x hx)
def keep (M:Nat) (waits:List Wt) (t:Int) (q:Pr):List Wt:=let l:=waits.filter (fun w=>decide (w.1 ≠ t)) ++ [(t,q)];l.drop (l.length - M)
theorem Kept.keep {M:Nat} {last:Int} {waits K:List Wt} (h:Kept M last waits K) (hM:1 ≤ M) (t:Int) (q:Pr):Kept M last (keep M waits t q) ((t,q)::K):=by
 obtain ⟨f,hf⟩:∃ f,waits.filter (fun w=>decide (w.1 ≠ t))=f:=⟨_,rfl⟩
 have hfm:∀ w ∈ f,w ∈ waits∧w.1 ≠ t:=fun w hw=>by
  rw [← hf] at hw
  have:=List.mem_filter.1 hw
  exact ⟨this.1,by simpa using this.2⟩
 have hsub:f.Sublist waits:=by rw [← hf];exact List.filter_sublist
 have hlen:f.length ≤ M:=Nat.le_trans hsub.length_le h.most
 have hlookL:∀ w ∈ f ++ [(t,q)],Go.Bare.look ((t,q)::K) w.1=some w.2:=by
  intro w hw
  rcases List.mem_append.1 hw with hw | hw
  ·obtain ⟨h1,h2⟩:=hfm w hw
   rw [look_cons (Ne.symm h2)]
   exact h.look w h1
  ·simp at hw
   subst hw
   exact look_self K t q
 have hord:(f ++ [(t,q)]).Pairwise fun a b=>b.1 ∈ (pre ((t,q)::K) a.1).map (·.1):=by
  rw [List.pairwise_append]
  refine ⟨?_,by simp,fun a ha b hb=>?_⟩
  ·refine (h.order.sublist hsub).imp_of_mem fun {a b} ha hb hab=>?_
   rw [pre_cons (Ne.symm (hfm a ha).2),List.map_cons]
   exact List.mem_cons_of_mem _ hab
  ·simp at hb
   subst hb
   rw [pre_cons (Ne.symm (hfm a ha).2),List.map_cons]
   exact List.mem_cons_self ..
 have hdiff:((f ++ [(t,q)]).map (·.1)).Nodup:=by
  rw [List.map_append,List.nodup_append]
  refine ⟨h.diff.sublist (hsub.map _),by simp,fun a ha b hb=>?_⟩
  obtain ⟨w,hw,rfl⟩:=List.mem_map.1 ha
  simp at hb
  subst hb
  exact (hfm w hw).2
 unfold Go.Bare.keep
 rw [hf]
 simp only
 obtain ⟨L,hL⟩:∃ L,f ++ [(t,q)]=L:=⟨_,rfl⟩
 have hLl:L.length=f.length + 1:=by rw [← hL];simp
 rw [hL] at hlookL hord hdiff ⊢
 have hds:(L.drop (L.length - M)).Sublist L:=List.drop_sublist ..
 refine ⟨fun w hw=>hlookL w (hds.subset hw),hord.sublist hds,hdiff.sublist (hds.map _),fun s hs hm hno=>?_,by simp;omega⟩
 by_cases hst:t=s
 ·subst hst
  exfalso
  refine hno (List.mem_map.2 ⟨(t,q),?_,rfl⟩)
  rw [← hL,List.drop_append_of_le_length (by rw [hL];omega)]
  exact List.mem_append_right _ (List.mem_singleton.2 rfl)
 ·have hmK:s ∈ K.map (·.1):=by
   simp only [List.map_cons,List.mem_cons] at hm
   exact hm.resolve_left (Ne.symm hst)
  by_cases hw:s ∈ waits.map (·.1)
  ·obtain ⟨w,hww,rfl⟩:=List.mem_map.1 hw
   have hwf:w ∈ f:=by rw [← hf];exact List.mem_filter.2 ⟨hww,by simpa using Ne.symm hst⟩
   have hwL:w ∈ L:=by rw [← hL];exact List.mem_append_left _ hwf
   -- it is the eldest one
   cases hLc:L with
   | nil=>rw [hLc] at hwL;cases hwL
   | cons a L' =>
    have hgt:L.length=M + 1:=by
     rcases Nat.lt_or_ge M L.length with h1 | h1
     ·omega
     ·exfalso
      rw [show L.length - M=0 by omega,List.drop_zero] at hno
      exact hno (List.mem_map.2 ⟨w,hwL,rfl⟩)
    have hdrop:L.drop (L.length - M)=L':=by rw [hgt,show M + 1 - M=1 by omega,hLc];rfl
    rw [hdrop] at hno
    have hwa:w=a:=by
     rw [hLc] at hwL
     rcases List.mem_cons.1 hwL with e | e
     ·exact e
     ·exact absurd (List.mem_map.2 ⟨w,e,rfl⟩) hno
    subst hwa
    rw [hLc] at hord hdiff hgt
    refine ⟨L'.map (·.1),(List.nodup_cons.1 hdiff).2,by simp at hgt ⊢;omega,fun x hx=>?_⟩
    obtain ⟨b,hb,rfl⟩:=List.mem_map.1 hx
    exact (List.pairwise_cons.1 hord).1 b hb
  ·exact (h.gone s hs hmK hw).cons hst
theorem Kept.opened {M:Nat} {last:Int} {waits K:List Wt} (h:Kept M last waits K) {s:Int} (hs:last < s):Kept M s (waits.filter fun w=>decide (s < w.1)) K:=by
 have hsub:(waits.filter fun w=>decide (s < w.1)).Sublist waits:=List.filter_sublist
 refine ⟨fun w hw=>h.look w (hsub.subset hw),h.order.sublist hsub,h.diff.sublist (hsub.map _),fun x hx hm hno=>?_,Nat.le_trans hsub.length_le h.most⟩
 refine h.gone x (by omega) hm fun hw=>hno ?_
 obtain ⟨w,hww,rfl⟩:=List.mem_map.1 hw
 exact List.mem_map.2 ⟨w,List.mem_filter.2 ⟨hww,by simpa using hx⟩,rfl⟩
end Go.Bare

namespace Go.Bare
open Go.Lib
end Go.Bare
namespace Go.Proofs.YtnknmmbnhoanfaaGreatDoor
open Go.RowKit Go.Shelf Go.Cs


def noP:Bare.Par:=⟨[],noIt⟩
def noM:Bare.Mem:=⟨[],false,[],[]⟩
def pcs (p:Bare.Par):List Value:=[.string (tx p.key),.int .u8 p.bare.kind,.int .i64 p.bare.int,.string (tx p.bare.text),.bool p.bare.yes]
def ics (x:Bare.Itm) (pv:Value):List Value:=[.int .u8 x.bare.kind,.int .i64 x.bare.int,.string (tx x.bare.text),.bool x.bare.yes,pv]
def mcs (m:Bare.Mem) (iv pv:Value):List Value:=[.string (tx m.key),.bool m.inner,iv,pv]
def TagAt (W:World) (v:Value) (t:TypeId):Prop:=∀ g,v.ownBlock=some g→∃ cs fr,W.heap[g]? = some (.cells cs t fr)
theorem TagAt.mods {W W':World} {v:Value} {t:TypeId} (h:TagAt W v t) {S:Nat→Prop} (hN:Mods S W W') (hS:∀ g cs fr,S g→W.heap[g]? ≠ some (.cells cs t fr)):TagAt W' v t:=fun g hg=>by
 obtain ⟨cs,fr,hc⟩:=h g hg
 exact ⟨cs,fr,hN.heap hc fun hs=>hS g cs fr hs hc⟩
def RowR (W:World) (v:Value) (n sz:Nat) (f:Nat→List Value):Prop :=
 n ≤ 281474976710656∧∃ ao cap,v = .slice ao n cap∧∀ i,i < n→∃ b o,ao=some ⟨b,o,none⟩∧W.rangeAt b (o + i * sz) (f i)
theorem RowR.kept {W W':World} {v:Value} {n sz:Nat} {f:Nat→List Value} (h:RowR W v n sz f) {S:Nat→Prop} (hN:Mods S W W') (hS:0 < n→∀ g,v.ownBlock=some g→¬ S g):RowR W' v n sz f:=by
 obtain ⟨hl,ao,cap,rfl,hc⟩:=h
 refine ⟨hl,ao,cap,rfl,fun i hi=>?_⟩
 obtain ⟨b,o,rfl,h⟩:=hc i hi
 exact ⟨b,o,rfl,fun j v hv=>hN.cell (h j v hv) (hS (by omega) b rfl)⟩
theorem RowR.new {W W':World} {v:Value} {n sz:Nat} {f:Nat→List Value} (h:RowR W v n sz f) (hN:New W W'):RowR W' v n sz f:=h.kept hN fun _ _ _=>id
theorem RowR.nil (W:World) (ao:Option Addr) (cap sz:Nat) (f:Nat→List Value):RowR W (.slice ao 0 cap) 0 sz f:=⟨by omega,ao,cap,rfl,fun i hi=>by omega⟩
theorem RowR.congr {W:World} {v:Value} {n sz:Nat} {f g:Nat→List Value} (h:RowR W v n sz f) (he:∀ i,i < n→f i=g i):RowR W v n sz g:=by
 obtain ⟨hl,ao,cap,rfl,hc⟩:=h
 exact ⟨hl,ao,cap,rfl,fun i hi=>by rw [← he i hi];exact hc i hi⟩
theorem RowR.slice {W:World} {v:Value} {n sz:Nat} {f:Nat→List Value} (h:RowR W v n sz f):∃ ao cap,v = .slice ao n cap:=by
 obtain ⟨_,ao,cap,e,_⟩:=h
 exact ⟨ao,cap,e⟩
theorem RowR.at {W:World} {ao:Option Addr} {n cap sz m:Nat} {f:Nat→List Value} (h:RowR W (.slice ao n cap) m sz f):m=n∧n ≤ 281474976710656∧∀ k,k < n→∃ b o,ao=some ⟨b,o,none⟩∧W.rangeAt b (o + k * sz) (f k):=by
 obtain ⟨hl,ao',cap',e,h⟩:=h
 cases e
 exact ⟨rfl,hl,h⟩
def RdP (τ:Bool) (W:World) (v:Value) (L:List Bare.Par):Prop:=RowR W v L.length 5 (fun i=>pcs (L.getD i noP))∧(τ = true→TagAt W v 83)
def RdI (τ:Bool) (W:World) (v:Value) (L:List Bare.Itm):Prop :=
 ∃ pv:Nat→Value,RowR W v L.length 5 (fun i=>ics (L.getD i Bare.noI) (pv i))∧(τ = true→TagAt W v 85)∧∀ i,i < L.length→RdP τ W (pv i) (L.getD i Bare.noI).params
def RdD (τ:Bool) (W:World) (v:Value) (d:List Bare.Mem):Prop :=
 ∃ iv pv:Nat→Value,RowR W v d.length 4 (fun i=>mcs (d.getD i noM) (iv i) (pv i))∧(τ = true→TagAt W v 44)∧∀ i,i < d.length→RdI τ W (iv i) (d.getD i noM).items∧RdP τ W (pv i) (d.getD i noM).params
def RdX (τ:Bool) (W:World) (v:Value) (x:Bare.Itm):Prop:=∃ pv,v = .agg (ics x pv).toArray∧RdP τ W pv x.params
def RdM (τ:Bool) (W:World) (v:Value) (m:Bare.Mem):Prop:=∃ iv pv,v = .agg (mcs m iv pv).toArray∧RdI τ W iv m.items∧RdP τ W pv m.params
theorem tag_none {P:Prop}:(false=true→P):=fun h=>by cases h
theorem tag_new {τ:Bool} {W W':World} {v:Value} {t:TypeId} (h:τ = true→TagAt W v t) (hN:New W W'):τ = true→TagAt W' v t:=fun e=>(h e).mods hN fun _ _ _ h=>h.elim
theorem RdP.new {τ:Bool} {W W':World} {v:Value} {L:List Bare.Par} (h:RdP τ W v L) (hN:New W W'):RdP τ W' v L:=⟨h.1.new hN,tag_new h.2 hN⟩
theorem RdI.new {τ:Bool} {W W':World} {v:Value} {L:List Bare.Itm} (h:RdI τ W v L) (hN:New W W'):RdI τ W' v L:=by
 obtain ⟨pv,h1,h2,h3⟩:=h
 exact ⟨pv,h1.new hN,tag_new h2 hN,fun i hi=>(h3 i hi).new hN⟩
theorem RdD.new {τ:Bool} {W W':World} {v:Value} {d:List Bare.Mem} (h:RdD τ W v d) (hN:New W W'):RdD τ W' v d:=by
 obtain ⟨iv,pv,h1,h2,h3⟩:=h
 exact ⟨iv,pv,h1.new hN,tag_new h2 hN,fun i hi=>⟨(h3 i hi).1.new hN,(h3 i hi).2.new hN⟩⟩
theorem RdX.new {τ:Bool} {W W':World} {v:Value} {x:Bare.Itm} (h:RdX τ W v x) (hN:New W W'):RdX τ W' v x:=by
 obtain ⟨pv,e,h⟩:=h
 exact ⟨pv,e,h.new hN⟩
theorem RdM.new {τ:Bool} {W W':World} {v:Value} {m:Bare.Mem} (h:RdM τ W v m) (hN:New W W'):RdM τ W' v m:=by
 obtain ⟨iv,pv,e,h,h'⟩:=h
 exact ⟨iv,pv,e,h.new hN,h'.new hN⟩
def FarI (W:World) (S:Nat→Prop):Prop:=∀ g cs t fr,S g→W.heap[g]? = some (.cells cs t fr)→t ≠ 83∧t ≠ 85
def FarD (W:World) (S:Nat→Prop):Prop:=FarI W S∧∀ g cs t fr,S g→W.heap[g]? = some (.cells cs t fr)→t ≠ 44
theorem row_far {W W':World} {v:Value} {n sz:Nat} {f:Nat→List Value} {t:TypeId} (h:RowR W v n sz f) (ht:TagAt W v t) {S:Nat→Prop} (hN:Mods S W W') (hS:∀ g cs fr,S g→W.heap[g]? ≠ some (.cells cs t fr)):RowR W' v n sz f :=
 h.kept hN fun _ g hg hs=>by
  obtain ⟨cs,fr,hc⟩:=ht g hg
  exact hS g cs fr hs hc
theorem RdP.far {W W':World} {v:Value} {L:List Bare.Par} (h:RdP true W v L) {S:Nat→Prop} (hN:Mods S W W') (hS:FarI W S):RdP true W' v L:=by
 have hS':∀ g cs fr,S g→W.heap[g]? ≠ some (.cells cs 83 fr):=fun g cs fr hs hc=>(hS g cs _ fr hs hc).1 rfl
 exact ⟨row_far h.1 (h.2 rfl) hN hS',fun _=>(h.2 rfl).mods hN hS'⟩
theorem RdI.far {W W':World} {v:Value} {L:List Bare.Itm} (h:RdI true W v L) {S:Nat→Prop} (hN:Mods S W W') (hS:FarI W S):RdI true W' v L:=by
 have hS':∀ g cs fr,S g→W.heap[g]? ≠ some (.cells cs 85 fr):=fun g cs fr hs hc=>(hS g cs _ fr hs hc).2 rfl
 obtain ⟨pv,h1,h2,h3⟩:=h
 exact ⟨pv,row_far h1 (h2 rfl) hN hS',fun _=>(h2 rfl).mods hN hS',fun i hi=>(h3 i hi).far hN hS⟩
theorem RdM.far {W W':World} {v:Value} {m:Bare.Mem} (h:RdM true W v m) {S:Nat→Prop} (hN:Mods S W W') (hS:FarI W S):RdM true W' v m:=by
 obtain ⟨iv,pv,e,h,h'⟩:=h
 exact ⟨iv,pv,e,h.far hN hS,h'.far hN hS⟩
theorem RdD.far {W W':World} {v:Value} {d:List Bare.Mem} (h:RdD true W v d) {S:Nat→Prop} (hN:Mods S W W') (hS:FarD W S):RdD true W' v d:=by
 have hS':∀ g cs fr,S g→W.heap[g]? ≠ some (.cells cs 44 fr):=fun g cs fr hs hc=>hS.2 g cs _ fr hs hc rfl
 obtain ⟨iv,pv,h1,h2,h3⟩:=h
 exact ⟨iv,pv,row_far h1 (h2 rfl) hN hS',fun _=>(h2 rfl).mods hN hS',fun i hi=>⟨(h3 i hi).1.far hN hS.1,(h3 i hi).2.far hN hS.1⟩⟩
theorem RdP.any {τ:Bool} {W:World} {v:Value} {L:List Bare.Par} (h:RdP τ W v L):RdP false W v L:=⟨h.1,tag_none⟩
theorem RdI.any {τ:Bool} {W:World} {v:Value} {L:List Bare.Itm} (h:RdI τ W v L):RdI false W v L:=by
 obtain ⟨pv,h1,h2,h3⟩:=h
 exact ⟨pv,h1,tag_none,fun i hi=>(h3 i hi).any⟩
theorem RdD.any {τ:Bool} {W:World} {v:Value} {d:List Bare.Mem} (h:RdD τ W v d):RdD false W v d:=by
 obtain ⟨iv,pv,h1,h2,h3⟩:=h
 exact ⟨iv,pv,h1,tag_none,fun i hi=>⟨(h3 i hi).1.any,(h3 i hi).2.any⟩⟩
theorem RdP.slice {τ:Bool} {W:World} {v:Value} {L:List Bare.Par} (h:RdP τ W v L):∃ ao cap,v = .slice ao L.length cap:=h.1.slice
theorem RdI.slice {τ:Bool} {W:World} {v:Value} {L:List Bare.Itm} (h:RdI τ W v L):∃ ao cap,v = .slice ao L.length cap:=by
 obtain ⟨pv,h1,_⟩:=h
 exact h1.slice
theorem RdD.slice {τ:Bool} {W:World} {v:Value} {d:List Bare.Mem} (h:RdD τ W v d):∃ ao cap,v = .slice ao d.length cap:=by
 obtain ⟨iv,pv,h1,_⟩:=h
 exact h1.slice
theorem RdP.nil (τ:Bool) (W:World) (cap:Nat):RdP τ W (.slice none 0 cap) []:=⟨.nil _ _ _ _ _,fun _ g hg=>by cases hg⟩
theorem RdI.nil (τ:Bool) (W:World) (cap:Nat):RdI τ W (.slice none 0 cap) []:=⟨fun _=>undef,.nil _ _ _ _ _,(fun _ g hg=>by cases hg),fun i hi=>by simp at hi⟩
theorem RdD.nil (τ:Bool) (W:World) (cap:Nat):RdD τ W (.slice none 0 cap) []:=⟨fun _=>undef,fun _=>undef,.nil _ _ _ _ _,(fun _ g hg=>by cases hg),fun i hi=>by simp at hi⟩
end Go.Proofs.YtnknmmbnhoanfaaGreatDoor
namespace Go.Proofs.YtnknmmbnhoanfaaGreatDoor
open Go.RowKit Go.Shelf Go.Cs
attribute [local go_sem] Oper.semAt_some


theorem len4 {α:Type}:∀ {l:List α},l.length=4→∃ a b c d,l = [a,b,c,d]
 | [a,b,c,d],_=>⟨a,b,c,d,rfl⟩
theorem len5 {α:Type}:∀ {l:List α},l.length=5→∃ a b c d e,l = [a,b,c,d,e]
 | [a,b,c,d,e],_=>⟨a,b,c,d,e,rfl⟩
def OwP (base:Nat) (W:World) (v:Value) (n:Nat) (f:Nat→List Value):Prop:=(∀ i,(f i).length=5)∧(∀ i,i < n→∀ u ∈ f i,u.oneCell'=true)∧W.ownsRow base 83 5 v n (flatF n f)
theorem OwP.nil (base:Nat) (W:World) (f:Nat→List Value) (hf:∀ i,(f i).length=5):OwP base W (.slice none 0 0) 0 f:=⟨hf,(fun i hi=>by omega),World.ownsRow_nil _ _ _ _⟩
theorem OwP.mods {base:Nat} {W W':World} {v:Value} {n:Nat} {f:Nat→List Value} (h:OwP base W v n f) {S:Nat→Prop} (hN:Mods S W W') (hS:∀ g,v.ownBlock=some g→¬ S g):OwP base W' v n f:=⟨h.1,h.2.1,Mods.ownsRow hN h.2.2 hS⟩
theorem OwP.new {base:Nat} {W W':World} {v:Value} {n:Nat} {f:Nat→List Value} (h:OwP base W v n f) (hN:New W W'):OwP base W' v n f:=h.mods hN fun _ _ h=>h
theorem OwP.congr {base:Nat} {W:World} {v:Value} {n:Nat} {f g:Nat→List Value} (h:OwP base W v n f) (hg:∀ i,(g i).length=5) (he:∀ i,i < n→f i=g i):OwP base W v n g :=
 ⟨hg,(fun i hi=>by rw [← he i hi];exact h.2.1 i hi),by rw [← flatF_congr he];exact h.2.2⟩
theorem OwP.slice {base:Nat} {W:World} {v:Value} {n:Nat} {f:Nat→List Value} (h:OwP base W v n f):∃ ao cap,v = .slice ao n cap:=owns_slice h.2.2
theorem OwP.lt {base:Nat} {W:World} {v:Value} {n:Nat} {f:Nat→List Value} (h:OwP base W v n f) {g:Nat} (hg:v.ownBlock=some g):base ≤ g∧g < W.heap.size:=World.ownsRow.lt h.2.2 g hg
theorem OwP.row {base:Nat} {W:World} {v:Value} {n:Nat} {f:Nat→List Value} (h:OwP base W v n f) (hn:n ≤ 281474976710656):RowR W v n 5 f :=
 ⟨hn,rows_ofOwns (by decide) h.1 h.2.2⟩
theorem OwP.mono {base base':Nat} {W:World} {v:Value} {n:Nat} {f:Nat→List Value} (h:OwP base W v n f) (hb:base' ≤ base):OwP base' W v n f:=⟨h.1,h.2.1,owns_mono h.2.2 hb⟩
theorem OwP.frozen {base:Nat} {W:World} {v:Value} {n:Nat} {f:Nat→List Value} (h:OwP base W v n f) {g:Nat} (hg:v.ownBlock=some g) (o:Nat):W.frozen? ⟨g,o,none⟩=false:=by
 rcases h.2.2.2 with ⟨rfl,_⟩ | ⟨b,cap,cur,rfl,_,hb,_⟩
 ·cases hg
 ·cases hg;exact frozen_row hb
theorem OwP.put {base g cap:Nat} {W:World} {n:Nat} {f:Nat→List Value} (h:OwP base W (.slice (some ⟨g,0,none⟩) n cap) n f) {i:Nat} (hi:i < n) (c0 c1 c2 c3 c4:Value) (hone:∀ u ∈ [c0,c1,c2,c3,c4],u.oneCell'=true) :
  OwP base ((((((W.setCell ⟨g,i * 5 + 0,none⟩ c0).setCell ⟨g,i * 5 + 1,none⟩ c1).setCell ⟨g,i * 5 + 2,none⟩ c2).setCell ⟨g,i * 5 + 3,none⟩ c3).setCell ⟨g,i * 5 + 4,none⟩ c4)) (.slice (some ⟨g,0,none⟩) n cap) n (fun k=>if k=i then [c0,c1,c2,c3,c4] else f k):=by
 refine ⟨fun k=>?_,fun k hk=>?_,?_⟩
 ·dsimp only;split
  ·rfl
  ·exact h.1 k
 ·dsimp only;split
  ·exact hone
  ·exact h.2.1 k hk
 ·have s0:=own_set h.1 h.2.2 hi (show 0 < 5 by decide) c0
  have l1:=set_len (f:=_) (i:=i) (r:=0) (u:=c0) h.1
  have s1:=own_set l1 s0 hi (show 1 < 5 by decide) c1
  have l2:=set_len (f:=_) (i:=i) (r:=1) (u:=c1) l1
  have s2:=own_set l2 s1 hi (show 2 < 5 by decide) c2
  have l3:=set_len (f:=_) (i:=i) (r:=2) (u:=c2) l2
  have s3:=own_set l3 s2 hi (show 3 < 5 by decide) c3
  have l4:=set_len (f:=_) (i:=i) (r:=3) (u:=c3) l3
  have s4:=own_set l4 s3 hi (show 4 < 5 by decide) c4
  refine cast (congrArg _ (flatF_congr fun k hk=>?_)) s4
  by_cases e:k=i
  ·subst e
   simp only [if_true]
   obtain ⟨d0,d1,d2,d3,d4,hd⟩:=len5 (h.1 k)
   rw [hd]
   rfl
  ·simp only [if_neg e]
def OwX (base:Nat) (W:World) (v:Value) (n:Nat) (f:Nat→List Value):Prop:=(∀ i,(f i).length=5)∧(∀ i,i < n→∀ u ∈ f i,u.oneCell'=true)∧W.ownsRow base 85 5 v n (flatF n f)
theorem OwX.nil (base:Nat) (W:World) (f:Nat→List Value) (hf:∀ i,(f i).length=5):OwX base W (.slice none 0 0) 0 f:=⟨hf,(fun i hi=>by omega),World.ownsRow_nil _ _ _ _⟩
theorem OwX.mods {base:Nat} {W W':World} {v:Value} {n:Nat} {f:Nat→List Value} (h:OwX base W v n f) {S:Nat→Prop} (hN:Mods S W W') (hS:∀ g,v.ownBlock=some g→¬ S g):OwX base W' v n f:=⟨h.1,h.2.1,Mods.ownsRow hN h.2.2 hS⟩
theorem OwX.new {base:Nat} {W W':World} {v:Value} {n:Nat} {f:Nat→List Value} (h:OwX base W v n f) (hN:New W W'):OwX base W' v n f:=h.mods hN fun _ _ h=>h
theorem OwX.congr {base:Nat} {W:World} {v:Value} {n:Nat} {f g:Nat→List Value} (h:OwX base W v n f) (hg:∀ i,(g i).length=5) (he:∀ i,i < n→f i=g i):OwX base W v n g :=
 ⟨hg,(fun i hi=>by rw [← he i hi];exact h.2.1 i hi),by rw [← flatF_congr he];exact h.2.2⟩
theorem OwX.slice {base:Nat} {W:World} {v:Value} {n:Nat} {f:Nat→List Value} (h:OwX base W v n f):∃ ao cap,v = .slice ao n cap:=owns_slice h.2.2
theorem OwX.lt {base:Nat} {W:World} {v:Value} {n:Nat} {f:Nat→List Value} (h:OwX base W v n f) {g:Nat} (hg:v.ownBlock=some g):base ≤ g∧g < W.heap.size:=World.ownsRow.lt h.2.2 g hg
theorem OwX.row {base:Nat} {W:World} {v:Value} {n:Nat} {f:Nat→List Value} (h:OwX base W v n f) (hn:n ≤ 281474976710656):RowR W v n 5 f :=
 ⟨hn,rows_ofOwns (by decide) h.1 h.2.2⟩
theorem OwX.mono {base base':Nat} {W:World} {v:Value} {n:Nat} {f:Nat→List Value} (h:OwX base W v n f) (hb:base' ≤ base):OwX base' W v n f:=⟨h.1,h.2.1,owns_mono h.2.2 hb⟩
theorem OwX.frozen {base:Nat} {W:World} {v:Value} {n:Nat} {f:Nat→List Value} (h:OwX base W v n f) {g:Nat} (hg:v.ownBlock=some g) (o:Nat):W.frozen? ⟨g,o,none⟩=false:=by
 rcases h.2.2.2 with ⟨rfl,_⟩ | ⟨b,cap,cur,rfl,_,hb,_⟩
 ·cases hg
 ·cases hg;exact frozen_row hb
theorem OwX.put {base g cap:Nat} {W:World} {n:Nat} {f:Nat→List Value} (h:OwX base W (.slice (some ⟨g,0,none⟩) n cap) n f) {i:Nat} (hi:i < n) (c0 c1 c2 c3 c4:Value) (hone:∀ u ∈ [c0,c1,c2,c3,c4],u.oneCell'=true) :
  OwX base ((((((W.setCell ⟨g,i * 5 + 0,none⟩ c0).setCell ⟨g,i * 5 + 1,none⟩ c1).setCell ⟨g,i * 5 + 2,none⟩ c2).setCell ⟨g,i * 5 + 3,none⟩ c3).setCell ⟨g,i * 5 + 4,none⟩ c4)) (.slice (some ⟨g,0,none⟩) n cap) n (fun k=>if k=i then [c0,c1,c2,c3,c4] else f k):=by
 refine ⟨fun k=>?_,fun k hk=>?_,?_⟩
 ·dsimp only;split
  ·rfl
  ·exact h.1 k
 ·dsimp only;split
  ·exact hone
  ·exact h.2.1 k hk
 ·have s0:=own_set h.1 h.2.2 hi (show 0 < 5 by decide) c0
  have l1:=set_len (f:=_) (i:=i) (r:=0) (u:=c0) h.1
  have s1:=own_set l1 s0 hi (show 1 < 5 by decide) c1
  have l2:=set_len (f:=_) (i:=i) (r:=1) (u:=c1) l1
  have s2:=own_set l2 s1 hi (show 2 < 5 by decide) c2
  have l3:=set_len (f:=_) (i:=i) (r:=2) (u:=c2) l2
  have s3:=own_set l3 s2 hi (show 3 < 5 by decide) c3
  have l4:=set_len (f:=_) (i:=i) (r:=3) (u:=c3) l3
  have s4:=own_set l4 s3 hi (show 4 < 5 by decide) c4
  refine cast (congrArg _ (flatF_congr fun k hk=>?_)) s4
  by_cases e:k=i
  ·subst e
   simp only [if_true]
   obtain ⟨d0,d1,d2,d3,d4,hd⟩:=len5 (h.1 k)
   rw [hd]
   rfl
  ·simp only [if_neg e]
def OwM (base:Nat) (W:World) (v:Value) (n:Nat) (f:Nat→List Value):Prop:=(∀ i,(f i).length=4)∧(∀ i,i < n→∀ u ∈ f i,u.oneCell'=true)∧W.ownsRow base 44 4 v n (flatF n f)
theorem OwM.nil (base:Nat) (W:World) (f:Nat→List Value) (hf:∀ i,(f i).length=4):OwM base W (.slice none 0 0) 0 f:=⟨hf,(fun i hi=>by omega),World.ownsRow_nil _ _ _ _⟩
theorem OwM.mods {base:Nat} {W W':World} {v:Value} {n:Nat} {f:Nat→List Value} (h:OwM base W v n f) {S:Nat→Prop} (hN:Mods S W W') (hS:∀ g,v.ownBlock=some g→¬ S g):OwM base W' v n f:=⟨h.1,h.2.1,Mods.ownsRow hN h.2.2 hS⟩
theorem OwM.new {base:Nat} {W W':World} {v:Value} {n:Nat} {f:Nat→List Value} (h:OwM base W v n f) (hN:New W W'):OwM base W' v n f:=h.mods hN fun _ _ h=>h
theorem OwM.congr {base:Nat} {W:World} {v:Value} {n:Nat} {f g:Nat→List Value} (h:OwM base W v n f) (hg:∀ i,(g i).length=4) (he:∀ i,i < n→f i=g i):OwM base W v n g :=
 ⟨hg,(fun i hi=>by rw [← he i hi];exact h.2.1 i hi),by rw [← flatF_congr he];exact h.2.2⟩
theorem OwM.slice {base:Nat} {W:World} {v:Value} {n:Nat} {f:Nat→List Value} (h:OwM base W v n f):∃ ao cap,v = .slice ao n cap:=owns_slice h.2.2
theorem OwM.lt {base:Nat} {W:World} {v:Value} {n:Nat} {f:Nat→List Value} (h:OwM base W v n f) {g:Nat} (hg:v.ownBlock=some g):base ≤ g∧g < W.heap.size:=World.ownsRow.lt h.2.2 g hg
theorem OwM.row {base:Nat} {W:World} {v:Value} {n:Nat} {f:Nat→List Value} (h:OwM base W v n f) (hn:n ≤ 281474976710656):RowR W v n 4 f :=
 ⟨hn,rows_ofOwns (by decide) h.1 h.2.2⟩
theorem OwM.mono {base base':Nat} {W:World} {v:Value} {n:Nat} {f:Nat→List Value} (h:OwM base W v n f) (hb:base' ≤ base):OwM base' W v n f:=⟨h.1,h.2.1,owns_mono h.2.2 hb⟩
theorem OwM.frozen {base:Nat} {W:World} {v:Value} {n:Nat} {f:Nat→List Value} (h:OwM base W v n f) {g:Nat} (hg:v.ownBlock=some g) (o:Nat):W.frozen? ⟨g,o,none⟩=false:=by
 rcases h.2.2.2 with ⟨rfl,_⟩ | ⟨b,cap,cur,rfl,_,hb,_⟩
 ·cases hg
 ·cases hg;exact frozen_row hb
theorem OwM.put {base g cap:Nat} {W:World} {n:Nat} {f:Nat→List Value} (h:OwM base W (.slice (some ⟨g,0,none⟩) n cap) n f) {i:Nat} (hi:i < n) (c0 c1 c2 c3:Value) (hone:∀ u ∈ [c0,c1,c2,c3],u.oneCell'=true) :
  OwM base (((((W.setCell ⟨g,i * 4 + 0,none⟩ c0).setCell ⟨g,i * 4 + 1,none⟩ c1).setCell ⟨g,i * 4 + 2,none⟩ c2).setCell ⟨g,i * 4 + 3,none⟩ c3)) (.slice (some ⟨g,0,none⟩) n cap) n (fun k=>if k=i then [c0,c1,c2,c3] else f k):=by
 refine ⟨fun k=>?_,fun k hk=>?_,?_⟩
 ·dsimp only;split
  ·rfl
  ·exact h.1 k
 ·dsimp only;split
  ·exact hone
  ·exact h.2.1 k hk
 ·have s0:=own_set h.1 h.2.2 hi (show 0 < 4 by decide) c0
  have l1:=set_len (f:=_) (i:=i) (r:=0) (u:=c0) h.1
  have s1:=own_set l1 s0 hi (show 1 < 4 by decide) c1
  have l2:=set_len (f:=_) (i:=i) (r:=1) (u:=c1) l1
  have s2:=own_set l2 s1 hi (show 2 < 4 by decide) c2
  have l3:=set_len (f:=_) (i:=i) (r:=2) (u:=c2) l2
  have s3:=own_set l3 s2 hi (show 3 < 4 by decide) c3
  refine cast (congrArg _ (flatF_congr fun k hk=>?_)) s3
  by_cases e:k=i
  ·subst e
   simp only [if_true]
   obtain ⟨d0,d1,d2,d3,hd⟩:=len4 (h.1 k)
   rw [hd]
   rfl
  ·simp only [if_neg e]
end Go.Proofs.YtnknmmbnhoanfaaGreatDoor
namespace Go.Cs
open Go.RowKit
structure KeyLike (P:Program) (k:TypeId) {α:Type} (enc:α→Value):Prop where
 inj:∀ a b,enc a=enc b→a=b
 check:∀ (w:World) (em:Bool) (a:α),(Instr.checkKey em 10000 k (enc a)).run P w = .ok () w
 find:∀ (w:World) (a:α) (es:List MapEntry),(∀ e ∈ es,∃ b,e.key=enc b) →
  ((Instr.findKey k (enc a) es).run P w = .ok none w∧∀ e ∈ es,e.key ≠ enc a) ∨ ∃ j e,(Instr.findKey k (enc a) es).run P w = .ok (some (j,e.val)) w∧es[j]? = some e∧e.key=enc a
 stays:∀ (w:World) (a:α),(Instr.keyThatStays (enc a) (enc a)).run P w = .ok (enc a) w
variable {P:Program} {k:TypeId} {α:Type} {enc:α→Value}
theorem run_findAsking [DecidableEq α] (heq:∀ w a b,(Op.equal k (enc a) (enc b)).run P w = .ok (decide (a=b)) w) (w:World) (a:α):∀ (es:List MapEntry) (i:Nat),(∀ e ∈ es,∃ b,e.key=enc b) →
  ((Instr.findAsking k (enc a) es i).run P w = .ok none w∧∀ e ∈ es,∃ b,e.key=enc b∧b ≠ a) ∨ ∃ j e,(Instr.findAsking k (enc a) es i).run P w = .ok (some (i + j,e.val)) w∧es[j]? = some e∧e.key=enc a
 | [],i,_=>.inl ⟨by simp [Instr.findAsking],fun e he=>by cases he⟩
 | e::es,i,h=>by
  obtain ⟨b,hb⟩:=h e (by simp)
  by_cases hab:a=b
  ·refine .inr ⟨0,e,?_,rfl,by rw [hb,hab]⟩
   simp [Instr.findAsking,hb,heq,hab,Sem.run_bind]
  ·have hd:decide (a=b)=false:=by simpa using hab
   have step:(Instr.findAsking k (enc a) (e::es) i).run P w=(Instr.findAsking k (enc a) es (i + 1)).run P w:=by
    simp [Instr.findAsking,hb,heq,hd,Sem.run_bind]
   rcases run_findAsking heq w a es (i + 1) (fun e he=>h e (by simp [he])) with ⟨h1,h2⟩ | ⟨j,e',h1,h2,h3⟩
   ·refine .inl ⟨by rw [step,h1],fun e' he=>?_⟩
    rcases List.mem_cons.1 he with rfl | he
    ·exact ⟨b,hb,fun e=>hab e.symm⟩
    ·exact h2 e' he
   ·exact .inr ⟨j + 1,e',by rw [step,h1];congr 3;omega,by simpa using h2,h3⟩
theorem KeyLike.asked [DecidableEq α] {d:TypeDesc} (hd:P.underlying k=some d) (hno:∀ a es i,Instr.findNow d (enc a) es i=if es = [] then some none else none) (hi:∀ a b,enc a=enc b→a=b)
  (hc:∀ (w:World) (em:Bool) (a:α),(Instr.checkKey em 10000 k (enc a)).run P w = .ok () w) (heq:∀ w a b,(Op.equal k (enc a) (enc b)).run P w = .ok (decide (a=b)) w) (hs:∀ a,Instr.sameBits 10000 (enc a) (enc a)=true):KeyLike P k enc where
 inj:=hi
 check:=hc
 find w a es h:=by
  cases es with
  | nil=>exact .inl ⟨by simp [Instr.findKey,run_underlying hd,Result.andThen,hno],fun e he=>by cases he⟩
  | cons e es =>
   have step:(Instr.findKey k (enc a) (e::es)).run P w=(Instr.findAsking k (enc a) (e::es)).run P w:=by
    simp [Instr.findKey,run_underlying hd,Result.andThen,hno]
   rw [step]
   rcases run_findAsking heq w a (e::es) 0 h with ⟨h1,h2⟩ | ⟨j,e',h1,h2,h3⟩
   ·refine .inl ⟨h1,fun e' he hk=>?_⟩
    obtain ⟨b,hb,hne⟩:=h2 e' he
    exact hne (hi _ _ (hb.symm.trans hk))
   ·exact .inr ⟨j,e',by rw [h1,Nat.zero_add],h2,h3⟩
 stays w a:=by simp [Instr.keyThatStays,hs]
def MapFn (enc:α→Value) (W:World) (B n:Nat) (f:α→Option Value):Prop :=
 ∃ es c,W.heap[B]? = some (.map es c)∧es.size ≤ n∧(∀ e ∈ es.toList,∃ a,e.key=enc a∧f a=some e.val)∧∀ a v,f a=some v→∃ e ∈ es.toList,e.key=enc a
theorem MapFn.keep {W W':World} {B n:Nat} {f:α→Option Value} (h:MapFn enc W B n f) (hk:∀ o,W.heap[B]? = some o→W'.heap[B]? = some o):MapFn enc W' B n f:=by
 obtain ⟨es,c,h1,r⟩:=h
 exact ⟨es,c,hk _ h1,r⟩
theorem MapFn.new {W W':World} {B n:Nat} {f:α→Option Value} (h:MapFn enc W B n f) (hN:New W W'):MapFn enc W' B n f:=h.keep fun _ ho=>hN.heap ho id
theorem MapFn.congr {W:World} {B n:Nat} {f g:α→Option Value} (h:MapFn enc W B n f) (hf:∀ a,f a=g a):MapFn enc W B n g:=by
 have e:f=g:=funext hf
 rwa [← e]
theorem MapFn.find (K:KeyLike P k enc) {W:World} {B n:Nat} {f:α→Option Value} (h:MapFn enc W B n f) (a:α) :
  ∃ es c,W.heap[B]? = some (.map es c)∧es.size ≤ n∧∃ r,(Instr.findKey k (enc a) es.toList).run P W = .ok r W∧r.map (·.2)=f a:=by
 obtain ⟨es,c,h1,hn,h2,h3⟩:=h
 refine ⟨es,c,h1,hn,?_⟩
 rcases K.find W a es.toList (fun e he=>by obtain ⟨b,hb,_⟩:=h2 e he;exact ⟨b,hb⟩) with ⟨hf,hne⟩ | ⟨j,e,hf,hj,hk⟩
 ·refine ⟨none,hf,?_⟩
  cases hfa:f a with
  | none=>rfl
  | some v =>
   obtain ⟨e,he,hk⟩:=h3 a v hfa
   exact absurd hk (hne e he)
 ·refine ⟨_,hf,?_⟩
  obtain ⟨b,hb,hv⟩:=h2 e (List.mem_of_getElem? hj)
  rw [K.inj _ _ (hk.symm.trans hb),hv]
  rfl
theorem MapFn.look (K:KeyLike P k enc) {t e:TypeId} (ht:P.underlying t=some (.map k e)) {W:World} {z:Value} (hz:(zeroValue e).run P W = .ok z W) {B n:Nat} {f:α→Option Value} (h:MapFn enc W B n f) (a:α) (ok:Bool) :
  (Instr.lookup t (.map (some B)) (enc a) ok).run P W = .ok (if ok then .tuple #[(f a).getD z,.bool (f a).isSome] else (f a).getD z) W:=by
 obtain ⟨es,c,h1,_,r,hf,hr⟩:=h.find K a
 have hg:=MapKept.run_getObj_map (P:=P) h1
 simp only [Instr.lookup,Sem.run_bind,run_underlying ht W,Result.andThen_ok,hg,Sem.run_pure,K.check,hf]
 rw [← hr]
 cases r with
 | none=>cases ok <;> simp [hz]
 | some p=>cases ok <;> simp
theorem MapFn.put [DecidableEq α] (K:KeyLike P k enc) {t e:TypeId} (ht:P.underlying t=some (.map k e)) {W:World} {B n:Nat} {f:α→Option Value} (h:MapFn enc W B n f) (a:α) (v:Value) (hfa:f a=none) :
  ∃ o,(Instr.mapUpdate t (.map (some B)) (enc a) v).run P W = .ok () (W.putObj B o)∧o.isCells=false∧MapFn enc (W.putObj B o) B (n + 1) (fun b=>if b=a then some v else f b):=by
 obtain ⟨es,c,h1,hn,h2,h3⟩:=h
 have hg:=MapKept.run_getObj_map (P:=P) h1
 have hs:=fun o=>MapKept.run_setObj_map (P:=P) o h1
 have hlt:=(Array.getElem?_eq_some_iff.1 h1).1
 rcases K.find W a es.toList (fun e he=>by obtain ⟨b,hb,_⟩:=h2 e he;exact ⟨b,hb⟩) with ⟨hf,hne⟩ | ⟨j,e',hf,hj,hk⟩
 ·refine ⟨.map (es.push { key:=enc a,val:=v,born:=c }) (c + 1),?_,rfl,es.push { key:=enc a,val:=v,born:=c },c + 1,World.putObj_heap_same hlt,by simp;omega,?_,?_⟩
  ·simp only [Instr.mapUpdate,Sem.run_bind,run_underlying ht W,Result.andThen_ok,hg,K.check,hf,hs]
   rfl
  ·intro x hx
   rw [Array.toList_push,List.mem_append] at hx
   rcases hx with hx | hx
   ·obtain ⟨b,hb,hv⟩:=h2 x hx
    exact ⟨b,hb,(if_neg (fun e=>hne x hx (by rw [hb,e]))).trans hv⟩
   ·rw [List.mem_singleton] at hx
    subst hx
    exact ⟨a,rfl,by simp⟩
  ·intro b u hb
   rw [Array.toList_push]
   by_cases e:b=a
   ·exact ⟨{ key:=enc a,val:=v,born:=c },by simp,by rw [e]⟩
   ·have hb:(if b=a then some v else f b)=some u:=hb
    rw [if_neg e] at hb
    obtain ⟨x,hx,hk⟩:=h3 b u hb
    exact ⟨x,by simp [hx],hk⟩
 ·obtain ⟨b,hb,hv⟩:=h2 e' (List.mem_of_getElem? hj)
  rw [← K.inj _ _ (hk.symm.trans hb),hfa] at hv
  cases hv
end Go.Cs
namespace Go.Proofs.YtnknmmbnhoanfaaGreatDoor
open Go.RowKit Go.Shelf Go.Cs
attribute [local go_sem] Oper.semAt_some


def ItI (b:Bare.It):Prop:=-9223372036854775808 ≤ b.int∧b.int ≤ 9223372036854775807
end Go.Proofs.YtnknmmbnhoanfaaGreatDoor
namespace Go.Proofs.YtnknmmbnhoanfaaGreatDoor
open Go.RowKit Go.Shelf Go.Cs Go.ChangeShapes Go.WideShapes Go.ChangeAt Go.WideMaps Go.WideElems Go.ChangeMaps

section
variable {H:Type} {enc:TypeId × Value→H} {w:World} {base:Nat} {spare:Nat→Bool} {held:Bool} {fuel:Nat}
theorem len_four {α:Type}:∀ {l:List α},l.length=4→∃ a b c d,l = [a,b,c,d]
 | [a,b,c,d],_=>⟨a,b,c,d,rfl⟩
theorem byte_of_wf {n:Int} (h:(Lit.int .u8 n).wf=true):0 ≤ n∧n ≤ 255:=by
 simp [Lit.wf] at h
 exact ⟨Int.le_trans (by decide) h.1,Int.le_trans h.2 (by decide)⟩
theorem i64_of_wf {n:Int} (h:(Lit.int .i64 n).wf=true):-9223372036854775808 ≤ n∧n ≤ 9223372036854775807:=by
 simp [Lit.wf] at h
 exact h
def BaIn (b:Bare.It):Prop:=(0 ≤ b.kind∧b.kind ≤ 255)∧ItI b∧b.text.length ≤ 9223372036854775807
theorem open_bare {cs:List Value} {x:DataW H × List MemPlace} (h:DataW.trod enc Tryz.prog w base spare held fuel 23 cs=some x) :
  ∃ b:Bare.It,cs=bcs b∧BaIn b∧((∀ n ∈ x.1.weights Tryz.prog 23,n ≤ reachBytes)→b.text.length ≤ reachBytes):=by
 obtain ⟨xs,n,rfl,rfl,hl,hn,hf⟩:=DataW.trod_struct Tryz.underlying23 h
 have cB:Tryz.prog.cellsOf 23=4:=by kernel_rfl
 have c3:Tryz.prog.cellsOf 3=1:=by kernel_rfl
 have c4:Tryz.prog.cellsOf 4=1:=by kernel_rfl
 have c5:Tryz.prog.cellsOf 5=1:=by kernel_rfl
 have c9:Tryz.prog.cellsOf 9=1:=by kernel_rfl
 rw [cB] at hl
 have hn:xs.length=4:=hn
 obtain ⟨a0,a1,a2,a3,rfl⟩:=len_four hl
 obtain ⟨x0,x1,x2,x3,rfl⟩:=len_four hn
 have g0:DataW.trod enc Tryz.prog w base spare held n 5 [a0]=some x0:=by
  have:(([a0,a1,a2,a3]:List Value).drop 0).take (Tryz.prog.cellsOf 5) = [a0]:=by rw [c5];rfl
  rw [← this];exact hf 0 _ rfl
 have g1:DataW.trod enc Tryz.prog w base spare held n 3 [a1]=some x1:=by
  have:(([a0,a1,a2,a3]:List Value).drop 1).take (Tryz.prog.cellsOf 3) = [a1]:=by rw [c3];rfl
  rw [← this];exact hf 1 _ rfl
 have g2:DataW.trod enc Tryz.prog w base spare held n 9 [a2]=some x2:=by
  have:(([a0,a1,a2,a3]:List Value).drop 2).take (Tryz.prog.cellsOf 9) = [a2]:=by rw [c9];rfl
  rw [← this];exact hf 2 _ rfl
 have g3:DataW.trod enc Tryz.prog w base spare held n 4 [a3]=some x3:=by
  have:(([a0,a1,a2,a3]:List Value).drop 3).take (Tryz.prog.cellsOf 4) = [a3]:=by rw [c4];rfl
  rw [← this];exact hf 3 _ rfl
 obtain ⟨n0,e0,y0,w0⟩:=DataW.trod_int Tryz.underlying5 g0
 obtain ⟨n1,e1,y1,w1⟩:=DataW.trod_int Tryz.underlying3 g1
 obtain ⟨s2,e2,y2,hs2⟩:=DataW.trod_string Tryz.underlying9 g2
 obtain ⟨y3,e3,y3'⟩:=DataW.trod_bool Tryz.underlying4 g3
 cases e0
 cases e1
 cases e2
 cases e3
 have hbl:(bl s2).length=s2.size:=bl_len s2
 refine ⟨⟨n0,n1,bl s2,y3⟩,by unfold bcs;rw [tx_bl],⟨byte_of_wf w0,i64_of_wf w1,?_⟩,fun hw=>?_⟩
 ·unfold maxLen at hs2
  show (bl s2).length ≤ _
  omega
 ·subst y2
  have:=hw s2.data.toList.length (by
   simp only [DataW.weights,Tryz.underlying23]
   simp [DataW.weightsEach,DataW.weights,y0,y1,y3'])
  show (bl s2).length ≤ _
  rw [hbl]
  simpa using this
end
end Go.Proofs.YtnknmmbnhoanfaaGreatDoor
namespace Go.Proofs.YtnknmmbnhoanfaaGreatDoor
open Go.RowKit Go.Shelf Go.Cs
attribute [local go_sem] Oper.semAt_some


theorem wp_scope_loop {P:Program} {a:Act} {w:World} {Q:Exit→Act→World→Prop} {c rest:Code} (l:Nat) (J:Act→World→Prop) (μ:Act→World→Nat) (hf:findLabel c l=some rest)
  (pass:∀ a w,J a w→rest.wp P (Exit.jump l (fun a' w'=>J a' w'∧μ a' w' < μ a w) Q) a w)
  (first:(∀ a w,J a w→rest.wp P (Exit.jump l J Q) a w)→c.wp P (Exit.jump l J Q) a w):(Code.scope c).wp P Q a w :=
 wp_scope_jumps l J μ hf (first fun a w h=>wp_mono (pass a w h) fun e a' w' hq=>by
  cases e with
  | goto l'=>exact ⟨hq.1,hq.2.1⟩
  | _=>exact hq) pass
theorem quoted_at (acc:Bare.Bs) (s:ByteArray) (k:Nat) (h:k < s.size):Bare.quoted acc ((bl s).drop k)=(if Bare.plnB (gb s k)=false then none
  else if gb s k=34 then some (⟨3,0,acc,false⟩,(bl s).drop (k + 1))
  else if gb s k=92 then (if k + 1 < s.size∧(gb s (k + 1)=34 ∨ gb s (k + 1)=92) then Bare.quoted (acc ++ [gb s (k + 1)]) ((bl s).drop (k + 2)) else none)
  else Bare.quoted (acc ++ [gb s k]) ((bl s).drop (k + 1))):=by
 have hdr:(bl s).drop k=gb s k::(bl s).drop (k + 1):=by
  have:=gb_get s k h
  obtain ⟨h1,h2⟩:=List.getElem?_eq_some_iff.1 this
  rw [List.drop_eq_getElem_cons h1,h2]
 rw [hdr,Bare.quoted_cons]
 by_cases hp:Bare.plnB (gb s k)=false
 ·rw [if_pos hp,if_pos hp]
 rw [if_neg hp,if_neg hp]
 by_cases h34:gb s k=34
 ·rw [if_pos h34,if_pos h34]
 rw [if_neg h34,if_neg h34]
 by_cases h92:gb s k=92
 ·rw [if_pos h92,if_pos h92]
  by_cases hk:k + 1 < s.size
  ·have hdr2:(bl s).drop (k + 1)=gb s (k + 1)::(bl s).drop (k + 2):=by
    have:=gb_get s (k + 1) hk
    obtain ⟨h1,h2⟩:=List.getElem?_eq_some_iff.1 this
    rw [List.drop_eq_getElem_cons h1,h2]
   rw [hdr2]
   simp only
   by_cases hd:gb s (k + 1)=34 ∨ gb s (k + 1)=92
   ·rw [if_pos hd,if_pos ⟨hk,hd⟩]
   ·rw [if_neg hd,if_neg (fun h=>hd h.2)]
  ·have hdr2:(bl s).drop (k + 1) = []:=List.drop_eq_nil_of_le (by rw [bl_len];omega)
   rw [hdr2,if_neg (fun h=>hk h.1)]
 ·rw [if_neg h92,if_neg h92]
theorem quoted_end (acc:Bare.Bs) (s:ByteArray) (k:Nat) (h:s.size ≤ k):Bare.quoted acc ((bl s).drop k)=none:=by
 rw [List.drop_eq_nil_of_le (by rw [bl_len];exact h)]
 rfl
theorem byte_test (c:UInt8) (d:Nat) (hd:d < 256) (n:Nat) (hn:c.toNat=n):((n:Int) == (d:Int))=decide (c=UInt8.ofNat d)∧((n:Int) != (d:Int)) = !decide (c=UInt8.ofNat d):=by
 have e:((n:Int) == (d:Int))=decide (c=UInt8.ofNat d):=by
  rw [Bool.eq_iff_iff,beq_iff_eq,decide_eq_true_eq,← UInt8.toNat_inj,hn,UInt8.toNat_ofNat']
  omega
 exact ⟨e,by rw [← e];rfl⟩
theorem lit62' (t:Array Value) (h:t.size=62):∃ u:Nat→Value,t=(u 0::u 1::u 2::u 3::u 4::u 5::u 6::u 7::u 8::u 9::u 10::u 11::u 12::u 13::u 14::u 15::u 16::u 17::u 18::u 19::u 20::u 21::u 22::u 23::u 24::u 25::u 26::u 27::u 28::u 29::u 30::u 31::u 32::u 33::u 34::u 35::u 36::u 37::u 38::u 39::u 40::u 41::u 42::u 43::u 44::u 45::u 46::u 47::u 48::u 49::u 50::u 51::u 52::u 53::u 54::u 55::u 56::u 57::u 58::u 59::u 60::u 61::([]:List Value)).toArray:=⟨fun i=>t.getD i undef,range_lit t 62 h⟩
def scopeOf:Code→Option Code
 | .scope c=>some c
 | .seq a b=>(scopeOf a).orElse fun _=>scopeOf b
 | .block _ c=>scopeOf c
 | _=>none
def behindSkip:Code→Code
 | .seq .skip x=>x
 | x=>x
noncomputable def quotedX:Code:=((((Tryz.f54.body.bind scopeOf).bind fun c=>findLabel c 0).map behindSkip).getD .skip)
def QJ (s:ByteArray) (w:World) (B:Nat) (r:Option (Bare.It × Bare.Bs)) (a:Act) (W:World):Prop:=∃ (k:Nat) (acc:Bare.Bs) (v:Value),(a.tmps.size=62∧a.defers = []∧a.tmps.getD 0 undef = .string s∧a.tmps.getD 2 undef = .pointer (some ⟨B,0,none⟩)∧a.tmps.getD 5 undef=v∧a.tmps.getD 6 undef = .int .i64 k)∧k ≤ s.size∧acc.length ≤ k∧W.ownsRow (B + 1) 5 1 v acc.length (u8s acc)∧W.heap[B]? = some (.cells #[.int .u8 0,.int .i64 0,.string ⟨#[]⟩,.bool false] 23 (0,0))∧New w W∧Hid (Bare.quoted acc ((bl s).drop k)=r)
def Qμ (s:ByteArray) (a:Act) (_:World):Nat:=s.size - (intOf (a.tmps.getD 6 undef)).toNat
theorem quoted_X (s:ByteArray) (w:World) (B:Nat) (r:Option (Bare.It × Bare.Bs)) (hs:s.size ≤ 1000000) (hBw:w.heap.size ≤ B) (a0:Act) (W:World) (hJ:QJ s w B r a0 W) :
  quotedX.wp Tryz.prog (Exit.jump 0 (fun a' w'=>QJ s w B r a' w'∧Qμ s a' w' < Qμ s a0 W) (bodyPost Tryz.prog Tryz.f54 fun e w'=>ReadP r w e w')) a0 W:=by
 conv=>arg 2;whnf
 obtain ⟨i0,hi,hz0,hz1,hz2⟩:=info_parts infoB'
 obtain ⟨z,dfs⟩:=a0
 obtain ⟨k,acc,v,⟨hsz,hd,hq0,hq2,hq5,hq6⟩,hk,hacc,hown,hr,hN,HR⟩:=hJ
 simp only at hsz hd hq0 hq2 hq5 hq6
 subst hd
 obtain ⟨u,rfl⟩:=lit62' z hsz
 have hp0:u 0 = _:=hq0
 have hp2:u 2 = _:=hq2
 have hp5:u 5 = _:=hq5
 have hp6:u 6 = _:=hq6
 rw [hp0,hp2,hp5,hp6]
 clear hp0 hp2 hp5 hp6 hq0 hq2 hq5 hq6 hsz
 skip
 obtain ⟨⟨c0,c1,c2,c3⟩,f0,f1,f2,f3⟩:=row_facts hr
 have hBl:B < W.heap.size:=(Array.getElem?_eq_some_iff.1 hr).1
 by_cases hlt:k < s.size
 ·have hge:decide ((s.size:Int) ≤ (k:Int))=false:=decide_eq_false (by omega)
  have hix:=run_idx s k hlt
  have HP:=Lib.hid (fun W=>(plain_p (gb s k) W).mono fun e w' h=>show e = _∧W=w' from ⟨h.1,h.2.symm⟩)
  have hqa:=quoted_at acc s k hlt
  rw [HR.out] at hqa
  obtain ⟨n,hn⟩:∃ n,(gb s k).toNat=n:=⟨_,rfl⟩
  obtain ⟨t34,t34n⟩:=byte_test (gb s k) 34 (by decide) n hn
  obtain ⟨t92,t92n⟩:=byte_test (gb s k) 92 (by decide) n hn
  rw [show UInt8.ofNat 34=34 from rfl] at t34
  rw [show UInt8.ofNat 92=92 from rfl] at t92
  have t34:((n:Int) == 34)=decide (gb s k=34):=t34
  have t92:((n:Int) == 92)=decide (gb s k=92):=t92
  have hnc:(gb s k).toNat=n:=hn
  rw [hn] at HP hix
  clear t34n t92n HR hn
  cases hp:Bare.plnB (gb s k) with
  | false =>
   rw [hp,if_pos rfl] at hqa
   rw [hp] at HP
   subst hqa
   unfold ReadP bv bcs noIt
   simp only
   clear t34 t92 hp
   go_wp2_with (go_at_call 110;refine (HP.out _).mono ?_;rintro e w' ⟨rfl,rfl⟩)
   simp only [Exit.jump]
   obtain ⟨hN2,hr2⟩:=set4 hN hBw hr (.int .u8 0) (.int .i64 0) (.string ⟨#[]⟩) (.bool false)
   obtain ⟨W2,hW2⟩:∃ W2,((((W.setCell ⟨B,0,none⟩ (.int .u8 0)).setCell ⟨B,1,none⟩ (.int .i64 0)).setCell ⟨B,2,none⟩ (.string ⟨#[]⟩)).setCell ⟨B,3,none⟩ (.bool false))=W2:=⟨_,rfl⟩
   rw [hW2] at hN2 hr2 ⊢
   exact read_end (by kernel_rfl) rfl rfl rfl hr2 ⟨rfl,hN2⟩
  | true =>
   rw [hp,if_neg (by decide)] at hqa
   rw [hp] at HP
   have hkb:(k:Int) ≤ 1000000:=by omega
   by_cases h34:gb s k=34
   ·rw [if_pos h34] at hqa
    rw [decide_eq_true h34] at t34
    have hcv:=conv_own (w:=W.drew) hown
    have hsl:∀ W,(Instr.slice 9 (.string s) (some (.int .i64 ((k:Int) + 1))) none none).run Tryz.prog W = .ok (.string (tx ((bl s).drop (k + 1)))) W:=fun W=>run_sl_l s (k + 1) (by omega) W
    subst hqa
    unfold ReadP bv bcs
    simp only
    obtain ⟨x,hx⟩:∃ x,tx acc=x:=⟨_,rfl⟩
    obtain ⟨y,hy⟩:∃ y,tx ((bl s).drop (k + 1))=y:=⟨_,rfl⟩
    rw [hx] at hcv ⊢
    rw [hy] at hsl ⊢
    clear hx hy hp h34 t92 hacc hk
    go_upto_region 7 with (go_at_call 110;refine (HP.out _).mono ?_;rintro e w' ⟨rfl,rfl⟩)
    go_region
    obtain ⟨hN2,hr2⟩:=set4 hN hBw hr (.int .u8 3) (.int .i64 0) (.string x) (.bool false)
    have hN2:=hN2.drew
    have hr2:((((W.setCell ⟨B,0,none⟩ (.int .u8 3)).setCell ⟨B,1,none⟩ (.int .i64 0)).setCell ⟨B,2,none⟩ (.string x)).setCell ⟨B,3,none⟩ (.bool false)).drew.heap[B]? = some (.cells #[(.int .u8 3),(.int .i64 0),(.string x),(.bool false)] 23 (0,0)):=hr2
    obtain ⟨W2,hW2⟩:∃ W2,((((W.setCell ⟨B,0,none⟩ (.int .u8 3)).setCell ⟨B,1,none⟩ (.int .i64 0)).setCell ⟨B,2,none⟩ (.string x)).setCell ⟨B,3,none⟩ (.bool false)).drew=W2:=⟨_,rfl⟩
    rw [hW2] at hN2 hr2 ⊢
    go_wp2_with fail
    simp only [Exit.jump]
    exact read_end (by kernel_rfl) rfl rfl rfl hr2 ⟨rfl,hN2⟩
   rw [if_neg h34] at hqa
   rw [decide_eq_false h34] at t34
   by_cases h92:gb s k=92
   ·rw [if_pos h92] at hqa
    rw [decide_eq_true h92] at t92
    by_cases hk1:k + 1 < s.size
    ·have hge1:decide ((s.size:Int) ≤ (k:Int) + 1)=false:=decide_eq_false (by omega)
     have hix2:∀ W,(Instr.index 9 (.string s) (.int .i64 ((k:Int) + 1))).run Tryz.prog W = .ok (.int .u8 ((gb s (k + 1)).toNat:Nat)) W:=fun W=>run_idx s (k + 1) hk1 W
     obtain ⟨m,hm⟩:∃ m,(gb s (k + 1)).toNat=m:=⟨_,rfl⟩
     obtain ⟨-,m34⟩:=byte_test (gb s (k + 1)) 34 (by decide) m hm
     obtain ⟨-,m92⟩:=byte_test (gb s (k + 1)) 92 (by decide) m hm
     rw [show UInt8.ofNat 34=34 from rfl] at m34
     rw [show UInt8.ofNat 92=92 from rfl] at m92
     have m34:((m:Int) != 34) = !decide (gb s (k + 1)=34):=m34
     have m92:((m:Int) != 92) = !decide (gb s (k + 1)=92):=m92
     have hmc:(gb s (k + 1)).toNat=m:=hm
     rw [hm] at hix2
     by_cases hok:gb s (k + 1)=34 ∨ gb s (k + 1)=92
     ·rw [if_pos ⟨hk1,hok⟩] at hqa
      obtain ⟨a,ha⟩:∃ a,decide (gb s (k + 1)=34)=a:=⟨_,rfl⟩
      obtain ⟨b,hb⟩:∃ b,decide (gb s (k + 1)=92)=b:=⟨_,rfl⟩
      have hab:a=true ∨ (a=false∧b=true):=by
       rw [← ha,← hb]
       by_cases h:gb s (k + 1)=34
       ·exact .inl (decide_eq_true h)
       ·exact .inr ⟨decide_eq_false h,decide_eq_true (hok.resolve_left h)⟩
      rw [ha] at m34
      rw [hb] at m92
      clear ha hb hok hm hp h34 h92
      rcases hab with rfl | ⟨rfl,rfl⟩
      ·have m34:((m:Int) != 34)=false:=m34
       clear m92
       go_wp2_with (first | (go_at_call 110;refine (HP.out _).mono ?_;rintro e w' ⟨rfl,rfl⟩) | (at_builtin;refine wpList_append_own _ rfl _ _ 62 rfl (B + 1) 5 i0 _ 1 1 Tryz.underlying62 hi hz0 hz1 hz2 rfl (by decide) _ _ _ rfl (hown.alloc _) ⟨W.heap.size,0,none⟩ 1 1 [.int .u8 (m:Nat)] rfl rfl ?c1 ?c2 ?c3 ?c4 ?c5 ?_))
       case c1=>exact cell_one_new _ _ _
       case c2=>simp [Value.oneCell']
       case c3=>unfold maxLen;omega
       case c4=>have:=hown.1;simp;omega
       case c5=>simp;omega
       intro v' W2 hown' hgrow _
       have hk2:New W (W.alloc (.cells #[.int .u8 (m:Nat)] 5)):=(Mods.refl _ _).alloc _
       have hN3:New w W2:=(hN.alloc _).grown hgrow (fun g hg=>.inl (by have:=(hown.lt g hg).1;omega))
       have hr3:W2.heap[B]? = some (.cells #[.int .u8 0,.int .i64 0,.string ⟨#[]⟩,.bool false] 23 (0,0)):=by
        have h2:=hk2.heap hr id
        have h3:Mods (fun b=>B + 1 ≤ b) (W.alloc (.cells #[.int .u8 (m:Nat)] 5)) W2:=(Mods.refl _ _).grown hgrow (fun g hg=>.inr ⟨(hown.lt g hg).1,own_cells (hown.alloc _) hg⟩)
        exact h3.heap h2 (by omega)
       have hown3:W2.ownsRow (B + 1) 5 1 v' (acc ++ [gb s (k + 1)]).length (u8s (acc ++ [gb s (k + 1)])):=by
        have:u8s (acc ++ [gb s (k + 1)])=u8s acc ++ [.int .u8 (m:Nat)]:=by rw [u8s_snoc,hmc]
        rw [this,List.length_append]
        exact hown'
       clear hown hown' hgrow c0 c1 c2 c3 f0 f1 f2 f3 hk2
       go_wp2_with fail
       exact wp_goto (And.intro rfl ⟨⟨k + 2,acc ++ [gb s (k + 1)],v',⟨rfl,rfl,rfl,rfl,rfl,rfl⟩,by omega,by rw [List.length_append];show acc.length + 1 ≤ _;omega,hown3,hr3,hN3,Lib.hid hqa.symm⟩,by simp [Qμ,intOf];omega⟩)
      ·have m34:((m:Int) != 34)=true:=m34
       have m92:((m:Int) != 92)=false:=m92
       go_wp2_with (first | (go_at_call 110;refine (HP.out _).mono ?_;rintro e w' ⟨rfl,rfl⟩) | (at_builtin;refine wpList_append_own _ rfl _ _ 62 rfl (B + 1) 5 i0 _ 1 1 Tryz.underlying62 hi hz0 hz1 hz2 rfl (by decide) _ _ _ rfl (hown.alloc _) ⟨W.heap.size,0,none⟩ 1 1 [.int .u8 (m:Nat)] rfl rfl ?c1 ?c2 ?c3 ?c4 ?c5 ?_))
       case c1=>exact cell_one_new _ _ _
       case c2=>simp [Value.oneCell']
       case c3=>unfold maxLen;omega
       case c4=>have:=hown.1;simp;omega
       case c5=>simp;omega
       intro v' W2 hown' hgrow _
       have hk2:New W (W.alloc (.cells #[.int .u8 (m:Nat)] 5)):=(Mods.refl _ _).alloc _
       have hN3:New w W2:=(hN.alloc _).grown hgrow (fun g hg=>.inl (by have:=(hown.lt g hg).1;omega))
       have hr3:W2.heap[B]? = some (.cells #[.int .u8 0,.int .i64 0,.string ⟨#[]⟩,.bool false] 23 (0,0)):=by
        have h2:=hk2.heap hr id
        have h3:Mods (fun b=>B + 1 ≤ b) (W.alloc (.cells #[.int .u8 (m:Nat)] 5)) W2:=(Mods.refl _ _).grown hgrow (fun g hg=>.inr ⟨(hown.lt g hg).1,own_cells (hown.alloc _) hg⟩)
        exact h3.heap h2 (by omega)
       have hown3:W2.ownsRow (B + 1) 5 1 v' (acc ++ [gb s (k + 1)]).length (u8s (acc ++ [gb s (k + 1)])):=by
        have:u8s (acc ++ [gb s (k + 1)])=u8s acc ++ [.int .u8 (m:Nat)]:=by rw [u8s_snoc,hmc]
        rw [this,List.length_append]
        exact hown'
       clear hown hown' hgrow c0 c1 c2 c3 f0 f1 f2 f3 hk2
       go_wp2_with fail
       exact wp_goto (And.intro rfl ⟨⟨k + 2,acc ++ [gb s (k + 1)],v',⟨rfl,rfl,rfl,rfl,rfl,rfl⟩,by omega,by rw [List.length_append];show acc.length + 1 ≤ _;omega,hown3,hr3,hN3,Lib.hid hqa.symm⟩,by simp [Qμ,intOf];omega⟩)
     ·rw [if_neg (fun h=>hok h.2)] at hqa
      have n34:((m:Int) != 34)=true:=by rw [m34,decide_eq_false (fun h=>hok (.inl h))];rfl
      have n92:((m:Int) != 92)=true:=by rw [m92,decide_eq_false (fun h=>hok (.inr h))];rfl
      clear m34 m92
      subst hqa
      unfold ReadP bv bcs noIt
      simp only
      clear hok hm hmc hp h34 h92
      go_wp2_with (go_at_call 110;refine (HP.out _).mono ?_;rintro e w' ⟨rfl,rfl⟩)
      simp only [Exit.jump]
      obtain ⟨hN2,hr2⟩:=set4 hN hBw hr (.int .u8 0) (.int .i64 0) (.string ⟨#[]⟩) (.bool false)
      obtain ⟨W2,hW2⟩:∃ W2,((((W.setCell ⟨B,0,none⟩ (.int .u8 0)).setCell ⟨B,1,none⟩ (.int .i64 0)).setCell ⟨B,2,none⟩ (.string ⟨#[]⟩)).setCell ⟨B,3,none⟩ (.bool false))=W2:=⟨_,rfl⟩
      rw [hW2] at hN2 hr2 ⊢
      exact read_end (by kernel_rfl) rfl rfl rfl hr2 ⟨rfl,hN2⟩
    ·have hge1:decide ((s.size:Int) ≤ (k:Int) + 1)=true:=decide_eq_true (by omega)
     rw [if_neg (fun h=>hk1 h.1)] at hqa
     subst hqa
     unfold ReadP bv bcs noIt
     simp only
     have hge1':(s.size:Int) ≤ (k:Int) + 1:=by omega
     clear hp h34 h92 hk1
     go_wp2_with (go_at_call 110;refine (HP.out _).mono ?_;rintro e w' ⟨rfl,rfl⟩)
     simp only [Exit.jump]
     obtain ⟨hN2,hr2⟩:=set4 hN hBw hr (.int .u8 0) (.int .i64 0) (.string ⟨#[]⟩) (.bool false)
     obtain ⟨W2,hW2⟩:∃ W2,((((W.setCell ⟨B,0,none⟩ (.int .u8 0)).setCell ⟨B,1,none⟩ (.int .i64 0)).setCell ⟨B,2,none⟩ (.string ⟨#[]⟩)).setCell ⟨B,3,none⟩ (.bool false))=W2:=⟨_,rfl⟩
     rw [hW2] at hN2 hr2 ⊢
     exact read_end (by kernel_rfl) rfl rfl rfl hr2 ⟨rfl,hN2⟩
   ·rw [if_neg h92] at hqa
    rw [decide_eq_false h92] at t92
    clear hp h34 h92
    go_wp2_with (first | (go_at_call 110;refine (HP.out _).mono ?_;rintro e w' ⟨rfl,rfl⟩) | (at_builtin;refine wpList_append_own _ rfl _ _ 62 rfl (B + 1) 5 i0 _ 1 1 Tryz.underlying62 hi hz0 hz1 hz2 rfl (by decide) _ _ _ rfl (hown.alloc _) ⟨W.heap.size,0,none⟩ 1 1 [.int .u8 (n:Nat)] rfl rfl ?c1 ?c2 ?c3 ?c4 ?c5 ?_))
    case c1=>exact cell_one_new _ _ _
    case c2=>simp [Value.oneCell']
    case c3=>unfold maxLen;omega
    case c4=>have:=hown.1;simp;omega
    case c5=>simp;omega
    intro v' W2 hown' hgrow _
    have hk2:New W (W.alloc (.cells #[.int .u8 (n:Nat)] 5)):=(Mods.refl _ _).alloc _
    have hN3:New w W2:=(hN.alloc _).grown hgrow (fun g hg=>.inl (by have:=(hown.lt g hg).1;omega))
    have hr3:W2.heap[B]? = some (.cells #[.int .u8 0,.int .i64 0,.string ⟨#[]⟩,.bool false] 23 (0,0)):=by
     have h2:=hk2.heap hr id
     have h3:Mods (fun b=>B + 1 ≤ b) (W.alloc (.cells #[.int .u8 (n:Nat)] 5)) W2:=(Mods.refl _ _).grown hgrow (fun g hg=>.inr ⟨(hown.lt g hg).1,own_cells (hown.alloc _) hg⟩)
     exact h3.heap h2 (by omega)
    have hown3:W2.ownsRow (B + 1) 5 1 v' (acc ++ [gb s k]).length (u8s (acc ++ [gb s k])):=by
     have:u8s (acc ++ [gb s k])=u8s acc ++ [.int .u8 (n:Nat)]:=by rw [u8s_snoc,hnc]
     rw [this,List.length_append]
     exact hown'
    clear hown hown' hgrow c0 c1 c2 c3 f0 f1 f2 f3 hk2
    go_wp2_with fail
    exact wp_goto (And.intro rfl ⟨⟨k + 1,acc ++ [gb s k],v',⟨rfl,rfl,rfl,rfl,rfl,rfl⟩,by omega,by rw [List.length_append];show acc.length + 1 ≤ _;omega,hown3,hr3,hN3,Lib.hid hqa.symm⟩,by simp [Qμ,intOf];omega⟩)
 ·have hge:decide ((s.size:Int) ≤ (k:Int))=true:=decide_eq_true (by omega)
  have hqa:=quoted_end acc s k (by omega)
  rw [HR.out] at hqa
  subst hqa
  unfold ReadP bv bcs noIt
  simp only
  have hge':s.size ≤ k:=by omega
  clear HR hlt
  go_wp2_with fail
  simp only [Exit.jump]
  obtain ⟨hN2,hr2⟩:=set4 hN hBw hr (.int .u8 0) (.int .i64 0) (.string ⟨#[]⟩) (.bool false)
  obtain ⟨W2,hW2⟩:∃ W2,((((W.setCell ⟨B,0,none⟩ (.int .u8 0)).setCell ⟨B,1,none⟩ (.int .i64 0)).setCell ⟨B,2,none⟩ (.string ⟨#[]⟩)).setCell ⟨B,3,none⟩ (.bool false))=W2:=⟨_,rfl⟩
  rw [hW2] at hN2 hr2 ⊢
  exact read_end (by kernel_rfl) rfl rfl rfl hr2 ⟨rfl,hN2⟩
theorem quoted_read (s:ByteArray) (w:World) (hs:s.size ≤ 1000000) (h0:0 < s.size) :
  Calls Tryz.prog 54 #[.string s] w (ReadP (Bare.quoted [] ((bl s).drop 1)) w):=by
 obtain ⟨r,hr'⟩:∃ r,Bare.quoted [] ((bl s).drop 1)=r:=⟨_,rfl⟩
 have HR:=Lib.hid hr'
 rw [hr']
 clear hr'
 obtain ⟨hN,hr⟩:=no_row w
 go_enter Tryz.func54,Tryz.ntmps54
 go_upto_region 1 with fail
 obtain ⟨W,hW⟩:∃ W,w.alloc (.cells #[.int .u8 0,.int .i64 0,.string ⟨#[]⟩,.bool false] 23)=W:=⟨_,rfl⟩
 rw [hW] at hN hr ⊢
 obtain ⟨B,hB⟩:∃ B,w.heap.size=B:=⟨_,rfl⟩
 have hBw:w.heap.size ≤ B:=by omega
 rw [hB] at hr ⊢
 clear hW hB
 obtain ⟨⟨c0,c1,c2,c3⟩,f0,f1,f2,f3⟩:=row_facts hr
 clear c0 c1 c2 c3 f0 f1 f2 f3
 refine wp_scope_loop 0 (QJ s w B r) (Qμ s) rfl ?pass ?first
 case first =>
  intro hp
  go_wp2_with fail
  refine wp_label ?_
  rename_i K hK
  refine hK _ _ (wp_mono (quoted_X s w B r hs hBw _ _ ⟨1,[],.slice none 0 0,⟨rfl,rfl,rfl,rfl,rfl,rfl⟩,by omega,by simp,World.ownsRow_nil _ _ _ _,hr,hN,HR⟩) ?_)
  intro e a' w' hq
  cases e with
  | goto l'=>exact ⟨hq.1,hq.2.1⟩
  | _=>exact hq
 case pass =>
  intro a W' hJ
  refine wp_seq (wp_skip ?_)
  exact quoted_X s w B r hs hBw a W' hJ
end Go.Proofs.YtnknmmbnhoanfaaGreatDoor
