/- Texts joined. -/
import Derived.Test.YtkiiameibdhdfaaGreatDoorE04
import Derived.Test.YtkiiameibdhdfaaGreatDoorE00
import Derived.MapKept
import Derived.Laws.StructEq
import Derived.ChangeMaps5
import Derived.WalkKit
import Derived.Test.YtkiiameibdhdfaaGreatDoorE02
import Derived.Lib.ConvBytes
set_option linter.unusedSimpArgs false
set_option linter.unusedVariables false
set_option maxHeartbeats 16000000
set_option maxRecDepth 100000
namespace Go.Proofs.YtkiiameibdhdfaaGreatDoor
open Go.RowKit Go.Shelf Go.Cs
attribute [local go_sem] Oper.semAt_some


theorem len4 {α:Type}:∀ {l:List α},l.length=4→∃ a b c d,l = [a,b,c,d]
 | [a,b,c,d],_=>⟨a,b,c,d,rfl⟩
theorem len5 {α:Type}:∀ {l:List α},l.length=5→∃ a b c d e,l = [a,b,c,d,e]
 | [a,b,c,d,e],_=>⟨a,b,c,d,e,rfl⟩
theorem infoP:(Tryz.prog.info? 73).map (fun i=>(i.zero,i.size,i.bytes))=some (some (.agg #[.string ⟨#[]⟩,.int .u8 0,.int .i64 0,.string ⟨#[]⟩,.bool false]),5,56):=by kernel_rfl
theorem sizeP:(Tryz.prog.info? 73).map (·.size)=some 5:=by kernel_rfl
def OwP (base:Nat) (W:World) (v:Value) (n:Nat) (f:Nat→List Value):Prop:=(∀ i,(f i).length=5)∧(∀ i,i < n→∀ u ∈ f i,u.oneCell'=true)∧W.ownsRow base 73 5 v n (flatF n f)
theorem OwP.nil (base:Nat) (W:World) (f:Nat→List Value) (hf:∀ i,(f i).length=5):OwP base W (.slice none 0 0) 0 f:=⟨hf,(fun i hi=>by omega),World.ownsRow_nil _ _ _ _⟩
theorem OwP.mods {base:Nat} {W W':World} {v:Value} {n:Nat} {f:Nat→List Value} (h:OwP base W v n f) {S:Nat→Prop} (hN:Mods S W W') (hS:∀ g,v.ownBlock=some g→¬ S g):OwP base W' v n f:=⟨h.1,h.2.1,Mods.ownsRow hN h.2.2 hS⟩
theorem OwP.new {base:Nat} {W W':World} {v:Value} {n:Nat} {f:Nat→List Value} (h:OwP base W v n f) (hN:New W W'):OwP base W' v n f:=h.mods hN fun _ _ h=>h
theorem OwP.congr {base:Nat} {W:World} {v:Value} {n:Nat} {f g:Nat→List Value} (h:OwP base W v n f) (hg:∀ i,(g i).length=5) (he:∀ i,i < n→f i=g i):OwP base W v n g :=
 ⟨hg,(fun i hi=>by rw [← he i hi];exact h.2.1 i hi),by rw [← flatF_congr he];exact h.2.2⟩
theorem OwP.slice {base:Nat} {W:World} {v:Value} {n:Nat} {f:Nat→List Value} (h:OwP base W v n f):∃ ao cap,v = .slice ao n cap:=owns_slice h.2.2
theorem OwP.lt {base:Nat} {W:World} {v:Value} {n:Nat} {f:Nat→List Value} (h:OwP base W v n f) {g:Nat} (hg:v.ownBlock=some g):base ≤ g∧g < W.heap.size:=World.ownsRow.lt h.2.2 g hg
theorem OwP.row {base:Nat} {W:World} {v:Value} {n:Nat} {f:Nat→List Value} (h:OwP base W v n f) (hn:n ≤ 281474976710656):RowR W v n 5 f :=
 ⟨hn,rows_ofOwns (by decide) h.1 h.2.2⟩
theorem OwP.tag {base:Nat} {W:World} {v:Value} {n:Nat} {f:Nat→List Value} (h:OwP base W v n f):TagAt W v 73:=fun g hg=>by
 rcases h.2.2.2 with ⟨rfl,_⟩ | ⟨b,cap,cur,rfl,_,hb,_⟩
 ·cases hg
 ·cases hg;exact ⟨_,_,hb⟩
theorem OwP.mono {base base':Nat} {W:World} {v:Value} {n:Nat} {f:Nat→List Value} (h:OwP base W v n f) (hb:base' ≤ base):OwP base' W v n f:=⟨h.1,h.2.1,owns_mono h.2.2 hb⟩
theorem OwP.frozen {base:Nat} {W:World} {v:Value} {n:Nat} {f:Nat→List Value} (h:OwP base W v n f) {g:Nat} (hg:v.ownBlock=some g) (o:Nat):W.frozen? ⟨g,o,none⟩=false:=by
 rcases h.2.2.2 with ⟨rfl,_⟩ | ⟨b,cap,cur,rfl,_,hb,_⟩
 ·cases hg
 ·cases hg;exact frozen_row hb
theorem run_append_P {o:Oper} {a:Act} {w W:World} {s x:Operand} {base:Nat} {v:Value} {n:Nat} {f:Nat→List Value} {c:List Value} (hop:o.op = .call { callee:=.builtin .append,args:=#[s,x],argTypes:=#[62,62] })
  (hs:a.eval s=v) (hx:a.eval x = .slice (some ⟨w.heap.size,0,none⟩) 1 1) (hW:w.alloc (.cells c.toArray 73)=W) (hc:c.length=5) (hone:∀ u ∈ c,u.oneCell'=true) (hown:OwP base w v n f) (hn:n ≤ 2000000) (hbase:base ≤ w.heap.size) :
  ∃ v' W',(execOp a.eval o).run Tryz.prog W = .ok (.value v') W'∧OwP base W' v' (n + 1) (fun i=>if i=n then c else f i)∧∀ (w0:World) (S:Nat→Prop),Mods S w0 w→(∀ g,v.ownBlock=some g→w0.heap.size ≤ g ∨ S g)→Mods S w0 W':=by
 obtain ⟨i0,hi,hz0,hz1,hz2⟩:=info_parts infoP
 have hown':W.ownsRow base 73 5 v n (flatF n f):=by rw [← hW];exact hown.2.2.alloc _
 obtain ⟨v',w',hr,ho,hg,-⟩:=run_append_own (P:=Tryz.prog) W base 62 o.type 73 i0 _ 5 56 Tryz.underlying62 hi hz0 hz1 hz2 rfl (by decide) v n (flatF n f) hown' ⟨w.heap.size,0,none⟩ 1 1 c (by rw [hc]) (fun j u hj=>by
  rw [← hW,add_at,cell_of_row _ _ _ _ _ _ (World.alloc_heap_new w (.cells c.toArray 73))];simpa using hj) hone (by unfold maxLen;omega) (by omega) (by rw [← hW];simp;omega)
 refine ⟨v',w',?_,⟨fun i=>?_,fun i hi=>?_,?_⟩,fun w0 S hN hb=>?_⟩
 ·simp [execOp,hop,resolve,invoke,builtin,hs,hx,hr,Result.andThen]
 ·dsimp only;split
  ·exact hc
  ·exact hown.1 i
 ·dsimp only;split
  ·exact hone
  ·exact hown.2.1 i (by omega)
 ·rw [flatF_succ,if_pos rfl,flatF_congr (g:=f) (fun i hi=>if_neg (by omega))]
  exact ho
 ·rw [← hW] at hg
  exact (hN.alloc _).grown hg (fun g hg=>(hb g hg).imp id fun h=>⟨h,own_cells (hown.2.2.alloc _) hg⟩)
theorem wpList_append_P {ops:Array Oper} {Q:Exit→Act→World→Prop} {rest:List Oper} {o:Oper} {a:Act} {w W:World} (s x:Operand) {base:Nat} {v:Value} {n:Nat} {f:Nat→List Value} {c:List Value} (hgd:o.guard=none) (hop:o.op = .call { callee:=.builtin .append,args:=#[s,x],argTypes:=#[62,62] })
  (hs:a.eval s=v) (hx:a.eval x = .slice (some ⟨w.heap.size,0,none⟩) 1 1) (hW:w.alloc (.cells c.toArray 73)=W) (hc:c.length=5) (hone:∀ u ∈ c,u.oneCell'=true) (hown:OwP base w v n f) (hn:n ≤ 2000000) (hbase:base ≤ w.heap.size)
  (h:∀ v' W',OwP base W' v' (n + 1) (fun i=>if i=n then c else f i)→(∀ (w0:World) (S:Nat→Prop),Mods S w0 w→(∀ g,v.ownBlock=some g→w0.heap.size ≤ g ∨ S g)→Mods S w0 W')→wpList Tryz.prog ops Q rest (a.put o.dst v') W'):wpList Tryz.prog ops Q (o::rest) a W:=by
 refine wpList_plain hgd fun K hK=>?_
 obtain ⟨v',w',hr,ho,hg⟩:=run_append_P hop hs hx hW hc hone hown hn hbase
 unfold Oper.wp
 rw [hr]
 exact hK _ _ (h v' w' ho hg)
theorem OwP.put {base g cap:Nat} {W:World} {n:Nat} {f:Nat→List Value} (h:OwP base W (.slice (some ⟨g,0,none⟩) n cap) n f) {i:Nat} (hi:i < n) (c0 c1 c2 c3 c4:Value) (hone:∀ u ∈ [c0,c1,c2,c3,c4],u.oneCell'=true) :
  OwP base ((((((W.setCell ⟨g,i * 5 + 0,none⟩ c0).setCell ⟨g,i * 5 + 1,none⟩ c1).setCell ⟨g,i * 5 + 2,none⟩ c2).setCell ⟨g,i * 5 + 3,none⟩ c3).setCell ⟨g,i * 5 + 4,none⟩ c4)) (.slice (some ⟨g,0,none⟩) n cap) n (fun k=>if k=i then [c0,c1,c2,c3,c4] else f k):=by
 refine ⟨fun k=>?_,fun k hk=>?_,?_⟩
 ·dsimp only;split
  ·rfl
  ·exact h.1 k
 ·dsimp only;split
  ·exact hone
  ·exact h.2.1 k hk
 ·have s0:=own_set h.1 h.2.2 hi (show 0 < 5 by decide) c0
  have l1:=set_len (f:=_) (i:=i) (r:=0) (u:=c0) h.1
  have s1:=own_set l1 s0 hi (show 1 < 5 by decide) c1
  have l2:=set_len (f:=_) (i:=i) (r:=1) (u:=c1) l1
  have s2:=own_set l2 s1 hi (show 2 < 5 by decide) c2
  have l3:=set_len (f:=_) (i:=i) (r:=2) (u:=c2) l2
  have s3:=own_set l3 s2 hi (show 3 < 5 by decide) c3
  have l4:=set_len (f:=_) (i:=i) (r:=3) (u:=c3) l3
  have s4:=own_set l4 s3 hi (show 4 < 5 by decide) c4
  refine cast (congrArg _ (flatF_congr fun k hk=>?_)) s4
  by_cases e:k=i
  ·subst e
   simp only [if_true]
   obtain ⟨d0,d1,d2,d3,d4,hd⟩:=len5 (h.1 k)
   rw [hd]
   rfl
  ·simp only [if_neg e]
theorem infoX:(Tryz.prog.info? 71).map (fun i=>(i.zero,i.size,i.bytes))=some (some (.agg #[.int .u8 0,.int .i64 0,.string ⟨#[]⟩,.bool false,.slice none 0 0]),5,64):=by kernel_rfl
theorem sizeX:(Tryz.prog.info? 71).map (·.size)=some 5:=by kernel_rfl
def OwX (base:Nat) (W:World) (v:Value) (n:Nat) (f:Nat→List Value):Prop:=(∀ i,(f i).length=5)∧(∀ i,i < n→∀ u ∈ f i,u.oneCell'=true)∧W.ownsRow base 71 5 v n (flatF n f)
theorem OwX.nil (base:Nat) (W:World) (f:Nat→List Value) (hf:∀ i,(f i).length=5):OwX base W (.slice none 0 0) 0 f:=⟨hf,(fun i hi=>by omega),World.ownsRow_nil _ _ _ _⟩
theorem OwX.mods {base:Nat} {W W':World} {v:Value} {n:Nat} {f:Nat→List Value} (h:OwX base W v n f) {S:Nat→Prop} (hN:Mods S W W') (hS:∀ g,v.ownBlock=some g→¬ S g):OwX base W' v n f:=⟨h.1,h.2.1,Mods.ownsRow hN h.2.2 hS⟩
theorem OwX.new {base:Nat} {W W':World} {v:Value} {n:Nat} {f:Nat→List Value} (h:OwX base W v n f) (hN:New W W'):OwX base W' v n f:=h.mods hN fun _ _ h=>h
theorem OwX.congr {base:Nat} {W:World} {v:Value} {n:Nat} {f g:Nat→List Value} (h:OwX base W v n f) (hg:∀ i,(g i).length=5) (he:∀ i,i < n→f i=g i):OwX base W v n g :=
 ⟨hg,(fun i hi=>by rw [← he i hi];exact h.2.1 i hi),by rw [← flatF_congr he];exact h.2.2⟩
theorem OwX.slice {base:Nat} {W:World} {v:Value} {n:Nat} {f:Nat→List Value} (h:OwX base W v n f):∃ ao cap,v = .slice ao n cap:=owns_slice h.2.2
theorem OwX.lt {base:Nat} {W:World} {v:Value} {n:Nat} {f:Nat→List Value} (h:OwX base W v n f) {g:Nat} (hg:v.ownBlock=some g):base ≤ g∧g < W.heap.size:=World.ownsRow.lt h.2.2 g hg
theorem OwX.row {base:Nat} {W:World} {v:Value} {n:Nat} {f:Nat→List Value} (h:OwX base W v n f) (hn:n ≤ 281474976710656):RowR W v n 5 f :=
 ⟨hn,rows_ofOwns (by decide) h.1 h.2.2⟩
theorem OwX.tag {base:Nat} {W:World} {v:Value} {n:Nat} {f:Nat→List Value} (h:OwX base W v n f):TagAt W v 71:=fun g hg=>by
 rcases h.2.2.2 with ⟨rfl,_⟩ | ⟨b,cap,cur,rfl,_,hb,_⟩
 ·cases hg
 ·cases hg;exact ⟨_,_,hb⟩
theorem OwX.mono {base base':Nat} {W:World} {v:Value} {n:Nat} {f:Nat→List Value} (h:OwX base W v n f) (hb:base' ≤ base):OwX base' W v n f:=⟨h.1,h.2.1,owns_mono h.2.2 hb⟩
theorem OwX.frozen {base:Nat} {W:World} {v:Value} {n:Nat} {f:Nat→List Value} (h:OwX base W v n f) {g:Nat} (hg:v.ownBlock=some g) (o:Nat):W.frozen? ⟨g,o,none⟩=false:=by
 rcases h.2.2.2 with ⟨rfl,_⟩ | ⟨b,cap,cur,rfl,_,hb,_⟩
 ·cases hg
 ·cases hg;exact frozen_row hb
theorem run_append_X {o:Oper} {a:Act} {w W:World} {s x:Operand} {base:Nat} {v:Value} {n:Nat} {f:Nat→List Value} {c:List Value} (hop:o.op = .call { callee:=.builtin .append,args:=#[s,x],argTypes:=#[61,61] })
  (hs:a.eval s=v) (hx:a.eval x = .slice (some ⟨w.heap.size,0,none⟩) 1 1) (hW:w.alloc (.cells c.toArray 71)=W) (hc:c.length=5) (hone:∀ u ∈ c,u.oneCell'=true) (hown:OwX base w v n f) (hn:n ≤ 2000000) (hbase:base ≤ w.heap.size) :
  ∃ v' W',(execOp a.eval o).run Tryz.prog W = .ok (.value v') W'∧OwX base W' v' (n + 1) (fun i=>if i=n then c else f i)∧∀ (w0:World) (S:Nat→Prop),Mods S w0 w→(∀ g,v.ownBlock=some g→w0.heap.size ≤ g ∨ S g)→Mods S w0 W':=by
 obtain ⟨i0,hi,hz0,hz1,hz2⟩:=info_parts infoX
 have hown':W.ownsRow base 71 5 v n (flatF n f):=by rw [← hW];exact hown.2.2.alloc _
 obtain ⟨v',w',hr,ho,hg,-⟩:=run_append_own (P:=Tryz.prog) W base 61 o.type 71 i0 _ 5 64 Tryz.underlying61 hi hz0 hz1 hz2 rfl (by decide) v n (flatF n f) hown' ⟨w.heap.size,0,none⟩ 1 1 c (by rw [hc]) (fun j u hj=>by
  rw [← hW,add_at,cell_of_row _ _ _ _ _ _ (World.alloc_heap_new w (.cells c.toArray 71))];simpa using hj) hone (by unfold maxLen;omega) (by omega) (by rw [← hW];simp;omega)
 refine ⟨v',w',?_,⟨fun i=>?_,fun i hi=>?_,?_⟩,fun w0 S hN hb=>?_⟩
 ·simp [execOp,hop,resolve,invoke,builtin,hs,hx,hr,Result.andThen]
 ·dsimp only;split
  ·exact hc
  ·exact hown.1 i
 ·dsimp only;split
  ·exact hone
  ·exact hown.2.1 i (by omega)
 ·rw [flatF_succ,if_pos rfl,flatF_congr (g:=f) (fun i hi=>if_neg (by omega))]
  exact ho
 ·rw [← hW] at hg
  exact (hN.alloc _).grown hg (fun g hg=>(hb g hg).imp id fun h=>⟨h,own_cells (hown.2.2.alloc _) hg⟩)
theorem OwX.put {base g cap:Nat} {W:World} {n:Nat} {f:Nat→List Value} (h:OwX base W (.slice (some ⟨g,0,none⟩) n cap) n f) {i:Nat} (hi:i < n) (c0 c1 c2 c3 c4:Value) (hone:∀ u ∈ [c0,c1,c2,c3,c4],u.oneCell'=true) :
  OwX base ((((((W.setCell ⟨g,i * 5 + 0,none⟩ c0).setCell ⟨g,i * 5 + 1,none⟩ c1).setCell ⟨g,i * 5 + 2,none⟩ c2).setCell ⟨g,i * 5 + 3,none⟩ c3).setCell ⟨g,i * 5 + 4,none⟩ c4)) (.slice (some ⟨g,0,none⟩) n cap) n (fun k=>if k=i then [c0,c1,c2,c3,c4] else f k):=by
 refine ⟨fun k=>?_,fun k hk=>?_,?_⟩
 ·dsimp only;split
  ·rfl
  ·exact h.1 k
 ·dsimp only;split
  ·exact hone
  ·exact h.2.1 k hk
 ·have s0:=own_set h.1 h.2.2 hi (show 0 < 5 by decide) c0
  have l1:=set_len (f:=_) (i:=i) (r:=0) (u:=c0) h.1
  have s1:=own_set l1 s0 hi (show 1 < 5 by decide) c1
  have l2:=set_len (f:=_) (i:=i) (r:=1) (u:=c1) l1
  have s2:=own_set l2 s1 hi (show 2 < 5 by decide) c2
  have l3:=set_len (f:=_) (i:=i) (r:=2) (u:=c2) l2
  have s3:=own_set l3 s2 hi (show 3 < 5 by decide) c3
  have l4:=set_len (f:=_) (i:=i) (r:=3) (u:=c3) l3
  have s4:=own_set l4 s3 hi (show 4 < 5 by decide) c4
  refine cast (congrArg _ (flatF_congr fun k hk=>?_)) s4
  by_cases e:k=i
  ·subst e
   simp only [if_true]
   obtain ⟨d0,d1,d2,d3,d4,hd⟩:=len5 (h.1 k)
   rw [hd]
   rfl
  ·simp only [if_neg e]
theorem infoM:(Tryz.prog.info? 64).map (fun i=>(i.zero,i.size,i.bytes))=some (some (.agg #[.string ⟨#[]⟩,.bool false,.slice none 0 0,.slice none 0 0]),4,72):=by kernel_rfl
theorem sizeM:(Tryz.prog.info? 64).map (·.size)=some 4:=by kernel_rfl
def OwM (base:Nat) (W:World) (v:Value) (n:Nat) (f:Nat→List Value):Prop:=(∀ i,(f i).length=4)∧(∀ i,i < n→∀ u ∈ f i,u.oneCell'=true)∧W.ownsRow base 64 4 v n (flatF n f)
theorem OwM.nil (base:Nat) (W:World) (f:Nat→List Value) (hf:∀ i,(f i).length=4):OwM base W (.slice none 0 0) 0 f:=⟨hf,(fun i hi=>by omega),World.ownsRow_nil _ _ _ _⟩
theorem OwM.mods {base:Nat} {W W':World} {v:Value} {n:Nat} {f:Nat→List Value} (h:OwM base W v n f) {S:Nat→Prop} (hN:Mods S W W') (hS:∀ g,v.ownBlock=some g→¬ S g):OwM base W' v n f:=⟨h.1,h.2.1,Mods.ownsRow hN h.2.2 hS⟩
theorem OwM.new {base:Nat} {W W':World} {v:Value} {n:Nat} {f:Nat→List Value} (h:OwM base W v n f) (hN:New W W'):OwM base W' v n f:=h.mods hN fun _ _ h=>h
theorem OwM.congr {base:Nat} {W:World} {v:Value} {n:Nat} {f g:Nat→List Value} (h:OwM base W v n f) (hg:∀ i,(g i).length=4) (he:∀ i,i < n→f i=g i):OwM base W v n g :=
 ⟨hg,(fun i hi=>by rw [← he i hi];exact h.2.1 i hi),by rw [← flatF_congr he];exact h.2.2⟩
theorem OwM.slice {base:Nat} {W:World} {v:Value} {n:Nat} {f:Nat→List Value} (h:OwM base W v n f):∃ ao cap,v = .slice ao n cap:=owns_slice h.2.2
theorem OwM.lt {base:Nat} {W:World} {v:Value} {n:Nat} {f:Nat→List Value} (h:OwM base W v n f) {g:Nat} (hg:v.ownBlock=some g):base ≤ g∧g < W.heap.size:=World.ownsRow.lt h.2.2 g hg
theorem OwM.row {base:Nat} {W:World} {v:Value} {n:Nat} {f:Nat→List Value} (h:OwM base W v n f) (hn:n ≤ 281474976710656):RowR W v n 4 f :=
 ⟨hn,rows_ofOwns (by decide) h.1 h.2.2⟩
theorem OwM.tag {base:Nat} {W:World} {v:Value} {n:Nat} {f:Nat→List Value} (h:OwM base W v n f):TagAt W v 64:=fun g hg=>by
 rcases h.2.2.2 with ⟨rfl,_⟩ | ⟨b,cap,cur,rfl,_,hb,_⟩
 ·cases hg
 ·cases hg;exact ⟨_,_,hb⟩
theorem OwM.mono {base base':Nat} {W:World} {v:Value} {n:Nat} {f:Nat→List Value} (h:OwM base W v n f) (hb:base' ≤ base):OwM base' W v n f:=⟨h.1,h.2.1,owns_mono h.2.2 hb⟩
theorem OwM.frozen {base:Nat} {W:World} {v:Value} {n:Nat} {f:Nat→List Value} (h:OwM base W v n f) {g:Nat} (hg:v.ownBlock=some g) (o:Nat):W.frozen? ⟨g,o,none⟩=false:=by
 rcases h.2.2.2 with ⟨rfl,_⟩ | ⟨b,cap,cur,rfl,_,hb,_⟩
 ·cases hg
 ·cases hg;exact frozen_row hb
theorem run_append_M {o:Oper} {a:Act} {w W:World} {s x:Operand} {base:Nat} {v:Value} {n:Nat} {f:Nat→List Value} {c:List Value} (hop:o.op = .call { callee:=.builtin .append,args:=#[s,x],argTypes:=#[51,51] })
  (hs:a.eval s=v) (hx:a.eval x = .slice (some ⟨w.heap.size,0,none⟩) 1 1) (hW:w.alloc (.cells c.toArray 64)=W) (hc:c.length=4) (hone:∀ u ∈ c,u.oneCell'=true) (hown:OwM base w v n f) (hn:n ≤ 2000000) (hbase:base ≤ w.heap.size) :
  ∃ v' W',(execOp a.eval o).run Tryz.prog W = .ok (.value v') W'∧OwM base W' v' (n + 1) (fun i=>if i=n then c else f i)∧∀ (w0:World) (S:Nat→Prop),Mods S w0 w→(∀ g,v.ownBlock=some g→w0.heap.size ≤ g ∨ S g)→Mods S w0 W':=by
 obtain ⟨i0,hi,hz0,hz1,hz2⟩:=info_parts infoM
 have hown':W.ownsRow base 64 4 v n (flatF n f):=by rw [← hW];exact hown.2.2.alloc _
 obtain ⟨v',w',hr,ho,hg,-⟩:=run_append_own (P:=Tryz.prog) W base 51 o.type 64 i0 _ 4 72 Tryz.underlying51 hi hz0 hz1 hz2 rfl (by decide) v n (flatF n f) hown' ⟨w.heap.size,0,none⟩ 1 1 c (by rw [hc]) (fun j u hj=>by
  rw [← hW,add_at,cell_of_row _ _ _ _ _ _ (World.alloc_heap_new w (.cells c.toArray 64))];simpa using hj) hone (by unfold maxLen;omega) (by omega) (by rw [← hW];simp;omega)
 refine ⟨v',w',?_,⟨fun i=>?_,fun i hi=>?_,?_⟩,fun w0 S hN hb=>?_⟩
 ·simp [execOp,hop,resolve,invoke,builtin,hs,hx,hr,Result.andThen]
 ·dsimp only;split
  ·exact hc
  ·exact hown.1 i
 ·dsimp only;split
  ·exact hone
  ·exact hown.2.1 i (by omega)
 ·rw [flatF_succ,if_pos rfl,flatF_congr (g:=f) (fun i hi=>if_neg (by omega))]
  exact ho
 ·rw [← hW] at hg
  exact (hN.alloc _).grown hg (fun g hg=>(hb g hg).imp id fun h=>⟨h,own_cells (hown.2.2.alloc _) hg⟩)
theorem OwM.put {base g cap:Nat} {W:World} {n:Nat} {f:Nat→List Value} (h:OwM base W (.slice (some ⟨g,0,none⟩) n cap) n f) {i:Nat} (hi:i < n) (c0 c1 c2 c3:Value) (hone:∀ u ∈ [c0,c1,c2,c3],u.oneCell'=true) :
  OwM base (((((W.setCell ⟨g,i * 4 + 0,none⟩ c0).setCell ⟨g,i * 4 + 1,none⟩ c1).setCell ⟨g,i * 4 + 2,none⟩ c2).setCell ⟨g,i * 4 + 3,none⟩ c3)) (.slice (some ⟨g,0,none⟩) n cap) n (fun k=>if k=i then [c0,c1,c2,c3] else f k):=by
 refine ⟨fun k=>?_,fun k hk=>?_,?_⟩
 ·dsimp only;split
  ·rfl
  ·exact h.1 k
 ·dsimp only;split
  ·exact hone
  ·exact h.2.1 k hk
 ·have s0:=own_set h.1 h.2.2 hi (show 0 < 4 by decide) c0
  have l1:=set_len (f:=_) (i:=i) (r:=0) (u:=c0) h.1
  have s1:=own_set l1 s0 hi (show 1 < 4 by decide) c1
  have l2:=set_len (f:=_) (i:=i) (r:=1) (u:=c1) l1
  have s2:=own_set l2 s1 hi (show 2 < 4 by decide) c2
  have l3:=set_len (f:=_) (i:=i) (r:=2) (u:=c2) l2
  have s3:=own_set l3 s2 hi (show 3 < 4 by decide) c3
  refine cast (congrArg _ (flatF_congr fun k hk=>?_)) s3
  by_cases e:k=i
  ·subst e
   simp only [if_true]
   obtain ⟨d0,d1,d2,d3,hd⟩:=len4 (h.1 k)
   rw [hd]
   rfl
  ·simp only [if_neg e]
end Go.Proofs.YtkiiameibdhdfaaGreatDoor
namespace Go.Cs
open Go.RowKit
structure KeyLike (P:Program) (k:TypeId) {α:Type} (enc:α→Value):Prop where
 inj:∀ a b,enc a=enc b→a=b
 check:∀ (w:World) (em:Bool) (a:α),(Instr.checkKey em 10000 k (enc a)).run P w = .ok () w
 find:∀ (w:World) (a:α) (es:List MapEntry),(∀ e ∈ es,∃ b,e.key=enc b) →
  ((Instr.findKey k (enc a) es).run P w = .ok none w∧∀ e ∈ es,e.key ≠ enc a) ∨ ∃ j e,(Instr.findKey k (enc a) es).run P w = .ok (some (j,e.val)) w∧es[j]? = some e∧e.key=enc a
 stays:∀ (w:World) (a:α),(Instr.keyThatStays (enc a) (enc a)).run P w = .ok (enc a) w
variable {P:Program} {k:TypeId} {α:Type} {enc:α→Value}
theorem KeyLike.now {d:TypeDesc} (hd:P.underlying k=some d) (hk:∀ a,MapKept.IsKey d (enc a)) (hi:∀ a b,enc a=enc b→a=b):KeyLike P k enc where
 inj:=hi
 check w em a:=MapKept.run_checkKey hd (hk a) em 9999
 find w a es h:=by
  rcases MapKept.findNow_spec (hk a) es 0 (fun e he=>by obtain ⟨b,hb⟩:=h e he;rw [hb];exact hk b) with ⟨h1,h2⟩ | ⟨j,e,h1,h2,h3⟩
  ·exact .inl ⟨MapKept.run_findKey hd h1,h2⟩
  ·exact .inr ⟨j,e,by rw [Nat.zero_add] at h1;exact MapKept.run_findKey hd h1,h2,h3⟩
 stays w a:=MapKept.run_keyThatStays (hk a)
theorem run_findAsking [DecidableEq α] (heq:∀ w a b,(Op.equal k (enc a) (enc b)).run P w = .ok (decide (a=b)) w) (w:World) (a:α):∀ (es:List MapEntry) (i:Nat),(∀ e ∈ es,∃ b,e.key=enc b) →
  ((Instr.findAsking k (enc a) es i).run P w = .ok none w∧∀ e ∈ es,∃ b,e.key=enc b∧b ≠ a) ∨ ∃ j e,(Instr.findAsking k (enc a) es i).run P w = .ok (some (i + j,e.val)) w∧es[j]? = some e∧e.key=enc a
 | [],i,_=>.inl ⟨by simp [Instr.findAsking],fun e he=>by cases he⟩
 | e::es,i,h=>by
  obtain ⟨b,hb⟩:=h e (by simp)
  by_cases hab:a=b
  ·refine .inr ⟨0,e,?_,rfl,by rw [hb,hab]⟩
   simp [Instr.findAsking,hb,heq,hab,Sem.run_bind]
  ·have hd:decide (a=b)=false:=by simpa using hab
   have step:(Instr.findAsking k (enc a) (e::es) i).run P w=(Instr.findAsking k (enc a) es (i + 1)).run P w:=by
    simp [Instr.findAsking,hb,heq,hd,Sem.run_bind]
   rcases run_findAsking heq w a es (i + 1) (fun e he=>h e (by simp [he])) with ⟨h1,h2⟩ | ⟨j,e',h1,h2,h3⟩
   ·refine .inl ⟨by rw [step,h1],fun e' he=>?_⟩
    rcases List.mem_cons.1 he with rfl | he
    ·exact ⟨b,hb,fun e=>hab e.symm⟩
    ·exact h2 e' he
   ·exact .inr ⟨j + 1,e',by rw [step,h1];congr 3;omega,by simpa using h2,h3⟩
theorem KeyLike.asked [DecidableEq α] {d:TypeDesc} (hd:P.underlying k=some d) (hno:∀ a es i,Instr.findNow d (enc a) es i=if es = [] then some none else none) (hi:∀ a b,enc a=enc b→a=b)
  (hc:∀ (w:World) (em:Bool) (a:α),(Instr.checkKey em 10000 k (enc a)).run P w = .ok () w) (heq:∀ w a b,(Op.equal k (enc a) (enc b)).run P w = .ok (decide (a=b)) w) (hs:∀ a,Instr.sameBits 10000 (enc a) (enc a)=true):KeyLike P k enc where
 inj:=hi
 check:=hc
 find w a es h:=by
  cases es with
  | nil=>exact .inl ⟨by simp [Instr.findKey,run_underlying hd,Result.andThen,hno],fun e he=>by cases he⟩
  | cons e es =>
   have step:(Instr.findKey k (enc a) (e::es)).run P w=(Instr.findAsking k (enc a) (e::es)).run P w:=by
    simp [Instr.findKey,run_underlying hd,Result.andThen,hno]
   rw [step]
   rcases run_findAsking heq w a (e::es) 0 h with ⟨h1,h2⟩ | ⟨j,e',h1,h2,h3⟩
   ·refine .inl ⟨h1,fun e' he hk=>?_⟩
    obtain ⟨b,hb,hne⟩:=h2 e' he
    exact hne (hi _ _ (hb.symm.trans hk))
   ·exact .inr ⟨j,e',by rw [h1,Nat.zero_add],h2,h3⟩
 stays w a:=by simp [Instr.keyThatStays,hs]
def MapFn (enc:α→Value) (W:World) (B n:Nat) (f:α→Option Value):Prop :=
 ∃ es c,W.heap[B]? = some (.map es c)∧es.size ≤ n∧(∀ e ∈ es.toList,∃ a,e.key=enc a∧f a=some e.val)∧∀ a v,f a=some v→∃ e ∈ es.toList,e.key=enc a
theorem MapFn.made {W:World} {B c:Nat} (h:W.heap[B]? = some (.map #[] c)):MapFn enc W B 0 (fun _=>none) :=
 ⟨#[],c,h,by simp,fun e he=>by simp at he,fun a v h=>by cases h⟩
theorem MapFn.keep {W W':World} {B n:Nat} {f:α→Option Value} (h:MapFn enc W B n f) (hk:∀ o,W.heap[B]? = some o→W'.heap[B]? = some o):MapFn enc W' B n f:=by
 obtain ⟨es,c,h1,r⟩:=h
 exact ⟨es,c,hk _ h1,r⟩
theorem MapFn.new {W W':World} {B n:Nat} {f:α→Option Value} (h:MapFn enc W B n f) (hN:New W W'):MapFn enc W' B n f:=h.keep fun _ ho=>hN.heap ho id
theorem MapFn.congr {W:World} {B n:Nat} {f g:α→Option Value} (h:MapFn enc W B n f) (hf:∀ a,f a=g a):MapFn enc W B n g:=by
 have e:f=g:=funext hf
 rwa [← e]
theorem MapFn.find (K:KeyLike P k enc) {W:World} {B n:Nat} {f:α→Option Value} (h:MapFn enc W B n f) (a:α) :
  ∃ es c,W.heap[B]? = some (.map es c)∧es.size ≤ n∧∃ r,(Instr.findKey k (enc a) es.toList).run P W = .ok r W∧r.map (·.2)=f a:=by
 obtain ⟨es,c,h1,hn,h2,h3⟩:=h
 refine ⟨es,c,h1,hn,?_⟩
 rcases K.find W a es.toList (fun e he=>by obtain ⟨b,hb,_⟩:=h2 e he;exact ⟨b,hb⟩) with ⟨hf,hne⟩ | ⟨j,e,hf,hj,hk⟩
 ·refine ⟨none,hf,?_⟩
  cases hfa:f a with
  | none=>rfl
  | some v =>
   obtain ⟨e,he,hk⟩:=h3 a v hfa
   exact absurd hk (hne e he)
 ·refine ⟨_,hf,?_⟩
  obtain ⟨b,hb,hv⟩:=h2 e (List.mem_of_getElem? hj)
  rw [K.inj _ _ (hk.symm.trans hb),hv]
  rfl
theorem MapFn.look (K:KeyLike P k enc) {t e:TypeId} (ht:P.underlying t=some (.map k e)) {W:World} {z:Value} (hz:(zeroValue e).run P W = .ok z W) {B n:Nat} {f:α→Option Value} (h:MapFn enc W B n f) (a:α) (ok:Bool) :
  (Instr.lookup t (.map (some B)) (enc a) ok).run P W = .ok (if ok then .tuple #[(f a).getD z,.bool (f a).isSome] else (f a).getD z) W:=by
 obtain ⟨es,c,h1,_,r,hf,hr⟩:=h.find K a
 have hg:=MapKept.run_getObj_map (P:=P) h1
 simp only [Instr.lookup,Sem.run_bind,run_underlying ht W,Result.andThen_ok,hg,Sem.run_pure,K.check,hf]
 rw [← hr]
 cases r with
 | none=>cases ok <;> simp [hz]
 | some p=>cases ok <;> simp
theorem MapFn.put [DecidableEq α] (K:KeyLike P k enc) {t e:TypeId} (ht:P.underlying t=some (.map k e)) {W:World} {B n:Nat} {f:α→Option Value} (h:MapFn enc W B n f) (a:α) (v:Value) (hfa:f a=none) :
  ∃ o,(Instr.mapUpdate t (.map (some B)) (enc a) v).run P W = .ok () (W.putObj B o)∧o.isCells=false∧MapFn enc (W.putObj B o) B (n + 1) (fun b=>if b=a then some v else f b):=by
 obtain ⟨es,c,h1,hn,h2,h3⟩:=h
 have hg:=MapKept.run_getObj_map (P:=P) h1
 have hs:=fun o=>MapKept.run_setObj_map (P:=P) o h1
 have hlt:=(Array.getElem?_eq_some_iff.1 h1).1
 rcases K.find W a es.toList (fun e he=>by obtain ⟨b,hb,_⟩:=h2 e he;exact ⟨b,hb⟩) with ⟨hf,hne⟩ | ⟨j,e',hf,hj,hk⟩
 ·refine ⟨.map (es.push { key:=enc a,val:=v,born:=c }) (c + 1),?_,rfl,es.push { key:=enc a,val:=v,born:=c },c + 1,World.putObj_heap_same hlt,by simp;omega,?_,?_⟩
  ·simp only [Instr.mapUpdate,Sem.run_bind,run_underlying ht W,Result.andThen_ok,hg,K.check,hf,hs]
   rfl
  ·intro x hx
   rw [Array.toList_push,List.mem_append] at hx
   rcases hx with hx | hx
   ·obtain ⟨b,hb,hv⟩:=h2 x hx
    exact ⟨b,hb,(if_neg (fun e=>hne x hx (by rw [hb,e]))).trans hv⟩
   ·rw [List.mem_singleton] at hx
    subst hx
    exact ⟨a,rfl,by simp⟩
  ·intro b u hb
   rw [Array.toList_push]
   by_cases e:b=a
   ·exact ⟨{ key:=enc a,val:=v,born:=c },by simp,by rw [e]⟩
   ·have hb:(if b=a then some v else f b)=some u:=hb
    rw [if_neg e] at hb
    obtain ⟨x,hx,hk⟩:=h3 b u hb
    exact ⟨x,by simp [hx],hk⟩
 ·obtain ⟨b,hb,hv⟩:=h2 e' (List.mem_of_getElem? hj)
  rw [← K.inj _ _ (hk.symm.trans hb),hfa] at hv
  cases hv
end Go.Cs
namespace Go.Proofs.YtkiiameibdhdfaaGreatDoor
open Go.RowKit Go.Shelf Go.Cs
attribute [local go_sem] Oper.semAt_some


def ItI (b:Bare.It):Prop:=-9223372036854775808 ≤ b.int∧b.int ≤ 9223372036854775807
end Go.Proofs.YtkiiameibdhdfaaGreatDoor
namespace Go.Proofs.YtkiiameibdhdfaaGreatDoor
open Go.RowKit Go.Shelf Go.Cs Go.ChangeShapes Go.WideShapes Go.ChangeAt Go.WideMaps Go.WideElems Go.ChangeMaps

theorem weightsAll_mem {H:Type} {P:Program} {e:TypeId}:∀ {l:List (DataW H)} {d:DataW H},d ∈ l→∀ n ∈ d.weights P e,n ∈ DataW.weightsAll P e l
 | d'::r,d,hd,n,hn=>by
  simp only [DataW.weightsAll,List.mem_append]
  rcases List.mem_cons.1 hd with rfl | h
  ·exact Or.inl hn
  ·exact Or.inr (weightsAll_mem h n hn)
section
variable {H:Type} {enc:TypeId × Value→H} {w:World} {base:Nat} {spare:Nat→Bool} {held:Bool} {fuel:Nat}
theorem len_four {α:Type}:∀ {l:List α},l.length=4→∃ a b c d,l = [a,b,c,d]
 | [a,b,c,d],_=>⟨a,b,c,d,rfl⟩
theorem len_two {α:Type}:∀ {l:List α},l.length=2→∃ a b,l = [a,b]
 | [a,b],_=>⟨a,b,rfl⟩
theorem byte_of_wf {n:Int} (h:(Lit.int .u8 n).wf=true):0 ≤ n∧n ≤ 255:=by
 simp [Lit.wf] at h
 exact ⟨Int.le_trans (by decide) h.1,Int.le_trans h.2 (by decide)⟩
theorem i64_of_wf {n:Int} (h:(Lit.int .i64 n).wf=true):-9223372036854775808 ≤ n∧n ≤ 9223372036854775807:=by
 simp [Lit.wf] at h
 exact h
def BaIn (b:Bare.It):Prop:=(0 ≤ b.kind∧b.kind ≤ 255)∧ItI b∧b.text.length ≤ 9223372036854775807
theorem open_bare {cs:List Value} {x:DataW H × List MemPlace} (h:DataW.trod enc Tryz.prog w base spare held fuel 66 cs=some x) :
  ∃ b:Bare.It,cs=bcs b∧BaIn b∧((∀ n ∈ x.1.weights Tryz.prog 66,n ≤ reachBytes)→b.text.length ≤ reachBytes):=by
 obtain ⟨xs,n,rfl,rfl,hl,hn,hf⟩:=DataW.trod_struct Tryz.underlying66 h
 have cB:Tryz.prog.cellsOf 66=4:=by kernel_rfl
 have c3:Tryz.prog.cellsOf 3=1:=by kernel_rfl
 have c4:Tryz.prog.cellsOf 4=1:=by kernel_rfl
 have c5:Tryz.prog.cellsOf 5=1:=by kernel_rfl
 have c9:Tryz.prog.cellsOf 9=1:=by kernel_rfl
 rw [cB] at hl
 have hn:xs.length=4:=hn
 obtain ⟨a0,a1,a2,a3,rfl⟩:=len_four hl
 obtain ⟨x0,x1,x2,x3,rfl⟩:=len_four hn
 have g0:DataW.trod enc Tryz.prog w base spare held n 5 [a0]=some x0:=by
  have:(([a0,a1,a2,a3]:List Value).drop 0).take (Tryz.prog.cellsOf 5) = [a0]:=by rw [c5];rfl
  rw [← this];exact hf 0 _ rfl
 have g1:DataW.trod enc Tryz.prog w base spare held n 3 [a1]=some x1:=by
  have:(([a0,a1,a2,a3]:List Value).drop 1).take (Tryz.prog.cellsOf 3) = [a1]:=by rw [c3];rfl
  rw [← this];exact hf 1 _ rfl
 have g2:DataW.trod enc Tryz.prog w base spare held n 9 [a2]=some x2:=by
  have:(([a0,a1,a2,a3]:List Value).drop 2).take (Tryz.prog.cellsOf 9) = [a2]:=by rw [c9];rfl
  rw [← this];exact hf 2 _ rfl
 have g3:DataW.trod enc Tryz.prog w base spare held n 4 [a3]=some x3:=by
  have:(([a0,a1,a2,a3]:List Value).drop 3).take (Tryz.prog.cellsOf 4) = [a3]:=by rw [c4];rfl
  rw [← this];exact hf 3 _ rfl
 obtain ⟨n0,e0,y0,w0⟩:=DataW.trod_int Tryz.underlying5 g0
 obtain ⟨n1,e1,y1,w1⟩:=DataW.trod_int Tryz.underlying3 g1
 obtain ⟨s2,e2,y2,hs2⟩:=DataW.trod_string Tryz.underlying9 g2
 obtain ⟨y3,e3,y3'⟩:=DataW.trod_bool Tryz.underlying4 g3
 cases e0
 cases e1
 cases e2
 cases e3
 have hbl:(bl s2).length=s2.size:=bl_len s2
 refine ⟨⟨n0,n1,bl s2,y3⟩,by unfold bcs;rw [tx_bl],⟨byte_of_wf w0,i64_of_wf w1,?_⟩,fun hw=>?_⟩
 ·unfold maxLen at hs2
  show (bl s2).length ≤ _
  omega
 ·subst y2
  have:=hw s2.data.toList.length (by
   simp only [DataW.weights,Tryz.underlying66]
   simp [DataW.weightsEach,DataW.weights,y0,y1,y3'])
  show (bl s2).length ≤ _
  rw [hbl]
  simpa using this
theorem open_rowW {t e C B:Nat} {v:Value} {x:DataW H × List MemPlace} (ht:Tryz.prog.underlying t=some (.slice e)) (hC:Tryz.prog.cellsOf e=C) (hB:Tryz.prog.bytesOf e=B) (h0:0 < C) (h:DataW.trod enc Tryz.prog w base spare held fuel t [v]=some x)
  (hw:∀ n ∈ x.1.weights Tryz.prog t,n ≤ reachBytes) {α:Type} (R:List Value→α→Prop) (d0:α)
  (hel:∀ (cs:List Value) (y:DataW H × List MemPlace) (n:Nat),DataW.trod enc Tryz.prog w base spare held n e cs=some y→(∀ k ∈ y.1.weights Tryz.prog e,k ≤ reachBytes)→∃ a,R cs a) :
  ∃ (L:List α) (ao:Option Addr) (cap:Nat),v = .slice ao L.length cap∧L.length * B ≤ reachBytes∧∃ f:Nat→List Value,∀ i,i < L.length→R (f i) (L.getD i d0)∧∃ b o,ao=some ⟨b,o,none⟩∧w.rangeAt b (o + i * C) (f i):=by
 rcases DataW.trod_slice ht h with ⟨hc,rfl⟩ | ⟨a,len,cap,elems,rest,n,rfl,hc,rfl,hb,hl,hm,hle,hi,-,-⟩
 ·obtain rfl:v = .slice none 0 0:=by simpa using hc
  exact ⟨[],none,0,rfl,by simp,fun _=>[],fun i hi=>by simp at hi⟩
 ·obtain rfl:v = .slice (some a) len cap:=by simpa using hc
  have hwe:∀ (i:Nat) (y:DataW H × List MemPlace),elems[i]? = some y→∀ k ∈ y.1.weights Tryz.prog e,k ≤ reachBytes:=fun i y hy k hk=>hw k (by
   have hmem:y.1 ∈ elems.map (·.1):=List.mem_map.2 ⟨_,List.mem_of_getElem? hy,rfl⟩
   have:=weightsAll_mem (P:=Tryz.prog) (e:=e) hmem k hk
   simp only [DataW.weights,ht,List.mem_cons,List.mem_append]
   exact .inr (.inl this))
  have hlen:len * B ≤ reachBytes:=by
   have:=hw _ (by simp only [DataW.weights,ht];exact List.mem_cons_self ..)
   rw [hB,List.length_map,hle] at this
   refine Nat.le_trans (Nat.mul_le_mul_right _ (Nat.le_add_right _ _)) this
  have hone:∀ i,i < len→∃ a':α × List Value,R a'.2 a'.1∧∃ b o,some a=some ⟨b,o,none⟩∧w.rangeAt b (o + i * C) a'.2:=by
   intro i hil
   have hE:=hi i hil
   obtain ⟨y,hy⟩:=take_some hle hil
   rw [hy] at hE
   obtain ⟨cs',hcs,htr⟩:=Option.bind_eq_some_iff.1 hE
   obtain ⟨r,hr⟩:=hel cs' y _ htr (hwe i y hy)
   refine ⟨(r,cs'),hr,?_⟩
   obtain ⟨_,hcl,hat⟩:=World.cells?_some hcs
   rw [hC] at hcl hat
   obtain ⟨b,o,sp⟩:=a
   obtain rfl:sp=none:=by
    have hE0:=hi 0 (by omega)
    obtain ⟨y0,hy0⟩:=take_some hle (show 0 < len by omega)
    obtain ⟨cs0,hcs0,_⟩:=Option.bind_eq_some_iff.1 (hE0.trans hy0)
    obtain ⟨_,hcl0,hat0⟩:=World.cells?_some hcs0
    rw [hC] at hcl0 hat0
    have hs0:=hat0 0 (by omega)
    rw [List.getElem?_eq_getElem (by omega)] at hs0
    have hsp:=spot_none hs0
    simpa [Addr.add] using hsp
   refine ⟨b,o,rfl,fun j u hj=>?_⟩
   have hjl:j < C:=by
    rcases Nat.lt_or_ge j C with h | h
    ·exact h
    ·have hj':cs'[j]? = some u:=hj
     rw [List.getElem?_eq_none (by omega)] at hj';cases hj'
   have:=hat j hjl
   have hj':cs'[j]? = some u:=hj
   rw [hj',Addr.add_mid,Addr.add_mid] at this
   exact this
  obtain ⟨L,hL,hR⟩:=choose_list len _ (d0,[]) hone
  refine ⟨L.map (·.1),some a,cap,by rw [List.length_map,hL],by rw [List.length_map,hL];exact hlen,fun i=>(L.getD i (d0,[])).2,fun i hi=>?_⟩
  rw [List.length_map] at hi
  obtain ⟨h1,h2⟩:=hR i (by omega)
  have e:(L.map (·.1)).getD i d0=(L.getD i (d0,[])).1:=by
   simp [List.getD,hi]
  rw [e]
  exact ⟨h1,h2⟩
end
end Go.Proofs.YtkiiameibdhdfaaGreatDoor
namespace Go.Proofs.YtkiiameibdhdfaaGreatDoor
open Go.RowKit Go.Shelf Go.Cs Go.ChangeShapes Go.WideShapes Go.ChangeAt Go.WideMaps Go.WideElems Go.ChangeMaps

def InP (L:List Bare.Par):Prop:=L.length * 56 ≤ reachBytes∧∀ p ∈ L,BaIn p.bare∧p.key.length ≤ reachBytes∧p.bare.text.length ≤ reachBytes
def InX (x:Bare.Itm):Prop:=BaIn x.bare∧x.bare.text.length ≤ reachBytes∧InP x.params
def InM (m:Bare.Mem):Prop:=m.key.length ≤ reachBytes∧m.items.length * 64 ≤ reachBytes∧(∀ x ∈ m.items,InX x)∧InP m.params
def InD (d:List Bare.Mem):Prop:=d.length * 72 ≤ reachBytes∧∀ m ∈ d,InM m
theorem reach_num:reachBytes=140737488351232:=rfl
theorem mem_getD {α:Type} {l:List α} {a d:α} (h:a ∈ l):∃ i,i < l.length∧l.getD i d=a:=by
 obtain ⟨i,hi⟩:=List.getElem?_of_mem h
 exact ⟨i,(List.getElem?_eq_some_iff.1 hi).1,by rw [List.getD_eq_getElem?_getD,hi];rfl⟩
section
variable {H:Type} {enc:TypeId × Value→H} {w:World} {base:Nat} {spare:Nat→Bool} {held:Bool} {fuel:Nat}
theorem len_five {α:Type}:∀ {l:List α},l.length=5→∃ a b c d e,l = [a,b,c,d,e]
 | [a,b,c,d,e],_=>⟨a,b,c,d,e,rfl⟩
theorem cB4:Tryz.prog.cellsOf 66=4:=by kernel_rfl
theorem cP5:Tryz.prog.cellsOf 73=5:=by kernel_rfl
theorem cX5:Tryz.prog.cellsOf 71=5:=by kernel_rfl
theorem cM4:Tryz.prog.cellsOf 64=4:=by kernel_rfl
theorem c91:Tryz.prog.cellsOf 9=1:=by kernel_rfl
theorem c41:Tryz.prog.cellsOf 4=1:=by kernel_rfl
theorem csP:Tryz.prog.cellsOf 62=1:=by kernel_rfl
theorem csX:Tryz.prog.cellsOf 61=1:=by kernel_rfl
theorem bP56:Tryz.prog.bytesOf 73=56:=by kernel_rfl
theorem bX64:Tryz.prog.bytesOf 71=64:=by kernel_rfl
theorem bM72:Tryz.prog.bytesOf 64=72:=by kernel_rfl
theorem weight_str {d:DataW H} {s:ByteArray} (h:d = .lit (.string s.data.toList)) {t:TypeId} (hw:∀ n ∈ d.weights Tryz.prog t,n ≤ reachBytes):(bl s).length ≤ reachBytes:=by
 subst h
 have:=hw s.data.toList.length (by simp [DataW.weights])
 rw [bl_len]
 simpa using this
theorem open_par {cs:List Value} {x:DataW H × List MemPlace} (h:DataW.trod enc Tryz.prog w base spare held fuel 73 cs=some x) (hw:∀ n ∈ x.1.weights Tryz.prog 73,n ≤ reachBytes) :
  ∃ p:Bare.Par,cs=pcs p∧BaIn p.bare∧p.key.length ≤ reachBytes∧p.bare.text.length ≤ reachBytes:=by
 obtain ⟨xs,n,rfl,rfl,hl,hn,hf⟩:=DataW.trod_struct Tryz.underlying73 h
 rw [cP5] at hl
 have hn:xs.length=2:=hn
 obtain ⟨a0,a1,a2,a3,a4,rfl⟩:=len_five hl
 obtain ⟨x0,x1,rfl⟩:=len_two hn
 have g0:DataW.trod enc Tryz.prog w base spare held n 9 [a0]=some x0:=by
  have:(([a0,a1,a2,a3,a4]:List Value).drop 0).take (Tryz.prog.cellsOf 9) = [a0]:=by rw [c91];rfl
  rw [← this];exact hf 0 _ rfl
 have g1:DataW.trod enc Tryz.prog w base spare held n 66 [a1,a2,a3,a4]=some x1:=by
  have:(([a0,a1,a2,a3,a4]:List Value).drop 1).take (Tryz.prog.cellsOf 66) = [a1,a2,a3,a4]:=by rw [cB4];rfl
  rw [← this];exact hf 1 _ rfl
 obtain ⟨s0,e0,y0,-⟩:=DataW.trod_string Tryz.underlying9 g0
 obtain ⟨b,e1,hb,hr⟩:=open_bare g1
 cases e0
 have hq:∀ (t:TypeId) (y:DataW H × List MemPlace) (i:Nat),[(9,x0),(66,x1)][i]? = some (t,y)→∀ k ∈ y.1.weights Tryz.prog t,k ≤ reachBytes:=fun t y i hi k hk=>hw k (by
  simp only [DataW.weights,Tryz.underlying73]
  match i with
  | 0=>cases hi;simp [DataW.weightsEach];exact .inl hk
  | 1=>cases hi;simp [DataW.weightsEach];exact .inr hk
  | i + 2=>cases hi)
 refine ⟨⟨bl s0,b⟩,?_,hb,?_,hr (hq _ _ 1 rfl)⟩
 ·unfold pcs
  rw [tx_bl]
  unfold bcs at e1
  rw [e1]
 ·subst y0
  exact weight_str rfl (hq _ _ 0 rfl)
theorem open_P {v:Value} {x:DataW H × List MemPlace} (h:DataW.trod enc Tryz.prog w base spare held fuel 62 [v]=some x) (hw:∀ n ∈ x.1.weights Tryz.prog 62,n ≤ reachBytes) :
  ∃ L:List Bare.Par,RdP false w v L∧InP L:=by
 obtain ⟨L,ao,cap,rfl,hl,f,hf⟩:=open_rowW Tryz.underlying62 cP5 bP56 (by decide) h hw (fun cs p=>cs=pcs p∧BaIn p.bare∧p.key.length ≤ reachBytes∧p.bare.text.length ≤ reachBytes) noP (fun cs y n hy hk=>open_par hy hk)
 rw [reach_num] at hl
 refine ⟨L,⟨⟨by omega,ao,cap,rfl,fun i hi=>?_⟩,tag_none⟩,by rw [reach_num];exact hl,fun p hp=>?_⟩
 ·obtain ⟨⟨e,-⟩,b,o,ha,hr⟩:=hf i hi
  rw [e] at hr
  exact ⟨b,o,ha,hr⟩
 ·obtain ⟨i,hi,rfl⟩:=mem_getD (d:=noP) hp
  exact (hf i hi).1.2
theorem open_itm {cs:List Value} {x:DataW H × List MemPlace} (h:DataW.trod enc Tryz.prog w base spare held fuel 71 cs=some x) (hw:∀ n ∈ x.1.weights Tryz.prog 71,n ≤ reachBytes) :
  ∃ (y:Bare.Itm),(∃ pv,cs=ics y pv∧RdP false w pv y.params)∧InX y:=by
 obtain ⟨xs,n,rfl,rfl,hl,hn,hf⟩:=DataW.trod_struct Tryz.underlying71 h
 rw [cX5] at hl
 have hn:xs.length=2:=hn
 obtain ⟨a0,a1,a2,a3,a4,rfl⟩:=len_five hl
 obtain ⟨x0,x1,rfl⟩:=len_two hn
 have g0:DataW.trod enc Tryz.prog w base spare held n 66 [a0,a1,a2,a3]=some x0:=by
  have:(([a0,a1,a2,a3,a4]:List Value).drop 0).take (Tryz.prog.cellsOf 66) = [a0,a1,a2,a3]:=by rw [cB4];rfl
  rw [← this];exact hf 0 _ rfl
 have g1:DataW.trod enc Tryz.prog w base spare held n 62 [a4]=some x1:=by
  have:(([a0,a1,a2,a3,a4]:List Value).drop 4).take (Tryz.prog.cellsOf 62) = [a4]:=by rw [csP];rfl
  rw [← this];exact hf 1 _ rfl
 have hq:∀ (t:TypeId) (y:DataW H × List MemPlace) (i:Nat),[(66,x0),(62,x1)][i]? = some (t,y)→∀ k ∈ y.1.weights Tryz.prog t,k ≤ reachBytes:=fun t y i hi k hk=>hw k (by
  simp only [DataW.weights,Tryz.underlying71]
  match i with
  | 0=>cases hi;simp [DataW.weightsEach];exact .inl hk
  | 1=>cases hi;simp [DataW.weightsEach];exact .inr hk
  | i + 2=>cases hi)
 obtain ⟨b,e1,hb,hr⟩:=open_bare g0
 obtain ⟨L,hL,hLI⟩:=open_P g1 (hq _ _ 1 rfl)
 refine ⟨⟨b,L⟩,⟨a4,?_,hL⟩,hb,hr (hq _ _ 0 rfl),hLI⟩
 unfold ics
 unfold bcs at e1
 rw [List.cons.injEq,List.cons.injEq,List.cons.injEq,List.cons.injEq] at e1
 obtain ⟨rfl,rfl,rfl,rfl,-⟩:=e1
 rfl
theorem open_X {v:Value} {x:DataW H × List MemPlace} (h:DataW.trod enc Tryz.prog w base spare held fuel 61 [v]=some x) (hw:∀ n ∈ x.1.weights Tryz.prog 61,n ≤ reachBytes) :
  ∃ L:List Bare.Itm,RdI false w v L∧L.length * 64 ≤ reachBytes∧∀ y ∈ L,InX y:=by
 obtain ⟨L,ao,cap,rfl,hl,f,hf⟩:=open_rowW Tryz.underlying61 cX5 bX64 (by decide) h hw (fun cs y=>(∃ pv,cs=ics y pv∧RdP false w pv y.params)∧InX y) Bare.noI (fun cs y n hy hk=>open_itm hy hk)
 rw [reach_num] at hl
 refine ⟨L,⟨fun i=>(f i).getD 4 undef,⟨by omega,ao,cap,rfl,fun i hi=>?_⟩,tag_none,fun i hi=>?_⟩,by rw [reach_num];exact hl,fun p hp=>?_⟩
 ·obtain ⟨⟨⟨pv,e,-⟩,-⟩,b,o,ha,hr⟩:=hf i hi
  refine ⟨b,o,ha,?_⟩
  dsimp only
  rw [e] at hr ⊢
  exact hr
 ·obtain ⟨⟨⟨pv,e,hp⟩,-⟩,-⟩:=hf i hi
  dsimp only
  rw [e]
  exact hp
 ·obtain ⟨i,hi,rfl⟩:=mem_getD (d:=Bare.noI) hp
  exact (hf i hi).1.2
theorem open_mem {cs:List Value} {x:DataW H × List MemPlace} (h:DataW.trod enc Tryz.prog w base spare held fuel 64 cs=some x) (hw:∀ n ∈ x.1.weights Tryz.prog 64,n ≤ reachBytes) :
  ∃ (m:Bare.Mem),(∃ iv pv,cs=mcs m iv pv∧RdI false w iv m.items∧RdP false w pv m.params)∧InM m:=by
 obtain ⟨xs,n,rfl,rfl,hl,hn,hf⟩:=DataW.trod_struct Tryz.underlying64 h
 rw [cM4] at hl
 have hn:xs.length=4:=hn
 obtain ⟨a0,a1,a2,a3,rfl⟩:=len_four hl
 obtain ⟨x0,x1,x2,x3,rfl⟩:=len_four hn
 have g0:DataW.trod enc Tryz.prog w base spare held n 9 [a0]=some x0:=by
  have:(([a0,a1,a2,a3]:List Value).drop 0).take (Tryz.prog.cellsOf 9) = [a0]:=by rw [c91];rfl
  rw [← this];exact hf 0 _ rfl
 have g1:DataW.trod enc Tryz.prog w base spare held n 4 [a1]=some x1:=by
  have:(([a0,a1,a2,a3]:List Value).drop 1).take (Tryz.prog.cellsOf 4) = [a1]:=by rw [c41];rfl
  rw [← this];exact hf 1 _ rfl
 have g2:DataW.trod enc Tryz.prog w base spare held n 61 [a2]=some x2:=by
  have:(([a0,a1,a2,a3]:List Value).drop 2).take (Tryz.prog.cellsOf 61) = [a2]:=by rw [csX];rfl
  rw [← this];exact hf 2 _ rfl
 have g3:DataW.trod enc Tryz.prog w base spare held n 62 [a3]=some x3:=by
  have:(([a0,a1,a2,a3]:List Value).drop 3).take (Tryz.prog.cellsOf 62) = [a3]:=by rw [csP];rfl
  rw [← this];exact hf 3 _ rfl
 have hq:∀ (t:TypeId) (y:DataW H × List MemPlace) (i:Nat),[(9,x0),(4,x1),(61,x2),(62,x3)][i]? = some (t,y)→∀ k ∈ y.1.weights Tryz.prog t,k ≤ reachBytes:=fun t y i hi k hk=>hw k (by
  simp only [DataW.weights,Tryz.underlying64]
  match i with
  | 0=>cases hi;simp [DataW.weightsEach];exact .inl hk
  | 1=>cases hi;simp [DataW.weightsEach];exact .inr (.inl hk)
  | 2=>cases hi;simp [DataW.weightsEach];exact .inr (.inr (.inl hk))
  | 3=>cases hi;simp [DataW.weightsEach];exact .inr (.inr (.inr hk))
  | i + 4=>cases hi)
 obtain ⟨s0,e0,y0,-⟩:=DataW.trod_string Tryz.underlying9 g0
 obtain ⟨b1,e1,-⟩:=DataW.trod_bool Tryz.underlying4 g1
 obtain ⟨I,hI,hIl,hII⟩:=open_X g2 (hq _ _ 2 rfl)
 obtain ⟨L,hL,hLI⟩:=open_P g3 (hq _ _ 3 rfl)
 cases e0
 cases e1
 refine ⟨⟨bl s0,b1,I,L⟩,⟨a2,a3,by unfold mcs;rw [tx_bl],hI,hL⟩,?_,hIl,hII,hLI⟩
 subst y0
 exact weight_str rfl (hq _ _ 0 rfl)
theorem open_D {v:Value} {x:DataW H × List MemPlace} (h:DataW.trod enc Tryz.prog w base spare held fuel 51 [v]=some x) (hw:∀ n ∈ x.1.weights Tryz.prog 51,n ≤ reachBytes) :
  ∃ d:List Bare.Mem,RdD false w v d∧InD d:=by
 obtain ⟨L,ao,cap,rfl,hl,f,hf⟩:=open_rowW Tryz.underlying51 cM4 bM72 (by decide) h hw (fun cs m=>(∃ iv pv,cs=mcs m iv pv∧RdI false w iv m.items∧RdP false w pv m.params)∧InM m) noM (fun cs y n hy hk=>open_mem hy hk)
 rw [reach_num] at hl
 refine ⟨L,⟨fun i=>(f i).getD 2 undef,fun i=>(f i).getD 3 undef,⟨by omega,ao,cap,rfl,fun i hi=>?_⟩,tag_none,fun i hi=>?_⟩,by rw [reach_num];exact hl,fun p hp=>?_⟩
 ·obtain ⟨⟨⟨iv,pv,e,-⟩,-⟩,b,o,ha,hr⟩:=hf i hi
  refine ⟨b,o,ha,?_⟩
  dsimp only
  rw [e] at hr ⊢
  exact hr
 ·obtain ⟨⟨⟨iv,pv,e,h1,h2⟩,-⟩,-⟩:=hf i hi
  dsimp only
  rw [e]
  exact ⟨h1,h2⟩
 ·obtain ⟨i,hi,rfl⟩:=mem_getD (d:=noM) hp
  exact (hf i hi).1.2
end
end Go.Proofs.YtkiiameibdhdfaaGreatDoor
namespace Go.Proofs.YtkiiameibdhdfaaGreatDoor
open Go.RowKit Go.Shelf Go.Cs
attribute [local go_sem] Oper.semAt_some


def keyAt (k:Nat) (c:UInt8):Bool:=if k=0 then Bare.smlB c else Bare.inKey c
def keyM:Bare.Bs:=[95,45,46]
theorem keyB_at (l:Bare.Bs):Bare.keyB l=true ↔ l ≠ []∧∀ k c,l[k]? = some c→keyAt k c=true:=by
 cases l with
 | nil=>simp [Bare.keyB]
 | cons a r =>
  simp only [Bare.keyB,Bool.and_eq_true]
  constructor
  ·rintro ⟨h1,h2⟩
   refine ⟨by simp,fun k c hk=>?_⟩
   cases k with
   | zero=>simp at hk;subst hk;exact h1
   | succ k =>
    rw [List.getElem?_cons_succ] at hk
    exact List.all_eq_true.1 h2 c (List.mem_of_getElem? hk)
  ·rintro ⟨-,h⟩
   refine ⟨h 0 a rfl,List.all_eq_true.2 fun c hc=>?_⟩
   obtain ⟨k,hk⟩:=List.getElem?_of_mem hc
   exact h (k + 1) c hk
theorem key_bad (k:Nat) (c:UInt8):(!Bare.smlB c && ((k == 0) || (decide (c.toNat < 48) || decide (57 < c.toNat)) && !keyM.contains c)) = !keyAt k c:=by
 unfold keyAt Bare.inKey keyM
 by_cases hk:k=0
 ·subst hk;cases Bare.smlB c <;> simp
 ·rw [if_neg hk]
  have:(k == 0)=false:=by simpa using hk
  rw [this]
  have hd:Bare.digB c = !(decide (c.toNat < 48) || decide (57 < c.toNat)):=by
   unfold Bare.digB
   rw [Bool.eq_iff_iff]
   simp
  rw [hd]
  cases Bare.smlB c <;> cases (decide (c.toNat < 48) || decide (57 < c.toNat)) <;> cases [95,45,46].contains c <;> rfl
theorem keyM_o (c:UInt8):decide (Lib.indexByte keyM c < 0) = !keyM.contains c:=by
 have:=Lib.contains_iff_indexByte keyM c
 rw [this,← decide_not]
 exact decide_eq_decide.2 (by omega)
theorem small_any (c:UInt8) (w:World):Calls Tryz.prog 75 #[.int .u8 (c.toNat:Nat)] w fun e w'=>e = .returned (.bool (Bare.smlB c))∧w'=w:=by
  have h42:(c == 42)=decide ((c.toNat:Int)=42):=by
    rw [Bool.eq_iff_iff,beq_iff_eq,decide_eq_true_eq,← UInt8.toNat_inj]
    show c.toNat=42 ↔ _
    omega
  unfold Bare.smlB
  rw [h42]
  have ha:decide (97 ≤ c.toNat)=decide (97 ≤ (c.toNat:Int)):=decide_eq_decide.2 (by omega)
  have hb:decide (c.toNat ≤ 122)=decide ((c.toNat:Int) ≤ 122):=decide_eq_decide.2 (by omega)
  rw [ha,hb]
  have hlt:=UInt8.toNat_lt c
  obtain ⟨n,hn⟩:∃ n,c.toNat=n:=⟨_,rfl⟩
  rw [hn] at *
  clear h42 ha hb hn
  by_cases h1:97 ≤ (n:Int) <;> by_cases h2:(n:Int) ≤ 122 <;> by_cases h3:(n:Int)=42
  all_goals
    first
    | omega
    | (simp only [h1,h2,h3,decide_true,decide_false,Bool.and_true,Bool.or_true,Bool.true_and,Bool.false_and,Bool.and_false,Bool.or_false,Bool.true_or,Bool.false_or]
       go_enter Tryz.func75,Tryz.ntmps75
       go_wp2_with fail
       go_ret
       refine ⟨?_,rfl⟩
       first | rfl | simp [h3])
theorem key_any (s:ByteArray) (w:World) (hs:s.size ≤ 9223372036854775807) :
    Calls Tryz.prog 32 #[.string s] w fun e w'=>e = .returned (.bool (Bare.keyB (bl s)))∧New w w':=by
  have HB:=Lib.hid (keyB_at (bl s))
  obtain ⟨r,hr⟩:∃ r,Bare.keyB (bl s)=r:=⟨_,rfl⟩
  rw [hr] at HB ⊢
  clear hr
  have hcv:=Lib.run_convert_string_bytes (P:=Tryz.prog) w 9 113 5 s Tryz.underlying9 Tryz.underlying113 Tryz.underlying5
  have hN:New w (Lib.bytesWorld w 5 s):=by
    refine ⟨rfl,rfl,rfl,by rw [Lib.bytesWorld_size];omega,fun k o hk _=>?_⟩
    rw [Lib.bytesWorld_at_old w 5 s k (Array.getElem?_eq_some_iff.1 hk).1];exact hk
  have hcell:Hid (∀ k,k < s.size→(Lib.bytesWorld w 5 s).cell? ⟨w.heap.size,k,none⟩=some (.int .u8 ((gb s k).toNat:Nat))):=Lib.hid fun k hk=>Lib.bytesWorld_cell w 5 s k hk
  obtain ⟨W,hW⟩:∃ W,Lib.bytesWorld w 5 s=W:=⟨_,rfl⟩
  obtain ⟨B,hB⟩:∃ B,w.heap.size=B:=⟨_,rfl⟩
  obtain ⟨C,hC⟩:∃ C,grownCap w s.size 0 5=C:=⟨_,rfl⟩
  rw [hW,hB,hC] at hcv
  rw [hW] at hN
  rw [hW,hB] at hcell
  clear hW hB hC
  go_enter Tryz.func32,Tryz.ntmps32
  go_wp2_with fail
  go_loop [9] (fun c=>∃ k:Nat,k ≤ s.size∧c = .int .i64 k∧Hid (∀ j,j < k→keyAt j (gb s j)=true)) (fun c=>s.size - (intOf c).toNat)
  case atStart=>exact ⟨0,Nat.zero_le _,rfl,Lib.hid fun i hi=>by omega⟩
  case round =>
    obtain ⟨k,hk,rfl,hbef⟩:=hrel
    by_cases hlt:k < s.size
    · have hkd:decide ((k:Int) < (s.size:Int))=true:=decide_eq_true (by omega)
      have hix:=hcell.out k hlt
      have hnext:keyAt k (gb s k)=true→Hid (∀ j,j < k + 1→keyAt j (gb s j)=true):=fun hg=>Lib.hid fun i hi=>by
        by_cases hik:i < k
        · exact hbef.out i hik
        · obtain rfl:i=k:=by omega
          exact hg
      have hstop:keyAt k (gb s k)=false→r=false:=fun hg=>by
        rw [Bool.eq_false_iff]
        intro h
        have:=(HB.out.1 h).2 k _ (gb_get s k hlt)
        rw [hg] at this;cases this
      have Hbad:=Lib.hid (key_bad k (gb s k))
      have HL:=Lib.hid (small_any (gb s k))
      have eg:∀ args w,(callFunc 75 args).run Tryz.prog w = .ok (.enter 75 args) w:=enters_of Tryz.func75 (by kernel_rfl) rfl
      have Ho:=keyM_o (gb s k)
      have hback:((gb s k).toNat:Int).toNat.toUInt8=gb s k:=by simp
      have hk0:(k == 0)=decide ((k:Int)=0):=by
        rw [Bool.eq_iff_iff,beq_iff_eq,decide_eq_true_eq];omega
      have hA0:decide ((gb s k).toNat < 48)=decide (((gb s k).toNat:Int) < 48):=decide_eq_decide.2 (by omega)
      have hB0:decide (57 < (gb s k).toNat)=decide (57 < ((gb s k).toNat:Int)):=decide_eq_decide.2 (by omega)
      rw [hk0,hA0,hB0] at Hbad
      clear hbef hk0 hA0 hB0
      have HK:∀ W,Calls Tryz.prog 76 #[.string ⟨#[95,45,46]⟩,.int .u8 ((gb s k).toNat:Nat)] W fun e w'=>e = .returned (.int .i64 (Lib.indexByte keyM (gb s k)))∧w'=W:=fun W =>
        (Tryz.strings_IndexByte _ _ W).mono (by rintro e w' ⟨rfl,hw⟩;rw [hback];exact ⟨rfl,hw⟩)
      have HK:=Lib.hid HK
      obtain ⟨o,ho⟩:∃ o,Lib.indexByte keyM (gb s k)=o:=⟨_,rfl⟩
      rw [ho] at HK Ho
      obtain ⟨T,hT⟩:∃ x,keyAt k (gb s k)=x:=⟨_,rfl⟩
      obtain ⟨L,hL⟩:∃ x,Bare.smlB (gb s k)=x:=⟨_,rfl⟩
      obtain ⟨M,hM⟩:∃ x,keyM.contains (gb s k)=x:=⟨_,rfl⟩
      rw [hT] at Hbad hnext hstop
      rw [hL] at Hbad HL
      rw [hM] at Hbad Ho
      obtain ⟨n,hn⟩:∃ x,(gb s k).toNat=x:=⟨_,rfl⟩
      rw [hn] at HL HK Hbad hix
      clear ho hT hL hM hn hback
      obtain ⟨D,hD⟩:∃ x,decide ((n:Int) < 48)=x:=⟨_,rfl⟩
      obtain ⟨E,hE⟩:∃ x,decide (57 < (n:Int))=x:=⟨_,rfl⟩
      obtain ⟨Z,hZ⟩:∃ x,decide ((k:Int)=0)=x:=⟨_,rfl⟩
      have hZ2:((k:Int) == 0)=Z:=hZ
      rw [hE,hZ,hD] at Hbad
      have hcase:(L=true∧T=true) ∨ (L=false∧Z=true∧T=false) ∨ (L=false∧Z=false∧D=false∧E=false∧T=true) ∨ (L=false∧Z=false∧D=true∧M=true∧T=true) ∨ (L=false∧Z=false∧D=true∧M=false∧T=false) ∨ (L=false∧Z=false∧D=false∧E=true∧M=true∧T=true) ∨ (L=false∧Z=false∧D=false∧E=true∧M=false∧T=false):=by
        have:=Hbad.out
        revert this
        cases L <;> cases E <;> cases Z <;> cases D <;> cases M <;> cases T <;> simp
      clear Hbad
      rcases hcase with ⟨rfl,rfl⟩ | ⟨rfl,rfl,rfl⟩ | ⟨rfl,rfl,rfl,rfl,rfl⟩ | ⟨rfl,rfl,rfl,rfl,rfl⟩ | ⟨rfl,rfl,rfl,rfl,rfl⟩ | ⟨rfl,rfl,rfl,rfl,rfl,rfl⟩ | ⟨rfl,rfl,rfl,rfl,rfl,rfl⟩
      all_goals
        try simp only [Bool.not_true,Bool.not_false] at Ho
        first
        | (have hh:=hnext rfl
           clear hnext hstop
           go_wp2_with (first | (go_at_call 75;refine (HL.out _).mono ?_;rintro e w' ⟨rfl,rfl⟩) | (go_at_call 76;refine (HK.out _).mono ?_;rintro e w' ⟨rfl,rfl⟩))
           go_round
           case rel=>exact ⟨k + 1,by omega,by go_num,hh⟩
           case measure=>simp [intOf];omega)
        | (have hh:=hstop rfl
           clear hnext hstop
           subst hh
           go_wp2_with (first | (go_at_call 75;refine (HL.out _).mono ?_;rintro e w' ⟨rfl,rfl⟩) | (go_at_call 76;refine (HK.out _).mono ?_;rintro e w' ⟨rfl,rfl⟩))
           go_ret
           exact ⟨rfl,hN⟩)
    · obtain rfl:k=s.size:=by omega
      have hkd:decide ((s.size:Int) < (s.size:Int))=false:=decide_eq_false (by omega)
      have hr:r=decide (s.size ≠ 0):=by
        rw [Bool.eq_iff_iff,HB.out,decide_eq_true_eq]
        have hl:=bl_len s
        constructor
        · rintro ⟨h,-⟩ h0
          exact h (List.length_eq_zero_iff.1 (by omega))
        · intro h
          refine ⟨fun e=>h (by rw [← hl,e];rfl),fun k c hk=>?_⟩
          obtain ⟨h1,rfl⟩:=get_gb hk
          exact hbef.out k h1
      have hq':=empty_toList s
      have hr2:r = !decide (s.size=0):=by rw [hr,← decide_not]
      obtain ⟨z,hz⟩:∃ z,decide (s.size=0)=z:=⟨_,rfl⟩
      rw [hz] at hq' hr2
      clear hz hr HB hbef
      subst hr2
      go_wp2_with fail
      go_ret
      exact ⟨by simp [hq'],hN⟩


def PredF (g:Nat) (lb:Array Value) (n:Nat) (f:Nat→List Value) (ok:World→Prop) (p:Nat→Bool):Prop :=
 ∀ i W,i < n→ok W→Calls Tryz.prog g (#[.agg (f i).toArray] ++ lb) W fun e w'=>e = .returned (.bool (p i))∧New W w'
def firstFrom (p:Nat→Bool) (n:Nat):Int:=match (List.range n).find? p with
 | some i=>(i:Int)
 | none=>-1
theorem first_at (p:Nat→Bool) (n:Nat) (k:Nat) (hk:k < n) (h:∀ j,j < k→p j=false) (hp:p k=true):firstFrom p n=k:=by
 have:(List.range n).find? p=some k:=by
  rw [List.find?_eq_some_iff_getElem]
  refine ⟨hp,k,by simpa using hk,by simp,fun j hj=>?_⟩
  simp [h j hj]
 unfold firstFrom
 rw [this]
theorem first_none (p:Nat→Bool) (n:Nat) (h:∀ j,j < n→p j=false):firstFrom p n = -1:=by
 have:(List.range n).find? p=none:=by
  rw [List.find?_eq_none]
  intro x hx
  rw [h x (List.mem_range.1 hx)]
  decide
 unfold firstFrom
 rw [this]
theorem first_any (p:Nat→Bool) (n:Nat):decide (firstFrom p n ≥ 0)=(List.range n).any p:=by
 unfold firstFrom
 rw [Bool.eq_iff_iff,decide_eq_true_eq,List.any_eq_true]
 cases h:(List.range n).find? p with
 | none =>
  rw [List.find?_eq_none] at h
  constructor
  ·intro h';simp at h'
  ·rintro ⟨x,hx,hp⟩;exact absurd hp (h x hx)
 | some i =>
  have h1:=List.mem_of_find?_eq_some h
  have h2:=List.find?_some h
  simp only [ge_iff_le,Int.natCast_nonneg,true_iff]
  exact ⟨i,h1,h2⟩
theorem index_P (g:Nat) (lb:Array Value) (n:Nat) (c:Nat→Nat→Value) (ok:World→Prop) (hok:∀ W W',ok W→New W W'→ok W') (p:Nat→Bool) (hg:PredF g lb n (fun i=>[c i 0,c i 1,c i 2,c i 3,c i 4]) ok p) (eg:∀ args w,(callFunc g args).run Tryz.prog w = .ok (.enter g args) w) (v:Value) (w:World) (hv:RowR w v n 5 (fun i=>[c i 0,c i 1,c i 2,c i 3,c i 4])) (ho:ok w) :
  Calls Tryz.prog 155 #[v,.func (.func g) #[] lb] w fun e w'=>e = .returned (.int .i64 (firstFrom p n))∧New w w':=by
 have HG:=Lib.hid hg
 have HV:=Lib.hid hv
 have HO:=Lib.hid ho
 have HB:=Lib.hid (first_at p n)
 have HE:=Lib.hid (first_none p n)
 obtain ⟨ao,cap,rfl⟩:=hv.slice
 have hn:n ≤ 281474976710656:=hv.1
 clear hg hv ho
 obtain ⟨r,hr⟩:∃ r,firstFrom p n=r:=⟨_,rfl⟩
 rw [hr] at HB HE ⊢
 clear hr
 have hN0:New w w:=Mods.refl _ _
 go_enter Tryz.func155,Tryz.ntmps155
 go_wp2_with fail
 go_loopw [8] (fun t wr=>∃ k:Nat,k ≤ n∧t = .int .i64 k∧Hid (∀ j,j < k→p j=false)∧New w wr) (fun t _=>n - (intOf t).toNat)
 case atStart=>exact ⟨0,Nat.zero_le _,rfl,Lib.hid fun i hi=>by omega,hN0⟩
 case round =>
  obtain ⟨k,hk,rfl,hbef,hN⟩:=hrel
  by_cases hlt:k < n
  ·have hkd:decide ((k:Int) < (n:Int))=true:=decide_eq_true (by omega)
   obtain ⟨b,o,rfl,hrow⟩:=(HV.out.new hN).at.2.2 k hlt
   obtain ⟨k0,k1,k2,k3,k4⟩:=cells5 hrow
   have HP:=Lib.hid (HG.out k wr hlt (hok _ _ HO.out hN))
   clear hrow HV HG
   cases hp:p k with
   | false =>
    have hh:Hid (∀ j,j < k + 1→p j=false):=Lib.hid fun i hi=>by
     by_cases hik:i < k
     ·exact hbef.out i hik
     ·obtain rfl:i=k:=by omega
      exact hp
    rw [hp] at HP
    clear hp hbef HB HE
    go_wp2_with fail
    refine HP.out.mono ?_
    rintro e w' ⟨rfl,hN'⟩
    have hN2:=hN.trans hN'
    clear hN hN'
    go_wp2_with fail
    go_round
    case rel=>exact ⟨k + 1,by omega,by go_num,hh,hN2⟩
    case measure=>simp [intOf];omega
   | true =>
    obtain rfl:r=k:=HB.out k hlt hbef.out hp
    rw [hp] at HP
    clear hp hbef HB HE
    go_wp2_with fail
    refine HP.out.mono ?_
    rintro e w' ⟨rfl,hN'⟩
    have hN2:=hN.trans hN'
    clear hN hN'
    go_wp2_with fail
    go_ret
    exact ⟨rfl,hN2⟩
  ·obtain rfl:k=n:=by omega
   have hkd:decide ((k:Int) < (k:Int))=false:=decide_eq_false (by omega)
   obtain rfl:r = -1:=HE.out hbef.out
   clear HB HE hbef
   go_wp2_with fail
   go_ret
   exact ⟨rfl,hN⟩
theorem index_I (g:Nat) (lb:Array Value) (n:Nat) (c:Nat→Nat→Value) (ok:World→Prop) (hok:∀ W W',ok W→New W W'→ok W') (p:Nat→Bool) (hg:PredF g lb n (fun i=>[c i 0,c i 1,c i 2,c i 3,c i 4]) ok p) (eg:∀ args w,(callFunc g args).run Tryz.prog w = .ok (.enter g args) w) (v:Value) (w:World) (hv:RowR w v n 5 (fun i=>[c i 0,c i 1,c i 2,c i 3,c i 4])) (ho:ok w) :
  Calls Tryz.prog 110 #[v,.func (.func g) #[] lb] w fun e w'=>e = .returned (.int .i64 (firstFrom p n))∧New w w':=by
 have HG:=Lib.hid hg
 have HV:=Lib.hid hv
 have HO:=Lib.hid ho
 have HB:=Lib.hid (first_at p n)
 have HE:=Lib.hid (first_none p n)
 obtain ⟨ao,cap,rfl⟩:=hv.slice
 have hn:n ≤ 281474976710656:=hv.1
 clear hg hv ho
 obtain ⟨r,hr⟩:∃ r,firstFrom p n=r:=⟨_,rfl⟩
 rw [hr] at HB HE ⊢
 clear hr
 have hN0:New w w:=Mods.refl _ _
 go_enter Tryz.func110,Tryz.ntmps110
 go_wp2_with fail
 go_loopw [8] (fun t wr=>∃ k:Nat,k ≤ n∧t = .int .i64 k∧Hid (∀ j,j < k→p j=false)∧New w wr) (fun t _=>n - (intOf t).toNat)
 case atStart=>exact ⟨0,Nat.zero_le _,rfl,Lib.hid fun i hi=>by omega,hN0⟩
 case round =>
  obtain ⟨k,hk,rfl,hbef,hN⟩:=hrel
  by_cases hlt:k < n
  ·have hkd:decide ((k:Int) < (n:Int))=true:=decide_eq_true (by omega)
   obtain ⟨b,o,rfl,hrow⟩:=(HV.out.new hN).at.2.2 k hlt
   obtain ⟨k0,k1,k2,k3,k4⟩:=cells5 hrow
   have HP:=Lib.hid (HG.out k wr hlt (hok _ _ HO.out hN))
   clear hrow HV HG
   cases hp:p k with
   | false =>
    have hh:Hid (∀ j,j < k + 1→p j=false):=Lib.hid fun i hi=>by
     by_cases hik:i < k
     ·exact hbef.out i hik
     ·obtain rfl:i=k:=by omega
      exact hp
    rw [hp] at HP
    clear hp hbef HB HE
    go_wp2_with fail
    refine HP.out.mono ?_
    rintro e w' ⟨rfl,hN'⟩
    have hN2:=hN.trans hN'
    clear hN hN'
    go_wp2_with fail
    go_round
    case rel=>exact ⟨k + 1,by omega,by go_num,hh,hN2⟩
    case measure=>simp [intOf];omega
   | true =>
    obtain rfl:r=k:=HB.out k hlt hbef.out hp
    rw [hp] at HP
    clear hp hbef HB HE
    go_wp2_with fail
    refine HP.out.mono ?_
    rintro e w' ⟨rfl,hN'⟩
    have hN2:=hN.trans hN'
    clear hN hN'
    go_wp2_with fail
    go_ret
    exact ⟨rfl,hN2⟩
  ·obtain rfl:k=n:=by omega
   have hkd:decide ((k:Int) < (k:Int))=false:=decide_eq_false (by omega)
   obtain rfl:r = -1:=HE.out hbef.out
   clear HB HE hbef
   go_wp2_with fail
   go_ret
   exact ⟨rfl,hN⟩
theorem index_M (g:Nat) (lb:Array Value) (n:Nat) (c:Nat→Nat→Value) (ok:World→Prop) (hok:∀ W W',ok W→New W W'→ok W') (p:Nat→Bool) (hg:PredF g lb n (fun i=>[c i 0,c i 1,c i 2,c i 3]) ok p) (eg:∀ args w,(callFunc g args).run Tryz.prog w = .ok (.enter g args) w) (v:Value) (w:World) (hv:RowR w v n 4 (fun i=>[c i 0,c i 1,c i 2,c i 3])) (ho:ok w) :
  Calls Tryz.prog 71 #[v,.func (.func g) #[] lb] w fun e w'=>e = .returned (.int .i64 (firstFrom p n))∧New w w':=by
 have HG:=Lib.hid hg
 have HV:=Lib.hid hv
 have HO:=Lib.hid ho
 have HB:=Lib.hid (first_at p n)
 have HE:=Lib.hid (first_none p n)
 obtain ⟨ao,cap,rfl⟩:=hv.slice
 have hn:n ≤ 281474976710656:=hv.1
 clear hg hv ho
 obtain ⟨r,hr⟩:∃ r,firstFrom p n=r:=⟨_,rfl⟩
 rw [hr] at HB HE ⊢
 clear hr
 have hN0:New w w:=Mods.refl _ _
 go_enter Tryz.func71,Tryz.ntmps71
 go_wp2_with fail
 go_loopw [8] (fun t wr=>∃ k:Nat,k ≤ n∧t = .int .i64 k∧Hid (∀ j,j < k→p j=false)∧New w wr) (fun t _=>n - (intOf t).toNat)
 case atStart=>exact ⟨0,Nat.zero_le _,rfl,Lib.hid fun i hi=>by omega,hN0⟩
 case round =>
  obtain ⟨k,hk,rfl,hbef,hN⟩:=hrel
  by_cases hlt:k < n
  ·have hkd:decide ((k:Int) < (n:Int))=true:=decide_eq_true (by omega)
   obtain ⟨b,o,rfl,hrow⟩:=(HV.out.new hN).at.2.2 k hlt
   obtain ⟨k0,k1,k2,k3⟩:=cells4 hrow
   have HP:=Lib.hid (HG.out k wr hlt (hok _ _ HO.out hN))
   clear hrow HV HG
   cases hp:p k with
   | false =>
    have hh:Hid (∀ j,j < k + 1→p j=false):=Lib.hid fun i hi=>by
     by_cases hik:i < k
     ·exact hbef.out i hik
     ·obtain rfl:i=k:=by omega
      exact hp
    rw [hp] at HP
    clear hp hbef HB HE
    go_wp2_with fail
    refine HP.out.mono ?_
    rintro e w' ⟨rfl,hN'⟩
    have hN2:=hN.trans hN'
    clear hN hN'
    go_wp2_with fail
    go_round
    case rel=>exact ⟨k + 1,by omega,by go_num,hh,hN2⟩
    case measure=>simp [intOf];omega
   | true =>
    obtain rfl:r=k:=HB.out k hlt hbef.out hp
    rw [hp] at HP
    clear hp hbef HB HE
    go_wp2_with fail
    refine HP.out.mono ?_
    rintro e w' ⟨rfl,hN'⟩
    have hN2:=hN.trans hN'
    clear hN hN'
    go_wp2_with fail
    go_ret
    exact ⟨rfl,hN2⟩
  ·obtain rfl:k=n:=by omega
   have hkd:decide ((k:Int) < (k:Int))=false:=decide_eq_false (by omega)
   obtain rfl:r = -1:=HE.out hbef.out
   clear HB HE hbef
   go_wp2_with fail
   go_ret
   exact ⟨rfl,hN⟩
theorem contains_P (g:Nat) (lb:Array Value) (n:Nat) (c:Nat→Nat→Value) (ok:World→Prop) (hok:∀ W W',ok W→New W W'→ok W') (p:Nat→Bool) (hg:PredF g lb n (fun i=>[c i 0,c i 1,c i 2,c i 3,c i 4]) ok p) (eg:∀ args w,(callFunc g args).run Tryz.prog w = .ok (.enter g args) w) (v:Value) (w:World) (hv:RowR w v n 5 (fun i=>[c i 0,c i 1,c i 2,c i 3,c i 4])) (ho:ok w) :
  Calls Tryz.prog 108 #[v,.func (.func g) #[] lb] w fun e w'=>e = .returned (.bool ((List.range n).any p))∧New w w':=by
 have HI:=Lib.hid (index_P g lb n c ok hok p hg eg v w hv ho)
 have hx:=first_any p n
 obtain ⟨r,hr⟩:∃ r,firstFrom p n=r:=⟨_,rfl⟩
 obtain ⟨y,hy⟩:∃ y,(List.range n).any p=y:=⟨_,rfl⟩
 rw [hr] at HI hx
 rw [hy] at hx ⊢
 have hN0:New w w:=Mods.refl _ _
 clear hr hy hg hv ho hok
 subst hx
 go_enter Tryz.func108,Tryz.ntmps108
 go_wp2_with fail
 refine HI.out.mono ?_
 rintro e w' ⟨rfl,hN'⟩
 go_wp2_with fail
 go_ret
 exact ⟨rfl,hN'⟩
theorem contains_I (g:Nat) (lb:Array Value) (n:Nat) (c:Nat→Nat→Value) (ok:World→Prop) (hok:∀ W W',ok W→New W W'→ok W') (p:Nat→Bool) (hg:PredF g lb n (fun i=>[c i 0,c i 1,c i 2,c i 3,c i 4]) ok p) (eg:∀ args w,(callFunc g args).run Tryz.prog w = .ok (.enter g args) w) (v:Value) (w:World) (hv:RowR w v n 5 (fun i=>[c i 0,c i 1,c i 2,c i 3,c i 4])) (ho:ok w) :
  Calls Tryz.prog 68 #[v,.func (.func g) #[] lb] w fun e w'=>e = .returned (.bool ((List.range n).any p))∧New w w':=by
 have HI:=Lib.hid (index_I g lb n c ok hok p hg eg v w hv ho)
 have hx:=first_any p n
 obtain ⟨r,hr⟩:∃ r,firstFrom p n=r:=⟨_,rfl⟩
 obtain ⟨y,hy⟩:∃ y,(List.range n).any p=y:=⟨_,rfl⟩
 rw [hr] at HI hx
 rw [hy] at hx ⊢
 have hN0:New w w:=Mods.refl _ _
 clear hr hy hg hv ho hok
 subst hx
 go_enter Tryz.func68,Tryz.ntmps68
 go_wp2_with fail
 refine HI.out.mono ?_
 rintro e w' ⟨rfl,hN'⟩
 go_wp2_with fail
 go_ret
 exact ⟨rfl,hN'⟩
end Go.Proofs.YtkiiameibdhdfaaGreatDoor
namespace Go.Cs
open Go.RowKit
structure ModsM (S:Nat→Prop) (M:Nat) (w w':World):Prop where
 os:w'.os=w.os
 tape:w'.tape=w.tape
 output:w'.output=w.output
 size:w.heap.size ≤ w'.heap.size
 block:∀ k o,w.heap[k]? = some o→k ≠ M→(¬ S k ∨ o.isCells=false)→w'.heap[k]? = some o
theorem ModsM.refl (S:Nat→Prop) (M:Nat) (w:World):ModsM S M w w:=⟨rfl,rfl,rfl,Nat.le_refl _,fun _ _ h _ _=>h⟩
theorem ModsM.trans {S:Nat→Prop} {M:Nat} {a b c:World} (h:ModsM S M a b) (k:ModsM S M b c):ModsM S M a c :=
 ⟨k.os.trans h.os,k.tape.trans h.tape,k.output.trans h.output,Nat.le_trans h.size k.size,fun i o hi hm ho=>k.block i o (h.block i o hi hm ho) hm ho⟩
theorem Mods.toM {S:Nat→Prop} {a b:World} (h:Mods S a b) (M:Nat):ModsM S M a b:=⟨h.os,h.tape,h.output,h.size,fun i o hi _ ho=>h.block i o hi ho⟩
theorem ModsM.putObj {S:Nat→Prop} {M:Nat} {a w:World} (h:ModsM S M a w) (o:Obj):ModsM S M a (w.putObj M o) :=
 ⟨h.os,h.tape,h.output,by simpa using h.size,fun k o' hk hm ho=>(World.putObj_heap_other hm).trans (h.block k o' hk hm ho)⟩
theorem ModsM.heap {S:Nat→Prop} {M:Nat} {w w':World} (h:ModsM S M w w') {k:Nat} {o:Obj} (hk:w.heap[k]? = some o) (hM:k ≠ M) (hS:¬ S k):w'.heap[k]? = some o:=h.block k o hk hM (.inl hS)
theorem ModsM.new {M:Nat} {a b:World} (h:ModsM (fun _=>False) M a b) (hM:a.heap.size ≤ M):New a b :=
 ⟨h.os,h.tape,h.output,h.size,fun i o hi _=>h.block i o hi (by have:=(Array.getElem?_eq_some_iff.1 hi).1;omega) (.inl id)⟩
theorem ModsM.cell {S:Nat→Prop} {M:Nat} {w w':World} (h:ModsM S M w w') {p:Addr} {v:Value} (hc:w.cell? p=some v) (hM:p.block ≠ M) (hS:¬ S p.block):w'.cell? p=some v:=by
 obtain ⟨o,ho,_⟩:=cells_of_cell hc
 exact (World.cell?_of_block (w:=w) ((h.heap ho hM hS).trans ho.symm)).trans hc
def IterM (P:Program) (g:Nat) (lb:Array Value) (L:List (Array Value)) (S:Nat→Prop) (M:Nat) (W:World):Prop :=
 ∀ (l:Nat) (J Jx:Nat→World→Prop),(∀ k,∀ A A',J k A→New A A'→J k A')→(∀ k,∀ A A',Jx k A→New A A'→Jx k A') →
  (∀ k x W1,L[k]? = some x→J k W1→ModsM S M W W1→YieldAt Fence.wide 0 P l x W1 fun e W' =>
   (e = .returned (.bool true)∧J (k + 1) W'∧ModsM S M W1 W') ∨ (e = .returned (.bool false)∧Jx (k + 1) W')) →
  J 0 W →
  Calls P g (#[.func (.yield l) #[] #[]] ++ lb) W fun e W'=>(∃ v,e = .returned v)∧(J L.length W' ∨ ∃ k,k ≤ L.length∧Jx k W')
def roundM (S:Nat→Prop) (M:Nat) (I:Nat→World→Prop) (Ix:Code→Nat→World→Prop) (k:Nat) (W:World):Exit→Act→World→Prop
 | .normal,_,W'=>ModsM S M W W'∧I k W'
 | .ret,_,W'=>ModsM S M W W'∧Ix .ret k W'
 | .exit id,_,W'=>ModsM S M W W'∧Ix (.exit id) k W'
 | .goto t,_,W'=>ModsM S M W W'∧Ix (.goto t) k W'
 | .panic _,_,_=>False
 | .outgrown,_,_=>False
variable {P:Program}
def OthersM (M:Nat) (A W:World):Prop:=∀ (k:Nat) (o:Obj),A.heap[k]? = some o→k ≠ M→o.isCells=false→W.heap[k]? = some o
theorem rangeM_core (r:Option Nat)
  {g:Operand} {ps:Array Tmp} {assign body:Code} {Q:Exit→Act→World→Prop} {a:Act} {w:World}
  {gf:Nat} {lb:Array Value} (hg:a.eval g = .func (.func gf) #[] lb) (eg:∀ args w,(callFunc gf args).run P w = .ok (.enter gf args) w)
  (L:List (Array Value)) (S:Nat→Prop) (M:Nat) (hM:M < w.heap.size) (hit:∀ W,New w W→IterM P gf lb L S M W) (hps:∀ x ∈ L,x.size=ps.size)
  (W0:World) (hW0:New w W0) (mark:List Deferred) (d:Nat)
  (henter:∀ fn,(Instr.enterLoop fn a.tmps ps assign body r).run P w = .ok (W0.heap.size,mark) (W0.alloc (.loop { state:=.ready,pending:=none,fn,tmps:=a.tmps,params:=ps,assign,body,defers:=d })))
  (I:Nat→World→Prop) (Ix:Code→Nat→World→Prop) (hI:∀ k,Stab w.heap.size (I k)) (hIx:∀ c k,Stab w.heap.size (Ix c k)) (h0:I 0 w)
  (hround:∀ (l k:Nat) (x:Array Value) (W:World),L[k]? = some x→w.heap.size ≤ l→(∃ r,W.heap[l]? = some (.loop r))→I k W →
   assign.wpIn (Fr (some l)) 0 P (Exit.then (fun a1 W1=>ModsM S M W W1∧∀ W2,Quiet w.heap.size W1 W2→(∃ r,W2.heap[l]? = some (.loop r))→body.wpIn (Fr (some l)) 0 P (roundM S M I Ix (k + 1) W2) a1 W2) (fun _ _ _=>False))
    { tmps:=(ps.zip x).foldl (fun t (p,v)=>t.setIfInBounds p v) a.tmps,defers:=[] } W)
  (hdone:∀ W,I L.length W→OthersM M W0 W→Q .normal { a with defers:=mark ++ a.defers } W)
  (hstop:∀ c k W,k ≤ L.length→Ix c k W→OthersM M W0 W→c.wpIn (Fr r) 0 P Q { a with defers:=mark ++ a.defers } W) :
  (Code.rangeFunc g ps assign body).wpIn (Fr r) 0 P Q a w:=by
 refine wpIn_rangeFunc ?_
 intro fn _
 obtain ⟨rec,hrec⟩:∃ rec:LoopState→Option Code→Loop,rec=fun st pe=>{ state:=st,pending:=pe,fn,tmps:=a.tmps,params:=ps,assign,body,defers:=d }:=⟨_,rfl⟩
 obtain ⟨W1,hW1⟩:∃ W1,W0.alloc (.loop (rec .ready none))=W1:=⟨_,rfl⟩
 obtain ⟨l,hl0⟩:∃ l,W0.heap.size=l:=⟨_,rfl⟩
 have hL1:W1.heap[l]? = some (.loop (rec .ready none)):=by rw [← hW1,← hl0];exact World.alloc_heap_new W0 _
 have hN1:New w W1:=by rw [← hW1];exact hW0.alloc _
 have hwl:w.heap.size ≤ l:=by rw [← hl0];exact hW0.size
 have hlM:l ≠ M:=by omega
 have hC1:OthersM M W0 W1:=fun k o hk _ _=>by
  rw [← hW1];exact (Below.heap_alloc W0 _ k (Array.getElem?_eq_some_iff.1 hk).1).trans hk
 refine ⟨l,mark,W1,{ target:=.fn (.func gf) lb,args:=#[.func (.yield l) #[] #[]] },W1,gf,
  #[.func (.yield l) #[] #[]] ++ lb,W1,?_,?_,fun _ _=>trivial,?_,fun h=>by simp [Fence.wide] at h,?_⟩
 ·rw [← hW1,hrec,← hl0];exact henter fn
 ·simp only [resolve,hg]
  simp [go_sem]
 ·simp [invoke,go_sem,eg]
 ·have hlW0:∀ {k:Nat} {o:Obj},W0.heap[k]? = some o→k ≠ l:=fun hk=>by have:=(Array.getElem?_eq_some_iff.1 hk).1;omega
  have hput:∀ (W:World) (o:Obj),OthersM M W0 W→OthersM M W0 (W.putObj l o):=fun W o h k o' hk hkM ho =>
   (World.putObj_heap_other (hlW0 hk)).trans (h k o' hk hkM ho)
  refine Calls.mono (R:=fun e W'=>(∃ v,e = .returned v) ∧
    ((I L.length W'∧W'.heap[l]? = some (.loop (rec .ready none))∧OthersM M W0 W') ∨
     ∃ k,k ≤ L.length∧∃ c,Ix c k W'∧W'.heap[l]? = some (.loop (rec .done (some c)))∧OthersM M W0 W')) ?_ ?_ |> callsIn_wide.2
  ·refine hit W1 hN1 l
    (fun k W=>I k W∧W.heap[l]? = some (.loop (rec .ready none))∧OthersM M W0 W)
    (fun k W=>∃ c,Ix c k W∧W.heap[l]? = some (.loop (rec .done (some c)))∧OthersM M W0 W)
    (fun k A A' h hn=>⟨hI k A A' h.1 (hn.quiet _),hn.heap h.2.1 id,fun j o hj hjM ho=>hn.heap (h.2.2 j o hj hjM ho) id⟩)
    (fun k A A' h hn=>by
     obtain ⟨c,h1,h2,h3⟩:=h
     exact ⟨c,hIx c k A A' h1 (hn.quiet _),hn.heap h2 id,fun j o hj hjM ho=>hn.heap (h3 j o hj hjM ho) id⟩)
    ?_ ⟨hI 0 w W1 h0 (hN1.quiet _),hL1,hC1⟩
   rintro k x W hx ⟨hi,hl,hk⟩ _
   have hy:=run_yield (P:=P) (args:=x) hl (by rw [hrec];exact hps x (List.mem_of_getElem? hx))
   rw [hrec] at hy
   refine ⟨fn,_,assign,body,hy,roundIn_of_wpIn trivial (wpIn_mono (hround l k x W hx hwl ⟨_,hl⟩ hi) ?_)⟩
   clear hy
   rintro e a1 Wa he
   cases e with
   | normal =>
    obtain ⟨hma,hb⟩:=he
    have hla:=hma.block _ _ hl hlM (.inr rfl)
    have hka:OthersM M W0 Wa:=fun j o hj hjM ho=>hma.block _ _ (hk j o hj hjM ho) hjM (.inr ho)
    have hlt:l < Wa.heap.size:=(Array.getElem?_eq_some_iff.1 hla).1
    refine ⟨_,run_beginRound hla (by rw [hrec]),?_⟩
    obtain ⟨Wb,hWb⟩:∃ Wb,Wa.putObj l (.loop { rec .ready none with state:=.busy })=Wb:=⟨_,rfl⟩
    have hl2:Wb.heap[l]? = some (.loop { rec .ready none with state:=.busy }):=by rw [← hWb];exact World.putObj_heap_same hlt
    have hk2:OthersM M W0 Wb:=by rw [← hWb];exact hput _ _ hka
    have hqb:Quiet w.heap.size Wa Wb:=by rw [← hWb];exact Quiet.putObj _ hla rfl hwl
    rw [hWb]
    refine wpIn_mono (hb Wb hqb ⟨_,hl2⟩) ?_
    have fin:∀ (jump:Option Code) (W3:World),ModsM S M Wb W3 →
      (Instr.endRound l jump).run P W3 = .ok (.bool jump.isNone) (W3.putObj l (.loop (rec (if jump.isNone then .ready else .done) jump))) ∧
      W3.heap[l]? = some (.loop { rec .ready none with state:=.busy }) ∧
      (W3.putObj l (.loop (rec (if jump.isNone then .ready else .done) jump))).heap[l]? = some (.loop (rec (if jump.isNone then .ready else .done) jump)) ∧
      OthersM M W0 (W3.putObj l (.loop (rec (if jump.isNone then .ready else .done) jump))):=fun jump W3 hm3=>by
     have hl3:=hm3.block _ _ hl2 hlM (.inr rfl)
     have:=run_endRound (P:=P) jump hl3
     rw [hrec] at this ⊢
     exact ⟨this,by rw [hrec] at hl3;exact hl3,World.putObj_heap_same (Array.getElem?_eq_some_iff.1 hl3).1,hput _ _ fun j o hj hjM ho=>hm3.block _ _ (hk2 j o hj hjM ho) hjM (.inr ho)⟩
    rintro e a3 W3 hp
    cases e with
    | normal =>
     obtain ⟨hm3,hi3⟩:=hp
     obtain ⟨hr,hl3,hl4,hk4⟩:=fin none W3 hm3
     refine ⟨_,_,hr,.inl ⟨rfl,⟨hI _ _ _ hi3 (Quiet.putObj _ hl3 rfl hwl),hl4,hk4⟩,?_⟩⟩
     refine ⟨(hm3.os.trans hqb.os).trans hma.os,(hm3.tape.trans hqb.tape).trans hma.tape,(hm3.output.trans hqb.output).trans hma.output,?_,?_⟩
     ·simp only [World.putObj_size];exact Nat.le_trans hma.size (Nat.le_trans hqb.size hm3.size)
     ·intro j o hj hjM ho
      by_cases e:j=l
      ·subst e;rw [hl] at hj;cases hj;exact hl4
      ·refine (World.putObj_heap_other e).trans (hm3.block _ _ ?_ hjM ho)
       rw [← hWb];exact (World.putObj_heap_other e).trans (hma.block _ _ hj hjM ho)
    | ret =>
     obtain ⟨hm3,hi3⟩:=hp
     obtain ⟨hr,hl3,hl4,hk4⟩:=fin (some .ret) W3 hm3
     exact ⟨_,_,hr,.inr ⟨rfl,.ret,hIx _ _ _ _ hi3 (Quiet.putObj _ hl3 rfl hwl),hl4,hk4⟩⟩
    | exit id =>
     obtain ⟨hm3,hi3⟩:=hp
     obtain ⟨hr,hl3,hl4,hk4⟩:=fin (some (.exit id)) W3 hm3
     exact ⟨_,_,hr,.inr ⟨rfl,.exit id,hIx _ _ _ _ hi3 (Quiet.putObj _ hl3 rfl hwl),hl4,hk4⟩⟩
    | goto t =>
     obtain ⟨hm3,hi3⟩:=hp
     obtain ⟨hr,hl3,hl4,hk4⟩:=fin (some (.goto t)) W3 hm3
     exact ⟨_,_,hr,.inr ⟨rfl,.goto t,hIx _ _ _ _ hi3 (Quiet.putObj _ hl3 rfl hwl),hl4,hk4⟩⟩
    | panic ch=>exact hp.elim
    | outgrown=>exact hp.elim
   | exit id=>exact he.elim
   | goto t=>exact he.elim
   | ret=>exact he.elim
   | panic ch=>exact he.elim
   | outgrown=>exact he.elim
  ·rintro e W2 ⟨⟨v,rfl⟩,(⟨hi,hl,hk⟩ | ⟨k,hkl,c,hi,hl,hk⟩)⟩
   ·exact ⟨none,_,by have:=run_endLoop (P:=P) hl (by rw [hrec];simp);rw [hrec] at this;exact this,hdone _ (hI _ _ _ hi (Quiet.putObj _ hl rfl hwl)) (hput _ _ hk)⟩
   ·exact ⟨some c,_,by have:=run_endLoop (P:=P) hl (by rw [hrec];simp);rw [hrec] at this;exact this,hstop c k _ hkl (hIx _ _ _ _ hi (Quiet.putObj _ hl rfl hwl)) (hput _ _ hk)⟩
end Go.Cs
namespace Go.Cs
open Go.RowKit
variable {P:Program}
theorem wp_rangeM {α:Type} {g:Operand} {ps:Array Tmp} {assign body:Code} {Q:Exit→Act→World→Prop} {a:Act} {w:World}
  {gf:Nat} {lb:Array Value} (hg:a.eval g = .func (.func gf) #[] lb) (eg:∀ args w,(callFunc gf args).run P w = .ok (.enter gf args) w)
  (xs:List α) (enc:α→Array Value) (S:Nat→Prop) (M:Nat) (hM:M < w.heap.size) (hit:∀ W,New w W→IterM P gf lb (xs.map enc) S M W) (hps:∀ x,(enc x).size=ps.size)
  (I:Nat→World→Prop) (Ix:Code→Nat→World→Prop) (hI:∀ k,Stab w.heap.size (I k)) (hIx:∀ c k,Stab w.heap.size (Ix c k)) (h0:I 0 w) (upd:α→Array Value→Array Value)
  (hassign:∀ (l:Nat) (x:α) (W:World) (K:Act→World→Prop),K { tmps:=upd x a.tmps,defers:=[] } W →
   assign.wpIn (Fr (some l)) 0 P (Exit.then K (fun _ _ _=>False)) { tmps:=(ps.zip (enc x)).foldl (fun t (p,v)=>t.setIfInBounds p v) a.tmps,defers:=[] } W)
  (hbody:∀ (l k:Nat) (x:α) (W:World),xs[k]? = some x→w.heap.size ≤ l→(∃ r,W.heap[l]? = some (.loop r))→I k W→body.wpIn (Fr (some l)) 0 P (roundM S M I Ix (k + 1) W) { tmps:=upd x a.tmps,defers:=[] } W)
  (hdone:∀ W,I xs.length W→W.heap[w.heap.size]? = some (.deferred (some []))→Q .normal { a with defers:={ target:=.collected w.heap.size,args:=#[] }::a.defers } W)
  (hstop:∀ c k W,k ≤ xs.length→Ix c k W→W.heap[w.heap.size]? = some (.deferred (some []))→c.wp P Q { a with defers:={ target:=.collected w.heap.size,args:=#[] }::a.defers } W) :
  (Code.rangeFunc g ps assign body).wp P Q a w:=by
 refine (wpIn_wide (n:=0)).1 ?_
 refine rangeM_core (P:=P) none hg eg (xs.map enc) S M hM hit ?_ (w.alloc (.deferred (some []))) ((Mods.refl _ _).alloc _) [{ target:=.collected w.heap.size,args:=#[] }] w.heap.size ?_ I Ix hI hIx h0 ?_ ?_ ?_
 ·intro x hx
  obtain ⟨y,_,rfl⟩:=List.mem_map.1 hx
  exact hps y
 ·intro fn
  rw [World.size_alloc]
  exact run_enterLoop_outer _ _ _ _ _
 ·intro l k x W hx hl hr hi
  rw [List.getElem?_map] at hx
  obtain ⟨y,hy,rfl⟩:=Option.map_eq_some_iff.1 hx
  exact hassign l y W _ ⟨ModsM.refl _ _ _,fun W2 hq hr2=>hbody l k y W2 hy hl hr2 (hI k W W2 hi hq)⟩
 ·intro W hi ho
  rw [List.length_map] at hi
  exact hdone W hi (ho _ _ (World.alloc_heap_new w _) (by omega) rfl)
 ·intro c k W hk hi ho
  rw [List.length_map] at hk
  exact (wpIn_wide (n:=0)).2 (hstop c k W hk hi (ho _ _ (World.alloc_heap_new w _) (by omega) rfl))
end Go.Cs
