/- Texts joined. -/
import Derived.Test.YtnknmmbnhoanfaaGreatDoorH04
import Derived.Test.YtnknmmbnhoanfaaGreatDoorH00
import Derived.MapKept
import Derived.Laws.StructEq
import Derived.ChangeMaps5
import Derived.WalkKit
import Derived.Test.YtnknmmbnhoanfaaGreatDoorH02
import Derived.Lib.ConvBytes
set_option linter.unusedSimpArgs false
set_option linter.unusedVariables false
set_option maxHeartbeats 16000000
set_option maxRecDepth 100000
namespace Go.Proofs.YtnknmmbnhoanfaaGreatDoor
open Go.RowKit Go.Shelf Go.Cs
attribute [local go_sem] Oper.semAt_some


theorem len4 {α:Type}:∀ {l:List α},l.length=4→∃ a b c d,l = [a,b,c,d]
 | [a,b,c,d],_=>⟨a,b,c,d,rfl⟩
theorem len5 {α:Type}:∀ {l:List α},l.length=5→∃ a b c d e,l = [a,b,c,d,e]
 | [a,b,c,d,e],_=>⟨a,b,c,d,e,rfl⟩
theorem infoP:(Tryz.prog.info? 83).map (fun i=>(i.zero,i.size,i.bytes))=some (some (.agg #[.string ⟨#[]⟩,.int .u8 0,.int .i64 0,.string ⟨#[]⟩,.bool false]),5,56):=by kernel_rfl
theorem sizeP:(Tryz.prog.info? 83).map (·.size)=some 5:=by kernel_rfl
def OwP (base:Nat) (W:World) (v:Value) (n:Nat) (f:Nat→List Value):Prop:=(∀ i,(f i).length=5)∧(∀ i,i < n→∀ u ∈ f i,u.oneCell'=true)∧W.ownsRow base 83 5 v n (flatF n f)
theorem OwP.nil (base:Nat) (W:World) (f:Nat→List Value) (hf:∀ i,(f i).length=5):OwP base W (.slice none 0 0) 0 f:=⟨hf,(fun i hi=>by omega),World.ownsRow_nil _ _ _ _⟩
theorem OwP.mods {base:Nat} {W W':World} {v:Value} {n:Nat} {f:Nat→List Value} (h:OwP base W v n f) {S:Nat→Prop} (hN:Mods S W W') (hS:∀ g,v.ownBlock=some g→¬ S g):OwP base W' v n f:=⟨h.1,h.2.1,Mods.ownsRow hN h.2.2 hS⟩
theorem OwP.new {base:Nat} {W W':World} {v:Value} {n:Nat} {f:Nat→List Value} (h:OwP base W v n f) (hN:New W W'):OwP base W' v n f:=h.mods hN fun _ _ h=>h
theorem OwP.congr {base:Nat} {W:World} {v:Value} {n:Nat} {f g:Nat→List Value} (h:OwP base W v n f) (hg:∀ i,(g i).length=5) (he:∀ i,i < n→f i=g i):OwP base W v n g :=
 ⟨hg,(fun i hi=>by rw [← he i hi];exact h.2.1 i hi),by rw [← flatF_congr he];exact h.2.2⟩
theorem OwP.slice {base:Nat} {W:World} {v:Value} {n:Nat} {f:Nat→List Value} (h:OwP base W v n f):∃ ao cap,v = .slice ao n cap:=owns_slice h.2.2
theorem OwP.lt {base:Nat} {W:World} {v:Value} {n:Nat} {f:Nat→List Value} (h:OwP base W v n f) {g:Nat} (hg:v.ownBlock=some g):base ≤ g∧g < W.heap.size:=World.ownsRow.lt h.2.2 g hg
theorem OwP.row {base:Nat} {W:World} {v:Value} {n:Nat} {f:Nat→List Value} (h:OwP base W v n f) (hn:n ≤ 281474976710656):RowR W v n 5 f :=
 ⟨hn,rows_ofOwns (by decide) h.1 h.2.2⟩
theorem OwP.tag {base:Nat} {W:World} {v:Value} {n:Nat} {f:Nat→List Value} (h:OwP base W v n f):TagAt W v 83:=fun g hg=>by
 rcases h.2.2.2 with ⟨rfl,_⟩ | ⟨b,cap,cur,rfl,_,hb,_⟩
 ·cases hg
 ·cases hg;exact ⟨_,_,hb⟩
theorem OwP.mono {base base':Nat} {W:World} {v:Value} {n:Nat} {f:Nat→List Value} (h:OwP base W v n f) (hb:base' ≤ base):OwP base' W v n f:=⟨h.1,h.2.1,owns_mono h.2.2 hb⟩
theorem OwP.frozen {base:Nat} {W:World} {v:Value} {n:Nat} {f:Nat→List Value} (h:OwP base W v n f) {g:Nat} (hg:v.ownBlock=some g) (o:Nat):W.frozen? ⟨g,o,none⟩=false:=by
 rcases h.2.2.2 with ⟨rfl,_⟩ | ⟨b,cap,cur,rfl,_,hb,_⟩
 ·cases hg
 ·cases hg;exact frozen_row hb
theorem run_append_P {o:Oper} {a:Act} {w W:World} {s x:Operand} {base:Nat} {v:Value} {n:Nat} {f:Nat→List Value} {c:List Value} (hop:o.op = .call { callee:=.builtin .append,args:=#[s,x],argTypes:=#[42,42] })
  (hs:a.eval s=v) (hx:a.eval x = .slice (some ⟨w.heap.size,0,none⟩) 1 1) (hW:w.alloc (.cells c.toArray 83)=W) (hc:c.length=5) (hone:∀ u ∈ c,u.oneCell'=true) (hown:OwP base w v n f) (hn:n ≤ 2000000) (hbase:base ≤ w.heap.size) :
  ∃ v' W',(execOp a.eval o).run Tryz.prog W = .ok (.value v') W'∧OwP base W' v' (n + 1) (fun i=>if i=n then c else f i)∧∀ (w0:World) (S:Nat→Prop),Mods S w0 w→(∀ g,v.ownBlock=some g→w0.heap.size ≤ g ∨ S g)→Mods S w0 W':=by
 obtain ⟨i0,hi,hz0,hz1,hz2⟩:=info_parts infoP
 have hown':W.ownsRow base 83 5 v n (flatF n f):=by rw [← hW];exact hown.2.2.alloc _
 obtain ⟨v',w',hr,ho,hg,-⟩:=run_append_own (P:=Tryz.prog) W base 42 o.type 83 i0 _ 5 56 Tryz.underlying42 hi hz0 hz1 hz2 rfl (by decide) v n (flatF n f) hown' ⟨w.heap.size,0,none⟩ 1 1 c (by rw [hc]) (fun j u hj=>by
  rw [← hW,add_at,cell_of_row _ _ _ _ _ _ (World.alloc_heap_new w (.cells c.toArray 83))];simpa using hj) hone (by unfold maxLen;omega) (by omega) (by rw [← hW];simp;omega)
 refine ⟨v',w',?_,⟨fun i=>?_,fun i hi=>?_,?_⟩,fun w0 S hN hb=>?_⟩
 ·simp [execOp,hop,resolve,invoke,builtin,hs,hx,hr,Result.andThen]
 ·dsimp only;split
  ·exact hc
  ·exact hown.1 i
 ·dsimp only;split
  ·exact hone
  ·exact hown.2.1 i (by omega)
 ·rw [flatF_succ,if_pos rfl,flatF_congr (g:=f) (fun i hi=>if_neg (by omega))]
  exact ho
 ·rw [← hW] at hg
  exact (hN.alloc _).grown hg (fun g hg=>(hb g hg).imp id fun h=>⟨h,own_cells (hown.2.2.alloc _) hg⟩)
theorem wpList_append_P {ops:Array Oper} {Q:Exit→Act→World→Prop} {rest:List Oper} {o:Oper} {a:Act} {w W:World} (s x:Operand) {base:Nat} {v:Value} {n:Nat} {f:Nat→List Value} {c:List Value} (hgd:o.guard=none) (hop:o.op = .call { callee:=.builtin .append,args:=#[s,x],argTypes:=#[42,42] })
  (hs:a.eval s=v) (hx:a.eval x = .slice (some ⟨w.heap.size,0,none⟩) 1 1) (hW:w.alloc (.cells c.toArray 83)=W) (hc:c.length=5) (hone:∀ u ∈ c,u.oneCell'=true) (hown:OwP base w v n f) (hn:n ≤ 2000000) (hbase:base ≤ w.heap.size)
  (h:∀ v' W',OwP base W' v' (n + 1) (fun i=>if i=n then c else f i)→(∀ (w0:World) (S:Nat→Prop),Mods S w0 w→(∀ g,v.ownBlock=some g→w0.heap.size ≤ g ∨ S g)→Mods S w0 W')→wpList Tryz.prog ops Q rest (a.put o.dst v') W'):wpList Tryz.prog ops Q (o::rest) a W:=by
 refine wpList_plain hgd fun K hK=>?_
 obtain ⟨v',w',hr,ho,hg⟩:=run_append_P hop hs hx hW hc hone hown hn hbase
 unfold Oper.wp
 rw [hr]
 exact hK _ _ (h v' w' ho hg)
theorem OwP.put {base g cap:Nat} {W:World} {n:Nat} {f:Nat→List Value} (h:OwP base W (.slice (some ⟨g,0,none⟩) n cap) n f) {i:Nat} (hi:i < n) (c0 c1 c2 c3 c4:Value) (hone:∀ u ∈ [c0,c1,c2,c3,c4],u.oneCell'=true) :
  OwP base ((((((W.setCell ⟨g,i * 5 + 0,none⟩ c0).setCell ⟨g,i * 5 + 1,none⟩ c1).setCell ⟨g,i * 5 + 2,none⟩ c2).setCell ⟨g,i * 5 + 3,none⟩ c3).setCell ⟨g,i * 5 + 4,none⟩ c4)) (.slice (some ⟨g,0,none⟩) n cap) n (fun k=>if k=i then [c0,c1,c2,c3,c4] else f k):=by
 refine ⟨fun k=>?_,fun k hk=>?_,?_⟩
 ·dsimp only;split
  ·rfl
  ·exact h.1 k
 ·dsimp only;split
  ·exact hone
  ·exact h.2.1 k hk
 ·have s0:=own_set h.1 h.2.2 hi (show 0 < 5 by decide) c0
  have l1:=set_len (f:=_) (i:=i) (r:=0) (u:=c0) h.1
  have s1:=own_set l1 s0 hi (show 1 < 5 by decide) c1
  have l2:=set_len (f:=_) (i:=i) (r:=1) (u:=c1) l1
  have s2:=own_set l2 s1 hi (show 2 < 5 by decide) c2
  have l3:=set_len (f:=_) (i:=i) (r:=2) (u:=c2) l2
  have s3:=own_set l3 s2 hi (show 3 < 5 by decide) c3
  have l4:=set_len (f:=_) (i:=i) (r:=3) (u:=c3) l3
  have s4:=own_set l4 s3 hi (show 4 < 5 by decide) c4
  refine cast (congrArg _ (flatF_congr fun k hk=>?_)) s4
  by_cases e:k=i
  ·subst e
   simp only [if_true]
   obtain ⟨d0,d1,d2,d3,d4,hd⟩:=len5 (h.1 k)
   rw [hd]
   rfl
  ·simp only [if_neg e]
theorem infoX:(Tryz.prog.info? 85).map (fun i=>(i.zero,i.size,i.bytes))=some (some (.agg #[.int .u8 0,.int .i64 0,.string ⟨#[]⟩,.bool false,.slice none 0 0]),5,64):=by kernel_rfl
theorem sizeX:(Tryz.prog.info? 85).map (·.size)=some 5:=by kernel_rfl
def OwX (base:Nat) (W:World) (v:Value) (n:Nat) (f:Nat→List Value):Prop:=(∀ i,(f i).length=5)∧(∀ i,i < n→∀ u ∈ f i,u.oneCell'=true)∧W.ownsRow base 85 5 v n (flatF n f)
theorem OwX.nil (base:Nat) (W:World) (f:Nat→List Value) (hf:∀ i,(f i).length=5):OwX base W (.slice none 0 0) 0 f:=⟨hf,(fun i hi=>by omega),World.ownsRow_nil _ _ _ _⟩
theorem OwX.mods {base:Nat} {W W':World} {v:Value} {n:Nat} {f:Nat→List Value} (h:OwX base W v n f) {S:Nat→Prop} (hN:Mods S W W') (hS:∀ g,v.ownBlock=some g→¬ S g):OwX base W' v n f:=⟨h.1,h.2.1,Mods.ownsRow hN h.2.2 hS⟩
theorem OwX.new {base:Nat} {W W':World} {v:Value} {n:Nat} {f:Nat→List Value} (h:OwX base W v n f) (hN:New W W'):OwX base W' v n f:=h.mods hN fun _ _ h=>h
theorem OwX.congr {base:Nat} {W:World} {v:Value} {n:Nat} {f g:Nat→List Value} (h:OwX base W v n f) (hg:∀ i,(g i).length=5) (he:∀ i,i < n→f i=g i):OwX base W v n g :=
 ⟨hg,(fun i hi=>by rw [← he i hi];exact h.2.1 i hi),by rw [← flatF_congr he];exact h.2.2⟩
theorem OwX.slice {base:Nat} {W:World} {v:Value} {n:Nat} {f:Nat→List Value} (h:OwX base W v n f):∃ ao cap,v = .slice ao n cap:=owns_slice h.2.2
theorem OwX.lt {base:Nat} {W:World} {v:Value} {n:Nat} {f:Nat→List Value} (h:OwX base W v n f) {g:Nat} (hg:v.ownBlock=some g):base ≤ g∧g < W.heap.size:=World.ownsRow.lt h.2.2 g hg
theorem OwX.row {base:Nat} {W:World} {v:Value} {n:Nat} {f:Nat→List Value} (h:OwX base W v n f) (hn:n ≤ 281474976710656):RowR W v n 5 f :=
 ⟨hn,rows_ofOwns (by decide) h.1 h.2.2⟩
theorem OwX.tag {base:Nat} {W:World} {v:Value} {n:Nat} {f:Nat→List Value} (h:OwX base W v n f):TagAt W v 85:=fun g hg=>by
 rcases h.2.2.2 with ⟨rfl,_⟩ | ⟨b,cap,cur,rfl,_,hb,_⟩
 ·cases hg
 ·cases hg;exact ⟨_,_,hb⟩
theorem OwX.mono {base base':Nat} {W:World} {v:Value} {n:Nat} {f:Nat→List Value} (h:OwX base W v n f) (hb:base' ≤ base):OwX base' W v n f:=⟨h.1,h.2.1,owns_mono h.2.2 hb⟩
theorem OwX.frozen {base:Nat} {W:World} {v:Value} {n:Nat} {f:Nat→List Value} (h:OwX base W v n f) {g:Nat} (hg:v.ownBlock=some g) (o:Nat):W.frozen? ⟨g,o,none⟩=false:=by
 rcases h.2.2.2 with ⟨rfl,_⟩ | ⟨b,cap,cur,rfl,_,hb,_⟩
 ·cases hg
 ·cases hg;exact frozen_row hb
theorem run_append_X {o:Oper} {a:Act} {w W:World} {s x:Operand} {base:Nat} {v:Value} {n:Nat} {f:Nat→List Value} {c:List Value} (hop:o.op = .call { callee:=.builtin .append,args:=#[s,x],argTypes:=#[41,41] })
  (hs:a.eval s=v) (hx:a.eval x = .slice (some ⟨w.heap.size,0,none⟩) 1 1) (hW:w.alloc (.cells c.toArray 85)=W) (hc:c.length=5) (hone:∀ u ∈ c,u.oneCell'=true) (hown:OwX base w v n f) (hn:n ≤ 2000000) (hbase:base ≤ w.heap.size) :
  ∃ v' W',(execOp a.eval o).run Tryz.prog W = .ok (.value v') W'∧OwX base W' v' (n + 1) (fun i=>if i=n then c else f i)∧∀ (w0:World) (S:Nat→Prop),Mods S w0 w→(∀ g,v.ownBlock=some g→w0.heap.size ≤ g ∨ S g)→Mods S w0 W':=by
 obtain ⟨i0,hi,hz0,hz1,hz2⟩:=info_parts infoX
 have hown':W.ownsRow base 85 5 v n (flatF n f):=by rw [← hW];exact hown.2.2.alloc _
 obtain ⟨v',w',hr,ho,hg,-⟩:=run_append_own (P:=Tryz.prog) W base 41 o.type 85 i0 _ 5 64 Tryz.underlying41 hi hz0 hz1 hz2 rfl (by decide) v n (flatF n f) hown' ⟨w.heap.size,0,none⟩ 1 1 c (by rw [hc]) (fun j u hj=>by
  rw [← hW,add_at,cell_of_row _ _ _ _ _ _ (World.alloc_heap_new w (.cells c.toArray 85))];simpa using hj) hone (by unfold maxLen;omega) (by omega) (by rw [← hW];simp;omega)
 refine ⟨v',w',?_,⟨fun i=>?_,fun i hi=>?_,?_⟩,fun w0 S hN hb=>?_⟩
 ·simp [execOp,hop,resolve,invoke,builtin,hs,hx,hr,Result.andThen]
 ·dsimp only;split
  ·exact hc
  ·exact hown.1 i
 ·dsimp only;split
  ·exact hone
  ·exact hown.2.1 i (by omega)
 ·rw [flatF_succ,if_pos rfl,flatF_congr (g:=f) (fun i hi=>if_neg (by omega))]
  exact ho
 ·rw [← hW] at hg
  exact (hN.alloc _).grown hg (fun g hg=>(hb g hg).imp id fun h=>⟨h,own_cells (hown.2.2.alloc _) hg⟩)
theorem OwX.put {base g cap:Nat} {W:World} {n:Nat} {f:Nat→List Value} (h:OwX base W (.slice (some ⟨g,0,none⟩) n cap) n f) {i:Nat} (hi:i < n) (c0 c1 c2 c3 c4:Value) (hone:∀ u ∈ [c0,c1,c2,c3,c4],u.oneCell'=true) :
  OwX base ((((((W.setCell ⟨g,i * 5 + 0,none⟩ c0).setCell ⟨g,i * 5 + 1,none⟩ c1).setCell ⟨g,i * 5 + 2,none⟩ c2).setCell ⟨g,i * 5 + 3,none⟩ c3).setCell ⟨g,i * 5 + 4,none⟩ c4)) (.slice (some ⟨g,0,none⟩) n cap) n (fun k=>if k=i then [c0,c1,c2,c3,c4] else f k):=by
 refine ⟨fun k=>?_,fun k hk=>?_,?_⟩
 ·dsimp only;split
  ·rfl
  ·exact h.1 k
 ·dsimp only;split
  ·exact hone
  ·exact h.2.1 k hk
 ·have s0:=own_set h.1 h.2.2 hi (show 0 < 5 by decide) c0
  have l1:=set_len (f:=_) (i:=i) (r:=0) (u:=c0) h.1
  have s1:=own_set l1 s0 hi (show 1 < 5 by decide) c1
  have l2:=set_len (f:=_) (i:=i) (r:=1) (u:=c1) l1
  have s2:=own_set l2 s1 hi (show 2 < 5 by decide) c2
  have l3:=set_len (f:=_) (i:=i) (r:=2) (u:=c2) l2
  have s3:=own_set l3 s2 hi (show 3 < 5 by decide) c3
  have l4:=set_len (f:=_) (i:=i) (r:=3) (u:=c3) l3
  have s4:=own_set l4 s3 hi (show 4 < 5 by decide) c4
  refine cast (congrArg _ (flatF_congr fun k hk=>?_)) s4
  by_cases e:k=i
  ·subst e
   simp only [if_true]
   obtain ⟨d0,d1,d2,d3,d4,hd⟩:=len5 (h.1 k)
   rw [hd]
   rfl
  ·simp only [if_neg e]
theorem infoM:(Tryz.prog.info? 44).map (fun i=>(i.zero,i.size,i.bytes))=some (some (.agg #[.string ⟨#[]⟩,.bool false,.slice none 0 0,.slice none 0 0]),4,72):=by kernel_rfl
theorem sizeM:(Tryz.prog.info? 44).map (·.size)=some 4:=by kernel_rfl
def OwM (base:Nat) (W:World) (v:Value) (n:Nat) (f:Nat→List Value):Prop:=(∀ i,(f i).length=4)∧(∀ i,i < n→∀ u ∈ f i,u.oneCell'=true)∧W.ownsRow base 44 4 v n (flatF n f)
theorem OwM.nil (base:Nat) (W:World) (f:Nat→List Value) (hf:∀ i,(f i).length=4):OwM base W (.slice none 0 0) 0 f:=⟨hf,(fun i hi=>by omega),World.ownsRow_nil _ _ _ _⟩
theorem OwM.mods {base:Nat} {W W':World} {v:Value} {n:Nat} {f:Nat→List Value} (h:OwM base W v n f) {S:Nat→Prop} (hN:Mods S W W') (hS:∀ g,v.ownBlock=some g→¬ S g):OwM base W' v n f:=⟨h.1,h.2.1,Mods.ownsRow hN h.2.2 hS⟩
theorem OwM.new {base:Nat} {W W':World} {v:Value} {n:Nat} {f:Nat→List Value} (h:OwM base W v n f) (hN:New W W'):OwM base W' v n f:=h.mods hN fun _ _ h=>h
theorem OwM.congr {base:Nat} {W:World} {v:Value} {n:Nat} {f g:Nat→List Value} (h:OwM base W v n f) (hg:∀ i,(g i).length=4) (he:∀ i,i < n→f i=g i):OwM base W v n g :=
 ⟨hg,(fun i hi=>by rw [← he i hi];exact h.2.1 i hi),by rw [← flatF_congr he];exact h.2.2⟩
theorem OwM.slice {base:Nat} {W:World} {v:Value} {n:Nat} {f:Nat→List Value} (h:OwM base W v n f):∃ ao cap,v = .slice ao n cap:=owns_slice h.2.2
theorem OwM.lt {base:Nat} {W:World} {v:Value} {n:Nat} {f:Nat→List Value} (h:OwM base W v n f) {g:Nat} (hg:v.ownBlock=some g):base ≤ g∧g < W.heap.size:=World.ownsRow.lt h.2.2 g hg
theorem OwM.row {base:Nat} {W:World} {v:Value} {n:Nat} {f:Nat→List Value} (h:OwM base W v n f) (hn:n ≤ 281474976710656):RowR W v n 4 f :=
 ⟨hn,rows_ofOwns (by decide) h.1 h.2.2⟩
theorem OwM.tag {base:Nat} {W:World} {v:Value} {n:Nat} {f:Nat→List Value} (h:OwM base W v n f):TagAt W v 44:=fun g hg=>by
 rcases h.2.2.2 with ⟨rfl,_⟩ | ⟨b,cap,cur,rfl,_,hb,_⟩
 ·cases hg
 ·cases hg;exact ⟨_,_,hb⟩
theorem OwM.mono {base base':Nat} {W:World} {v:Value} {n:Nat} {f:Nat→List Value} (h:OwM base W v n f) (hb:base' ≤ base):OwM base' W v n f:=⟨h.1,h.2.1,owns_mono h.2.2 hb⟩
theorem OwM.frozen {base:Nat} {W:World} {v:Value} {n:Nat} {f:Nat→List Value} (h:OwM base W v n f) {g:Nat} (hg:v.ownBlock=some g) (o:Nat):W.frozen? ⟨g,o,none⟩=false:=by
 rcases h.2.2.2 with ⟨rfl,_⟩ | ⟨b,cap,cur,rfl,_,hb,_⟩
 ·cases hg
 ·cases hg;exact frozen_row hb
theorem run_append_M {o:Oper} {a:Act} {w W:World} {s x:Operand} {base:Nat} {v:Value} {n:Nat} {f:Nat→List Value} {c:List Value} (hop:o.op = .call { callee:=.builtin .append,args:=#[s,x],argTypes:=#[36,36] })
  (hs:a.eval s=v) (hx:a.eval x = .slice (some ⟨w.heap.size,0,none⟩) 1 1) (hW:w.alloc (.cells c.toArray 44)=W) (hc:c.length=4) (hone:∀ u ∈ c,u.oneCell'=true) (hown:OwM base w v n f) (hn:n ≤ 2000000) (hbase:base ≤ w.heap.size) :
  ∃ v' W',(execOp a.eval o).run Tryz.prog W = .ok (.value v') W'∧OwM base W' v' (n + 1) (fun i=>if i=n then c else f i)∧∀ (w0:World) (S:Nat→Prop),Mods S w0 w→(∀ g,v.ownBlock=some g→w0.heap.size ≤ g ∨ S g)→Mods S w0 W':=by
 obtain ⟨i0,hi,hz0,hz1,hz2⟩:=info_parts infoM
 have hown':W.ownsRow base 44 4 v n (flatF n f):=by rw [← hW];exact hown.2.2.alloc _
 obtain ⟨v',w',hr,ho,hg,-⟩:=run_append_own (P:=Tryz.prog) W base 36 o.type 44 i0 _ 4 72 Tryz.underlying36 hi hz0 hz1 hz2 rfl (by decide) v n (flatF n f) hown' ⟨w.heap.size,0,none⟩ 1 1 c (by rw [hc]) (fun j u hj=>by
  rw [← hW,add_at,cell_of_row _ _ _ _ _ _ (World.alloc_heap_new w (.cells c.toArray 44))];simpa using hj) hone (by unfold maxLen;omega) (by omega) (by rw [← hW];simp;omega)
 refine ⟨v',w',?_,⟨fun i=>?_,fun i hi=>?_,?_⟩,fun w0 S hN hb=>?_⟩
 ·simp [execOp,hop,resolve,invoke,builtin,hs,hx,hr,Result.andThen]
 ·dsimp only;split
  ·exact hc
  ·exact hown.1 i
 ·dsimp only;split
  ·exact hone
  ·exact hown.2.1 i (by omega)
 ·rw [flatF_succ,if_pos rfl,flatF_congr (g:=f) (fun i hi=>if_neg (by omega))]
  exact ho
 ·rw [← hW] at hg
  exact (hN.alloc _).grown hg (fun g hg=>(hb g hg).imp id fun h=>⟨h,own_cells (hown.2.2.alloc _) hg⟩)
theorem wpList_append_M {ops:Array Oper} {Q:Exit→Act→World→Prop} {rest:List Oper} {o:Oper} {a:Act} {w W:World} (s x:Operand) {base:Nat} {v:Value} {n:Nat} {f:Nat→List Value} {c:List Value} (hgd:o.guard=none) (hop:o.op = .call { callee:=.builtin .append,args:=#[s,x],argTypes:=#[36,36] })
  (hs:a.eval s=v) (hx:a.eval x = .slice (some ⟨w.heap.size,0,none⟩) 1 1) (hW:w.alloc (.cells c.toArray 44)=W) (hc:c.length=4) (hone:∀ u ∈ c,u.oneCell'=true) (hown:OwM base w v n f) (hn:n ≤ 2000000) (hbase:base ≤ w.heap.size)
  (h:∀ v' W',OwM base W' v' (n + 1) (fun i=>if i=n then c else f i)→(∀ (w0:World) (S:Nat→Prop),Mods S w0 w→(∀ g,v.ownBlock=some g→w0.heap.size ≤ g ∨ S g)→Mods S w0 W')→wpList Tryz.prog ops Q rest (a.put o.dst v') W'):wpList Tryz.prog ops Q (o::rest) a W:=by
 refine wpList_plain hgd fun K hK=>?_
 obtain ⟨v',w',hr,ho,hg⟩:=run_append_M hop hs hx hW hc hone hown hn hbase
 unfold Oper.wp
 rw [hr]
 exact hK _ _ (h v' w' ho hg)
theorem OwM.put {base g cap:Nat} {W:World} {n:Nat} {f:Nat→List Value} (h:OwM base W (.slice (some ⟨g,0,none⟩) n cap) n f) {i:Nat} (hi:i < n) (c0 c1 c2 c3:Value) (hone:∀ u ∈ [c0,c1,c2,c3],u.oneCell'=true) :
  OwM base (((((W.setCell ⟨g,i * 4 + 0,none⟩ c0).setCell ⟨g,i * 4 + 1,none⟩ c1).setCell ⟨g,i * 4 + 2,none⟩ c2).setCell ⟨g,i * 4 + 3,none⟩ c3)) (.slice (some ⟨g,0,none⟩) n cap) n (fun k=>if k=i then [c0,c1,c2,c3] else f k):=by
 refine ⟨fun k=>?_,fun k hk=>?_,?_⟩
 ·dsimp only;split
  ·rfl
  ·exact h.1 k
 ·dsimp only;split
  ·exact hone
  ·exact h.2.1 k hk
 ·have s0:=own_set h.1 h.2.2 hi (show 0 < 4 by decide) c0
  have l1:=set_len (f:=_) (i:=i) (r:=0) (u:=c0) h.1
  have s1:=own_set l1 s0 hi (show 1 < 4 by decide) c1
  have l2:=set_len (f:=_) (i:=i) (r:=1) (u:=c1) l1
  have s2:=own_set l2 s1 hi (show 2 < 4 by decide) c2
  have l3:=set_len (f:=_) (i:=i) (r:=2) (u:=c2) l2
  have s3:=own_set l3 s2 hi (show 3 < 4 by decide) c3
  refine cast (congrArg _ (flatF_congr fun k hk=>?_)) s3
  by_cases e:k=i
  ·subst e
   simp only [if_true]
   obtain ⟨d0,d1,d2,d3,hd⟩:=len4 (h.1 k)
   rw [hd]
   rfl
  ·simp only [if_neg e]


def prV (u:Int) (i:Bool):Value:=.agg #[.int .u8 u,.bool i]
theorem sizePr:(Tryz.prog.info? 51).map (·.size)=some 2:=by kernel_rfl
theorem first_u (w:World):Calls Tryz.prog 99 #[] w fun e w'=>e = .returned (prV 3 false)∧New w w':=by
 unfold prV
 go_enter Tryz.func99,Tryz.ntmps99
 go_upto_region 1 with fail
 have hA:New w (w.alloc (.cells #[.int .u8 0,.bool false] 51)):=(Mods.refl _ _).alloc _
 have r0:=World.alloc_heap_new w (.cells #[.int .u8 0,.bool false] 51)
 obtain ⟨W1,hW1⟩:∃ W,w.alloc (.cells #[.int .u8 0,.bool false] 51)=W:=⟨_,rfl⟩
 obtain ⟨B,hB⟩:∃ B,w.heap.size=B:=⟨_,rfl⟩
 rw [hW1] at hA r0 ⊢
 have hB':w.heap.size=B:=hB
 rw [hB] at r0 ⊢
 go_wp2_with (refine op_skip rfl (run_store_row 51 (.tmp 0) (.tmp 1) rfl B rfl 51 [.int .u8 0,.bool false] [.int .u8 3,.bool false] rfl r0 sizePr rfl (by decide)) ?_)
 refine bodyPost_ret (v:=.agg #[.int .u8 3,.bool false]) (results_cell_row rfl _ _ B 51 _ (0,0) _ rfl (setRow_heap W1 B _ _ _ _ r0) Tryz.underlying51 rfl sizePr) rfl ?_
 exact ⟨rfl,hA.setRow (by omega) _⟩
theorem right_pr (u:Nat) (i:Bool) (hu:u < 256) (w:World):Calls Tryz.prog 42 #[prV u i] w fun e w'=>e = .returned (.bool (decide (u ≤ 7)))∧New w w':=by
 unfold prV
 have he:((u:Int) / 8 == 0)=decide (u ≤ 7):=by
  rw [Bool.eq_iff_iff,beq_iff_eq,decide_eq_true_eq];omega
 have he2:decide ((u:Int) / 8=0)=decide (u ≤ 7):=decide_eq_decide.2 (by omega)
 go_enter Tryz.func42,Tryz.ntmps42
 go_wp2
 go_ret
 exact ⟨rfl,(Mods.refl _ _).alloc _⟩
theorem less_pr (u v:Nat) (i j:Bool) (w:World):Calls Tryz.prog 44 #[prV u i,prV v j] w fun e w'=>e = .returned (.bool (decide (u < v)))∧New w w':=by
 unfold prV
 go_enter Tryz.func44,Tryz.ntmps44
 go_wp2
 go_ret
 exact ⟨rfl,((Mods.refl _ _).alloc _).alloc _⟩
end Go.Proofs.YtnknmmbnhoanfaaGreatDoor
namespace Go.Cs
open Go.RowKit
structure KeyLike (P:Program) (k:TypeId) {α:Type} (enc:α→Value):Prop where
 inj:∀ a b,enc a=enc b→a=b
 check:∀ (w:World) (em:Bool) (a:α),(Instr.checkKey em 10000 k (enc a)).run P w = .ok () w
 find:∀ (w:World) (a:α) (es:List MapEntry),(∀ e ∈ es,∃ b,e.key=enc b) →
  ((Instr.findKey k (enc a) es).run P w = .ok none w∧∀ e ∈ es,e.key ≠ enc a) ∨ ∃ j e,(Instr.findKey k (enc a) es).run P w = .ok (some (j,e.val)) w∧es[j]? = some e∧e.key=enc a
 stays:∀ (w:World) (a:α),(Instr.keyThatStays (enc a) (enc a)).run P w = .ok (enc a) w
variable {P:Program} {k:TypeId} {α:Type} {enc:α→Value}
theorem KeyLike.now {d:TypeDesc} (hd:P.underlying k=some d) (hk:∀ a,MapKept.IsKey d (enc a)) (hi:∀ a b,enc a=enc b→a=b):KeyLike P k enc where
 inj:=hi
 check w em a:=MapKept.run_checkKey hd (hk a) em 9999
 find w a es h:=by
  rcases MapKept.findNow_spec (hk a) es 0 (fun e he=>by obtain ⟨b,hb⟩:=h e he;rw [hb];exact hk b) with ⟨h1,h2⟩ | ⟨j,e,h1,h2,h3⟩
  ·exact .inl ⟨MapKept.run_findKey hd h1,h2⟩
  ·exact .inr ⟨j,e,by rw [Nat.zero_add] at h1;exact MapKept.run_findKey hd h1,h2,h3⟩
 stays w a:=MapKept.run_keyThatStays (hk a)
theorem run_findAsking [DecidableEq α] (heq:∀ w a b,(Op.equal k (enc a) (enc b)).run P w = .ok (decide (a=b)) w) (w:World) (a:α):∀ (es:List MapEntry) (i:Nat),(∀ e ∈ es,∃ b,e.key=enc b) →
  ((Instr.findAsking k (enc a) es i).run P w = .ok none w∧∀ e ∈ es,∃ b,e.key=enc b∧b ≠ a) ∨ ∃ j e,(Instr.findAsking k (enc a) es i).run P w = .ok (some (i + j,e.val)) w∧es[j]? = some e∧e.key=enc a
 | [],i,_=>.inl ⟨by simp [Instr.findAsking],fun e he=>by cases he⟩
 | e::es,i,h=>by
  obtain ⟨b,hb⟩:=h e (by simp)
  by_cases hab:a=b
  ·refine .inr ⟨0,e,?_,rfl,by rw [hb,hab]⟩
   simp [Instr.findAsking,hb,heq,hab,Sem.run_bind]
  ·have hd:decide (a=b)=false:=by simpa using hab
   have step:(Instr.findAsking k (enc a) (e::es) i).run P w=(Instr.findAsking k (enc a) es (i + 1)).run P w:=by
    simp [Instr.findAsking,hb,heq,hd,Sem.run_bind]
   rcases run_findAsking heq w a es (i + 1) (fun e he=>h e (by simp [he])) with ⟨h1,h2⟩ | ⟨j,e',h1,h2,h3⟩
   ·refine .inl ⟨by rw [step,h1],fun e' he=>?_⟩
    rcases List.mem_cons.1 he with rfl | he
    ·exact ⟨b,hb,fun e=>hab e.symm⟩
    ·exact h2 e' he
   ·exact .inr ⟨j + 1,e',by rw [step,h1];congr 3;omega,by simpa using h2,h3⟩
theorem KeyLike.asked [DecidableEq α] {d:TypeDesc} (hd:P.underlying k=some d) (hno:∀ a es i,Instr.findNow d (enc a) es i=if es = [] then some none else none) (hi:∀ a b,enc a=enc b→a=b)
  (hc:∀ (w:World) (em:Bool) (a:α),(Instr.checkKey em 10000 k (enc a)).run P w = .ok () w) (heq:∀ w a b,(Op.equal k (enc a) (enc b)).run P w = .ok (decide (a=b)) w) (hs:∀ a,Instr.sameBits 10000 (enc a) (enc a)=true):KeyLike P k enc where
 inj:=hi
 check:=hc
 find w a es h:=by
  cases es with
  | nil=>exact .inl ⟨by simp [Instr.findKey,run_underlying hd,Result.andThen,hno],fun e he=>by cases he⟩
  | cons e es =>
   have step:(Instr.findKey k (enc a) (e::es)).run P w=(Instr.findAsking k (enc a) (e::es)).run P w:=by
    simp [Instr.findKey,run_underlying hd,Result.andThen,hno]
   rw [step]
   rcases run_findAsking heq w a (e::es) 0 h with ⟨h1,h2⟩ | ⟨j,e',h1,h2,h3⟩
   ·refine .inl ⟨h1,fun e' he hk=>?_⟩
    obtain ⟨b,hb,hne⟩:=h2 e' he
    exact hne (hi _ _ (hb.symm.trans hk))
   ·exact .inr ⟨j,e',by rw [h1,Nat.zero_add],h2,h3⟩
 stays w a:=by simp [Instr.keyThatStays,hs]
def MapFn (enc:α→Value) (W:World) (B n:Nat) (f:α→Option Value):Prop :=
 ∃ es c,W.heap[B]? = some (.map es c)∧es.size ≤ n∧(∀ e ∈ es.toList,∃ a,e.key=enc a∧f a=some e.val)∧∀ a v,f a=some v→∃ e ∈ es.toList,e.key=enc a
theorem MapFn.made {W:World} {B c:Nat} (h:W.heap[B]? = some (.map #[] c)):MapFn enc W B 0 (fun _=>none) :=
 ⟨#[],c,h,by simp,fun e he=>by simp at he,fun a v h=>by cases h⟩
theorem MapFn.keep {W W':World} {B n:Nat} {f:α→Option Value} (h:MapFn enc W B n f) (hk:∀ o,W.heap[B]? = some o→W'.heap[B]? = some o):MapFn enc W' B n f:=by
 obtain ⟨es,c,h1,r⟩:=h
 exact ⟨es,c,hk _ h1,r⟩
theorem MapFn.new {W W':World} {B n:Nat} {f:α→Option Value} (h:MapFn enc W B n f) (hN:New W W'):MapFn enc W' B n f:=h.keep fun _ ho=>hN.heap ho id
theorem MapFn.congr {W:World} {B n:Nat} {f g:α→Option Value} (h:MapFn enc W B n f) (hf:∀ a,f a=g a):MapFn enc W B n g:=by
 have e:f=g:=funext hf
 rwa [← e]
theorem MapFn.find (K:KeyLike P k enc) {W:World} {B n:Nat} {f:α→Option Value} (h:MapFn enc W B n f) (a:α) :
  ∃ es c,W.heap[B]? = some (.map es c)∧es.size ≤ n∧∃ r,(Instr.findKey k (enc a) es.toList).run P W = .ok r W∧r.map (·.2)=f a:=by
 obtain ⟨es,c,h1,hn,h2,h3⟩:=h
 refine ⟨es,c,h1,hn,?_⟩
 rcases K.find W a es.toList (fun e he=>by obtain ⟨b,hb,_⟩:=h2 e he;exact ⟨b,hb⟩) with ⟨hf,hne⟩ | ⟨j,e,hf,hj,hk⟩
 ·refine ⟨none,hf,?_⟩
  cases hfa:f a with
  | none=>rfl
  | some v =>
   obtain ⟨e,he,hk⟩:=h3 a v hfa
   exact absurd hk (hne e he)
 ·refine ⟨_,hf,?_⟩
  obtain ⟨b,hb,hv⟩:=h2 e (List.mem_of_getElem? hj)
  rw [K.inj _ _ (hk.symm.trans hb),hv]
  rfl
theorem MapFn.look (K:KeyLike P k enc) {t e:TypeId} (ht:P.underlying t=some (.map k e)) {W:World} {z:Value} (hz:(zeroValue e).run P W = .ok z W) {B n:Nat} {f:α→Option Value} (h:MapFn enc W B n f) (a:α) (ok:Bool) :
  (Instr.lookup t (.map (some B)) (enc a) ok).run P W = .ok (if ok then .tuple #[(f a).getD z,.bool (f a).isSome] else (f a).getD z) W:=by
 obtain ⟨es,c,h1,_,r,hf,hr⟩:=h.find K a
 have hg:=MapKept.run_getObj_map (P:=P) h1
 simp only [Instr.lookup,Sem.run_bind,run_underlying ht W,Result.andThen_ok,hg,Sem.run_pure,K.check,hf]
 rw [← hr]
 cases r with
 | none=>cases ok <;> simp [hz]
 | some p=>cases ok <;> simp
theorem MapFn.put [DecidableEq α] (K:KeyLike P k enc) {t e:TypeId} (ht:P.underlying t=some (.map k e)) {W:World} {B n:Nat} {f:α→Option Value} (h:MapFn enc W B n f) (a:α) (v:Value) (hfa:f a=none) :
  ∃ o,(Instr.mapUpdate t (.map (some B)) (enc a) v).run P W = .ok () (W.putObj B o)∧o.isCells=false∧MapFn enc (W.putObj B o) B (n + 1) (fun b=>if b=a then some v else f b):=by
 obtain ⟨es,c,h1,hn,h2,h3⟩:=h
 have hg:=MapKept.run_getObj_map (P:=P) h1
 have hs:=fun o=>MapKept.run_setObj_map (P:=P) o h1
 have hlt:=(Array.getElem?_eq_some_iff.1 h1).1
 rcases K.find W a es.toList (fun e he=>by obtain ⟨b,hb,_⟩:=h2 e he;exact ⟨b,hb⟩) with ⟨hf,hne⟩ | ⟨j,e',hf,hj,hk⟩
 ·refine ⟨.map (es.push { key:=enc a,val:=v,born:=c }) (c + 1),?_,rfl,es.push { key:=enc a,val:=v,born:=c },c + 1,World.putObj_heap_same hlt,by simp;omega,?_,?_⟩
  ·simp only [Instr.mapUpdate,Sem.run_bind,run_underlying ht W,Result.andThen_ok,hg,K.check,hf,hs]
   rfl
  ·intro x hx
   rw [Array.toList_push,List.mem_append] at hx
   rcases hx with hx | hx
   ·obtain ⟨b,hb,hv⟩:=h2 x hx
    exact ⟨b,hb,(if_neg (fun e=>hne x hx (by rw [hb,e]))).trans hv⟩
   ·rw [List.mem_singleton] at hx
    subst hx
    exact ⟨a,rfl,by simp⟩
  ·intro b u hb
   rw [Array.toList_push]
   by_cases e:b=a
   ·exact ⟨{ key:=enc a,val:=v,born:=c },by simp,by rw [e]⟩
   ·have hb:(if b=a then some v else f b)=some u:=hb
    rw [if_neg e] at hb
    obtain ⟨x,hx,hk⟩:=h3 b u hb
    exact ⟨x,by simp [hx],hk⟩
 ·obtain ⟨b,hb,hv⟩:=h2 e' (List.mem_of_getElem? hj)
  rw [← K.inj _ _ (hk.symm.trans hb),hfa] at hv
  cases hv
end Go.Cs
namespace Go.Proofs.YtnknmmbnhoanfaaGreatDoor
open Go.RowKit Go.Shelf Go.Cs
attribute [local go_sem] Oper.semAt_some


def cntU (b:Bare.It) (u:Int):Int:=if b.kind=1∧0 ≤ b.int∧b.int ≤ 7 then b.int else u
def cntI (b:Bare.It):Bool:=decide (b.kind=6) && b.yes
def ItI (b:Bare.It):Prop:=-9223372036854775808 ≤ b.int∧b.int ≤ 9223372036854775807
theorem pr_facts {W:World} {B:Nat} {a b:Value} (h:W.heap[B]? = some (.cells #[a,b] 51 (0,0))) :
  (W.cell? ⟨B,0,none⟩=some a∧W.cell? ⟨B,1,none⟩=some b)∧(W.frozen? ⟨B,0,none⟩=false∧W.frozen? ⟨B,1,none⟩=false) :=
 ⟨⟨cell_of_row _ _ 0 _ _ _ h,cell_of_row _ _ 1 _ _ _ h⟩,frozen_row (i:=0) h,frozen_row (i:=1) h⟩
theorem counts_u (B:Nat) (b:Bare.It) (u:Int) (i:Bool) (hb:ItI b) (w:World) (h:w.heap[B]? = some (.cells #[.int .u8 u,.bool i] 51 (0,0))) :
  Calls Tryz.prog 152 #[.pointer (some ⟨B,0,none⟩),bv b] w fun e w'=>(∃ v,e = .returned v)∧w'.heap[B]? = some (.cells #[.int .u8 (cntU b u),.bool i] 51 (0,0))∧Mods (fun x=>x=B) w w':=by
 obtain ⟨k,n,t,y⟩:=b
 unfold bv bcs cntU
 unfold ItI at hb
 simp only at hb ⊢
 obtain ⟨s,hs⟩:∃ s,tx t=s:=⟨_,rfl⟩
 rw [hs]
 clear hs
 have hA:New w (w.alloc (.cells #[.int .u8 k,.int .i64 n,.string s,.bool y] 23)):=(Mods.refl _ _).alloc _
 have r3:=World.alloc_heap_new w (.cells #[.int .u8 k,.int .i64 n,.string s,.bool y] 23)
 have rB:=hA.heap h id
 obtain ⟨W1,hW1⟩:∃ W,w.alloc (.cells #[.int .u8 k,.int .i64 n,.string s,.bool y] 23)=W:=⟨_,rfl⟩
 have HW:=Lib.hid hW1
 rw [hW1] at hA r3 rB
 obtain ⟨D,hD⟩:∃ D,w.heap.size=D:=⟨_,rfl⟩
 have HD:=Lib.hid hD
 rw [hD] at r3
 obtain ⟨⟨c0,c1⟩,f0,f1⟩:=pr_facts rB
 obtain ⟨⟨k0,k1,k2,k3⟩,-⟩:=row_facts r3
 clear hW1 hD h r3
 by_cases hk:k=1
 ·subst hk
  by_cases h7:0 ≤ n∧n ≤ 7
  ·rw [if_pos ⟨rfl,h7⟩]
   have hw:IntKind.u64.wrap n=n:=by rw [IntKind.wrap_u64];omega
   have hw8:IntKind.u8.wrap n=n:=by rw [IntKind.wrap_u8];omega
   have hd:n / 8=0:=by omega
   go_enter Tryz.func152,Tryz.ntmps152
   go_upto_region 1 with fail
   rw [HW.out,HD.out]
   clear HW HD
   go_wp2_with fail
   go_end0
   exact ⟨⟨_,rfl⟩,setCell_heap rB _,(Mods.ofNew (S:=fun x=>x=B) hA).setCell (p:=⟨B,0,none⟩) (.inr rfl) _⟩
  ·rw [if_neg (fun q=>h7 q.2)]
   obtain ⟨m,hm⟩:∃ m,IntKind.u64.wrap n=m:=⟨_,rfl⟩
   have hd:(m / 8 == 0)=false:=by
    rw [beq_eq_false_iff_ne]
    rw [IntKind.wrap_u64] at hm
    omega
   clear h7 hb
   go_enter Tryz.func152,Tryz.ntmps152
   go_upto_region 1 with fail
   rw [HW.out,HD.out]
   clear HW HD
   go_wp2_with fail
   go_end0
   exact ⟨⟨_,rfl⟩,rB,Mods.ofNew hA⟩
 ·rw [if_neg (fun q=>hk q.1)]
  have hk':(k == 1)=false:=by simpa using hk
  clear hk
  go_enter Tryz.func152,Tryz.ntmps152
  go_upto_region 1 with fail
  rw [HW.out,HD.out]
  clear HW HD
  go_wp2_with fail
  go_end0
  exact ⟨⟨_,rfl⟩,rB,Mods.ofNew hA⟩
theorem counts_i (B:Nat) (b:Bare.It) (u:Int) (i:Bool) (w:World) (h:w.heap[B]? = some (.cells #[.int .u8 u,.bool i] 51 (0,0))) :
  Calls Tryz.prog 153 #[.pointer (some ⟨B,0,none⟩),bv b] w fun e w'=>(∃ v,e = .returned v)∧w'.heap[B]? = some (.cells #[.int .u8 u,.bool (cntI b)] 51 (0,0))∧Mods (fun x=>x=B) w w':=by
 obtain ⟨k,n,t,y⟩:=b
 unfold bv bcs cntI
 simp only
 obtain ⟨s,hs⟩:∃ s,tx t=s:=⟨_,rfl⟩
 rw [hs]
 clear hs
 have hA:New w (w.alloc (.cells #[.int .u8 k,.int .i64 n,.string s,.bool y] 23)):=(Mods.refl _ _).alloc _
 have r3:=World.alloc_heap_new w (.cells #[.int .u8 k,.int .i64 n,.string s,.bool y] 23)
 have rB:=hA.heap h id
 obtain ⟨W1,hW1⟩:∃ W,w.alloc (.cells #[.int .u8 k,.int .i64 n,.string s,.bool y] 23)=W:=⟨_,rfl⟩
 have HW:=Lib.hid hW1
 rw [hW1] at hA r3 rB
 obtain ⟨D,hD⟩:∃ D,w.heap.size=D:=⟨_,rfl⟩
 have HD:=Lib.hid hD
 rw [hD] at r3
 obtain ⟨⟨c0,c1⟩,f0,f1⟩:=pr_facts rB
 obtain ⟨⟨k0,k1,k2,k3⟩,-⟩:=row_facts r3
 clear hW1 hD h r3
 by_cases hk:k=6
 ·subst hk
  rw [decide_eq_true rfl,Bool.true_and]
  go_enter Tryz.func153,Tryz.ntmps153
  go_upto_region 1 with fail
  rw [HW.out,HD.out]
  clear HW HD
  go_wp2_with fail
  go_end0
  exact ⟨⟨_,rfl⟩,setCell_heap rB _,(Mods.ofNew (S:=fun x=>x=B) hA).setCell (p:=⟨B,1,none⟩) (.inr rfl) _⟩
 ·rw [decide_eq_false hk,Bool.false_and]
  have hk':(k == 6)=false:=by simpa using hk
  clear hk
  go_enter Tryz.func153,Tryz.ntmps153
  go_upto_region 1 with fail
  rw [HW.out,HD.out]
  clear HW HD
  go_wp2_with fail
  go_end0
  exact ⟨⟨_,rfl⟩,setCell_heap rB _,(Mods.ofNew (S:=fun x=>x=B) hA).setCell (p:=⟨B,1,none⟩) (.inr rfl) _⟩
end Go.Proofs.YtnknmmbnhoanfaaGreatDoor
namespace Go.Proofs.YtnknmmbnhoanfaaGreatDoor
open Go.RowKit Go.Shelf Go.Cs Go.ChangeShapes Go.WideShapes Go.ChangeAt Go.WideMaps Go.WideElems Go.ChangeMaps

theorem weightsAll_mem {H:Type} {P:Program} {e:TypeId}:∀ {l:List (DataW H)} {d:DataW H},d ∈ l→∀ n ∈ d.weights P e,n ∈ DataW.weightsAll P e l
 | d'::r,d,hd,n,hn=>by
  simp only [DataW.weightsAll,List.mem_append]
  rcases List.mem_cons.1 hd with rfl | h
  ·exact Or.inl hn
  ·exact Or.inr (weightsAll_mem h n hn)
section
variable {H:Type} {enc:TypeId × Value→H} {w:World} {base:Nat} {spare:Nat→Bool} {held:Bool} {fuel:Nat}
theorem len_four {α:Type}:∀ {l:List α},l.length=4→∃ a b c d,l = [a,b,c,d]
 | [a,b,c,d],_=>⟨a,b,c,d,rfl⟩
theorem len_two {α:Type}:∀ {l:List α},l.length=2→∃ a b,l = [a,b]
 | [a,b],_=>⟨a,b,rfl⟩
theorem byte_of_wf {n:Int} (h:(Lit.int .u8 n).wf=true):0 ≤ n∧n ≤ 255:=by
 simp [Lit.wf] at h
 exact ⟨Int.le_trans (by decide) h.1,Int.le_trans h.2 (by decide)⟩
theorem i64_of_wf {n:Int} (h:(Lit.int .i64 n).wf=true):-9223372036854775808 ≤ n∧n ≤ 9223372036854775807:=by
 simp [Lit.wf] at h
 exact h
def BaIn (b:Bare.It):Prop:=(0 ≤ b.kind∧b.kind ≤ 255)∧ItI b∧b.text.length ≤ 9223372036854775807
theorem open_bare {cs:List Value} {x:DataW H × List MemPlace} (h:DataW.trod enc Tryz.prog w base spare held fuel 23 cs=some x) :
  ∃ b:Bare.It,cs=bcs b∧BaIn b∧((∀ n ∈ x.1.weights Tryz.prog 23,n ≤ reachBytes)→b.text.length ≤ reachBytes):=by
 obtain ⟨xs,n,rfl,rfl,hl,hn,hf⟩:=DataW.trod_struct Tryz.underlying23 h
 have cB:Tryz.prog.cellsOf 23=4:=by kernel_rfl
 have c3:Tryz.prog.cellsOf 3=1:=by kernel_rfl
 have c4:Tryz.prog.cellsOf 4=1:=by kernel_rfl
 have c5:Tryz.prog.cellsOf 5=1:=by kernel_rfl
 have c9:Tryz.prog.cellsOf 9=1:=by kernel_rfl
 rw [cB] at hl
 have hn:xs.length=4:=hn
 obtain ⟨a0,a1,a2,a3,rfl⟩:=len_four hl
 obtain ⟨x0,x1,x2,x3,rfl⟩:=len_four hn
 have g0:DataW.trod enc Tryz.prog w base spare held n 5 [a0]=some x0:=by
  have:(([a0,a1,a2,a3]:List Value).drop 0).take (Tryz.prog.cellsOf 5) = [a0]:=by rw [c5];rfl
  rw [← this];exact hf 0 _ rfl
 have g1:DataW.trod enc Tryz.prog w base spare held n 3 [a1]=some x1:=by
  have:(([a0,a1,a2,a3]:List Value).drop 1).take (Tryz.prog.cellsOf 3) = [a1]:=by rw [c3];rfl
  rw [← this];exact hf 1 _ rfl
 have g2:DataW.trod enc Tryz.prog w base spare held n 9 [a2]=some x2:=by
  have:(([a0,a1,a2,a3]:List Value).drop 2).take (Tryz.prog.cellsOf 9) = [a2]:=by rw [c9];rfl
  rw [← this];exact hf 2 _ rfl
 have g3:DataW.trod enc Tryz.prog w base spare held n 4 [a3]=some x3:=by
  have:(([a0,a1,a2,a3]:List Value).drop 3).take (Tryz.prog.cellsOf 4) = [a3]:=by rw [c4];rfl
  rw [← this];exact hf 3 _ rfl
 obtain ⟨n0,e0,y0,w0⟩:=DataW.trod_int Tryz.underlying5 g0
 obtain ⟨n1,e1,y1,w1⟩:=DataW.trod_int Tryz.underlying3 g1
 obtain ⟨s2,e2,y2,hs2⟩:=DataW.trod_string Tryz.underlying9 g2
 obtain ⟨y3,e3,y3'⟩:=DataW.trod_bool Tryz.underlying4 g3
 cases e0
 cases e1
 cases e2
 cases e3
 have hbl:(bl s2).length=s2.size:=bl_len s2
 refine ⟨⟨n0,n1,bl s2,y3⟩,by unfold bcs;rw [tx_bl],⟨byte_of_wf w0,i64_of_wf w1,?_⟩,fun hw=>?_⟩
 ·unfold maxLen at hs2
  show (bl s2).length ≤ _
  omega
 ·subst y2
  have:=hw s2.data.toList.length (by
   simp only [DataW.weights,Tryz.underlying23]
   simp [DataW.weightsEach,DataW.weights,y0,y1,y3'])
  show (bl s2).length ≤ _
  rw [hbl]
  simpa using this
theorem open_rowW {t e C B:Nat} {v:Value} {x:DataW H × List MemPlace} (ht:Tryz.prog.underlying t=some (.slice e)) (hC:Tryz.prog.cellsOf e=C) (hB:Tryz.prog.bytesOf e=B) (h0:0 < C) (h:DataW.trod enc Tryz.prog w base spare held fuel t [v]=some x)
  (hw:∀ n ∈ x.1.weights Tryz.prog t,n ≤ reachBytes) {α:Type} (R:List Value→α→Prop) (d0:α)
  (hel:∀ (cs:List Value) (y:DataW H × List MemPlace) (n:Nat),DataW.trod enc Tryz.prog w base spare held n e cs=some y→(∀ k ∈ y.1.weights Tryz.prog e,k ≤ reachBytes)→∃ a,R cs a) :
  ∃ (L:List α) (ao:Option Addr) (cap:Nat),v = .slice ao L.length cap∧L.length * B ≤ reachBytes∧∃ f:Nat→List Value,∀ i,i < L.length→R (f i) (L.getD i d0)∧∃ b o,ao=some ⟨b,o,none⟩∧w.rangeAt b (o + i * C) (f i):=by
 rcases DataW.trod_slice ht h with ⟨hc,rfl⟩ | ⟨a,len,cap,elems,rest,n,rfl,hc,rfl,hb,hl,hm,hle,hi,-,-⟩
 ·obtain rfl:v = .slice none 0 0:=by simpa using hc
  exact ⟨[],none,0,rfl,by simp,fun _=>[],fun i hi=>by simp at hi⟩
 ·obtain rfl:v = .slice (some a) len cap:=by simpa using hc
  have hwe:∀ (i:Nat) (y:DataW H × List MemPlace),elems[i]? = some y→∀ k ∈ y.1.weights Tryz.prog e,k ≤ reachBytes:=fun i y hy k hk=>hw k (by
   have hmem:y.1 ∈ elems.map (·.1):=List.mem_map.2 ⟨_,List.mem_of_getElem? hy,rfl⟩
   have:=weightsAll_mem (P:=Tryz.prog) (e:=e) hmem k hk
   simp only [DataW.weights,ht,List.mem_cons,List.mem_append]
   exact .inr (.inl this))
  have hlen:len * B ≤ reachBytes:=by
   have:=hw _ (by simp only [DataW.weights,ht];exact List.mem_cons_self ..)
   rw [hB,List.length_map,hle] at this
   refine Nat.le_trans (Nat.mul_le_mul_right _ (Nat.le_add_right _ _)) this
  have hone:∀ i,i < len→∃ a':α × List Value,R a'.2 a'.1∧∃ b o,some a=some ⟨b,o,none⟩∧w.rangeAt b (o + i * C) a'.2:=by
   intro i hil
   have hE:=hi i hil
   obtain ⟨y,hy⟩:=take_some hle hil
   rw [hy] at hE
   obtain ⟨cs',hcs,htr⟩:=Option.bind_eq_some_iff.1 hE
   obtain ⟨r,hr⟩:=hel cs' y _ htr (hwe i y hy)
   refine ⟨(r,cs'),hr,?_⟩
   obtain ⟨_,hcl,hat⟩:=World.cells?_some hcs
   rw [hC] at hcl hat
   obtain ⟨b,o,sp⟩:=a
   obtain rfl:sp=none:=by
    have hE0:=hi 0 (by omega)
    obtain ⟨y0,hy0⟩:=take_some hle (show 0 < len by omega)
    obtain ⟨cs0,hcs0,_⟩:=Option.bind_eq_some_iff.1 (hE0.trans hy0)
    obtain ⟨_,hcl0,hat0⟩:=World.cells?_some hcs0
    rw [hC] at hcl0 hat0
    have hs0:=hat0 0 (by omega)
    rw [List.getElem?_eq_getElem (by omega)] at hs0
    have hsp:=spot_none hs0
    simpa [Addr.add] using hsp
   refine ⟨b,o,rfl,fun j u hj=>?_⟩
   have hjl:j < C:=by
    rcases Nat.lt_or_ge j C with h | h
    ·exact h
    ·have hj':cs'[j]? = some u:=hj
     rw [List.getElem?_eq_none (by omega)] at hj';cases hj'
   have:=hat j hjl
   have hj':cs'[j]? = some u:=hj
   rw [hj',Addr.add_mid,Addr.add_mid] at this
   exact this
  obtain ⟨L,hL,hR⟩:=choose_list len _ (d0,[]) hone
  refine ⟨L.map (·.1),some a,cap,by rw [List.length_map,hL],by rw [List.length_map,hL];exact hlen,fun i=>(L.getD i (d0,[])).2,fun i hi=>?_⟩
  rw [List.length_map] at hi
  obtain ⟨h1,h2⟩:=hR i (by omega)
  have e:(L.map (·.1)).getD i d0=(L.getD i (d0,[])).1:=by
   simp [List.getD,hi]
  rw [e]
  exact ⟨h1,h2⟩
end
end Go.Proofs.YtnknmmbnhoanfaaGreatDoor
namespace Go.Proofs.YtnknmmbnhoanfaaGreatDoor
open Go.RowKit Go.Shelf Go.Cs Go.ChangeShapes Go.WideShapes Go.ChangeAt Go.WideMaps Go.WideElems Go.ChangeMaps

def InP (L:List Bare.Par):Prop:=L.length * 56 ≤ reachBytes∧∀ p ∈ L,BaIn p.bare∧p.key.length ≤ reachBytes∧p.bare.text.length ≤ reachBytes
def InX (x:Bare.Itm):Prop:=BaIn x.bare∧x.bare.text.length ≤ reachBytes∧InP x.params
def InM (m:Bare.Mem):Prop:=m.key.length ≤ reachBytes∧m.items.length * 64 ≤ reachBytes∧(∀ x ∈ m.items,InX x)∧InP m.params
def InD (d:List Bare.Mem):Prop:=d.length * 72 ≤ reachBytes∧∀ m ∈ d,InM m
theorem reach_num:reachBytes=140737488351232:=rfl
theorem mem_getD {α:Type} {l:List α} {a d:α} (h:a ∈ l):∃ i,i < l.length∧l.getD i d=a:=by
 obtain ⟨i,hi⟩:=List.getElem?_of_mem h
 exact ⟨i,(List.getElem?_eq_some_iff.1 hi).1,by rw [List.getD_eq_getElem?_getD,hi];rfl⟩
section
variable {H:Type} {enc:TypeId × Value→H} {w:World} {base:Nat} {spare:Nat→Bool} {held:Bool} {fuel:Nat}
theorem len_five {α:Type}:∀ {l:List α},l.length=5→∃ a b c d e,l = [a,b,c,d,e]
 | [a,b,c,d,e],_=>⟨a,b,c,d,e,rfl⟩
theorem cB4:Tryz.prog.cellsOf 23=4:=by kernel_rfl
theorem cP5:Tryz.prog.cellsOf 83=5:=by kernel_rfl
theorem cX5:Tryz.prog.cellsOf 85=5:=by kernel_rfl
theorem cM4:Tryz.prog.cellsOf 44=4:=by kernel_rfl
theorem c91:Tryz.prog.cellsOf 9=1:=by kernel_rfl
theorem c41:Tryz.prog.cellsOf 4=1:=by kernel_rfl
theorem csP:Tryz.prog.cellsOf 42=1:=by kernel_rfl
theorem csX:Tryz.prog.cellsOf 41=1:=by kernel_rfl
theorem bP56:Tryz.prog.bytesOf 83=56:=by kernel_rfl
theorem bX64:Tryz.prog.bytesOf 85=64:=by kernel_rfl
theorem bM72:Tryz.prog.bytesOf 44=72:=by kernel_rfl
theorem weight_str {d:DataW H} {s:ByteArray} (h:d = .lit (.string s.data.toList)) {t:TypeId} (hw:∀ n ∈ d.weights Tryz.prog t,n ≤ reachBytes):(bl s).length ≤ reachBytes:=by
 subst h
 have:=hw s.data.toList.length (by simp [DataW.weights])
 rw [bl_len]
 simpa using this
theorem open_par {cs:List Value} {x:DataW H × List MemPlace} (h:DataW.trod enc Tryz.prog w base spare held fuel 83 cs=some x) (hw:∀ n ∈ x.1.weights Tryz.prog 83,n ≤ reachBytes) :
  ∃ p:Bare.Par,cs=pcs p∧BaIn p.bare∧p.key.length ≤ reachBytes∧p.bare.text.length ≤ reachBytes:=by
 obtain ⟨xs,n,rfl,rfl,hl,hn,hf⟩:=DataW.trod_struct Tryz.underlying83 h
 rw [cP5] at hl
 have hn:xs.length=2:=hn
 obtain ⟨a0,a1,a2,a3,a4,rfl⟩:=len_five hl
 obtain ⟨x0,x1,rfl⟩:=len_two hn
 have g0:DataW.trod enc Tryz.prog w base spare held n 9 [a0]=some x0:=by
  have:(([a0,a1,a2,a3,a4]:List Value).drop 0).take (Tryz.prog.cellsOf 9) = [a0]:=by rw [c91];rfl
  rw [← this];exact hf 0 _ rfl
 have g1:DataW.trod enc Tryz.prog w base spare held n 23 [a1,a2,a3,a4]=some x1:=by
  have:(([a0,a1,a2,a3,a4]:List Value).drop 1).take (Tryz.prog.cellsOf 23) = [a1,a2,a3,a4]:=by rw [cB4];rfl
  rw [← this];exact hf 1 _ rfl
 obtain ⟨s0,e0,y0,-⟩:=DataW.trod_string Tryz.underlying9 g0
 obtain ⟨b,e1,hb,hr⟩:=open_bare g1
 cases e0
 have hq:∀ (t:TypeId) (y:DataW H × List MemPlace) (i:Nat),[(9,x0),(23,x1)][i]? = some (t,y)→∀ k ∈ y.1.weights Tryz.prog t,k ≤ reachBytes:=fun t y i hi k hk=>hw k (by
  simp only [DataW.weights,Tryz.underlying83]
  match i with
  | 0=>cases hi;simp [DataW.weightsEach];exact .inl hk
  | 1=>cases hi;simp [DataW.weightsEach];exact .inr hk
  | i + 2=>cases hi)
 refine ⟨⟨bl s0,b⟩,?_,hb,?_,hr (hq _ _ 1 rfl)⟩
 ·unfold pcs
  rw [tx_bl]
  unfold bcs at e1
  rw [e1]
 ·subst y0
  exact weight_str rfl (hq _ _ 0 rfl)
theorem open_P {v:Value} {x:DataW H × List MemPlace} (h:DataW.trod enc Tryz.prog w base spare held fuel 42 [v]=some x) (hw:∀ n ∈ x.1.weights Tryz.prog 42,n ≤ reachBytes) :
  ∃ L:List Bare.Par,RdP false w v L∧InP L:=by
 obtain ⟨L,ao,cap,rfl,hl,f,hf⟩:=open_rowW Tryz.underlying42 cP5 bP56 (by decide) h hw (fun cs p=>cs=pcs p∧BaIn p.bare∧p.key.length ≤ reachBytes∧p.bare.text.length ≤ reachBytes) noP (fun cs y n hy hk=>open_par hy hk)
 rw [reach_num] at hl
 refine ⟨L,⟨⟨by omega,ao,cap,rfl,fun i hi=>?_⟩,tag_none⟩,by rw [reach_num];exact hl,fun p hp=>?_⟩
 ·obtain ⟨⟨e,-⟩,b,o,ha,hr⟩:=hf i hi
  rw [e] at hr
  exact ⟨b,o,ha,hr⟩
 ·obtain ⟨i,hi,rfl⟩:=mem_getD (d:=noP) hp
  exact (hf i hi).1.2
theorem open_itm {cs:List Value} {x:DataW H × List MemPlace} (h:DataW.trod enc Tryz.prog w base spare held fuel 85 cs=some x) (hw:∀ n ∈ x.1.weights Tryz.prog 85,n ≤ reachBytes) :
  ∃ (y:Bare.Itm),(∃ pv,cs=ics y pv∧RdP false w pv y.params)∧InX y:=by
 obtain ⟨xs,n,rfl,rfl,hl,hn,hf⟩:=DataW.trod_struct Tryz.underlying85 h
 rw [cX5] at hl
 have hn:xs.length=2:=hn
 obtain ⟨a0,a1,a2,a3,a4,rfl⟩:=len_five hl
 obtain ⟨x0,x1,rfl⟩:=len_two hn
 have g0:DataW.trod enc Tryz.prog w base spare held n 23 [a0,a1,a2,a3]=some x0:=by
  have:(([a0,a1,a2,a3,a4]:List Value).drop 0).take (Tryz.prog.cellsOf 23) = [a0,a1,a2,a3]:=by rw [cB4];rfl
  rw [← this];exact hf 0 _ rfl
 have g1:DataW.trod enc Tryz.prog w base spare held n 42 [a4]=some x1:=by
  have:(([a0,a1,a2,a3,a4]:List Value).drop 4).take (Tryz.prog.cellsOf 42) = [a4]:=by rw [csP];rfl
  rw [← this];exact hf 1 _ rfl
 have hq:∀ (t:TypeId) (y:DataW H × List MemPlace) (i:Nat),[(23,x0),(42,x1)][i]? = some (t,y)→∀ k ∈ y.1.weights Tryz.prog t,k ≤ reachBytes:=fun t y i hi k hk=>hw k (by
  simp only [DataW.weights,Tryz.underlying85]
  match i with
  | 0=>cases hi;simp [DataW.weightsEach];exact .inl hk
  | 1=>cases hi;simp [DataW.weightsEach];exact .inr hk
  | i + 2=>cases hi)
 obtain ⟨b,e1,hb,hr⟩:=open_bare g0
 obtain ⟨L,hL,hLI⟩:=open_P g1 (hq _ _ 1 rfl)
 refine ⟨⟨b,L⟩,⟨a4,?_,hL⟩,hb,hr (hq _ _ 0 rfl),hLI⟩
 unfold ics
 unfold bcs at e1
 rw [List.cons.injEq,List.cons.injEq,List.cons.injEq,List.cons.injEq] at e1
 obtain ⟨rfl,rfl,rfl,rfl,-⟩:=e1
 rfl
theorem open_X {v:Value} {x:DataW H × List MemPlace} (h:DataW.trod enc Tryz.prog w base spare held fuel 41 [v]=some x) (hw:∀ n ∈ x.1.weights Tryz.prog 41,n ≤ reachBytes) :
  ∃ L:List Bare.Itm,RdI false w v L∧L.length * 64 ≤ reachBytes∧∀ y ∈ L,InX y:=by
 obtain ⟨L,ao,cap,rfl,hl,f,hf⟩:=open_rowW Tryz.underlying41 cX5 bX64 (by decide) h hw (fun cs y=>(∃ pv,cs=ics y pv∧RdP false w pv y.params)∧InX y) Bare.noI (fun cs y n hy hk=>open_itm hy hk)
 rw [reach_num] at hl
 refine ⟨L,⟨fun i=>(f i).getD 4 undef,⟨by omega,ao,cap,rfl,fun i hi=>?_⟩,tag_none,fun i hi=>?_⟩,by rw [reach_num];exact hl,fun p hp=>?_⟩
 ·obtain ⟨⟨⟨pv,e,-⟩,-⟩,b,o,ha,hr⟩:=hf i hi
  refine ⟨b,o,ha,?_⟩
  dsimp only
  rw [e] at hr ⊢
  exact hr
 ·obtain ⟨⟨⟨pv,e,hp⟩,-⟩,-⟩:=hf i hi
  dsimp only
  rw [e]
  exact hp
 ·obtain ⟨i,hi,rfl⟩:=mem_getD (d:=Bare.noI) hp
  exact (hf i hi).1.2
theorem open_mem {cs:List Value} {x:DataW H × List MemPlace} (h:DataW.trod enc Tryz.prog w base spare held fuel 44 cs=some x) (hw:∀ n ∈ x.1.weights Tryz.prog 44,n ≤ reachBytes) :
  ∃ (m:Bare.Mem),(∃ iv pv,cs=mcs m iv pv∧RdI false w iv m.items∧RdP false w pv m.params)∧InM m:=by
 obtain ⟨xs,n,rfl,rfl,hl,hn,hf⟩:=DataW.trod_struct Tryz.underlying44 h
 rw [cM4] at hl
 have hn:xs.length=4:=hn
 obtain ⟨a0,a1,a2,a3,rfl⟩:=len_four hl
 obtain ⟨x0,x1,x2,x3,rfl⟩:=len_four hn
 have g0:DataW.trod enc Tryz.prog w base spare held n 9 [a0]=some x0:=by
  have:(([a0,a1,a2,a3]:List Value).drop 0).take (Tryz.prog.cellsOf 9) = [a0]:=by rw [c91];rfl
  rw [← this];exact hf 0 _ rfl
 have g1:DataW.trod enc Tryz.prog w base spare held n 4 [a1]=some x1:=by
  have:(([a0,a1,a2,a3]:List Value).drop 1).take (Tryz.prog.cellsOf 4) = [a1]:=by rw [c41];rfl
  rw [← this];exact hf 1 _ rfl
 have g2:DataW.trod enc Tryz.prog w base spare held n 41 [a2]=some x2:=by
  have:(([a0,a1,a2,a3]:List Value).drop 2).take (Tryz.prog.cellsOf 41) = [a2]:=by rw [csX];rfl
  rw [← this];exact hf 2 _ rfl
 have g3:DataW.trod enc Tryz.prog w base spare held n 42 [a3]=some x3:=by
  have:(([a0,a1,a2,a3]:List Value).drop 3).take (Tryz.prog.cellsOf 42) = [a3]:=by rw [csP];rfl
  rw [← this];exact hf 3 _ rfl
 have hq:∀ (t:TypeId) (y:DataW H × List MemPlace) (i:Nat),[(9,x0),(4,x1),(41,x2),(42,x3)][i]? = some (t,y)→∀ k ∈ y.1.weights Tryz.prog t,k ≤ reachBytes:=fun t y i hi k hk=>hw k (by
  simp only [DataW.weights,Tryz.underlying44]
  match i with
  | 0=>cases hi;simp [DataW.weightsEach];exact .inl hk
  | 1=>cases hi;simp [DataW.weightsEach];exact .inr (.inl hk)
  | 2=>cases hi;simp [DataW.weightsEach];exact .inr (.inr (.inl hk))
  | 3=>cases hi;simp [DataW.weightsEach];exact .inr (.inr (.inr hk))
  | i + 4=>cases hi)
 obtain ⟨s0,e0,y0,-⟩:=DataW.trod_string Tryz.underlying9 g0
 obtain ⟨b1,e1,-⟩:=DataW.trod_bool Tryz.underlying4 g1
 obtain ⟨I,hI,hIl,hII⟩:=open_X g2 (hq _ _ 2 rfl)
 obtain ⟨L,hL,hLI⟩:=open_P g3 (hq _ _ 3 rfl)
 cases e0
 cases e1
 refine ⟨⟨bl s0,b1,I,L⟩,⟨a2,a3,by unfold mcs;rw [tx_bl],hI,hL⟩,?_,hIl,hII,hLI⟩
 subst y0
 exact weight_str rfl (hq _ _ 0 rfl)
theorem open_D {v:Value} {x:DataW H × List MemPlace} (h:DataW.trod enc Tryz.prog w base spare held fuel 36 [v]=some x) (hw:∀ n ∈ x.1.weights Tryz.prog 36,n ≤ reachBytes) :
  ∃ d:List Bare.Mem,RdD false w v d∧InD d:=by
 obtain ⟨L,ao,cap,rfl,hl,f,hf⟩:=open_rowW Tryz.underlying36 cM4 bM72 (by decide) h hw (fun cs m=>(∃ iv pv,cs=mcs m iv pv∧RdI false w iv m.items∧RdP false w pv m.params)∧InM m) noM (fun cs y n hy hk=>open_mem hy hk)
 rw [reach_num] at hl
 refine ⟨L,⟨fun i=>(f i).getD 2 undef,fun i=>(f i).getD 3 undef,⟨by omega,ao,cap,rfl,fun i hi=>?_⟩,tag_none,fun i hi=>?_⟩,by rw [reach_num];exact hl,fun p hp=>?_⟩
 ·obtain ⟨⟨⟨iv,pv,e,-⟩,-⟩,b,o,ha,hr⟩:=hf i hi
  refine ⟨b,o,ha,?_⟩
  dsimp only
  rw [e] at hr ⊢
  exact hr
 ·obtain ⟨⟨⟨iv,pv,e,h1,h2⟩,-⟩,-⟩:=hf i hi
  dsimp only
  rw [e]
  exact ⟨h1,h2⟩
 ·obtain ⟨i,hi,rfl⟩:=mem_getD (d:=noM) hp
  exact (hf i hi).1.2
end
theorem InD.fits {d:List Bare.Mem} (h:InD d):∀ m ∈ d,m.items.length ≤ 2199023255552∧m.params.length ≤ 2513169434880∧∀ i,i < m.items.length→(m.items.getD i Bare.noI).params.length ≤ 2513169434880:=fun m hm=>by
 obtain ⟨-,h2,h3,h4⟩:=h.2 m hm
 have h4:=h4.1
 rw [reach_num] at h2 h4
 refine ⟨by omega,by omega,fun i hi=>?_⟩
 have:=(h3 _ (getD_mem (d:=Bare.noI) hi)).2.2.1
 rw [reach_num] at this
 omega
end Go.Proofs.YtnknmmbnhoanfaaGreatDoor
namespace Go.Proofs.YtnknmmbnhoanfaaGreatDoor


theorem quoted_txt:∀ (n:Nat) (s acc rest:Bare.Bs) (b:Bare.It),s.length ≤ n→Bare.quoted acc s=some (b,rest)→b.text.length ≤ acc.length + s.length
 | _,[],_,_,_,_,h=>by cases h
 | 0,c::r,_,_,_,hn,_=>by simp at hn
 | n + 1,c::r,acc,rest,b,hn,h=>by
  rw [Bare.quoted_cons] at h
  split at h
  ·cases h
  ·split at h
   ·cases h
    simp
   ·split at h
    ·cases r with
     | nil=>cases h
     | cons d r' =>
      simp only at h
      split at h
      ·have:=quoted_txt n r' (acc ++ [d]) rest b (by simp at hn;omega) h
       simp at this ⊢
       omega
      ·cases h
    ·have:=quoted_txt n r (acc ++ [c]) rest b (by simp at hn;omega) h
     simp at this ⊢
     omega
theorem number_txt {s rest:Bare.Bs} {b:Bare.It} (h:Bare.number s=some (b,rest)):b.text = []:=by
 unfold Bare.number at h
 simp only at h
 split at h
 ·split at h
  ·cases h
  ·split at h
   ·cases h;rfl
   ·split at h
    ·cases h
    ·cases h;rfl
 ·split at h
  ·cases h
  ·split at h
   ·cases h;rfl
   ·split at h
    ·cases h
    ·cases h;rfl
theorem unsix_ln {l t:Bare.Bs} (h:Bare.unsix l=some t):t.length ≤ l.length:=by
 have:=Bare.sixes_len t
 rw [Bare.sixes_unsix h] at this
 omega
theorem parse_txt {s rest:Bare.Bs} {b:Bare.It} (h:Bare.parseI s=some (b,rest)):b.text.length ≤ s.length:=by
 cases s with
 | nil=>cases h
 | cons c r =>
  rw [Bare.parseI_cons] at h
  split at h
  ·rw [number_txt h];simp
  split at h
  ·simp only [Option.some.injEq,Prod.mk.injEq] at h
   obtain ⟨rfl,rfl⟩:=h
   exact Bare.takeWhile_len _ _
  split at h
  ·have:=quoted_txt r.length r [] rest b (Nat.le_refl _) h
   simp at this ⊢
   omega
  split at h
  ·unfold Bare.packed at h
   have hl:=Bare.takeWhile_len (· != 58) r
   obtain ⟨i,hi⟩:∃ x,r.takeWhile (· != 58)=x:=⟨_,rfl⟩
   rw [hi] at hl
   simp only [hi] at h
   split at h
   ·cases h
   ·cases hu:Bare.unsix i with
    | none=>rw [hu] at h;cases h
    | some t =>
     rw [hu] at h
     simp only [Option.map_some,Option.some.injEq,Prod.mk.injEq] at h
     obtain ⟨rfl,rfl⟩:=h
     have:=unsix_ln hu
     simp
     omega
  split at h
  ·cases r with
   | nil=>cases h
   | cons d r' =>
    simp only at h
    split at h
    ·simp only [Option.some.injEq,Prod.mk.injEq] at h
     obtain ⟨rfl,rfl⟩:=h
     simp
    ·cases h
  ·cases h
def SzP (n:Nat) (ps:List Bare.Par):Prop:=ps.length ≤ n∧∀ p ∈ ps,p.key.length ≤ n∧p.bare.text.length ≤ n
def SzX (n:Nat) (x:Bare.Itm):Prop:=x.bare.text.length ≤ n∧SzP n x.params
def SzM (n:Nat) (m:Bare.Mem):Prop:=m.key.length ≤ n∧m.items.length ≤ n∧SzP n m.params∧∀ x ∈ m.items,SzX n x
def SzD (n:Nat) (d:List Bare.Mem):Prop:=d.length ≤ n∧∀ m ∈ d,SzM n m
theorem readKey_txt {s k r:Bare.Bs} (h:Bare.readKey s=some (k,r)):k.length ≤ s.length:=by
 unfold Bare.readKey at h
 simp only at h
 split at h
 ·cases h
 ·cases h
  cases s with
  | nil=>simp [Bare.keyOf]
  | cons c l =>
   show (if Bare.smlB c then c::l.takeWhile Bare.inKey else []).length ≤ _
   split
   ·have:=Bare.takeWhile_len Bare.inKey l
    simp
    omega
   ·simp
theorem readVal_txt {s r:Bare.Bs} {b:Bare.It} (h:Bare.readVal s=some (b,r)):b.text.length ≤ s.length:=by
 unfold Bare.readVal at h
 split at h
 ·have:=parse_txt h
  simp
  omega
 ·cases h;simp [Bare.yesI]
theorem setP_sz (l:List Bare.Par) (p:Bare.Par):(Bare.setP l p).length ≤ l.length + 1∧∀ q ∈ Bare.setP l p,q ∈ l ∨ q=p:=by
 unfold Bare.setP
 split
 ·refine ⟨by simp,fun q hq=>?_⟩
  obtain ⟨x,hx,e⟩:=List.mem_map.1 hq
  split at e
  ·exact .inr e.symm
  ·exact .inl (e ▸ hx)
 ·exact ⟨by simp,fun q hq=>by simpa [or_comm] using hq⟩
theorem setM_sz (l:List Bare.Mem) (p:Bare.Mem):(Bare.setM l p).length ≤ l.length + 1∧∀ q ∈ Bare.setM l p,q ∈ l ∨ q=p:=by
 unfold Bare.setM
 split
 ·refine ⟨by simp,fun q hq=>?_⟩
  obtain ⟨x,hx,e⟩:=List.mem_map.1 hq
  split at e
  ·exact .inr e.symm
  ·exact .inl (e ▸ hx)
 ·exact ⟨by simp,fun q hq=>by simpa [or_comm] using hq⟩
theorem readParams_sz (N:Nat):∀ (n:Nat) (s:Bare.Bs) (l ps:List Bare.Par) (r:Bare.Bs),s.length ≤ n→s.length ≤ N→(∀ p ∈ l,p.key.length ≤ N∧p.bare.text.length ≤ N)→Bare.readParams l s=some (ps,r) →
  ps.length + r.length ≤ l.length + s.length∧∀ p ∈ ps,p.key.length ≤ N∧p.bare.text.length ≤ N:=by
 intro n
 induction n with
 | zero =>
  intro s l ps r hn hN hl h
  have:s = []:=List.length_eq_zero_iff.1 (by omega)
  subst this
  rw [Bare.readParams_end l [] (by simp)] at h
  cases h;exact ⟨Nat.le_refl _,hl⟩
 | succ n ih =>
  intro s l ps r hn hN hl h
  rw [Bare.readParams.eq_def] at h
  split at h
  ·rename_i r0
   split at h
   ·cases h
   ·rename_i k r1 h1
    split at h
    ·cases h
    ·rename_i b r2 h2
     have a1:=Bare.readKey_len h1
     have a2:=Bare.readVal_len h2
     have a3:=Bare.skip_len [32] r0
     have t1:=readKey_txt h1
     have t2:=readVal_txt h2
     simp only [List.length_cons] at hn hN
     obtain ⟨s1,s2⟩:=setP_sz l ⟨k,b⟩
     obtain ⟨i1,i2⟩:=ih r2 _ ps r (by omega) (by omega) (fun p hp=>by
      rcases s2 p hp with hp | rfl
      ·exact hl p hp
      ·exact ⟨by show k.length ≤ N;omega,by show b.text.length ≤ N;omega⟩) h
     exact ⟨by simp only [List.length_cons];omega,i2⟩
  ·cases h;exact ⟨Nat.le_refl _,hl⟩
theorem readParams_nil (N:Nat) {s r:Bare.Bs} {ps:List Bare.Par} (hN:s.length ≤ N) (h:Bare.readParams [] s=some (ps,r)):SzP N ps:=by
 obtain ⟨h1,h2⟩:=readParams_sz N _ s [] ps r (Nat.le_refl _) hN (fun p hp=>by cases hp) h
 simp at h1
 exact ⟨by omega,h2⟩
theorem readItem_sz (N:Nat) {s r:Bare.Bs} {x:Bare.Itm} (hN:s.length ≤ N) (h:Bare.readItem s=some (x,r)):SzX N x:=by
 unfold Bare.readItem at h
 split at h
 ·cases h
 ·rename_i b r1 h1
  split at h
  ·cases h
  ·rename_i ps r2 h2
   cases h
   have t1:=parse_txt h1
   have a1:=Bare.parseI_len h1
   exact ⟨by show b.text.length ≤ N;omega,readParams_nil N (by omega) h2⟩
theorem readInner_sz (N:Nat):∀ (n:Nat) (s:Bare.Bs) (l ps:List Bare.Itm) (r:Bare.Bs),s.length ≤ n→s.length ≤ N→(∀ x ∈ l,SzX N x)→Bare.readInner l s=some (ps,r) →
  ps.length + r.length ≤ l.length + s.length∧∀ x ∈ ps,SzX N x:=by
 intro n
 induction n with
 | zero =>
  intro s l ps r hn hN hl h
  have:s = []:=List.length_eq_zero_iff.1 (by omega)
  subst this
  rw [Bare.readInner.eq_def] at h
  simp [Bare.skipB,Bare.readItem,Bare.parseI] at h
 | succ n ih =>
  intro s l ps r hn hN hl h
  have a2:=Bare.skip_len [32] s
  rw [Bare.readInner.eq_def] at h
  split at h
  ·rename_i r0 h0
   cases h
   rw [h0] at a2
   simp only [List.length_cons] at a2
   exact ⟨by omega,hl⟩
  ·split at h
   ·cases h
   ·rename_i x r1 h1
    have a1:=Bare.readItem_len h1
    have b1:=readItem_sz N (by omega) h1
    split at h
    ·obtain ⟨i1,i2⟩:=ih r1 _ ps r (by omega) (by omega) (fun y hy=>by
      rcases List.mem_append.1 hy with hy | hy
      ·exact hl y hy
      ·rw [List.mem_singleton] at hy;exact hy ▸ b1) h
     rw [List.length_append] at i1
     simp only [List.length_singleton] at i1
     exact ⟨by omega,i2⟩
    ·cases h
theorem readMem_sz (N:Nat) {s r:Bare.Bs} {m:Bare.Mem} (h1:1 ≤ N) (hN:s.length ≤ N) (h:Bare.readMem s=some (m,r)):SzM N m:=by
 unfold Bare.readMem at h
 split at h
 ·cases h
 ·rename_i k r0 h0
  have a0:=Bare.readKey_len h0
  have t0:=readKey_txt h0
  unfold Bare.readRest at h
  split at h
  ·rename_i r1
   split at h
   ·cases h
   ·rename_i items r2 h2
    split at h
    ·cases h
    ·rename_i ps r3 h3
     cases h
     simp only [List.length_cons] at a0
     obtain ⟨i1,i2⟩:=readInner_sz N _ r1 [] items r2 (Nat.le_refl _) (by omega) (fun x hx=>by cases hx) h2
     simp at i1
     exact ⟨by show k.length ≤ N;omega,by show items.length ≤ N;omega,readParams_nil N (by omega) h3,i2⟩
  ·rename_i r1 _
   split at h
   ·cases h
   ·rename_i x r2 h2
    cases h
    simp only [List.length_cons] at a0
    refine ⟨by show k.length ≤ N;omega,by show 1 ≤ N;omega,⟨Nat.zero_le _,fun p hp=>by cases hp⟩,fun y hy=>?_⟩
    rw [List.mem_singleton] at hy
    exact hy ▸ readItem_sz N (by omega) h2
  ·split at h
   ·cases h
   ·rename_i ps r2 h2
    cases h
    refine ⟨by show k.length ≤ N;omega,by show 1 ≤ N;omega,⟨Nat.zero_le _,fun p hp=>by cases hp⟩,fun y hy=>?_⟩
    rw [List.mem_singleton] at hy
    exact hy ▸ ⟨by simp [Bare.yesI],readParams_nil N (by omega) h2⟩
theorem readD_sz (N:Nat) (h1:1 ≤ N):∀ (n:Nat) (s:Bare.Bs) (d e:List Bare.Mem),s.length ≤ n→s.length ≤ N→(∀ m ∈ d,SzM N m)→Bare.readD d s=some e→e.length ≤ d.length + s.length∧∀ m ∈ e,SzM N m:=by
 intro n
 induction n with
 | zero =>
  intro s d e hn hN hd h
  have:s = []:=List.length_eq_zero_iff.1 (by omega)
  subst this
  rw [Bare.readD.eq_def] at h
  cases h;exact ⟨Nat.le_refl _,hd⟩
 | succ n ih =>
  intro s d e hn hN hd h
  rw [Bare.readD.eq_def] at h
  split at h
  ·cases h;exact ⟨Nat.le_refl _,hd⟩
  ·rename_i c l
   split at h
   ·cases h
   ·rename_i m r h2
    have hm:=readMem_sz N h1 hN h2
    have a1:=Bare.readMem_len h2
    obtain ⟨s1,s2⟩:=setM_sz d m
    have hset:∀ q ∈ Bare.setM d m,SzM N q:=fun q hq=>by
     rcases s2 q hq with hq | rfl
     ·exact hd q hq
     ·exact hm
    split at h
    ·cases h
     simp only [List.length_cons] at a1 ⊢
     exact ⟨by omega,hset⟩
    ·split at h
     ·rename_i r2 h3
      simp only at h
      split at h
      ·cases h
      ·have a2:=Bare.skip_len [32,9] r
       rw [h3] at a2
       have a3:=Bare.skip_len [32,9] r2
       simp only [List.length_cons] at a1 a2 hn hN
       obtain ⟨i1,i2⟩:=ih _ _ e (by omega) (by omega) hset h
       exact ⟨by simp only [List.length_cons];omega,i2⟩
     ·cases h
theorem parse_sz {N:Nat} {s:Bare.Bs} {d:List Bare.Mem} (h1:1 ≤ N) (hN:s.length ≤ N) (h:Bare.parseD s=some d):SzD N d:=by
 unfold Bare.parseD at h
 have a1:=Bare.skip_len [32] s
 have a2:(Bare.trimR 32 (Bare.skipB [32] s)).length ≤ (Bare.skipB [32] s).length:=by
  have:∀ l:Bare.Bs,(Bare.trimR 32 l).length ≤ l.length:=fun l=>by
   unfold Bare.trimR
   simp only [List.length_reverse]
   have:=Bare.drop_len (fun x=>x == 32) l.reverse
   simp at this
   exact this
  exact this _
 obtain ⟨i1,i2⟩:=readD_sz N h1 _ _ [] d (Nat.le_refl _) (by omega) (fun m hm=>by cases hm) h
 simp at i1
 exact ⟨by omega,i2⟩
end Go.Proofs.YtnknmmbnhoanfaaGreatDoor
namespace Go.Proofs.YtnknmmbnhoanfaaGreatDoor
open Go.RowKit Go.Shelf Go.Cs
attribute [local go_sem] Oper.semAt_some


def keyAt (k:Nat) (c:UInt8):Bool:=if k=0 then Bare.smlB c else Bare.inKey c
def keyM:Bare.Bs:=[95,45,46]
theorem keyB_at (l:Bare.Bs):Bare.keyB l=true ↔ l ≠ []∧∀ k c,l[k]? = some c→keyAt k c=true:=by
 cases l with
 | nil=>simp [Bare.keyB]
 | cons a r =>
  simp only [Bare.keyB,Bool.and_eq_true]
  constructor
  ·rintro ⟨h1,h2⟩
   refine ⟨by simp,fun k c hk=>?_⟩
   cases k with
   | zero=>simp at hk;subst hk;exact h1
   | succ k =>
    rw [List.getElem?_cons_succ] at hk
    exact List.all_eq_true.1 h2 c (List.mem_of_getElem? hk)
  ·rintro ⟨-,h⟩
   refine ⟨h 0 a rfl,List.all_eq_true.2 fun c hc=>?_⟩
   obtain ⟨k,hk⟩:=List.getElem?_of_mem hc
   exact h (k + 1) c hk
theorem key_bad (k:Nat) (c:UInt8):(!Bare.smlB c && ((k == 0) || (decide (c.toNat < 48) || decide (57 < c.toNat)) && !keyM.contains c)) = !keyAt k c:=by
 unfold keyAt Bare.inKey keyM
 by_cases hk:k=0
 ·subst hk;cases Bare.smlB c <;> simp
 ·rw [if_neg hk]
  have:(k == 0)=false:=by simpa using hk
  rw [this]
  have hd:Bare.digB c = !(decide (c.toNat < 48) || decide (57 < c.toNat)):=by
   unfold Bare.digB
   rw [Bool.eq_iff_iff]
   simp
  rw [hd]
  cases Bare.smlB c <;> cases (decide (c.toNat < 48) || decide (57 < c.toNat)) <;> cases [95,45,46].contains c <;> rfl
theorem keyM_o (c:UInt8):decide (Lib.indexByte keyM c < 0) = !keyM.contains c:=by
 have:=Lib.contains_iff_indexByte keyM c
 rw [this,← decide_not]
 exact decide_eq_decide.2 (by omega)
theorem small_any (c:UInt8) (w:World):Calls Tryz.prog 87 #[.int .u8 (c.toNat:Nat)] w fun e w'=>e = .returned (.bool (Bare.smlB c))∧w'=w:=by
  have h42:(c == 42)=decide ((c.toNat:Int)=42):=by
    rw [Bool.eq_iff_iff,beq_iff_eq,decide_eq_true_eq,← UInt8.toNat_inj]
    show c.toNat=42 ↔ _
    omega
  unfold Bare.smlB
  rw [h42]
  have ha:decide (97 ≤ c.toNat)=decide (97 ≤ (c.toNat:Int)):=decide_eq_decide.2 (by omega)
  have hb:decide (c.toNat ≤ 122)=decide ((c.toNat:Int) ≤ 122):=decide_eq_decide.2 (by omega)
  rw [ha,hb]
  have hlt:=UInt8.toNat_lt c
  obtain ⟨n,hn⟩:∃ n,c.toNat=n:=⟨_,rfl⟩
  rw [hn] at *
  clear h42 ha hb hn
  by_cases h1:97 ≤ (n:Int) <;> by_cases h2:(n:Int) ≤ 122 <;> by_cases h3:(n:Int)=42
  all_goals
    first
    | omega
    | (simp only [h1,h2,h3,decide_true,decide_false,Bool.and_true,Bool.or_true,Bool.true_and,Bool.false_and,Bool.and_false,Bool.or_false,Bool.true_or,Bool.false_or]
       go_enter Tryz.func87,Tryz.ntmps87
       go_wp2_with fail
       go_ret
       refine ⟨?_,rfl⟩
       first | rfl | simp [h3])
theorem key_any (s:ByteArray) (w:World) (hs:s.size ≤ 9223372036854775807) :
    Calls Tryz.prog 29 #[.string s] w fun e w'=>e = .returned (.bool (Bare.keyB (bl s)))∧New w w':=by
  have HB:=Lib.hid (keyB_at (bl s))
  obtain ⟨r,hr⟩:∃ r,Bare.keyB (bl s)=r:=⟨_,rfl⟩
  rw [hr] at HB ⊢
  clear hr
  have hcv:=Lib.run_convert_string_bytes (P:=Tryz.prog) w 9 62 5 s Tryz.underlying9 Tryz.underlying62 Tryz.underlying5
  have hN:New w (Lib.bytesWorld w 5 s):=by
    refine ⟨rfl,rfl,rfl,by rw [Lib.bytesWorld_size];omega,fun k o hk _=>?_⟩
    rw [Lib.bytesWorld_at_old w 5 s k (Array.getElem?_eq_some_iff.1 hk).1];exact hk
  have hcell:Hid (∀ k,k < s.size→(Lib.bytesWorld w 5 s).cell? ⟨w.heap.size,k,none⟩=some (.int .u8 ((gb s k).toNat:Nat))):=Lib.hid fun k hk=>Lib.bytesWorld_cell w 5 s k hk
  obtain ⟨W,hW⟩:∃ W,Lib.bytesWorld w 5 s=W:=⟨_,rfl⟩
  obtain ⟨B,hB⟩:∃ B,w.heap.size=B:=⟨_,rfl⟩
  obtain ⟨C,hC⟩:∃ C,grownCap w s.size 0 5=C:=⟨_,rfl⟩
  rw [hW,hB,hC] at hcv
  rw [hW] at hN
  rw [hW,hB] at hcell
  clear hW hB hC
  go_enter Tryz.func29,Tryz.ntmps29
  go_wp2_with fail
  go_loop [9] (fun c=>∃ k:Nat,k ≤ s.size∧c = .int .i64 k∧Hid (∀ j,j < k→keyAt j (gb s j)=true)) (fun c=>s.size - (intOf c).toNat)
  case atStart=>exact ⟨0,Nat.zero_le _,rfl,Lib.hid fun i hi=>by omega⟩
  case round =>
    obtain ⟨k,hk,rfl,hbef⟩:=hrel
    by_cases hlt:k < s.size
    · have hkd:decide ((k:Int) < (s.size:Int))=true:=decide_eq_true (by omega)
      have hix:=hcell.out k hlt
      have hnext:keyAt k (gb s k)=true→Hid (∀ j,j < k + 1→keyAt j (gb s j)=true):=fun hg=>Lib.hid fun i hi=>by
        by_cases hik:i < k
        · exact hbef.out i hik
        · obtain rfl:i=k:=by omega
          exact hg
      have hstop:keyAt k (gb s k)=false→r=false:=fun hg=>by
        rw [Bool.eq_false_iff]
        intro h
        have:=(HB.out.1 h).2 k _ (gb_get s k hlt)
        rw [hg] at this;cases this
      have Hbad:=Lib.hid (key_bad k (gb s k))
      have HL:=Lib.hid (small_any (gb s k))
      have eg:∀ args w,(callFunc 87 args).run Tryz.prog w = .ok (.enter 87 args) w:=enters_of Tryz.func87 (by kernel_rfl) rfl
      have Ho:=keyM_o (gb s k)
      have hback:((gb s k).toNat:Int).toNat.toUInt8=gb s k:=by simp
      have hk0:(k == 0)=decide ((k:Int)=0):=by
        rw [Bool.eq_iff_iff,beq_iff_eq,decide_eq_true_eq];omega
      have hA0:decide ((gb s k).toNat < 48)=decide (((gb s k).toNat:Int) < 48):=decide_eq_decide.2 (by omega)
      have hB0:decide (57 < (gb s k).toNat)=decide (57 < ((gb s k).toNat:Int)):=decide_eq_decide.2 (by omega)
      rw [hk0,hA0,hB0] at Hbad
      clear hbef hk0 hA0 hB0
      have HK:∀ W,Calls Tryz.prog 63 #[.string ⟨#[95,45,46]⟩,.int .u8 ((gb s k).toNat:Nat)] W fun e w'=>e = .returned (.int .i64 (Lib.indexByte keyM (gb s k)))∧w'=W:=fun W =>
        (Tryz.strings_IndexByte _ _ W).mono (by rintro e w' ⟨rfl,hw⟩;rw [hback];exact ⟨rfl,hw⟩)
      have HK:=Lib.hid HK
      obtain ⟨o,ho⟩:∃ o,Lib.indexByte keyM (gb s k)=o:=⟨_,rfl⟩
      rw [ho] at HK Ho
      obtain ⟨T,hT⟩:∃ x,keyAt k (gb s k)=x:=⟨_,rfl⟩
      obtain ⟨L,hL⟩:∃ x,Bare.smlB (gb s k)=x:=⟨_,rfl⟩
      obtain ⟨M,hM⟩:∃ x,keyM.contains (gb s k)=x:=⟨_,rfl⟩
      rw [hT] at Hbad hnext hstop
      rw [hL] at Hbad HL
      rw [hM] at Hbad Ho
      obtain ⟨n,hn⟩:∃ x,(gb s k).toNat=x:=⟨_,rfl⟩
      rw [hn] at HL HK Hbad hix
      clear ho hT hL hM hn hback
      obtain ⟨D,hD⟩:∃ x,decide ((n:Int) < 48)=x:=⟨_,rfl⟩
      obtain ⟨E,hE⟩:∃ x,decide (57 < (n:Int))=x:=⟨_,rfl⟩
      obtain ⟨Z,hZ⟩:∃ x,decide ((k:Int)=0)=x:=⟨_,rfl⟩
      have hZ2:((k:Int) == 0)=Z:=hZ
      rw [hE,hZ,hD] at Hbad
      have hcase:(L=true∧T=true) ∨ (L=false∧Z=true∧T=false) ∨ (L=false∧Z=false∧D=false∧E=false∧T=true) ∨ (L=false∧Z=false∧D=true∧M=true∧T=true) ∨ (L=false∧Z=false∧D=true∧M=false∧T=false) ∨ (L=false∧Z=false∧D=false∧E=true∧M=true∧T=true) ∨ (L=false∧Z=false∧D=false∧E=true∧M=false∧T=false):=by
        have:=Hbad.out
        revert this
        cases L <;> cases E <;> cases Z <;> cases D <;> cases M <;> cases T <;> simp
      clear Hbad
      rcases hcase with ⟨rfl,rfl⟩ | ⟨rfl,rfl,rfl⟩ | ⟨rfl,rfl,rfl,rfl,rfl⟩ | ⟨rfl,rfl,rfl,rfl,rfl⟩ | ⟨rfl,rfl,rfl,rfl,rfl⟩ | ⟨rfl,rfl,rfl,rfl,rfl,rfl⟩ | ⟨rfl,rfl,rfl,rfl,rfl,rfl⟩
      all_goals
        try simp only [Bool.not_true,Bool.not_false] at Ho
        first
        | (have hh:=hnext rfl
           clear hnext hstop
           go_wp2_with (first | (go_at_call 87;refine (HL.out _).mono ?_;rintro e w' ⟨rfl,rfl⟩) | (go_at_call 63;refine (HK.out _).mono ?_;rintro e w' ⟨rfl,rfl⟩))
           go_round
           case rel=>exact ⟨k + 1,by omega,by go_num,hh⟩
           case measure=>simp [intOf];omega)
        | (have hh:=hstop rfl
           clear hnext hstop
           subst hh
           go_wp2_with (first | (go_at_call 87;refine (HL.out _).mono ?_;rintro e w' ⟨rfl,rfl⟩) | (go_at_call 63;refine (HK.out _).mono ?_;rintro e w' ⟨rfl,rfl⟩))
           go_ret
           exact ⟨rfl,hN⟩)
    · obtain rfl:k=s.size:=by omega
      have hkd:decide ((s.size:Int) < (s.size:Int))=false:=decide_eq_false (by omega)
      have hr:r=decide (s.size ≠ 0):=by
        rw [Bool.eq_iff_iff,HB.out,decide_eq_true_eq]
        have hl:=bl_len s
        constructor
        · rintro ⟨h,-⟩ h0
          exact h (List.length_eq_zero_iff.1 (by omega))
        · intro h
          refine ⟨fun e=>h (by rw [← hl,e];rfl),fun k c hk=>?_⟩
          obtain ⟨h1,rfl⟩:=get_gb hk
          exact hbef.out k h1
      have hq':=empty_toList s
      have hr2:r = !decide (s.size=0):=by rw [hr,← decide_not]
      obtain ⟨z,hz⟩:∃ z,decide (s.size=0)=z:=⟨_,rfl⟩
      rw [hz] at hq' hr2
      clear hz hr HB hbef
      subst hr2
      go_wp2_with fail
      go_ret
      exact ⟨by simp [hq'],hN⟩


def PredF (g:Nat) (lb:Array Value) (n:Nat) (f:Nat→List Value) (ok:World→Prop) (p:Nat→Bool):Prop :=
 ∀ i W,i < n→ok W→Calls Tryz.prog g (#[.agg (f i).toArray] ++ lb) W fun e w'=>e = .returned (.bool (p i))∧New W w'
def firstFrom (p:Nat→Bool) (n:Nat):Int:=match (List.range n).find? p with
 | some i=>(i:Int)
 | none=>-1
theorem first_at (p:Nat→Bool) (n:Nat) (k:Nat) (hk:k < n) (h:∀ j,j < k→p j=false) (hp:p k=true):firstFrom p n=k:=by
 have:(List.range n).find? p=some k:=by
  rw [List.find?_eq_some_iff_getElem]
  refine ⟨hp,k,by simpa using hk,by simp,fun j hj=>?_⟩
  simp [h j hj]
 unfold firstFrom
 rw [this]
theorem first_none (p:Nat→Bool) (n:Nat) (h:∀ j,j < n→p j=false):firstFrom p n = -1:=by
 have:(List.range n).find? p=none:=by
  rw [List.find?_eq_none]
  intro x hx
  rw [h x (List.mem_range.1 hx)]
  decide
 unfold firstFrom
 rw [this]
theorem first_any (p:Nat→Bool) (n:Nat):decide (firstFrom p n ≥ 0)=(List.range n).any p:=by
 unfold firstFrom
 rw [Bool.eq_iff_iff,decide_eq_true_eq,List.any_eq_true]
 cases h:(List.range n).find? p with
 | none =>
  rw [List.find?_eq_none] at h
  constructor
  ·intro h';simp at h'
  ·rintro ⟨x,hx,hp⟩;exact absurd hp (h x hx)
 | some i =>
  have h1:=List.mem_of_find?_eq_some h
  have h2:=List.find?_some h
  simp only [ge_iff_le,Int.natCast_nonneg,true_iff]
  exact ⟨i,h1,h2⟩
theorem index_P (g:Nat) (lb:Array Value) (n:Nat) (c:Nat→Nat→Value) (ok:World→Prop) (hok:∀ W W',ok W→New W W'→ok W') (p:Nat→Bool) (hg:PredF g lb n (fun i=>[c i 0,c i 1,c i 2,c i 3,c i 4]) ok p) (eg:∀ args w,(callFunc g args).run Tryz.prog w = .ok (.enter g args) w) (v:Value) (w:World) (hv:RowR w v n 5 (fun i=>[c i 0,c i 1,c i 2,c i 3,c i 4])) (ho:ok w) :
  Calls Tryz.prog 174 #[v,.func (.func g) #[] lb] w fun e w'=>e = .returned (.int .i64 (firstFrom p n))∧New w w':=by
 have HG:=Lib.hid hg
 have HV:=Lib.hid hv
 have HO:=Lib.hid ho
 have HB:=Lib.hid (first_at p n)
 have HE:=Lib.hid (first_none p n)
 obtain ⟨ao,cap,rfl⟩:=hv.slice
 have hn:n ≤ 281474976710656:=hv.1
 clear hg hv ho
 obtain ⟨r,hr⟩:∃ r,firstFrom p n=r:=⟨_,rfl⟩
 rw [hr] at HB HE ⊢
 clear hr
 have hN0:New w w:=Mods.refl _ _
 go_enter Tryz.func174,Tryz.ntmps174
 go_wp2_with fail
 go_loopw [8] (fun t wr=>∃ k:Nat,k ≤ n∧t = .int .i64 k∧Hid (∀ j,j < k→p j=false)∧New w wr) (fun t _=>n - (intOf t).toNat)
 case atStart=>exact ⟨0,Nat.zero_le _,rfl,Lib.hid fun i hi=>by omega,hN0⟩
 case round =>
  obtain ⟨k,hk,rfl,hbef,hN⟩:=hrel
  by_cases hlt:k < n
  ·have hkd:decide ((k:Int) < (n:Int))=true:=decide_eq_true (by omega)
   obtain ⟨b,o,rfl,hrow⟩:=(HV.out.new hN).at.2.2 k hlt
   obtain ⟨k0,k1,k2,k3,k4⟩:=cells5 hrow
   have HP:=Lib.hid (HG.out k wr hlt (hok _ _ HO.out hN))
   clear hrow HV HG
   cases hp:p k with
   | false =>
    have hh:Hid (∀ j,j < k + 1→p j=false):=Lib.hid fun i hi=>by
     by_cases hik:i < k
     ·exact hbef.out i hik
     ·obtain rfl:i=k:=by omega
      exact hp
    rw [hp] at HP
    clear hp hbef HB HE
    go_wp2_with fail
    refine HP.out.mono ?_
    rintro e w' ⟨rfl,hN'⟩
    have hN2:=hN.trans hN'
    clear hN hN'
    go_wp2_with fail
    go_round
    case rel=>exact ⟨k + 1,by omega,by go_num,hh,hN2⟩
    case measure=>simp [intOf];omega
   | true =>
    obtain rfl:r=k:=HB.out k hlt hbef.out hp
    rw [hp] at HP
    clear hp hbef HB HE
    go_wp2_with fail
    refine HP.out.mono ?_
    rintro e w' ⟨rfl,hN'⟩
    have hN2:=hN.trans hN'
    clear hN hN'
    go_wp2_with fail
    go_ret
    exact ⟨rfl,hN2⟩
  ·obtain rfl:k=n:=by omega
   have hkd:decide ((k:Int) < (k:Int))=false:=decide_eq_false (by omega)
   obtain rfl:r = -1:=HE.out hbef.out
   clear HB HE hbef
   go_wp2_with fail
   go_ret
   exact ⟨rfl,hN⟩
theorem index_I (g:Nat) (lb:Array Value) (n:Nat) (c:Nat→Nat→Value) (ok:World→Prop) (hok:∀ W W',ok W→New W W'→ok W') (p:Nat→Bool) (hg:PredF g lb n (fun i=>[c i 0,c i 1,c i 2,c i 3,c i 4]) ok p) (eg:∀ args w,(callFunc g args).run Tryz.prog w = .ok (.enter g args) w) (v:Value) (w:World) (hv:RowR w v n 5 (fun i=>[c i 0,c i 1,c i 2,c i 3,c i 4])) (ho:ok w) :
  Calls Tryz.prog 149 #[v,.func (.func g) #[] lb] w fun e w'=>e = .returned (.int .i64 (firstFrom p n))∧New w w':=by
 have HG:=Lib.hid hg
 have HV:=Lib.hid hv
 have HO:=Lib.hid ho
 have HB:=Lib.hid (first_at p n)
 have HE:=Lib.hid (first_none p n)
 obtain ⟨ao,cap,rfl⟩:=hv.slice
 have hn:n ≤ 281474976710656:=hv.1
 clear hg hv ho
 obtain ⟨r,hr⟩:∃ r,firstFrom p n=r:=⟨_,rfl⟩
 rw [hr] at HB HE ⊢
 clear hr
 have hN0:New w w:=Mods.refl _ _
 go_enter Tryz.func149,Tryz.ntmps149
 go_wp2_with fail
 go_loopw [8] (fun t wr=>∃ k:Nat,k ≤ n∧t = .int .i64 k∧Hid (∀ j,j < k→p j=false)∧New w wr) (fun t _=>n - (intOf t).toNat)
 case atStart=>exact ⟨0,Nat.zero_le _,rfl,Lib.hid fun i hi=>by omega,hN0⟩
 case round =>
  obtain ⟨k,hk,rfl,hbef,hN⟩:=hrel
  by_cases hlt:k < n
  ·have hkd:decide ((k:Int) < (n:Int))=true:=decide_eq_true (by omega)
   obtain ⟨b,o,rfl,hrow⟩:=(HV.out.new hN).at.2.2 k hlt
   obtain ⟨k0,k1,k2,k3,k4⟩:=cells5 hrow
   have HP:=Lib.hid (HG.out k wr hlt (hok _ _ HO.out hN))
   clear hrow HV HG
   cases hp:p k with
   | false =>
    have hh:Hid (∀ j,j < k + 1→p j=false):=Lib.hid fun i hi=>by
     by_cases hik:i < k
     ·exact hbef.out i hik
     ·obtain rfl:i=k:=by omega
      exact hp
    rw [hp] at HP
    clear hp hbef HB HE
    go_wp2_with fail
    refine HP.out.mono ?_
    rintro e w' ⟨rfl,hN'⟩
    have hN2:=hN.trans hN'
    clear hN hN'
    go_wp2_with fail
    go_round
    case rel=>exact ⟨k + 1,by omega,by go_num,hh,hN2⟩
    case measure=>simp [intOf];omega
   | true =>
    obtain rfl:r=k:=HB.out k hlt hbef.out hp
    rw [hp] at HP
    clear hp hbef HB HE
    go_wp2_with fail
    refine HP.out.mono ?_
    rintro e w' ⟨rfl,hN'⟩
    have hN2:=hN.trans hN'
    clear hN hN'
    go_wp2_with fail
    go_ret
    exact ⟨rfl,hN2⟩
  ·obtain rfl:k=n:=by omega
   have hkd:decide ((k:Int) < (k:Int))=false:=decide_eq_false (by omega)
   obtain rfl:r = -1:=HE.out hbef.out
   clear HB HE hbef
   go_wp2_with fail
   go_ret
   exact ⟨rfl,hN⟩
theorem index_M (g:Nat) (lb:Array Value) (n:Nat) (c:Nat→Nat→Value) (ok:World→Prop) (hok:∀ W W',ok W→New W W'→ok W') (p:Nat→Bool) (hg:PredF g lb n (fun i=>[c i 0,c i 1,c i 2,c i 3]) ok p) (eg:∀ args w,(callFunc g args).run Tryz.prog w = .ok (.enter g args) w) (v:Value) (w:World) (hv:RowR w v n 4 (fun i=>[c i 0,c i 1,c i 2,c i 3])) (ho:ok w) :
  Calls Tryz.prog 74 #[v,.func (.func g) #[] lb] w fun e w'=>e = .returned (.int .i64 (firstFrom p n))∧New w w':=by
 have HG:=Lib.hid hg
 have HV:=Lib.hid hv
 have HO:=Lib.hid ho
 have HB:=Lib.hid (first_at p n)
 have HE:=Lib.hid (first_none p n)
 obtain ⟨ao,cap,rfl⟩:=hv.slice
 have hn:n ≤ 281474976710656:=hv.1
 clear hg hv ho
 obtain ⟨r,hr⟩:∃ r,firstFrom p n=r:=⟨_,rfl⟩
 rw [hr] at HB HE ⊢
 clear hr
 have hN0:New w w:=Mods.refl _ _
 go_enter Tryz.func74,Tryz.ntmps74
 go_wp2_with fail
 go_loopw [8] (fun t wr=>∃ k:Nat,k ≤ n∧t = .int .i64 k∧Hid (∀ j,j < k→p j=false)∧New w wr) (fun t _=>n - (intOf t).toNat)
 case atStart=>exact ⟨0,Nat.zero_le _,rfl,Lib.hid fun i hi=>by omega,hN0⟩
 case round =>
  obtain ⟨k,hk,rfl,hbef,hN⟩:=hrel
  by_cases hlt:k < n
  ·have hkd:decide ((k:Int) < (n:Int))=true:=decide_eq_true (by omega)
   obtain ⟨b,o,rfl,hrow⟩:=(HV.out.new hN).at.2.2 k hlt
   obtain ⟨k0,k1,k2,k3⟩:=cells4 hrow
   have HP:=Lib.hid (HG.out k wr hlt (hok _ _ HO.out hN))
   clear hrow HV HG
   cases hp:p k with
   | false =>
    have hh:Hid (∀ j,j < k + 1→p j=false):=Lib.hid fun i hi=>by
     by_cases hik:i < k
     ·exact hbef.out i hik
     ·obtain rfl:i=k:=by omega
      exact hp
    rw [hp] at HP
    clear hp hbef HB HE
    go_wp2_with fail
    refine HP.out.mono ?_
    rintro e w' ⟨rfl,hN'⟩
    have hN2:=hN.trans hN'
    clear hN hN'
    go_wp2_with fail
    go_round
    case rel=>exact ⟨k + 1,by omega,by go_num,hh,hN2⟩
    case measure=>simp [intOf];omega
   | true =>
    obtain rfl:r=k:=HB.out k hlt hbef.out hp
    rw [hp] at HP
    clear hp hbef HB HE
    go_wp2_with fail
    refine HP.out.mono ?_
    rintro e w' ⟨rfl,hN'⟩
    have hN2:=hN.trans hN'
    clear hN hN'
    go_wp2_with fail
    go_ret
    exact ⟨rfl,hN2⟩
  ·obtain rfl:k=n:=by omega
   have hkd:decide ((k:Int) < (k:Int))=false:=decide_eq_false (by omega)
   obtain rfl:r = -1:=HE.out hbef.out
   clear HB HE hbef
   go_wp2_with fail
   go_ret
   exact ⟨rfl,hN⟩
theorem contains_P (g:Nat) (lb:Array Value) (n:Nat) (c:Nat→Nat→Value) (ok:World→Prop) (hok:∀ W W',ok W→New W W'→ok W') (p:Nat→Bool) (hg:PredF g lb n (fun i=>[c i 0,c i 1,c i 2,c i 3,c i 4]) ok p) (eg:∀ args w,(callFunc g args).run Tryz.prog w = .ok (.enter g args) w) (v:Value) (w:World) (hv:RowR w v n 5 (fun i=>[c i 0,c i 1,c i 2,c i 3,c i 4])) (ho:ok w) :
  Calls Tryz.prog 147 #[v,.func (.func g) #[] lb] w fun e w'=>e = .returned (.bool ((List.range n).any p))∧New w w':=by
 have HI:=Lib.hid (index_P g lb n c ok hok p hg eg v w hv ho)
 have hx:=first_any p n
 obtain ⟨r,hr⟩:∃ r,firstFrom p n=r:=⟨_,rfl⟩
 obtain ⟨y,hy⟩:∃ y,(List.range n).any p=y:=⟨_,rfl⟩
 rw [hr] at HI hx
 rw [hy] at hx ⊢
 have hN0:New w w:=Mods.refl _ _
 clear hr hy hg hv ho hok
 subst hx
 go_enter Tryz.func147,Tryz.ntmps147
 go_wp2_with fail
 refine HI.out.mono ?_
 rintro e w' ⟨rfl,hN'⟩
 go_wp2_with fail
 go_ret
 exact ⟨rfl,hN'⟩
theorem contains_I (g:Nat) (lb:Array Value) (n:Nat) (c:Nat→Nat→Value) (ok:World→Prop) (hok:∀ W W',ok W→New W W'→ok W') (p:Nat→Bool) (hg:PredF g lb n (fun i=>[c i 0,c i 1,c i 2,c i 3,c i 4]) ok p) (eg:∀ args w,(callFunc g args).run Tryz.prog w = .ok (.enter g args) w) (v:Value) (w:World) (hv:RowR w v n 5 (fun i=>[c i 0,c i 1,c i 2,c i 3,c i 4])) (ho:ok w) :
  Calls Tryz.prog 92 #[v,.func (.func g) #[] lb] w fun e w'=>e = .returned (.bool ((List.range n).any p))∧New w w':=by
 have HI:=Lib.hid (index_I g lb n c ok hok p hg eg v w hv ho)
 have hx:=first_any p n
 obtain ⟨r,hr⟩:∃ r,firstFrom p n=r:=⟨_,rfl⟩
 obtain ⟨y,hy⟩:∃ y,(List.range n).any p=y:=⟨_,rfl⟩
 rw [hr] at HI hx
 rw [hy] at hx ⊢
 have hN0:New w w:=Mods.refl _ _
 clear hr hy hg hv ho hok
 subst hx
 go_enter Tryz.func92,Tryz.ntmps92
 go_wp2_with fail
 refine HI.out.mono ?_
 rintro e w' ⟨rfl,hN'⟩
 go_wp2_with fail
 go_ret
 exact ⟨rfl,hN'⟩
end Go.Proofs.YtnknmmbnhoanfaaGreatDoor
