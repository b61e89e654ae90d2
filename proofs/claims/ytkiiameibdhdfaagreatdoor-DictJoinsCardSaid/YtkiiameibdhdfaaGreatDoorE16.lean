/- Texts joined. -/
import Derived.Test.YtkiiameibdhdfaaGreatDoorE14
import Derived.Test.YtkiiameibdhdfaaGreatDoorE15
import Derived.Test.YtkiiameibdhdfaaGreatDoorE11
import Derived.Test.YtkiiameibdhdfaaGreatDoorE07
import Derived.Test.YtkiiameibdhdfaaGreatDoorE04
import Derived.Lib.SlBytesRow
import Derived.Test.YtkiiameibdhdfaaGreatDoorE03
import Derived.Test.YtkiiameibdhdfaaGreatDoorE06
import Derived.Lib.ItoaLen
set_option linter.unusedSimpArgs false
set_option linter.unusedVariables false
set_option maxHeartbeats 16000000
set_option maxRecDepth 100000
namespace Go.Proofs.YtkiiameibdhdfaaGreatDoor
open Go.RowKit Go.Shelf Go.Cs
attribute [local go_sem] Oper.semAt_some


def BlkA (base:Nat) (W:World) (a:Option Addr) (n sz:Nat) (ty:TypeId):Prop:=0 < n→∃ b cur,a=some ⟨b,0,none⟩∧base ≤ b∧W.heap[b]? = some (.cells cur ty (0,0))∧n * sz ≤ cur.size
theorem BlkA.of {base:Nat} {W:World} {v:Value} {n sz:Nat} {ty:TypeId} {xs:List Value} (h:W.ownsRow base ty sz v n xs):∃ a c,v = .slice a n c∧BlkA base W a n sz ty:=by
 rcases h.2 with ⟨rfl,rfl⟩ | ⟨g,cap,cur,rfl,hb,hg,hc,_,hs,_⟩
 ·exact ⟨none,0,rfl,fun h=>absurd h (by omega)⟩
 ·exact ⟨_,_,rfl,fun _=>⟨g,cur,rfl,hb,hg,by rw [hs];exact Nat.mul_le_mul_right _ hc⟩⟩
theorem BlkA.new {base:Nat} {W W':World} {a:Option Addr} {n sz:Nat} {ty:TypeId} (h:BlkA base W a n sz ty) (hN:New W W'):BlkA base W' a n sz ty:=fun h0=>by
 obtain ⟨b,cur,e,hb,hg,hs⟩:=h h0
 exact ⟨b,cur,e,hb,hN.heap hg id,hs⟩
theorem BlkA.set {base:Nat} {W:World} {a:Option Addr} {n sz:Nat} {ty:TypeId} (h:BlkA base W a n sz ty) (g o:Nat) (x:Value):BlkA base (W.setCell ⟨g,o,none⟩ x) a n sz ty:=fun h0=>by
 obtain ⟨b,cur,e,hb,hg,hs⟩:=h h0
 by_cases eg:b=g
 ·subst eg
  exact ⟨b,_,e,hb,setCell_heap hg x,by rw [Array.size_setIfInBounds];exact hs⟩
 ·exact ⟨b,cur,e,hb,(setMods W g o x).heap hg eg,hs⟩
theorem heap_ty {W:World} {b g:Nat} {c d:Array Value} {t u:TypeId} (h:W.heap[b]? = some (.cells c t (0,0))) (k:W.heap[g]? = some (.cells d u (0,0))) (ne:t ≠ u):b ≠ g:=by
 rintro rfl
 rw [h] at k
 cases k
 exact ne rfl
structure MR (base:Nat) (W:World) (B:Nat) (key inn:Value) (ia pa:Option Addr) (ni ic np pc:Nat) (an:Nat→Option Addr) (nn cn:Nat→Nat) (f:Nat):Prop where
 box:W.heap[B]? = some (.cells #[key,inn,.slice ia ni ic,.slice pa np pc] 64 (0,0))
 items:∀ j,f ≤ j→j < ni→∃ b cur,ia=some ⟨b,0,none⟩∧base ≤ b∧W.heap[b]? = some (.cells cur 71 (0,0))∧cur[j * 5 + 4]? = some (.slice (an j) (nn j) (cn j))
 rows:∀ j,j < ni→BlkA base W (an j) (nn j) 5 73
 prow:BlkA base W pa np 5 73
section
variable {base:Nat} {W:World} {B:Nat} {key inn:Value} {ia pa:Option Addr} {ni ic np pc:Nat} {an:Nat→Option Addr} {nn cn:Nat→Nat} {f:Nat}
theorem MR.setP (h:MR base W B key inn ia pa ni ic np pc an nn cn f) {b:Nat} {cur:Array Value} (hb:W.heap[b]? = some (.cells cur 73 (0,0))) (o:Nat) (x:Value):MR base (W.setCell ⟨b,o,none⟩ x) B key inn ia pa ni ic np pc an nn cn f:=by
 have hM:=setMods W b o x
 refine ⟨hM.heap h.box (heap_ty h.box hb (by decide)),fun j hj hjn=>?_,fun j hj=>(h.rows j hj).set b o x,h.prow.set b o x⟩
 obtain ⟨g,c,e,h1,h2,h3⟩:=h.items j hj hjn
 exact ⟨g,c,e,h1,hM.heap h2 (heap_ty h2 hb (by decide)),h3⟩
theorem MR.setI (h:MR base W B key inn ia pa ni ic np pc an nn cn f) {b:Nat} {cur:Array Value} (hb:W.heap[b]? = some (.cells cur 71 (0,0))) (hia:ia=some ⟨b,0,none⟩) (x:Value):MR base (W.setCell ⟨b,f * 5 + 4,none⟩ x) B key inn ia pa ni ic np pc an nn cn (f + 1):=by
 have hM:=setMods W b (f * 5 + 4) x
 refine ⟨hM.heap h.box (heap_ty h.box hb (by decide)),fun j hj hjn=>?_,fun j hj=>(h.rows j hj).set b _ x,h.prow.set b _ x⟩
 obtain ⟨g,c,e,h1,h2,h3⟩:=h.items j (by omega) hjn
 rw [hia] at e
 cases e
 rw [hb] at h2
 cases h2
 refine ⟨b,_,hia,h1,setCell_heap hb x,?_⟩
 rw [Array.getElem?_setIfInBounds_ne (by omega)]
 exact h3
theorem MR.new {W':World} (h:MR base W B key inn ia pa ni ic np pc an nn cn f) (hN:New W W'):MR base W' B key inn ia pa ni ic np pc an nn cn f:=by
 refine ⟨hN.heap h.box id,fun j hj hjn=>?_,fun j hj=>(h.rows j hj).new hN,h.prow.new hN⟩
 obtain ⟨g,c,e,h1,h2,h3⟩:=h.items j hj hjn
 exact ⟨g,c,e,h1,hN.heap h2 id,h3⟩
end
theorem mem_facts {W:World} {B:Nat} {a b c d:Value} (h:W.heap[B]? = some (.cells #[a,b,c,d] 64 (0,0))):W.cell? ⟨B,0,none⟩=some a∧W.cell? ⟨B,1,none⟩=some b∧W.cell? ⟨B,2,none⟩=some c∧W.cell? ⟨B,3,none⟩=some d :=
 ⟨cell_of_row _ _ 0 _ _ _ h,cell_of_row _ _ 1 _ _ _ h,cell_of_row _ _ 2 _ _ _ h,cell_of_row _ _ 3 _ _ _ h⟩
def slA:Value→Option Addr
 | .slice a _ _=>a
 | _=>none
def slC:Value→Nat
 | .slice _ _ c=>c
 | _=>0
theorem MR.of {base:Nat} {W:World} {v:Value} {m:Bare.Mem} (h:OwnM base W v m) (hl:m.items.length ≤ 2000000):∃ (ia pa:Option Addr) (ic pc:Nat) (an:Nat→Option Addr) (cn:Nat→Nat) (kb:ByteArray) (ib:Bool),
  v = .agg #[.string kb,.bool ib,.slice ia m.items.length ic,.slice pa m.params.length pc]∧MR base (W.alloc (.cells #[.string kb,.bool ib,.slice ia m.items.length ic,.slice pa m.params.length pc] 64)) W.heap.size (.string kb) (.bool ib) ia pa m.items.length ic m.params.length pc an (fun j=>(m.items.getD j Bare.noI).params.length) cn 0:=by
 obtain ⟨ja,pa,jc,pc,ip,rfl,h1,h2,h3⟩:=h
 have hsl:∀ i,i < m.items.length→ip i = .slice (slA (ip i)) (m.items.getD i Bare.noI).params.length (slC (ip i))∧BlkA base W (slA (ip i)) (m.items.getD i Bare.noI).params.length 5 73:=fun i hi=>by
  obtain ⟨a,c,e,hb⟩:=BlkA.of (h2 i hi).2.2
  rw [e]
  exact ⟨rfl,hb⟩
 obtain ⟨pa',pc',e3,hb3⟩:=BlkA.of h3.2.2
 cases e3
 have hN:New W (W.alloc (.cells #[.string (tx m.key),.bool m.inner,.slice ja m.items.length jc,.slice pa m.params.length pc] 64)):=(Mods.refl _ _).alloc _
 refine ⟨ja,pa,jc,pc,fun j=>slA (ip j),fun j=>slC (ip j),tx m.key,m.inner,rfl,World.alloc_heap_new _ _,fun j _ hj=>?_,fun j hj=>(hsl j hj).2.new hN,hb3.new hN⟩
 rcases h1.2.2.2 with ⟨e,e0⟩ | ⟨g,cap,cur,e,hb,hg,hc,_,hs,ht⟩
 ·omega
 cases e
 have hrow:RowR W (.slice (some ⟨g,0,none⟩) m.items.length jc) m.items.length 5 (fun i=>ics (m.items.getD i Bare.noI) (ip i)):=⟨by omega,rows_ofOwns (by decide) h1.1 h1.2.2⟩
 obtain ⟨b,o,e,hr⟩:=hrow.at.2.2 j hj
 cases e
 have hcell:W.cell? ⟨g,0 + j * 5 + 4,none⟩=some (ip j):=hr 4 _ rfl
 refine ⟨g,cur,rfl,hb,hN.heap hg id,?_⟩
 rw [← (hsl j hj).1]
 simp only [World.cell?,hg,Nat.zero_add] at hcell
 simpa using hcell
theorem own_law (v:Value) (d:List Bare.Mem) (key:ByteArray) (w:World) (hd:RdD false w v d) (hI:InD d) (hs:key.size ≤ 9223372036854775807) (hT:Tab w) :
  Calls Tryz.prog 9 #[v,.string key] w fun e w'=>e = .returned (.bool true)∧New w w':=by
 have HWk:=Lib.hid (fun W (hN:New w W)=>wakes_d W (hT.new hN))
 have HGr:=great13 v d w hd hI.strs
 have HD:=Lib.hid hd
 obtain ⟨ao,cap,rfl⟩:=hd.slice
 obtain ⟨n,hn⟩:∃ n,d.length=n:=⟨_,rfl⟩
 have Hn:=Lib.hid hn
 rw [hn] at HD HGr ⊢
 clear hd hI hT hn
 go_enter Tryz.func9,Tryz.ntmps9
 go_wp2_with fail
 refine HGr.mono ?_
 rintro e w1 ⟨g,rfl,hN,hg⟩
 cases g with
 | true =>
  clear hg
  go_wp2_with fail
  refine (HWk.out _ hN).mono ?_
  rintro e w2 ⟨rfl,hk⟩
  go_wp2_with fail
  go_ret
  exact ⟨rfl,hN.trans hk⟩
 | false =>
  obtain ⟨hdn,hdb⟩:=hg rfl
  by_cases h300:300 < key.size
  ·have hgt:decide ((300:Int) < (key.size:Int))=true:=decide_eq_true (by omega)
   clear hg
   go_wp2_with fail
   refine (HWk.out _ hN).mono ?_
   rintro e w2 ⟨rfl,hk⟩
   go_wp2_with fail
   go_ret
   exact ⟨rfl,hN.trans hk⟩
  have hgt:decide ((300:Int) < (key.size:Int))=false:=decide_eq_false (by omega)
  rw [← Hn.out] at hdn hdb
  obtain ⟨hl40,hpt⟩:=small_parts hdn hdb
  have hfit:∀ m ∈ d,m.items.length ≤ 40∧m.params.length ≤ 40∧∀ i,i < m.items.length→(m.items.getD i Bare.noI).params.length ≤ 40:=fun m hm=>by
   obtain ⟨-,h1,h2,-,h3⟩:=hpt m hm
   exact ⟨h1,h2,fun i hi=>(h3 _ (getD_mem hi)).2.1⟩
  have HOw:=Lib.hid (fun W (hN:New w W)=>own_r13 (.slice ao n cap) d W (HD.out.new hN) (by omega) (fun i hi=>by obtain ⟨a,b,c⟩:=hfit _ (getD_mem (d:=noM) hi);exact ⟨by omega,by omega,fun j hj=>by have:=c j hj;omega⟩))
  have HFi:=Lib.hid (fun W (hN:New w W)=>find_any (.slice ao n cap) key d W (HD.out.new hN) (fun m hm=>by obtain ⟨a,b,c⟩:=hfit m hm;exact ⟨by omega,by omega,fun j hj=>by have:=c j hj;omega⟩))
  have hfm:((findM d (bl key)).getD noM).items.length ≤ 40∧((findM d (bl key)).getD noM).params.length ≤ 40∧∀ i,i < ((findM d (bl key)).getD noM).items.length→(((findM d (bl key)).getD noM).items.getD i Bare.noI).params.length ≤ 40:=by
   cases hf:findM d (bl key) with
   | none=>exact ⟨by decide,by decide,fun i hi=>absurd hi (by simp [noM])⟩
   | some m=>exact hfit m (List.mem_of_find?_eq_some hf)
  obtain ⟨m,hm⟩:∃ m,(findM d (bl key)).getD noM=m:=⟨_,rfl⟩
  obtain ⟨fy,hfy⟩:∃ y,(findM d (bl key)).isSome=y:=⟨_,rfl⟩
  rw [hm] at HFi hfm
  rw [hfy] at HFi
  have hnl:n ≤ 40:=by have:=Hn.out;omega
  clear hg hdn hdb HGr hpt hfit hm hfy h300 hl40
  go_wp2_with fail
  refine (HOw.out _ hN).mono ?_
  rintro e w2 ⟨v2,rfl,hO,hk⟩
  obtain ⟨wa,wc,rfl⟩:=hO.slice
  replace hN:=hN.trans hk
  have hO':=hO.reads (by have:=Hn.out;omega)
  have HO:=Lib.hid hO'
  rw [Hn.out] at HO ⊢
  clear hk hO hO' HOw hgt
  go_wp2_with fail
  refine (HFi.out _ hN).mono ?_
  rintro e w3 ⟨v3,rfl,hF,hk⟩
  obtain ⟨h40,hp40,hip40⟩:=hfm
  have hmi:m.items.length ≤ 2000000:=Nat.le_trans h40 (by decide)
  obtain ⟨ia,pa,ic,pc,an,cn,kv,iv,rfl,hMR⟩:=MR.of hF hmi
  obtain ⟨ni,hni⟩:∃ n,m.items.length=n:=⟨_,rfl⟩
  obtain ⟨np,hnp⟩:∃ n,m.params.length=n:=⟨_,rfl⟩
  rw [hni] at h40 hip40 hMR ⊢
  rw [hnp] at hp40 hMR ⊢
  obtain ⟨nn,hnn⟩:∃ f:Nat→Nat,(fun j=>(m.items.getD j Bare.noI).params.length)=f:=⟨_,rfl⟩
  have hn40:∀ j,j < ni→nn j ≤ 40:=fun j hj=>by rw [← hnn];exact hip40 j hj
  rw [hnn] at hMR
  clear hF HFi hni hnp hip40 hnn hmi
  have hB2:w2.heap.size ≤ w3.heap.size:=hMR.prow |> fun _=>hk.size
  obtain ⟨B,hB⟩:∃ B,w3.heap.size=B:=⟨_,rfl⟩
  have hN4:New w2 (w3.alloc (.cells #[.string kv,.bool iv,.slice ia ni ic,.slice pa np pc] 64)):=hk.alloc _
  obtain ⟨W4,hW4⟩:∃ V,w3.alloc (.cells #[.string kv,.bool iv,.slice ia ni ic,.slice pa np pc] 64)=V:=⟨_,rfl⟩
  rw [hW4] at hMR hN4
  rw [hB] at hMR hB2
  clear hk
  go_upto_region 5 with fail
  clear hW4 hB
  go_upto_region 6 with fail
  go_loopw [8] (fun t wr=>∃ i:Nat,i ≤ ni∧t = .int .i64 i∧MR w2.heap.size wr B (.string kv) (.bool iv) ia pa ni ic np pc an nn cn i∧New w2 wr) (fun t _=>ni - (intOf t).toNat)
  case atStart=>exact ⟨0,Nat.zero_le _,rfl,hMR,hN4⟩
  case round =>
   obtain ⟨i,hi,rfl,hR,hNr⟩:=hrel
   obtain ⟨-,-,c2,c3⟩:=mem_facts hR.box
   clear hMR hN4
   by_cases hlt:i < ni
   ·have hid:decide ((i:Int) < (ni:Int))=true:=decide_eq_true (by omega)
    obtain ⟨g,cur,rfl,hg1,-,-⟩:=hR.items i (Nat.le_refl _) hlt
    have hnni:nn i ≤ 40:=hn40 i hlt
    go_upto_region 9 with fail
    clear c2 c3
    go_loopw [9] (fun t wr=>∃ k:Nat,k ≤ nn i∧t = .int .i64 k∧MR w2.heap.size wr B (.string kv) (.bool iv) (some ⟨g,0,none⟩) pa ni ic np pc an nn cn i∧New w2 wr) (fun t _=>nn i - (intOf t).toNat)
    case atStart=>exact ⟨0,Nat.zero_le _,rfl,hR,hNr⟩
    case round =>
     obtain ⟨k,hk,rfl,hR,hNr⟩:=hrel
     obtain ⟨-,-,c2,c3⟩:=mem_facts hR.box
     obtain ⟨g',cur,e,-,hgc,hcc⟩:=hR.items i (Nat.le_refl _) hlt
     cases e
     have c4:wr.cell? ⟨g,i * 5 + 4,none⟩=some (.slice (an i) (nn i) (cn i)):=by simp [World.cell?,hgc,hcc]
     by_cases hkl:k < nn i
     ·have hkd:decide ((k:Int) < (nn i:Int))=true:=decide_eq_true (by omega)
      obtain ⟨p,pcur,ep,hp1,hp2,hp3⟩:=hR.rows i hlt (by omega)
      obtain ⟨old,hold⟩:∃ u,pcur[k * 5]? = some u:=⟨_,Array.getElem?_eq_getElem (by omega)⟩
      have c5:wr.cell? ⟨p,k * 5,none⟩=some old:=by simp [World.cell?,hp2,hold]
      have f5:wr.frozen? ⟨p,k * 5,none⟩=false:=frozen_row hp2
      have HR:=Lib.hid (hR.setP hp2 (k * 5) (.string ⟨#[63]⟩))
      have HN2:=Lib.hid (hNr.setCell (p:=⟨p,k * 5,none⟩) (.inl hp1) (.string ⟨#[63]⟩))
      rw [ep] at c4
      clear hold hcc hgc hR hNr hp2 ep
      go_wp2_with fail
      go_roundw
      case rel=>exact ⟨k + 1,by omega,by go_num,HR.out,HN2.out⟩
      case measure=>simp [intOf];omega
     ·obtain rfl:k=nn i:=by omega
      have hkd:decide ((nn i:Int) < (nn i:Int))=false:=decide_eq_false (by omega)
      have f4:wr.frozen? ⟨g,i * 5 + 4,none⟩=false:=frozen_row hgc
      have HR:=Lib.hid (hR.setI hgc rfl (.slice none 0 0))
      have HN2:=Lib.hid (hNr.setCell (p:=⟨g,i * 5 + 4,none⟩) (.inl hg1) (.slice none 0 0))
      clear hcc hgc hR hNr
      go_wp2_with fail
      go_roundw
      case rel=>exact ⟨i + 1,by omega,by go_num,HR.out,HN2.out⟩
      case measure=>simp [intOf];omega
   ·obtain rfl:i=ni:=by omega
    have hid:decide ((i:Int) < (i:Int))=false:=decide_eq_false (by omega)
    go_upto_region 14 with fail
    clear c2 c3
    go_loopw [10] (fun t wr=>∃ k:Nat,k ≤ np∧t = .int .i64 k∧MR w2.heap.size wr B (.string kv) (.bool iv) ia pa i ic np pc an nn cn i∧New w2 wr) (fun t _=>np - (intOf t).toNat)
    case atStart=>exact ⟨0,Nat.zero_le _,rfl,hR,hNr⟩
    case round =>
     obtain ⟨k,hk,rfl,hR,hNr⟩:=hrel
     obtain ⟨-,-,c2,c3⟩:=mem_facts hR.box
     by_cases hkl:k < np
     ·have hkd:decide ((k:Int) < (np:Int))=true:=decide_eq_true (by omega)
      obtain ⟨p,pcur,rfl,hp1,hp2,hp3⟩:=hR.prow (by omega)
      obtain ⟨old,hold⟩:∃ u,pcur[k * 5]? = some u:=⟨_,Array.getElem?_eq_getElem (by omega)⟩
      have c5:wr.cell? ⟨p,k * 5,none⟩=some old:=by simp [World.cell?,hp2,hold]
      have f5:wr.frozen? ⟨p,k * 5,none⟩=false:=frozen_row hp2
      have HR:=Lib.hid (hR.setP hp2 (k * 5) (.string ⟨#[63]⟩))
      have HN2:=Lib.hid (hNr.setCell (p:=⟨p,k * 5,none⟩) (.inl hp1) (.string ⟨#[63]⟩))
      clear hold hR hNr hp2
      go_wp2_with fail
      go_roundw
      case rel=>exact ⟨k + 1,by omega,by go_num,HR.out,HN2.out⟩
      case measure=>simp [intOf];omega
     ·obtain rfl:k=np:=by omega
      have hkd:decide ((k:Int) < (k:Int))=false:=decide_eq_false (by omega)
      have HS:=rsame_d (.slice ao n cap) (.slice wa n wc) d d wr (HD.out.new (hN.trans hNr)) (HO.out.new hNr)
      rw [decide_eq_true rfl] at HS
      have HS:=Lib.hid HS
      clear hR
      go_wp2_with fail
      refine HS.out.mono ?_
      rintro e w8 ⟨rfl,hk8⟩
      have hN8:=(hN.trans hNr).trans hk8
      go_wp2_with fail
      refine (HWk.out _ hN8).mono ?_
      rintro e w9 ⟨rfl,hk9⟩
      go_wp2_with fail
      go_ret
      exact ⟨rfl,hN8.trans hk9⟩
end Go.Proofs.YtkiiameibdhdfaaGreatDoor
namespace Go.Proofs.YtkiiameibdhdfaaGreatDoor
open Go.RowKit Go.Shelf Go.Cs
attribute [local go_sem] Oper.semAt_some


theorem lita188 (t:Array Value) (h:t.size=188):∃ u:Nat→Value,t=(u 0::u 1::u 2::u 3::u 4::u 5::u 6::u 7::u 8::u 9::u 10::u 11::u 12::u 13::u 14::u 15::u 16::u 17::u 18::u 19::u 20::u 21::u 22::u 23::u 24::u 25::u 26::u 27::u 28::u 29::u 30::u 31::u 32::u 33::u 34::u 35::u 36::u 37::u 38::u 39::u 40::u 41::u 42::u 43::u 44::u 45::u 46::u 47::u 48::u 49::u 50::u 51::u 52::u 53::u 54::u 55::u 56::u 57::u 58::u 59::u 60::u 61::u 62::u 63::u 64::u 65::u 66::u 67::u 68::u 69::u 70::u 71::u 72::u 73::u 74::u 75::u 76::u 77::u 78::u 79::u 80::u 81::u 82::u 83::u 84::u 85::u 86::u 87::u 88::u 89::u 90::u 91::u 92::u 93::u 94::u 95::u 96::u 97::u 98::u 99::u 100::u 101::u 102::u 103::u 104::u 105::u 106::u 107::u 108::u 109::u 110::u 111::u 112::u 113::u 114::u 115::u 116::u 117::u 118::u 119::u 120::u 121::u 122::u 123::u 124::u 125::u 126::u 127::u 128::u 129::u 130::u 131::u 132::u 133::u 134::u 135::u 136::u 137::u 138::u 139::u 140::u 141::u 142::u 143::u 144::u 145::u 146::u 147::u 148::u 149::u 150::u 151::u 152::u 153::u 154::u 155::u 156::u 157::u 158::u 159::u 160::u 161::u 162::u 163::u 164::u 165::u 166::u 167::u 168::u 169::u 170::u 171::u 172::u 173::u 174::u 175::u 176::u 177::u 178::u 179::u 180::u 181::u 182::u 183::u 184::u 185::u 186::u 187::([]:List Value)).toArray:=⟨fun i=>t.getD i undef,range_lit t 188 h⟩
noncomputable def reg_causeylaw13_DictAgain_10:Code:=((Tryz.f8.body.bind (regionOf 10)).getD .skip)
theorem again10 (t:Array Value) (hs:t.size=188) (w:World) {B0 B1 B2 I pb po pc:Nat} {kx nx ky ny kz nz:Int} {ps qs sx sy sz:ByteArray} {yx yy yz:Bool}
  (hq1:t.getD 1 undef = .string ps)
  (hq2:t.getD 2 undef = .string qs)
  (hq9:t.getD 9 undef = .pointer (some ⟨B0,0,none⟩))
  (hq10:t.getD 10 undef = .pointer (some ⟨B1,0,none⟩))
  (hq11:t.getD 11 undef = .pointer (some ⟨B2,0,none⟩))
  (hq21:t.getD 21 undef = .pointer (some ⟨I,0,none⟩))
  (i0:w.cell? ⟨I,0,none⟩=some (.int .u8 kx)) (i1:w.cell? ⟨I,1,none⟩=some (.int .i64 nx)) (i2:w.cell? ⟨I,2,none⟩=some (.string sx)) (i3:w.cell? ⟨I,3,none⟩=some (.bool yx)) (i4:w.cell? ⟨I,4,none⟩=some (.slice (some ⟨pb,po,none⟩) 2 pc)) (a0:w.cell? ⟨B0,0,none⟩=some (.int .u8 kx)) (a1:w.cell? ⟨B0,1,none⟩=some (.int .i64 nx)) (a2:w.cell? ⟨B0,2,none⟩=some (.string sx)) (a3:w.cell? ⟨B0,3,none⟩=some (.bool yx)) (b0:w.cell? ⟨B1,0,none⟩=some (.int .u8 ky)) (b1:w.cell? ⟨B1,1,none⟩=some (.int .i64 ny)) (b2:w.cell? ⟨B1,2,none⟩=some (.string sy)) (b3:w.cell? ⟨B1,3,none⟩=some (.bool yy)) (c0:w.cell? ⟨B2,0,none⟩=some (.int .u8 kz)) (c1:w.cell? ⟨B2,1,none⟩=some (.int .i64 nz)) (c2:w.cell? ⟨B2,2,none⟩=some (.string sz)) (c3:w.cell? ⟨B2,3,none⟩=some (.bool yz)) (d0:w.cell? ⟨pb,po,none⟩=some (.string ps)) (d1:w.cell? ⟨pb,po + 1,none⟩=some (.int .u8 kz)) (d2:w.cell? ⟨pb,po + 2,none⟩=some (.int .i64 nz)) (d3:w.cell? ⟨pb,po + 3,none⟩=some (.string sz)) (d4:w.cell? ⟨pb,po + 4,none⟩=some (.bool yz)) (e0:w.cell? ⟨pb,po + 5,none⟩=some (.string qs)) (e1:w.cell? ⟨pb,po + 6,none⟩=some (.int .u8 ky)) (e2:w.cell? ⟨pb,po + 7,none⟩=some (.int .i64 ny)) (e3:w.cell? ⟨pb,po + 8,none⟩=some (.string sy)) (e4:w.cell? ⟨pb,po + 9,none⟩=some (.bool yy))
  (hEx:∀ w,(binOp .eql 66 (.agg #[.int .u8 kx,.int .i64 nx,.string sx,.bool yx]) (.agg #[.int .u8 kx,.int .i64 nx,.string sx,.bool yx])).run Tryz.prog w = .ok (.bool true) w) (hE1:∀ w,(binOp .eql 73 (.agg #[.string ps,.int .u8 kz,.int .i64 nz,.string sz,.bool yz]) (.agg #[.string ps,.int .u8 kz,.int .i64 nz,.string sz,.bool yz])).run Tryz.prog w = .ok (.bool true) w) (hE2:∀ w,(binOp .eql 73 (.agg #[.string qs,.int .u8 ky,.int .i64 ny,.string sy,.bool yy]) (.agg #[.string qs,.int .u8 ky,.int .i64 ny,.string sy,.bool yy])).run Tryz.prog w = .ok (.bool true) w)
  (HW:Hid (∀ W,New w W→Calls Tryz.prog 25 #[] W fun e w'=>e = .returned (.bool true)∧New W w')) :
  reg_causeylaw13_DictAgain_10.wp Tryz.prog (Only fun a' W'=>∃ z:Nat→Value,a'=⟨((pz t z [155,156,157,158,159,160,161,162,163,164,165,166,167,168,169,170,171,172,173,174,175,176,177,178,179,180,181,182,183,184,185,186,187]).setIfInBounds 12 (.bool true)),[]⟩∧New w W') ⟨t,[]⟩ w:=by
 conv=>arg 2;whnf
 obtain ⟨u,rfl⟩:=lita188 t hs
 have hq1:u 1 = _:=hq1
 have hq2:u 2 = _:=hq2
 have hq9:u 9 = _:=hq9
 have hq10:u 10 = _:=hq10
 have hq11:u 11 = _:=hq11
 have hq21:u 21 = _:=hq21
 rw [hq1,hq2,hq9,hq10,hq11,hq21]
 clear hq1 hq2 hq9 hq10 hq11 hq21 hs
 refine wp_region_held (S:=fun W=>New w W) (by kernel_rfl) ?_
 show wpAnyH _ _ _ _ _ 34 _ _ w.drew
 have hN:New w w.drew:=(Mods.refl _ _).drew
 have hS:New w w.drew:=(Mods.refl _ _).drew
 refine tkI 0 (some 155) (.pointer (some ⟨I,0,none⟩)) hS ?_
 simp only [pS]
 refine tkA 1 rfl (some 156) (.agg #[.int .u8 kx,.int .i64 nx,.string sx,.bool yx]) (.inl ⟨by rfl,fun W hW=>by have q0:=hW.cell i0 id;have q1:=hW.cell i1 id;have q2:=hW.cell i2 id;have q3:=hW.cell i3 id;go_simp⟩) hS ?_
 simp only [pS]
 refine tkA 2 rfl (some 157) (.agg #[.int .u8 kx,.int .i64 nx,.string sx,.bool yx]) (.inl ⟨by rfl,fun W hW=>by have q0:=hW.cell a0 id;have q1:=hW.cell a1 id;have q2:=hW.cell a2 id;have q3:=hW.cell a3 id;go_simp⟩) hS ?_
 simp only [pS]
 refine tkA 3 rfl (some 158) (.bool true) (.inl ⟨by rfl,fun W hW=>by have hz:=hEx W;go_simp⟩) hS ?_
 simp only [pS]
 refine tkI 4 (some 159) (.bool true) hS ?_
 simp only [pS]
 refine tkI 5 (some 160) (.pointer (some ⟨I,4,none⟩)) hS ?_
 simp only [pS]
 refine tkA 6 rfl (some 161) (.slice (some ⟨pb,po,none⟩) 2 pc) (.inl ⟨by rfl,fun W hW=>by have q:=hW.cell i4 id;go_simp⟩) hS ?_
 simp only [pS]
 refine tkI 7 (some 162) (.int .i64 2) hS ?_
 simp only [pS]
 refine tkI 8 (some 163) (.bool true) hS ?_
 simp only [pS]
 refine tkI 9 (some 164) (.bool true) hS ?_
 simp only [pS]
 refine tkI 10 (some 165) (.bool true) hS ?_
 simp only [pS]
 refine tkI 11 (some 166) (.pointer (some ⟨I,4,none⟩)) hS ?_
 simp only [pS]
 refine tkA 12 rfl (some 167) (.slice (some ⟨pb,po,none⟩) 2 pc) (.inl ⟨by rfl,fun W hW=>by have q:=hW.cell i4 id;go_simp⟩) hS ?_
 simp only [pS]
 refine tkI 13 (some 168) (.pointer (some ⟨pb,po,none⟩)) hS ?_
 simp only [pS]
 refine tkA 14 rfl (some 169) (.agg #[.string ps,.int .u8 kz,.int .i64 nz,.string sz,.bool yz]) (.inl ⟨by rfl,fun W hW=>by have q0:=hW.cell d0 id;have q1:=hW.cell d1 id;have q2:=hW.cell d2 id;have q3:=hW.cell d3 id;have q4:=hW.cell d4 id;go_simp⟩) hS ?_
 simp only [pS]
 refine tkI 15 (some 170) (.string ps) hS ?_
 simp only [pS]
 refine tkA 16 rfl (some 171) (.agg #[.int .u8 kz,.int .i64 nz,.string sz,.bool yz]) (.inl ⟨by rfl,fun W hW=>by have q0:=hW.cell c0 id;have q1:=hW.cell c1 id;have q2:=hW.cell c2 id;have q3:=hW.cell c3 id;go_simp⟩) hS ?_
 simp only [pS]
 refine tkI 17 (some 172) (.agg #[.string ps,.int .u8 kz,.int .i64 nz,.string sz,.bool yz]) hS ?_
 simp only [pS]
 refine tkA 18 rfl (some 173) (.bool true) (.inl ⟨by rfl,fun W hW=>by have hz:=hE1 W;go_simp⟩) hS ?_
 simp only [pS]
 refine tkI 19 (some 174) (.bool true) hS ?_
 simp only [pS]
 refine tkI 20 (some 175) (.bool true) hS ?_
 simp only [pS]
 refine tkI 21 (some 176) (.pointer (some ⟨I,4,none⟩)) hS ?_
 simp only [pS]
 refine tkA 22 rfl (some 177) (.slice (some ⟨pb,po,none⟩) 2 pc) (.inl ⟨by rfl,fun W hW=>by have q:=hW.cell i4 id;go_simp⟩) hS ?_
 simp only [pS]
 refine tkI 23 (some 178) (.pointer (some ⟨pb,po + 5,none⟩)) hS ?_
 simp only [pS]
 refine tkA 24 rfl (some 179) (.agg #[.string qs,.int .u8 ky,.int .i64 ny,.string sy,.bool yy]) (.inl ⟨by rfl,fun W hW=>by have q0:=hW.cell e0 id;have q1:=hW.cell e1 id;have q2:=hW.cell e2 id;have q3:=hW.cell e3 id;have q4:=hW.cell e4 id;go_simp⟩) hS ?_
 simp only [pS]
 refine tkI 25 (some 180) (.string qs) hS ?_
 simp only [pS]
 refine tkA 26 rfl (some 181) (.agg #[.int .u8 ky,.int .i64 ny,.string sy,.bool yy]) (.inl ⟨by rfl,fun W hW=>by have q0:=hW.cell b0 id;have q1:=hW.cell b1 id;have q2:=hW.cell b2 id;have q3:=hW.cell b3 id;go_simp⟩) hS ?_
 simp only [pS]
 refine tkI 27 (some 182) (.agg #[.string qs,.int .u8 ky,.int .i64 ny,.string sy,.bool yy]) hS ?_
 simp only [pS]
 refine tkA 28 rfl (some 183) (.bool true) (.inl ⟨by rfl,fun W hW=>by have hz:=hE2 W;go_simp⟩) hS ?_
 simp only [pS]
 refine tkI 29 (some 184) (.bool true) hS ?_
 simp only [pS]
 refine tkI 30 (some 185) (.bool true) hS ?_
 simp only [pS]
 refine tkO 31 ?_
 refine opH_call (some 186) rfl (by rfl) rfl 25 #[] (by go_simp) ((HW.out _ hN).mono ?_)
 rintro e w31 ⟨rfl,hk⟩
 have hS:=hS.trans hk
 have hN:=hN.trans hk
 clear hk
 refine ⟨_,rfl,hS,?_⟩
 simp only [pS]
 refine tkI 32 (some 187) (.bool true) hS ?_
 simp only [pS]
 refine tkI 33 (some 12) (.bool true) hS ?_
 simp only [pS]
 refine wpAnyH_done (by kernel_rfl) ?_ _
 exact zc rfl hN
theorem binop_param (p q:Bare.Par) (w:World):(binOp .eql 73 (.agg (pcs p).toArray) (.agg (pcs q).toArray)).run Tryz.prog w = .ok (.bool (decide (p=q))) w:=by
 have h:=eq_param 9997 p q w
 simp only [binOp]
 simp [Op.equal,Op.maxDepth,h]
theorem one_dict {W:World} {a:Option Addr} {c:Nat} {k p q:Bare.Bs} {x y z:Bare.It} (h:RdD true W (.slice a 1 c) [⟨k,false,[⟨x,[⟨p,z⟩,⟨q,y⟩]⟩],[]⟩]) :
  ∃ b o ib io ic pb po pc,a=some ⟨b,o,none⟩∧(W.cell? ⟨b,o,none⟩=some (.string (tx k))∧W.cell? ⟨b,o + 1,none⟩=some (.bool false)∧W.cell? ⟨b,o + 2,none⟩=some (.slice (some ⟨ib,io,none⟩) 1 ic)) ∧
   (W.cell? ⟨ib,io,none⟩=some (.int .u8 x.kind)∧W.cell? ⟨ib,io + 1,none⟩=some (.int .i64 x.int)∧W.cell? ⟨ib,io + 2,none⟩=some (.string (tx x.text))∧W.cell? ⟨ib,io + 3,none⟩=some (.bool x.yes)∧W.cell? ⟨ib,io + 4,none⟩=some (.slice (some ⟨pb,po,none⟩) 2 pc)) ∧
   (W.cell? ⟨pb,po,none⟩=some (.string (tx p))∧W.cell? ⟨pb,po + 1,none⟩=some (.int .u8 z.kind)∧W.cell? ⟨pb,po + 2,none⟩=some (.int .i64 z.int)∧W.cell? ⟨pb,po + 3,none⟩=some (.string (tx z.text))∧W.cell? ⟨pb,po + 4,none⟩=some (.bool z.yes)) ∧
   (W.cell? ⟨pb,po + 5,none⟩=some (.string (tx q))∧W.cell? ⟨pb,po + 6,none⟩=some (.int .u8 y.kind)∧W.cell? ⟨pb,po + 7,none⟩=some (.int .i64 y.int)∧W.cell? ⟨pb,po + 8,none⟩=some (.string (tx y.text))∧W.cell? ⟨pb,po + 9,none⟩=some (.bool y.yes)):=by
 obtain ⟨iv,pv,h1,-,h3⟩:=h
 obtain ⟨b,o,rfl,hr⟩:=h1.at.2.2 0 Nat.zero_lt_one
 obtain ⟨⟨pi,hI,-,hP⟩,-⟩:=h3 0 Nat.zero_lt_one
 obtain ⟨ia,ic,hie⟩:=hI.slice
 have hI':RowR W (iv 0) 1 5 (fun i=>ics (([⟨x,[⟨p,z⟩,⟨q,y⟩]⟩]:List Bare.Itm).getD i Bare.noI) (pi i)):=hI
 have hie':iv 0 = .slice ia 1 ic:=hie
 rw [hie'] at hI'
 obtain ⟨ib,io,rfl,hri⟩:=hI'.at.2.2 0 Nat.zero_lt_one
 have hPP:RdP true W (pi 0) [⟨p,z⟩,⟨q,y⟩]:=hP 0 Nat.zero_lt_one
 obtain ⟨pa,pc,hpe⟩:=hPP.slice
 have hpe':pi 0 = .slice pa 2 pc:=hpe
 have hR:=hPP.1
 rw [hpe'] at hR
 obtain ⟨pb,po,rfl,hrp⟩:=hR.at.2.2 0 (by decide)
 obtain ⟨pb',po',e,hrq⟩:=hR.at.2.2 1 (by decide)
 cases e
 refine ⟨b,o,ib,io,ic,pb,po,pc,rfl,⟨?_,?_,?_⟩,⟨?_,?_,?_,?_,?_⟩,⟨?_,?_,?_,?_,?_⟩,⟨?_,?_,?_,?_,?_⟩⟩
 ·simpa using hr 0 _ rfl
 ·simpa using hr 1 _ rfl
 ·have:=hr 2 _ rfl;rw [hie'] at this;simpa using this
 ·simpa using hri 0 _ rfl
 ·simpa using hri 1 _ rfl
 ·simpa using hri 2 _ rfl
 ·simpa using hri 3 _ rfl
 ·have:=hri 4 _ rfl;rw [hpe'] at this;simpa using this
 ·simpa using hrp 0 _ rfl
 ·simpa using hrp 1 _ rfl
 ·simpa using hrp 2 _ rfl
 ·simpa using hrp 3 _ rfl
 ·simpa using hrp 4 _ rfl
 ·simpa using hrq 0 _ rfl
 ·simpa using hrq 1 _ rfl
 ·simpa using hrq 2 _ rfl
 ·simpa using hrq 3 _ rfl
 ·simpa using hrq 4 _ rfl


theorem padD_len:∀ (m n l:Nat),n + l ≤ m→(Bare.padD n l).length ≤ n + l
 | 0,n,l,h=>by
  obtain rfl:n=0:=by omega
  obtain rfl:l=0:=by omega
  rw [Bare.padD_done];simp
 | m + 1,n,l,h=>by
  by_cases h0:n=0∧l=0
  ·rw [h0.1,h0.2,Bare.padD_done];simp
  ·rw [Bare.padD_step h0,List.length_append]
   have:=padD_len m (n / 10) (l - 1) (by omega)
   simp
   omega
theorem run_one (W:World) (d:UInt8) (z:Int) (hz:z=(d.toNat:Nat)) :
  (convert 113 9 (.slice (some ⟨W.heap.size,0,none⟩) 1 1)).run Tryz.prog (W.alloc (.cells #[.int .u8 z] 5)) = .ok (.string (tx [d])) (W.alloc (.cells #[.int .u8 z] 5)):=by
 subst hz
 have h:=Lib.run_convert_whole (P:=Tryz.prog) (W.alloc (.cells #[.int .u8 (d.toNat:Nat)] 5)) 113 5 9 (by kernel_rfl) (by kernel_rfl) (by kernel_rfl) W.heap.size 0 (tx [d]) (fun i hi=>by
  rw [tx_size] at hi
  have hi:i < 1:=hi
  obtain rfl:i=0:=by omega
  have hr:=World.alloc_heap_new W (.cells #[.int .u8 (d.toNat:Nat)] 5)
  have hc:(W.alloc (.cells #[.int .u8 (d.toNat:Nat)] 5)).cell? ⟨W.heap.size,0,none⟩=some (.int .u8 (d.toNat:Nat)):=by
   simp only [World.cell?,hr]
   rfl
  exact hc) 1
 exact h
theorem digits_r (n l:Nat) (hn:n ≤ 999999999999999) (hl:l ≤ 3) (w:World) :
  Calls Tryz.prog 78 #[.int .i64 n,.int .i64 l] w fun e w'=>e = .returned (.string (tx (Bare.padD n l)))∧New w w':=by
 have hlen:=padD_len _ n l (Nat.le_refl _)
 have hN0:New w w:=Mods.refl _ _
 obtain ⟨F,hF⟩:∃ F,Bare.padD n l=F:=⟨_,rfl⟩
 rw [hF] at hlen ⊢
 have hFl:F.length ≤ 1000000000000010:=by omega
 go_enter Tryz.func78,Tryz.ntmps78
 go_wp2_with fail
 go_loopw [0,1,5] (fun a b o wr=>∃ (n':Nat) (li:Int) (out:Bare.Bs),n' ≤ 999999999999999∧a = .int .i64 n'∧b = .int .i64 li∧o = .string (tx out)∧li ≤ 3∧Hid (F=Bare.padD n' li.toNat ++ out)∧-1000000000000010 ≤ li + 0∧(li + out.length=l)∧New w wr) (fun a b _ _=>(intOf a).toNat + (intOf b).toNat)
 case atStart=>exact ⟨n,l,[],hn,rfl,rfl,rfl,by omega,Lib.hid (by rw [← hF];simp),by omega,by simp,hN0⟩
 case round =>
  obtain ⟨n',li,out,hn',rfl,rfl,rfl,hl3,hp,hlo,hlen',hN⟩:=hrel
  by_cases hstop:n'=0∧li ≤ 0
  ·obtain ⟨rfl,hl0⟩:=hstop
   have hp:=hp.out
   rw [show li.toNat=0 by omega,Bare.padD_done,List.nil_append] at hp
   subst hp
   go_wp2_with fail
   go_ret
   exact ⟨rfl,hN⟩
  ·have hlo1:out.length + 1 ≤ F.length:=by
    rw [hp.out,Bare.padD_step (by omega),List.length_append,List.length_append];show _ ≤ _ + 1 + _;omega
   have hos:(tx out).size=out.length:=tx_size out
   have hm:(n':Int) % 10=((n' % 10:Nat):Int):=by omega
   have hcv:=run_one wr (UInt8.ofNat (48 + n' % 10)) (48 + (n':Int) % 10) (by simp;omega)
   have hds:(tx [UInt8.ofNat (48 + n' % 10)]).size=1:=tx_size _
   have hA:=hN.alloc (.cells #[.int .u8 (48 + (n':Int) % 10)] 5)
   have hp2:Hid (F=Bare.padD (n' / 10) (li - 1).toNat ++ ([UInt8.ofNat (48 + n' % 10)] ++ out)):=Lib.hid (by
    rw [hp.out,Bare.padD_step (by omega),show (li - 1).toNat=li.toNat - 1 by omega,List.append_assoc])
   have hjo:tx [UInt8.ofNat (48 + n' % 10)] ++ tx out=tx ([UInt8.ofNat (48 + n' % 10)] ++ out):=by rw [cat_bl,bl_tx,bl_tx]
   obtain ⟨d,hd⟩:∃ d,UInt8.ofNat (48 + n' % 10)=d:=⟨_,rfl⟩
   rw [hd] at hcv hds hp2 hjo
   clear hm hp hd
   by_cases hz:0 < n'
   ·clear hstop
    go_wp2_with fail
    go_round
    case rel=>exact ⟨n' / 10,li - 1,[d] ++ out,by omega,by go_num,rfl,rfl,by omega,hp2,by omega,by simp;omega,hA⟩
    case measure=>simp [intOf];omega
   ·have hl1:0 < li:=by omega
    clear hstop
    go_wp2_with fail
    go_round
    case rel=>exact ⟨n' / 10,li - 1,[d] ++ out,by omega,by go_num,rfl,rfl,by omega,hp2,by omega,by simp;omega,hA⟩
    case measure=>simp [intOf];omega


theorem right_r (b:Bare.It) (hl:b.text.length ≤ 100000000) (w:World) :
  Calls Tryz.prog 33 #[bv b] w fun e w'=>e = .returned (.bool (Bare.rightI b))∧New w w':=by
 obtain ⟨k,n,t,y⟩:=b
 obtain ⟨hN,hr⟩:=box_row w ⟨k,n,t,y⟩
 unfold bv bcs at *
 simp only at hN hr hl ⊢
 have ht:=tx_empty t
 have HT:=Lib.hid (fun W=>token_r (tx t) W (by rw [tx_size];omega))
 have HA:=Lib.hid (all_gb (tx t) Bare.plnB)
 have hts:(tx t).size ≤ 100000000:=by rw [tx_size];exact hl
 rw [bl_tx] at HT HA
 unfold Bare.rightI
 simp only
 obtain ⟨z,hz⟩:∃ z,t.isEmpty=z:=⟨_,rfl⟩
 rw [hz] at ht ⊢
 obtain ⟨T,hT⟩:∃ T,Bare.tokB t=T:=⟨_,rfl⟩
 rw [hT] at HT ⊢
 obtain ⟨P,hP⟩:∃ P,t.all Bare.plnB=P:=⟨_,rfl⟩
 rw [hP] at HA ⊢
 obtain ⟨s,hs⟩:∃ s,tx t=s:=⟨_,rfl⟩
 rw [hs] at hr hN ht HT HA hts ⊢
 clear hs hz hT hP hl
 obtain ⟨W,hW⟩:∃ W,w.alloc (.cells #[.int .u8 k,.int .i64 n,.string s,.bool y] 66)=W:=⟨_,rfl⟩
 have hW2:=Lib.hid hW
 have hN2:=hN
 rw [hW] at hN2
 obtain ⟨B,hB⟩:∃ B,w.heap.size=B:=⟨_,rfl⟩
 have hr2:=hr
 rw [hW,hB] at hr2
 have hB2:=Lib.hid hB
 obtain ⟨⟨c0,c1,c2,c3⟩,-⟩:=row_facts hr2
 clear hr hN hr2 hW hB
 by_cases h1:k=1
 ·subst h1
  rw [if_pos (.inl rfl)]
  clear HA HT
  have hc:(decide (-999999999999999 ≤ n)=false) ∨ (decide (-999999999999999 ≤ n)=true∧decide (n ≤ 999999999999999)=false) ∨ (decide (-999999999999999 ≤ n)=true∧decide (n ≤ 999999999999999)=true∧z=false) ∨ (decide (-999999999999999 ≤ n)=true∧decide (n ≤ 999999999999999)=true∧z=true):=by
   cases decide (-999999999999999 ≤ n) <;> cases decide (n ≤ 999999999999999) <;> cases z <;> simp
  unfold Bare.most
  rcases hc with d1 | ⟨d1,d2⟩ | ⟨d1,d2,rfl⟩ | ⟨d1,d2,rfl⟩
  all_goals
   (first | rw [d1,d2] | rw [d1])
   go_enter Tryz.func33,Tryz.ntmps33
   go_upto_region 1 with fail
   rw [hW2.out,hB2.out]
   clear hW2 hB2
   go_wp2_with fail
   go_ret
   exact ⟨rfl,hN2⟩
 by_cases h2:k=2
 ·subst h2
  rw [if_pos (.inr rfl)]
  clear HA HT
  have hc:(decide (-999999999999999 ≤ n)=false) ∨ (decide (-999999999999999 ≤ n)=true∧decide (n ≤ 999999999999999)=false) ∨ (decide (-999999999999999 ≤ n)=true∧decide (n ≤ 999999999999999)=true∧z=false) ∨ (decide (-999999999999999 ≤ n)=true∧decide (n ≤ 999999999999999)=true∧z=true):=by
   cases decide (-999999999999999 ≤ n) <;> cases decide (n ≤ 999999999999999) <;> cases z <;> simp
  unfold Bare.most
  rcases hc with d1 | ⟨d1,d2⟩ | ⟨d1,d2,rfl⟩ | ⟨d1,d2,rfl⟩
  all_goals
   (first | rw [d1,d2] | rw [d1])
   go_enter Tryz.func33,Tryz.ntmps33
   go_upto_region 1 with fail
   rw [hW2.out,hB2.out]
   clear hW2 hB2
   go_wp2_with fail
   go_ret
   exact ⟨rfl,hN2⟩
 rw [if_neg (by omega)]
 by_cases h3:k=3
 ·subst h3
  rw [if_pos rfl]
  clear HT ht
  obtain ⟨R,hR⟩:∃ R,(decide (n=0) && (!y && P))=R:=⟨_,rfl⟩
  rw [hR]
  replace hR:=Lib.hid hR
  go_enter Tryz.func33,Tryz.ntmps33
  go_upto_region 1 with fail
  rw [hW2.out,hB2.out]
  clear hW2 hB2
  go_upto_region 7 with fail
  go_loop [3] (fun c=>∃ k:Nat,k ≤ s.size∧c = .int .i64 k∧Hid (∀ j,j < k→Bare.plnB (gb s j)=true)) (fun c=>s.size - (intOf c).toNat)
  case atStart=>exact ⟨0,Nat.zero_le _,rfl,Lib.hid fun i hi=>by omega⟩
  case round =>
   obtain ⟨k,hk,rfl,hbef⟩:=hrel
   by_cases hlt:k < s.size
   ·have hix:=run_idx s k hlt
    have hnext:Bare.plnB (gb s k)=true→Hid (∀ j,j < k + 1→Bare.plnB (gb s j)=true):=fun hg=>Lib.hid fun i hi=>by
     by_cases hik:i < k
     ·exact hbef.out i hik
     ·obtain rfl:i=k:=by omega
      exact hg
    have hstop:Bare.plnB (gb s k)=false→R=false:=fun hg=>by
     have:P=false:=by
      rw [Bool.eq_false_iff]
      intro h
      have:=HA.out.1 h k hlt
      rw [hg] at this;cases this
     rw [← hR.out,this,Bool.and_false,Bool.and_false]
    have hpl:Bare.plnB (gb s k)=(decide (32 ≤ (gb s k).toNat) && decide ((gb s k).toNat ≤ 126)):=rfl
    rw [hpl] at hnext hstop
    obtain ⟨m,hm⟩:∃ m,(gb s k).toNat=m:=⟨_,rfl⟩
    rw [hm] at hix hnext hstop
    clear hpl hm hbef
    by_cases h1:m < 32
    ·have hh:=hstop (by simp;omega)
     clear hstop hnext
     subst hh
     go_wp2_with fail
     go_ret
     exact ⟨rfl,hN2⟩
    by_cases h2:126 < m
    ·have hh:=hstop (by simp;omega)
     clear hstop hnext
     subst hh
     go_wp2_with fail
     go_ret
     exact ⟨rfl,hN2⟩
    have hh:=hnext (by simp;omega)
    clear hstop hnext
    go_wp2_with fail
    go_round
    case rel=>exact ⟨k + 1,by omega,by go_num,hh⟩
    case measure=>simp [intOf];omega
   ·obtain rfl:k=s.size:=by omega
    have hP:=HA.out.2 hbef.out
    have hR:=hR.out
    subst hP
    clear HA hbef
    have hc:decide (n=0)=false ∨ (decide (n=0)=true∧y=true) ∨ (decide (n=0)=true∧y=false):=by
     cases decide (n=0) <;> cases y <;> simp
    have d2:(n == 0)=decide (n=0):=rfl
    rcases hc with d1 | ⟨d1,rfl⟩ | ⟨d1,rfl⟩
    all_goals
     rw [d1] at d2 hR
     subst hR
     go_wp2_with fail
     go_ret
     exact ⟨by simp,hN2⟩
 rw [if_neg h3]
 by_cases h4:k=4
 ·subst h4
  rw [if_pos rfl]
  clear HA ht
  have hc:T=false ∨ (T=true∧decide (n=0)=false) ∨ (T=true∧decide (n=0)=true∧y=true) ∨ (T=true∧decide (n=0)=true∧y=false):=by
   cases T <;> cases decide (n=0) <;> cases y <;> simp
  have d2:(n == 0)=decide (n=0):=rfl
  rcases hc with rfl | ⟨rfl,d1⟩ | ⟨rfl,d1,rfl⟩ | ⟨rfl,d1,rfl⟩
  ·rw [Bool.and_false,Bool.and_false]
   clear d2
   go_enter Tryz.func33,Tryz.ntmps33
   go_upto_region 1 with fail
   rw [hW2.out,hB2.out]
   clear hW2 hB2
   go_wp2_with (go_at_call 77;refine (HT.out _).mono ?_;rintro e w' ⟨rfl,rfl⟩)
   go_ret
   exact ⟨rfl,hN2⟩
  all_goals
   rw [d1] at d2 ⊢
   go_enter Tryz.func33,Tryz.ntmps33
   go_upto_region 1 with fail
   rw [hW2.out,hB2.out]
   clear hW2 hB2
   go_wp2_with (go_at_call 77;refine (HT.out _).mono ?_;rintro e w' ⟨rfl,rfl⟩)
   go_ret
   exact ⟨by simp,hN2⟩
 rw [if_neg h4]
 by_cases h5:k=5
 ·subst h5
  rw [if_pos rfl]
  clear HA ht HT
  have hc:decide (n=0)=false ∨ (decide (n=0)=true∧y=true) ∨ (decide (n=0)=true∧y=false):=by
   cases decide (n=0) <;> cases y <;> simp
  have d2:(n == 0)=decide (n=0):=rfl
  rcases hc with d1 | ⟨d1,rfl⟩ | ⟨d1,rfl⟩
  all_goals
   rw [d1] at d2 ⊢
   go_enter Tryz.func33,Tryz.ntmps33
   go_upto_region 1 with fail
   rw [hW2.out,hB2.out]
   clear hW2 hB2
   go_wp2_with fail
   go_ret
   exact ⟨by simp,hN2⟩
 rw [if_neg h5]
 by_cases h6:k=6
 ·subst h6
  rw [if_pos rfl]
  clear HA HT
  have hc:decide (n=0)=false ∨ (decide (n=0)=true∧z=true) ∨ (decide (n=0)=true∧z=false):=by
   cases decide (n=0) <;> cases z <;> simp
  have d2:(n == 0)=decide (n=0):=rfl
  rcases hc with d1 | ⟨d1,rfl⟩ | ⟨d1,rfl⟩
  all_goals
   rw [d1] at d2 ⊢
   go_enter Tryz.func33,Tryz.ntmps33
   go_upto_region 1 with fail
   rw [hW2.out,hB2.out]
   clear hW2 hB2
   go_wp2_with fail
   go_ret
   exact ⟨by simp,hN2⟩
 rw [if_neg h6]
 clear HA HT ht
 have g1:(k == 1)=false:=by simpa using h1
 have g2:(k == 2)=false:=by simpa using h2
 have g3:(k == 3)=false:=by simpa using h3
 have g4:(k == 4)=false:=by simpa using h4
 have g5:(k == 5)=false:=by simpa using h5
 have g6:(k == 6)=false:=by simpa using h6
 clear h1 h2 h3 h4 h5 h6
 go_enter Tryz.func33,Tryz.ntmps33
 go_upto_region 1 with fail
 rw [hW2.out,hB2.out]
 clear hW2 hB2
 go_wp2_with fail
 go_ret
 exact ⟨rfl,hN2⟩


theorem pad_one (m:Nat):Bare.padD m 1=Lib.decDigits m:=Bare.padD_zero m 1 (by omega) (.inr rfl)
theorem own_one (w:World) (base:Nat) (h:base ≤ w.heap.size) (c:UInt8):(w.alloc (.cells #[.int .u8 (c.toNat:Nat)] 5)).ownsRow base 5 1 (.slice (some ⟨w.heap.size,0,none⟩) 1 1) 1 (u8s [c]) :=
 ⟨rfl,.inr ⟨_,1,_,rfl,h,World.alloc_heap_new _ _,Nat.le_refl _,by decide,rfl,rfl⟩⟩
def prT (k n:Int) (t:Bare.Bs) (y:Bool):Bare.Bs:=if k=1 then Lib.itoa n else if k=2 then Bare.decimal n else if k=3 then 34::(Bare.esc t ++ [34]) else if k=5 then 58::(Bare.sixes t ++ [58]) else if k=6 then [63,if y then 49 else 48] else t
def sgn (n:Int):Bare.Bs:=if n < 0 then [45] else []
theorem itoa_sgn (n:Int):Lib.itoa n=sgn n ++ Lib.decDigits n.natAbs:=by
 unfold Lib.itoa sgn
 split
 ·rfl
 ·rw [show n.toNat=n.natAbs by omega];rfl
theorem print_prT {b:Bare.It} (h:Bare.rightI b=true):Bare.printI b=some (prT b.kind b.int b.text b.yes):=by
 unfold Bare.printI prT
 rw [if_neg (by rw [h];decide)]
 repeat' split
 all_goals first | rfl | contradiction
theorem catx (a b:Bare.Bs):tx a ++ tx b=tx (a ++ b):=by rw [cat_bl,bl_tx,bl_tx]
theorem dec_len (m:Nat) (h:m ≤ 9223372036854775807):(Lib.decDigits m).length ≤ 30:=by
 have:=Lib.itoa_length_le (m:Int) (by omega) (by omega)
 rw [Lib.itoa_nonneg] at this
 omega
def slen:Value→Nat
 | .string s=>s.size
 | _=>0
theorem pad_three_len (m:Nat) (h:m < 1000):Bare.padD m 3 ≠ []∧(Bare.padD m 3).length ≤ 3:=by
 rw [Bare.padD_step (by omega),Bare.padD_step (by omega),Bare.padD_step (by omega)]
 rw [show m / 10 / 10 / 10=0 by omega,show 3 - 1 - 1 - 1=0 from rfl,Bare.padD_done]
 simp
theorem wpList_append_c {ops:Array Oper} {Q:Exit→Act→World→Prop} {rest:List Oper} {o:Oper} {a:Act} {w W:World} (s x:Operand) {base:Nat} {v:Value} {acc:Bare.Bs} {c:UInt8} {n nl:Nat} (hgd:o.guard=none) (hop:o.op = .call { callee:=.builtin .append,args:=#[s,x],argTypes:=#[113,113] })
  (hs:a.eval s=v) (hx:a.eval x = .slice (some ⟨w.heap.size,0,none⟩) 1 1) (hW:w.alloc (.cells #[.int .u8 n] 5)=W) (hc:c.toNat=n) (hl:acc.length=nl) (hown:w.ownsRow base 5 1 v nl (u8s acc)) (hn:nl ≤ 2000000) (hbase:base ≤ w.heap.size)
  (h:∀ v' W',W'.ownsRow base 5 1 v' (nl + 1) (u8s (acc ++ [c]))→(∀ (w0:World) (S:Nat→Prop),Mods S w0 w→(∀ g,v.ownBlock=some g→w0.heap.size ≤ g ∨ S g)→Mods S w0 W')→wpList Tryz.prog ops Q rest (a.put o.dst v') W'):wpList Tryz.prog ops Q (o::rest) a W:=by
 obtain ⟨i0,hi,hz0,hz1,hz2⟩:=info_parts infoB'
 subst hc
 subst hW
 subst hl
 have hown':(w.alloc (.cells #[.int .u8 (c.toNat:Nat)] 5)).ownsRow base 5 1 v acc.length (u8s acc):=hown.alloc _
 obtain ⟨v',w',hr,ho,hg,-⟩:=run_append_own (P:=Tryz.prog) (w.alloc (.cells #[.int .u8 (c.toNat:Nat)] 5)) base 113 o.type 5 i0 _ 1 1 Tryz.underlying113 hi hz0 hz1 hz2 rfl (by decide) v acc.length (u8s acc) hown' ⟨w.heap.size,0,none⟩ 1 1 [.int .u8 (c.toNat:Nat)] rfl (cell_one_new _ _ _) (by simp [Value.oneCell']) (by unfold maxLen;omega) (by omega) (by simp;omega)
 refine wpList_plain hgd fun K hK=>?_
 have hrun:(execOp a.eval o).run Tryz.prog (w.alloc (.cells #[.int .u8 (c.toNat:Nat)] 5)) = .ok (.value v') w':=by
  simp [execOp,hop,resolve,invoke,builtin,hs,hx,hr,Result.andThen]
 unfold Oper.wp
 rw [hrun]
 refine hK _ _ (h v' w' ?_ fun w0 S hN hb=>?_)
 ·rw [u8s_snoc]
  exact ho
 ·exact (hN.alloc _).grown hg (fun g hg=>(hb g hg).imp id fun h=>⟨h,own_cells hown' hg⟩)
theorem print_r (b:Bare.It) (hl:b.text.length ≤ 10000) (w:World) :
  Calls Tryz.prog 34 #[bv b] w fun e w'=>e = .returned (printV (Bare.printI b))∧New w w':=by
 have HRt:=Lib.hid (fun W=>right_r b (by omega) W)
 obtain ⟨hN,hr⟩:=box_row w b
 cases hrt:Bare.rightI b with
 | false =>
  have e:Bare.printI b=none:=by unfold Bare.printI;rw [if_pos hrt]
  rw [e]
  rw [hrt] at HRt
  unfold printV
  clear hrt e
  obtain ⟨k,n,t,y⟩:=b
  unfold bv bcs at *
  simp only at hN hr HRt ⊢
  obtain ⟨s,hs⟩:∃ s,tx t=s:=⟨_,rfl⟩
  rw [hs] at hN hr HRt ⊢
  go_enter Tryz.func34,Tryz.ntmps34
  go_upto_region 1 with fail
  obtain ⟨W,hW⟩:∃ W,w.alloc (.cells #[.int .u8 k,.int .i64 n,.string s,.bool y] 66)=W:=⟨_,rfl⟩
  rw [hW] at hN hr ⊢
  obtain ⟨B,hB⟩:∃ B,w.heap.size=B:=⟨_,rfl⟩
  rw [hB] at hr ⊢
  clear hW hB
  obtain ⟨⟨c0,c1,c2,c3⟩,f0,f1,f2,f3⟩:=row_facts hr
  go_wp2_with fail
  refine (HRt.out _).mono ?_
  rintro e w1 ⟨rfl,hN1⟩
  go_wp2_with fail
  go_ret2
  exact ⟨rfl,hN.trans hN1⟩
 | true =>
  have hk:=right_kind hrt
  have hnum:=right_num hrt
  have hzero:¬ (b.kind=1 ∨ b.kind=2)→b.int=0:=fun h=>by
   unfold Bare.rightI at hrt
   rw [if_neg h] at hrt
   repeat' split at hrt
   all_goals first | (simp only [Bool.and_eq_true,decide_eq_true_eq] at hrt;exact hrt.1) | cases hrt
  rw [print_prT hrt]
  rw [hrt] at HRt
  unfold printV
  clear hrt
  obtain ⟨k,n,t,y⟩:=b
  simp only at hk hnum hl hzero ⊢
  unfold bv bcs at *
  simp only at hN hr HRt ⊢
  obtain ⟨s,hs⟩:∃ s,tx t=s:=⟨_,rfl⟩
  have hsb:bl s=t:=by rw [← hs,bl_tx]
  have hsl:s.size ≤ 10000:=by rw [← hs,tx_size];exact hl
  have HS:=Lib.hid hs
  have HSB:=Lib.hid hsb
  rw [hs] at hN hr HRt ⊢
  obtain ⟨R,hR⟩:∃ R,tx (prT k n t y)=R:=⟨_,rfl⟩
  have HR:=Lib.hid hR
  rw [hR]
  clear hs hsb hR
  have hnn:-999999999999999 ≤ n∧n ≤ 999999999999999:=by
   by_cases h:k=1 ∨ k=2
   ·exact hnum h
   ·rw [hzero h];omega
  obtain ⟨hn0,hn1⟩:=hnn
  obtain ⟨m,hm⟩:∃ m,n.natAbs=m:=⟨_,rfl⟩
  obtain ⟨sg,hsg⟩:∃ sg,tx (sgn n)=sg:=⟨_,rfl⟩
  have hm2:m ≤ 999999999999999:=by omega
  have hsgl:sg.size ≤ 1:=by rw [← hsg,tx_size];unfold sgn;split <;> simp
  clear hnum hzero hl
  go_enter Tryz.func34,Tryz.ntmps34
  go_upto_region 1 with fail
  obtain ⟨W,hW⟩:∃ W,w.alloc (.cells #[.int .u8 k,.int .i64 n,.string s,.bool y] 66)=W:=⟨_,rfl⟩
  rw [hW] at hN hr ⊢
  obtain ⟨B,hB⟩:∃ B,w.heap.size=B:=⟨_,rfl⟩
  have hwB:w.heap.size ≤ B:=by omega
  rw [hB] at hr ⊢
  clear hW hB
  obtain ⟨⟨c0,c1,c2,c3⟩,f0,f1,f2,f3⟩:=row_facts hr
  go_upto_region 3 with (go_at_call 33;refine (HRt.out _).mono ?_;rintro e w1 ⟨rfl,hN1⟩)
  replace hN:=hN.trans hN1
  replace hr:=hN1.heap hr id
  clear c0 c1 c2 c3 f0 f1 f2 f3 hN1 HRt
  obtain ⟨⟨c0,c1,c2,c3⟩,f0,f1,f2,f3⟩:=row_facts hr
  go_region
  go_upto_if 15 with fail
  replace hN:=hN.drew
  have hr:w1.drew.heap[B]? = some (.cells #[.int .u8 k,.int .i64 n,.string s,.bool y] 66 (0,0)):=hr
  obtain ⟨w2,hw2⟩:∃ V,w1.drew=V:=⟨_,rfl⟩
  rw [hw2] at hN hr ⊢
  clear hw2 c0 c1 c2 c3 f0 f1 f2 f3
  go_cut [4,5] from 15 (fun a b wx=>a = .string sg∧b = .int .i64 m∧wx=w2)
  case first =>
   by_cases hn:n < 0
   ·have hd:decide (n < 0)=true:=decide_eq_true hn
    have hneg:IntKind.i64.wrap (-n)=(m:Int):=by rw [IntWalk.i64_in] <;> omega
    have e:sg=⟨#[45]⟩:=by rw [← hsg];unfold sgn;rw [if_pos hn]
    subst e
    clear hm hsg
    go_wp2_with fail
    go_meet
    exact ⟨rfl,(by first | rfl | exact congrArg _ hneg),rfl⟩
   ·have hd:decide (n < 0)=false:=decide_eq_false hn
    have e:sg=⟨#[]⟩:=by rw [← hsg];unfold sgn;rw [if_neg hn]
    subst e
    have E2:=Lib.hid (show n=(m:Int) by omega)
    clear hm hsg
    go_wp2_with fail
    go_meet
    exact ⟨rfl,(congrArg _ E2.out),rfl⟩
  case rest =>
  obtain ⟨rfl,rfl,rfl⟩:=hcut
  obtain ⟨⟨c0,c1,c2,c3⟩,f0,f1,f2,f3⟩:=row_facts hr
  have hR1:k=1→sg ++ tx (Lib.decDigits m)=R:=fun h=>by
   rw [← HR.out,h,← hsg,catx,← hm]
   unfold prT
   rw [if_pos rfl,itoa_sgn]
  have hR2:k=2→tx (sgn n ++ Lib.decDigits (m / 1000) ++ [46] ++ Bare.fin (Bare.padD (m % 1000) 3))=R:=fun h=>by
   rw [← HR.out,h,← hm]
   unfold prT
   rw [if_neg (by decide),if_pos rfl,Bare.decimal_fin,Bare.padD_three (by omega)]
   rfl
  have hR3:k=3→tx (34::(Bare.esc t ++ [34]))=R:=fun h=>by rw [← HR.out,h];rfl
  have hR5:k=5→tx (58::(Bare.sixes t ++ [58]))=R:=fun h=>by rw [← HR.out,h];rfl
  have hR6:k=6→tx [63,if y then 49 else 48]=R:=fun h=>by rw [← HR.out,h];rfl
  have hR4:k=4→tx t=R:=fun h=>by rw [← HR.out,h];rfl
  have HSG:=Lib.hid hsg
  clear hm hsg HR
  rcases hk with rfl | rfl | rfl | rfl | rfl | rfl
  ·have hRR:=Lib.hid (hR1 rfl)
   have HD:=Lib.hid (fun W=>digits_r m 1 hm2 (by decide) W)
   rw [pad_one] at HD
   have hxs:(tx (Lib.decDigits m)).size ≤ 30:=by rw [tx_size];exact dec_len m (by omega)
   obtain ⟨x,hx⟩:∃ x,tx (Lib.decDigits m)=x:=⟨_,rfl⟩
   rw [hx] at HD hRR hxs
   clear hR1 hR2 hR3 hR4 hR5 hR6 hx
   go_wp2_with (go_at_call 78;refine (HD.out _).mono ?_;rintro e w3 ⟨rfl,hN3⟩)
   go_ret2
   exact ⟨(by first | rfl | exact congrArg (fun z=>Ending.returned (.tuple #[.string z,.int .i64 0])) hRR.out),hN.trans hN3⟩
  ·have hRR:=hR2 rfl
   have hmr:((m % 1000:Nat):Int)=(m:Int) % 1000:=by omega
   have hmq:((m / 1000:Nat):Int)=(m:Int) / 1000:=by omega
   have HD3:=Lib.hid (fun W=>digits_r (m % 1000) 3 (by omega) (by decide) W)
   have HD1:=Lib.hid (fun W=>digits_r (m / 1000) 1 (by omega) (by decide) W)
   rw [hmr] at HD3
   rw [pad_one,hmq] at HD1
   clear hmr hmq
   have hxs:(tx (Lib.decDigits (m / 1000))).size ≤ 30:=by rw [tx_size];exact dec_len _ (by omega)
   have hp3:=pad_three_len (m % 1000) (by omega)
   rw [← catx,← catx,← catx,HSG.out] at hRR
   obtain ⟨x,hx⟩:∃ x,tx (Lib.decDigits (m / 1000))=x:=⟨_,rfl⟩
   obtain ⟨P,hP⟩:∃ P,Bare.padD (m % 1000) 3=P:=⟨_,rfl⟩
   obtain ⟨F,hF⟩:∃ F,Bare.fin P=F:=⟨_,rfl⟩
   rw [hx] at HD1 hRR hxs
   rw [hP] at HD3 hRR hp3
   rw [hF] at hRR
   have HRR:=Lib.hid hRR
   have HF:=Lib.hid hF
   clear hR1 hR2 hR3 hR4 hR5 hR6 hx hP hF hRR
   go_upto_region 11 with (go_at_call 78;refine (HD3.out _).mono ?_;rintro e w3 ⟨rfl,hN3⟩)
   replace hN:=hN.trans hN3
   clear hN3 HD3
   go_loopw [6] (fun a wr=>∃ p:Bare.Bs,a = .string (tx p)∧p ≠ []∧p.length ≤ 3∧Hid (Bare.fin p=F)∧New w wr) (fun a _=>slen a)
   case atStart=>exact ⟨P,rfl,hp3.1,hp3.2,HF,hN⟩
   case round =>
    obtain ⟨p,rfl,hp0,hpl,HFp,hNr⟩:=hrel
    obtain ⟨q,c,rfl⟩:∃ q c,p=q ++ [c]:=⟨p.dropLast,p.getLast hp0,(List.dropLast_concat_getLast hp0).symm⟩
    obtain ⟨ps,hps⟩:∃ ps,tx (q ++ [c])=ps:=⟨_,rfl⟩
    have hsz:ps.size=q.length + 1:=by rw [← hps,tx_size,List.length_append];rfl
    have hq2:q.length ≤ 2:=by rw [List.length_append] at hpl;simp at hpl;omega
    have hbp:bl ps=q ++ [c]:=by rw [← hps,bl_tx]
    have hix:∀ W,(Instr.index 9 (.string ps) (.int .i64 ((ps.size:Int) - 1))).run Tryz.prog W = .ok (.int .u8 (c.toNat:Nat)) W:=fun W=>by
     have h:=run_idx ps q.length (by omega) W
     rw [show ((ps.size:Int) - 1)=(q.length:Int) by omega,h]
     have:gb ps q.length=c:=by unfold gb;rw [show ps.data.toList=bl ps from rfl,hbp];simp
     rw [this]
    have hsl2:∀ W,(Instr.slice 9 (.string ps) none (some (.int .i64 ((ps.size:Int) - 1))) none).run Tryz.prog W = .ok (.string (tx q)) W:=fun W=>by
     have h:=run_sl_h ps q.length (by omega) W
     rw [show ((ps.size:Int) - 1)=(q.length:Int) by omega,h,hbp]
     simp
    have hps1:1 ≤ ps.size:=by omega
    have hps3:ps.size ≤ 3:=by omega
    have HPS:=Lib.hid hps
    rw [hps]
    obtain ⟨cn,hcn⟩:∃ n,c.toNat=n:=⟨_,rfl⟩
    obtain ⟨t48,-⟩:=byte_test c 48 (by decide) cn hcn
    rw [hcn] at hix
    by_cases h1:q = []
    ·have HFe:Hid (tx F=ps):=Lib.hid (by rw [← HFp.out,← HPS.out,h1,List.nil_append,Bare.fin_one])
     have hd1:¬ 1 < ps.size:=by rw [hsz,h1];decide
     clear h1 hcn t48 hbp
     have HC:Hid (sg ++ x ++ ⟨#[46]⟩ ++ ps=R):=Lib.hid (by rw [← HFe.out];exact HRR.out)
     have hcs:ps.size ≤ 3:=by omega
     clear hix hsl2 hsz hps HPS HRR HFe HFp
     go_wp2_with (go_at_call 78;refine (HD1.out _).mono ?_;rintro e w4 ⟨rfl,hN4⟩)
     go_ret2
     exact ⟨(by first | rfl | exact congrArg (fun z=>Ending.returned (.tuple #[.string z,.int .i64 0])) HC.out),hNr.trans hN4⟩
    ·have hd1:1 < ps.size:=by have:=List.length_pos_iff.2 h1;omega
     by_cases h48:c=48
     ·have t48:((cn:Int) == 48)=true:=t48.trans (decide_eq_true h48)
      have HF2:Hid (Bare.fin q=F):=Lib.hid (by rw [← HFp.out,h48,Bare.fin_step])
      have hms:(tx q).size < ps.size:=by rw [tx_size];omega
      clear h48 hcn hbp HFp hsz
      go_wp2_with fail
      go_round
      case rel=>exact ⟨q,rfl,h1,by omega,HF2,hNr⟩
      case measure=>exact hms
     ·have t48:((cn:Int) == 48)=false:=t48.trans (decide_eq_false h48)
      have HFe:Hid (tx F=ps):=Lib.hid (by rw [← HFp.out,← HPS.out,Bare.fin_last _ _ h48])
      clear h1 h48 hcn hbp
      have HC:Hid (sg ++ x ++ ⟨#[46]⟩ ++ ps=R):=Lib.hid (by rw [← HFe.out];exact HRR.out)
      have hcs:ps.size ≤ 3:=by omega
      clear hsl2 hsz hps HPS HRR HFe HFp
      go_wp2_with (go_at_call 78;refine (HD1.out _).mono ?_;rintro e w4 ⟨rfl,hN4⟩)
      go_ret2
      exact ⟨(by first | rfl | exact congrArg (fun z=>Ending.returned (.tuple #[.string z,.int .i64 0])) HC.out),hNr.trans hN4⟩
  ·have HRR:=Lib.hid (hR3 rfl)
   clear hR1 hR2 hR3 hR4 hR5 hR6 c1 c3 f0 f1 f2 f3
   have hO1:=own_one wc wc.heap.size (Nat.le_refl _) 34
   have hN1:New wc (wc.alloc (.cells #[.int .u8 34] 5)):=(Mods.refl _ _).alloc _
   have hr1:=hN1.heap hr id
   have hN1:=hN.trans hN1
   obtain ⟨W3,hW3⟩:∃ V,wc.alloc (.cells #[.int .u8 34] 5)=V:=⟨_,rfl⟩
   have hO1:W3.ownsRow wc.heap.size 5 1 (.slice (some ⟨wc.heap.size,0,none⟩) 1 1) 1 (u8s [34]):=by rw [← hW3];exact hO1
   rw [hW3] at hr1 hN1
   obtain ⟨G,hG⟩:∃ G,wc.heap.size=G:=⟨_,rfl⟩
   have hBG:B < G:=by rw [← hG];exact (Array.getElem?_eq_some_iff.1 hr).1
   have hwG:w.heap.size ≤ G:=by rw [← hG];exact hN.size
   have hG3:G ≤ W3.heap.size:=by rw [← hW3,← hG];simp
   rw [hG] at hO1
   have hsb:=HSB.out
   clear hr hN
   go_upto_region 17 with fail
   clear c0 c2 hW3 hG
   go_loopw [7,8] (fun v i W=>∃ (k nl:Nat) (acc:Bare.Bs),k ≤ s.size∧i = .int .i64 k∧nl ≤ 2 * k + 1∧Hid (acc.length=nl)∧Hid (W.ownsRow G 5 1 v nl (u8s acc))∧W.heap[B]? = some (.cells #[.int .u8 3,.int .i64 n,.string s,.bool y] 66 (0,0))∧New w W∧G ≤ W.heap.size∧Hid (acc ++ Bare.esc ((bl s).drop k)=34::Bare.esc t)) (fun _ i _=>s.size - (intOf i).toNat)
   case atStart=>exact ⟨0,1,[34],Nat.zero_le _,rfl,by simp,Lib.hid rfl,Lib.hid hO1,hr1,hN1,hG3,Lib.hid (by rw [List.drop_zero,hsb];rfl)⟩
   case round =>
    obtain ⟨k,nl,acc,hk,rfl,hacc,HL,HO,hr,hN,hwb,HE⟩:=hrel
    clear hO1 hr1 hN1 hG3 hsb
    obtain ⟨oa,oc,rfl⟩:=owns_slice HO.out
    obtain ⟨-,-,c2,-⟩:=(row_facts hr).1
    by_cases hlt:k < s.size
    ·have hkd:decide ((k:Int) < (s.size:Int))=true:=decide_eq_true (by omega)
     have hix:=run_idx s k hlt
     obtain ⟨c,hc⟩:∃ c,gb s k=c:=⟨_,rfl⟩
     have hdr:(bl s).drop k=c::(bl s).drop (k + 1):=by
      rw [List.drop_eq_getElem_cons (by rw [bl_len];exact hlt)]
      congr 1
      have:=gb_get s k hlt
      rw [List.getElem?_eq_getElem (by rw [bl_len];exact hlt),hc] at this
      exact Option.some.inj this
     have hE:=HE.out
     rw [hdr,Bare.esc] at hE
     rw [hc] at hix
     obtain ⟨cn,hcn⟩:∃ n,c.toNat=n:=⟨_,rfl⟩
     obtain ⟨t34,-⟩:=byte_test c 34 (by decide) cn hcn
     obtain ⟨t92,-⟩:=byte_test c 92 (by decide) cn hcn
     rw [hcn] at hix
     clear hdr hc HE
     by_cases h34:c=34
     ·have t34:((cn:Int) == 34)=true:=t34.trans (decide_eq_true h34)
      clear t92
      have HE2:Hid ((acc ++ [92] ++ [c]) ++ Bare.esc ((bl s).drop (k + 1))=34::Bare.esc t):=Lib.hid (by rw [← hE,if_pos (.inr h34)];simp)
      clear hE
      go_upto_region 21 with (at_builtin;refine wpList_append_c (w:=wr) (acc:=acc) (c:=92) (n:=92) _ _ rfl rfl rfl rfl rfl rfl HL.out HO.out (by omega) hwb ?_;intro v1 W1 ho1 hq1;obtain ⟨a1,c1',rfl⟩:=owns_slice ho1)
      have hr1:=(hq1 wr _ (Mods.refl _ _) (fun g hg=>.inr hg)).heap hr (fun hg=>by have:=(World.ownsRow.lt HO.out _ hg).1;omega)
      have hN1:New w W1:=hq1 w _ hN (fun g hg=>.inl (by have:=(World.ownsRow.lt HO.out _ hg).1;omega))
      have hwb1:G ≤ W1.heap.size:=Nat.le_trans hwb (hq1 wr _ (Mods.refl _ _) (fun g hg=>.inr hg)).size
      have HO1:=Lib.hid ho1
      clear hq1 ho1 c2
      obtain ⟨-,-,c2,-⟩:=(row_facts hr1).1
      go_wp2_with (at_builtin;refine wpList_append_c (w:=W1) (acc:=(acc ++ [92])) (c:=c) (n:=cn) _ _ rfl rfl rfl rfl rfl hcn (by rw [List.length_append,HL.out];rfl) HO1.out (by omega) hwb1 ?_;intro v2 W2 ho2 hq2;obtain ⟨a2,c2',rfl⟩:=owns_slice ho2)
      have hr2:=(hq2 W1 _ (Mods.refl _ _) (fun g hg=>.inr hg)).heap hr1 (fun hg=>by have:=(World.ownsRow.lt HO1.out _ hg).1;omega)
      have hN2:New w W2:=hq2 w _ hN1 (fun g hg=>.inl (by have:=(World.ownsRow.lt HO1.out _ hg).1;omega))
      have hwb2:G ≤ W2.heap.size:=Nat.le_trans hwb1 (hq2 W1 _ (Mods.refl _ _) (fun g hg=>.inr hg)).size
      clear hq2 c2 hr1
      go_wp2_with fail
      go_round
      case rel=>exact ⟨k + 1,nl + 1 + 1,(acc ++ [92]) ++ [c],by omega,by go_num,by omega,Lib.hid (by rw [List.length_append,List.length_append,HL.out];rfl),Lib.hid ho2,hr2,hN2,hwb2,HE2⟩
      case measure=>simp [intOf];omega
     have t34:((cn:Int) == 34)=false:=t34.trans (decide_eq_false h34)
     by_cases h92:c=92
     ·have t92:((cn:Int) == 92)=true:=t92.trans (decide_eq_true h92)
      have HE2:Hid ((acc ++ [92] ++ [c]) ++ Bare.esc ((bl s).drop (k + 1))=34::Bare.esc t):=Lib.hid (by rw [← hE,if_pos (.inl h92)];simp)
      clear hE
      go_upto_region 21 with (at_builtin;refine wpList_append_c (w:=wr) (acc:=acc) (c:=92) (n:=92) _ _ rfl rfl rfl rfl rfl rfl HL.out HO.out (by omega) hwb ?_;intro v1 W1 ho1 hq1;obtain ⟨a1,c1',rfl⟩:=owns_slice ho1)
      have hr1:=(hq1 wr _ (Mods.refl _ _) (fun g hg=>.inr hg)).heap hr (fun hg=>by have:=(World.ownsRow.lt HO.out _ hg).1;omega)
      have hN1:New w W1:=hq1 w _ hN (fun g hg=>.inl (by have:=(World.ownsRow.lt HO.out _ hg).1;omega))
      have hwb1:G ≤ W1.heap.size:=Nat.le_trans hwb (hq1 wr _ (Mods.refl _ _) (fun g hg=>.inr hg)).size
      have HO1:=Lib.hid ho1
      clear hq1 ho1 c2
      obtain ⟨-,-,c2,-⟩:=(row_facts hr1).1
      go_wp2_with (at_builtin;refine wpList_append_c (w:=W1) (acc:=(acc ++ [92])) (c:=c) (n:=cn) _ _ rfl rfl rfl rfl rfl hcn (by rw [List.length_append,HL.out];rfl) HO1.out (by omega) hwb1 ?_;intro v2 W2 ho2 hq2;obtain ⟨a2,c2',rfl⟩:=owns_slice ho2)
      have hr2:=(hq2 W1 _ (Mods.refl _ _) (fun g hg=>.inr hg)).heap hr1 (fun hg=>by have:=(World.ownsRow.lt HO1.out _ hg).1;omega)
      have hN2:New w W2:=hq2 w _ hN1 (fun g hg=>.inl (by have:=(World.ownsRow.lt HO1.out _ hg).1;omega))
      have hwb2:G ≤ W2.heap.size:=Nat.le_trans hwb1 (hq2 W1 _ (Mods.refl _ _) (fun g hg=>.inr hg)).size
      clear hq2 c2 hr1
      go_wp2_with fail
      go_round
      case rel=>exact ⟨k + 1,nl + 1 + 1,(acc ++ [92]) ++ [c],by omega,by go_num,by omega,Lib.hid (by rw [List.length_append,List.length_append,HL.out];rfl),Lib.hid ho2,hr2,hN2,hwb2,HE2⟩
      case measure=>simp [intOf];omega
     ·have t92:((cn:Int) == 92)=false:=t92.trans (decide_eq_false h92)
      have HE2:Hid ((acc ++ [c]) ++ Bare.esc ((bl s).drop (k + 1))=34::Bare.esc t):=Lib.hid (by rw [← hE,if_neg (fun h=>h.elim h92 h34)];simp)
      clear hE
      go_wp2_with (at_builtin;refine wpList_append_c (w:=wr) (acc:=acc) (c:=c) (n:=cn) _ _ rfl rfl rfl rfl rfl hcn HL.out HO.out (by omega) hwb ?_;intro v2 W2 ho2 hq2;obtain ⟨a2,c2',rfl⟩:=owns_slice ho2)
      have hr2:=(hq2 wr _ (Mods.refl _ _) (fun g hg=>.inr hg)).heap hr (fun hg=>by have:=(World.ownsRow.lt HO.out _ hg).1;omega)
      have hN2:New w W2:=hq2 w _ hN (fun g hg=>.inl (by have:=(World.ownsRow.lt HO.out _ hg).1;omega))
      have hwb2:G ≤ W2.heap.size:=Nat.le_trans hwb (hq2 wr _ (Mods.refl _ _) (fun g hg=>.inr hg)).size
      clear hq2 c2 hr
      go_wp2_with fail
      go_round
      case rel=>exact ⟨k + 1,nl + 1,acc ++ [c],by omega,by go_num,by omega,Lib.hid (by rw [List.length_append,HL.out];rfl),Lib.hid ho2,hr2,hN2,hwb2,HE2⟩
      case measure=>simp [intOf];omega
    ·obtain rfl:k=s.size:=by omega
     have hkd:decide ((s.size:Int) < (s.size:Int))=false:=decide_eq_false (by omega)
     have hE:=HE.out
     rw [List.drop_of_length_le (by rw [bl_len];exact Nat.le_refl _),Bare.esc,List.append_nil] at hE
     have HLen:Hid ((acc ++ [34]).length=nl + 1):=Lib.hid (by rw [List.length_append,HL.out];rfl)
     have HC:Hid (tx (acc ++ [34])=R):=Lib.hid (by rw [hE];exact HRR.out)
     clear hE HE
     go_wp2_with (at_builtin;refine wpList_append_c (w:=wr) (acc:=acc) (c:=34) (n:=34) _ _ rfl rfl rfl rfl rfl rfl HL.out HO.out (by omega) hwb ?_;intro v2 W2 ho2 hq2;have hcv:=conv_own (l:=acc ++ [34]) (by rw [HLen.out];exact ho2);obtain ⟨a2,c2',rfl⟩:=owns_slice ho2)
     go_ret2
     exact ⟨(by first | rfl | exact congrArg (fun z=>Ending.returned (.tuple #[.string z,.int .i64 0])) HC.out),hq2 w _ hN (fun g hg=>.inl (by have:=(World.ownsRow.lt HO.out _ hg).1;omega))⟩
  ·have hRR:=hR4 rfl
   rw [HS.out] at hRR
   subst hRR
   clear hR1 hR2 hR3 hR4 hR5 hR6
   go_wp2_with fail
   go_ret2
   exact ⟨rfl,hN⟩
  ·have hRR:=hR5 rfl
   have HD:=Lib.hid (fun W=>sixes_r s W (by omega))
   rw [HSB.out] at HD
   have hxs:(tx (Bare.sixes t)).size ≤ 100000:=by rw [tx_size,Bare.sixes_len,← HSB.out,bl_len];omega
   rw [show (58:UInt8)::(Bare.sixes t ++ [58]) = [58] ++ Bare.sixes t ++ [58] from rfl,← catx,← catx] at hRR
   obtain ⟨x,hx⟩:∃ x,tx (Bare.sixes t)=x:=⟨_,rfl⟩
   rw [hx] at HD hRR hxs
   have hRR:=Lib.hid hRR
   clear hR1 hR2 hR3 hR4 hR5 hR6 hx
   go_wp2_with (go_at_call 79;refine (HD.out _).mono ?_;rintro e w3 ⟨rfl,hN3⟩)
   go_ret2
   exact ⟨(by first | rfl | exact congrArg (fun z=>Ending.returned (.tuple #[.string z,.int .i64 0])) hRR.out),hN.trans hN3⟩
  ·have hRR:=hR6 rfl
   clear hR1 hR2 hR3 hR4 hR5 hR6
   cases y with
   | true =>
    subst hRR
    go_wp2_with fail
    go_ret2
    exact ⟨rfl,hN⟩
   | false =>
    subst hRR
    go_wp2_with fail
    go_ret2
    exact ⟨rfl,hN⟩


def AgOk (k p q:Bare.Bs) (x y z:Bare.It):Prop:=Bare.keyB k=true∧Bare.keyB p=true∧Bare.keyB q=true∧p ≠ q∧k.length + p.length + q.length + x.text.length + y.text.length + z.text.length ≤ 200∧Bare.rightI x=true∧Bare.rightI y=true∧Bare.rightI z=true
theorem again_law (key p q:ByteArray) (x y z:Bare.It) (w:World) (hk:key.size ≤ 140737488351232) (hp:p.size ≤ 140737488351232) (hq:q.size ≤ 140737488351232) (hx:x.text.length ≤ 140737488351232) (hy:y.text.length ≤ 140737488351232) (hz:z.text.length ≤ 140737488351232) (hT:Tab w) :
  Calls Tryz.prog 8 #[.string key,.string p,.string q,bv x,bv y,bv z] w fun e w'=>e = .returned (.bool true)∧New w w':=by
 have HWk:=Lib.hid (fun W (hN:New w W)=>wakes_d W (hT.new hN))
 have HK0:=Lib.hid (fun W=>key_any key W (by omega))
 have HK1:=Lib.hid (fun W=>key_any p W (by omega))
 have HK2:=Lib.hid (fun W=>key_any q W (by omega))
 obtain ⟨hN0,hr0⟩:=box_row w x
 obtain ⟨hN1,hr1⟩:=box_row (w.alloc (.cells (bcs x).toArray 66)) y
 obtain ⟨hN2,hr2⟩:=box_row ((w.alloc (.cells (bcs x).toArray 66)).alloc (.cells (bcs y).toArray 66)) z
 have hN:New w _:=(hN0.trans hN1).trans hN2
 replace hr0:=(hN1.trans hN2).heap hr0 id
 replace hr1:=hN2.heap hr1 id
 have HRx:=Lib.hid (fun W (h:x.text.length ≤ 200)=>right_r x (by omega) W)
 have HRy:=Lib.hid (fun W (h:y.text.length ≤ 200)=>right_r y (by omega) W)
 have HRz:=Lib.hid (fun W (h:z.text.length ≤ 200)=>right_r z (by omega) W)
 have HPx:=Lib.hid (fun W (h:x.text.length ≤ 200)=>print_r x (by omega) W)
 have HPy:=Lib.hid (fun W (h:y.text.length ≤ 200)=>print_r y (by omega) W)
 have HPz:=Lib.hid (fun W (h:z.text.length ≤ 200)=>print_r z (by omega) W)
 have hpq:=eq_tx p q
 obtain ⟨k1,hk1⟩:∃ b,Bare.keyB (bl key)=b:=⟨_,rfl⟩
 obtain ⟨k2,hk2⟩:∃ b,Bare.keyB (bl p)=b:=⟨_,rfl⟩
 obtain ⟨k3,hk3⟩:∃ b,Bare.keyB (bl q)=b:=⟨_,rfl⟩
 obtain ⟨e4,he4⟩:∃ b,decide (bl p=bl q)=b:=⟨_,rfl⟩
 obtain ⟨r1,hr1'⟩:∃ b,Bare.rightI x=b:=⟨_,rfl⟩
 obtain ⟨r2,hr2'⟩:∃ b,Bare.rightI y=b:=⟨_,rfl⟩
 obtain ⟨r3,hr3'⟩:∃ b,Bare.rightI z=b:=⟨_,rfl⟩
 rw [hk1] at HK0
 rw [hk2] at HK1
 rw [hk3] at HK2
 rw [he4] at hpq
 rw [hr1'] at HRx
 rw [hr2'] at HRy
 rw [hr3'] at HRz
 have HAg:Hid (k1=true→k2=true→k3=true→e4=false→key.size + p.size + q.size + x.text.length + y.text.length + z.text.length ≤ 200→r1=true→r2=true→r3=true→AgOk (bl key) (bl p) (bl q) x y z):=Lib.hid (by
  rintro rfl rfl rfl rfl hs rfl rfl rfl
  exact ⟨hk1,hk2,hk3,of_decide_eq_false he4,by rw [bl_len,bl_len,bl_len];exact hs,hr1',hr2',hr3'⟩)
 have HX:=Lib.hid (show x=x from rfl)
 obtain ⟨xs,hxs⟩:∃ s,tx x.text=s:=⟨_,rfl⟩
 obtain ⟨ys,hys⟩:∃ s,tx y.text=s:=⟨_,rfl⟩
 obtain ⟨zs,hzs⟩:∃ s,tx z.text=s:=⟨_,rfl⟩
 have hxl:x.text.length=xs.size:=by rw [← hxs,tx_size]
 have hyl:y.text.length=ys.size:=by rw [← hys,tx_size]
 have hzl:z.text.length=zs.size:=by rw [← hzs,tx_size]
 rw [hxl] at HRx HPx HAg hx
 rw [hyl] at HRy HPy HAg hy
 rw [hzl] at HRz HPz HAg hz
 unfold bv bcs at *
 rw [hxs] at hr0 HRx HPx hN hr1 hr2 ⊢
 rw [hys] at hr1 HRy HPy hN hr0 hr2 ⊢
 rw [hzs] at hr2 HRz HPz hN hr0 hr1 ⊢
 have HXS:=Lib.hid hxs
 have HYS:=Lib.hid hys
 have HZS:=Lib.hid hzs
 have HXL:=Lib.hid hxl
 have HYL:=Lib.hid hyl
 have HZL:=Lib.hid hzl
 clear hk1 hk2 hk3 he4 hr1' hr2' hr3' hxs hys hzs hxl hyl hzl hN0 hN1 hN2 HX
 go_enter Tryz.func8,Tryz.ntmps8
 have HR0:=Lib.hid hr0
 have HR1:=Lib.hid hr1
 have HR2:=Lib.hid hr2
 have hs1:(w.alloc (.cells #[.int .u8 x.kind,.int .i64 x.int,.string xs,.bool x.yes] 66)).heap.size=w.heap.size + 1:=by simp
 have hs2:((w.alloc (.cells #[.int .u8 x.kind,.int .i64 x.int,.string xs,.bool x.yes] 66)).alloc (.cells #[.int .u8 y.kind,.int .i64 y.int,.string ys,.bool y.yes] 66)).heap.size=w.heap.size + 1 + 1:=by simp
 rw [hs1] at HR1
 rw [hs2] at HR2
 obtain ⟨B,hB⟩:∃ B,w.heap.size=B:=⟨_,rfl⟩
 clear hs1 hs2 hr0 hr1 hr2
 go_upto_region 1 with fail
 obtain ⟨W3,hW3⟩:∃ V,((w.alloc (.cells #[.int .u8 x.kind,.int .i64 x.int,.string xs,.bool x.yes] 66)).alloc (.cells #[.int .u8 y.kind,.int .i64 y.int,.string ys,.bool y.yes] 66)).alloc (.cells #[.int .u8 z.kind,.int .i64 z.int,.string zs,.bool z.yes] 66)=V:=⟨_,rfl⟩
 rw [hW3] at hN HR0 HR1 HR2 ⊢
 rw [hB] at HR0 HR1 HR2
 rw [show B + 1 + 1=B + 2 from rfl] at HR2
 simp only [hB,show B + 1 + 1=B + 2 from rfl]
 clear hW3 hB
 go_cut [77] from 22 (fun a wx=>∃ b,a = .bool b∧Hid (b=false→AgOk (bl key) (bl p) (bl q) x y z)∧New W3 wx)
 case first =>
  go_wp2_with fail
  refine (HK0.out _).mono ?_
  rintro e w1 ⟨rfl,h1⟩
  cases k1 with
  | false =>
   go_wp2_with fail
   go_meet
   exact ⟨true,rfl,Lib.hid (fun h=>by cases h),h1⟩
  | true =>
  go_wp2_with fail
  refine (HK1.out _).mono ?_
  rintro e w2 ⟨rfl,h2⟩
  replace h2:=h1.trans h2
  clear h1
  cases k2 with
  | false =>
   go_wp2_with fail
   go_meet
   exact ⟨true,rfl,Lib.hid (fun h=>by cases h),h2⟩
  | true =>
  go_wp2_with fail
  refine (HK2.out _).mono ?_
  rintro e w3 ⟨rfl,h3⟩
  replace h3:=h2.trans h3
  clear h2
  cases k3 with
  | false =>
   go_wp2_with fail
   go_meet
   exact ⟨true,rfl,Lib.hid (fun h=>by cases h),h3⟩
  | true =>
  cases e4 with
  | true =>
   go_wp2_with fail
   go_meet
   exact ⟨true,rfl,Lib.hid (fun h=>by cases h),h3⟩
  | false =>
  obtain ⟨⟨a0,a1,a2,a3⟩,-⟩:=row_facts (h3.heap HR0.out id)
  obtain ⟨⟨b0,b1,b2,b3⟩,-⟩:=row_facts (h3.heap HR1.out id)
  obtain ⟨⟨c0,c1,c2,c3⟩,-⟩:=row_facts (h3.heap HR2.out id)
  by_cases hsum:200 < key.size + p.size + q.size + xs.size + ys.size + zs.size
  ·have hsd:decide ((200:Int) < (key.size:Int) + (p.size:Int) + (q.size:Int) + (xs.size:Int) + (ys.size:Int) + (zs.size:Int))=true:=decide_eq_true (by omega)
   go_wp2_with fail
   go_meet
   exact ⟨true,rfl,Lib.hid (fun h=>by cases h),h3⟩
  have hsd:decide ((200:Int) < (key.size:Int) + (p.size:Int) + (q.size:Int) + (xs.size:Int) + (ys.size:Int) + (zs.size:Int))=false:=decide_eq_false (by omega)
  have hx2:xs.size ≤ 200:=by omega
  have hy2:ys.size ≤ 200:=by omega
  have hz2:zs.size ≤ 200:=by omega
  go_wp2_with fail
  refine (HRx.out _ hx2).mono ?_
  rintro e w4 ⟨rfl,h4⟩
  replace h4:=h3.trans h4
  clear h3 a0 a1 a2 a3 b0 b1 b2 b3 c0 c1 c2 c3 hsd
  cases r1 with
  | false =>
   go_wp2_with fail
   go_meet
   exact ⟨true,rfl,Lib.hid (fun h=>by cases h),h4⟩
  | true =>
  obtain ⟨⟨b0,b1,b2,b3⟩,-⟩:=row_facts (h4.heap HR1.out id)
  go_wp2_with fail
  refine (HRy.out _ hy2).mono ?_
  rintro e w5 ⟨rfl,h5⟩
  replace h5:=h4.trans h5
  clear h4 b0 b1 b2 b3
  cases r2 with
  | false =>
   go_wp2_with fail
   go_meet
   exact ⟨true,rfl,Lib.hid (fun h=>by cases h),h5⟩
  | true =>
  obtain ⟨⟨c0,c1,c2,c3⟩,-⟩:=row_facts (h5.heap HR2.out id)
  go_wp2_with fail
  refine (HRz.out _ hz2).mono ?_
  rintro e w6 ⟨rfl,h6⟩
  replace h6:=h5.trans h6
  clear h5 c0 c1 c2 c3
  cases r3 with
  | false =>
   go_wp2_with fail
   go_meet
   exact ⟨true,rfl,Lib.hid (fun h=>by cases h),h6⟩
  | true =>
  have hag:=HAg.out (by trivial) (by trivial) (by trivial) (by trivial) (by omega) (by trivial) (by trivial) (by trivial)
  have HG:=Lib.hid hag
  clear hag hsum
  go_wp2_with fail
  go_meet
  exact ⟨false,rfl,Lib.hid (fun _=>HG.out),h6⟩
 case rest =>
  obtain ⟨b,rfl,HB,hk⟩:=hcut
  replace hN:=hN.trans hk
  cases b with
  | true =>
   clear HB
   go_wp2_with fail
   refine (HWk.out _ hN).mono ?_
   rintro e w2 ⟨rfl,hk2⟩
   go_wp2_with fail
   go_ret
   exact ⟨rfl,hN.trans hk2⟩
  | false =>
  obtain ⟨k1,k2,k3,hne,hsum,g1,g2,g3⟩:=HB.out rfl
  have htx:∀ b:Bare.It,Bare.rightI b=true→Bare.printI b=some (Bare.textI b):=fun b h=>by unfold Bare.textI;rw [print_prT h];rfl
  have hda:=Bare.dict_again k1 k2 k3 hne g1 g2 g3
  rw [htx x g1] at HPx
  rw [htx y g2] at HPy
  rw [htx z g3] at HPz
  unfold printV at HPx HPy HPz
  simp only at HPx HPy HPz
  have lx:=text_len x
  have ly:=text_len y
  have lz:=text_len z
  rw [bl_len,bl_len,bl_len,HXL.out,HYL.out,HZL.out] at hsum
  rw [HXL.out] at lx
  rw [HYL.out] at ly
  rw [HZL.out] at lz
  obtain ⟨A1,hA1⟩:∃ s,tx (Bare.textI x)=s:=⟨_,rfl⟩
  obtain ⟨A2,hA2⟩:∃ s,tx (Bare.textI y)=s:=⟨_,rfl⟩
  obtain ⟨A3,hA3⟩:∃ s,tx (Bare.textI z)=s:=⟨_,rfl⟩
  have s1:A1.size ≤ 900:=by rw [← hA1,tx_size];omega
  have s2:A2.size ≤ 900:=by rw [← hA2,tx_size];omega
  have s3:A3.size ≤ 900:=by rw [← hA3,tx_size];omega
  have b1:Bare.textI x=bl A1:=by rw [← hA1,bl_tx]
  have b2:Bare.textI y=bl A2:=by rw [← hA2,bl_tx]
  have b3:Bare.textI z=bl A3:=by rw [← hA3,bl_tx]
  rw [b1,b2,b3] at hda
  rw [hA1] at HPx
  rw [hA2] at HPy
  rw [hA3] at HPz
  have e1:∀ a b:ByteArray,bl (a ++ b)=bl a ++ bl b:=fun a b=>by rw [cat_bl,bl_tx]
  have hS:bl (key ++ ⟨#[61]⟩ ++ A1 ++ ⟨#[59]⟩ ++ p ++ ⟨#[61]⟩ ++ A1 ++ ⟨#[59,32]⟩ ++ q ++ ⟨#[61]⟩ ++ A2 ++ ⟨#[59]⟩ ++ p ++ ⟨#[61]⟩ ++ A3)=bl key ++ (61::(bl A1 ++ (59::(bl p ++ (61::(bl A1 ++ (59::32::(bl q ++ (61::(bl A2 ++ (59::(bl p ++ (61::bl A3))))))))))))):=by
   simp only [e1,show bl ⟨#[61]⟩ = [61] from rfl,show bl ⟨#[59]⟩ = [59] from rfl,show bl ⟨#[59,32]⟩ = [59,32] from rfl,List.append_assoc,List.cons_append,List.nil_append]
  rw [← hS] at hda
  have hSs:(key ++ ⟨#[61]⟩ ++ A1 ++ ⟨#[59]⟩ ++ p ++ ⟨#[61]⟩ ++ A1 ++ ⟨#[59,32]⟩ ++ q ++ ⟨#[61]⟩ ++ A2 ++ ⟨#[59]⟩ ++ p ++ ⟨#[61]⟩ ++ A3).size ≤ 1000000:=by
   rw [← bl_len,hS]
   simp only [List.length_append,List.length_cons,bl_len]
   omega
  have HPa:=Lib.hid (fun W (hN:New w W)=>parse_ok _ _ 1 hda rfl W hSs (hT.new hN))
  have hx2:xs.size ≤ 200:=by omega
  have hy2:ys.size ≤ 200:=by omega
  have hz2:zs.size ≤ 200:=by omega
  clear hda hSs hS e1 b1 b2 b3 hA1 hA2 hA3 lx ly lz htx hne g1 g2 g3 k1 k2 k3 HB hpq HK0 HK1 HK2 HRx HRy HRz HAg
  obtain ⟨⟨a0,a1,a2,a3⟩,-⟩:=row_facts (hk.heap HR0.out id)
  go_wp2_with fail
  refine (HPx.out _ hx2).mono ?_
  rintro e w4 ⟨rfl,h4⟩
  replace hk:=hk.trans h4
  replace hN:=hN.trans h4
  clear a0 a1 a2 a3 h4
  obtain ⟨⟨a0,a1,a2,a3⟩,-⟩:=row_facts (hk.heap HR1.out id)
  go_wp2_with fail
  refine (HPy.out _ hy2).mono ?_
  rintro e w5 ⟨rfl,h4⟩
  replace hk:=hk.trans h4
  replace hN:=hN.trans h4
  clear a0 a1 a2 a3 h4
  obtain ⟨⟨a0,a1,a2,a3⟩,-⟩:=row_facts (hk.heap HR2.out id)
  go_wp2_with fail
  refine (HPz.out _ hz2).mono ?_
  rintro e w6 ⟨rfl,h4⟩
  replace hk:=hk.trans h4
  replace hN:=hN.trans h4
  clear a0 a1 a2 a3 h4
  go_wp2_with fail
  refine (HPa.out _ hN).mono ?_
  rintro e w7 ⟨da,dc,rfl,hD,h4⟩
  replace hk:=hk.trans h4
  replace hN:=hN.trans h4
  clear h4
  obtain ⟨b,o,ib,io,ic,pb,po,pc,rfl,⟨m0,m1,m2⟩,⟨i0,i1,i2,i3,i4⟩,⟨d0,d1,d2,d3,d4⟩,⟨e0,e1,e2,e3,e4⟩⟩:=one_dict hD
  rw [tx_bl] at m0 d0 e0
  rw [HXS.out] at i2
  rw [HYS.out] at e3
  rw [HZS.out] at d3
  have hA:=(Mods.refl (fun _=>False) w7).alloc (.cells #[.int .u8 x.kind,.int .i64 x.int,.string xs,.bool x.yes,.slice (some ⟨pb,po,none⟩) 2 pc] 71)
  have rI:=World.alloc_heap_new w7 (.cells #[.int .u8 x.kind,.int .i64 x.int,.string xs,.bool x.yes,.slice (some ⟨pb,po,none⟩) 2 pc] 71)
  clear hD
  go_upto_region 10 with fail
  obtain ⟨W8,hW8⟩:∃ V,w7.alloc (.cells #[.int .u8 x.kind,.int .i64 x.int,.string xs,.bool x.yes,.slice (some ⟨pb,po,none⟩) 2 pc] 71)=V:=⟨_,rfl⟩
  obtain ⟨I,hI⟩:∃ B,w7.heap.size=B:=⟨_,rfl⟩
  rw [hW8] at hA rI ⊢
  rw [hI] at rI
  simp only [hI]
  obtain ⟨⟨a0,a1,a2,a3⟩,-⟩:=row_facts ((hk.trans hA).heap HR0.out id)
  obtain ⟨⟨b0,b1,b2,b3⟩,-⟩:=row_facts ((hk.trans hA).heap HR1.out id)
  obtain ⟨⟨c0,c1,c2,c3⟩,-⟩:=row_facts ((hk.trans hA).heap HR2.out id)
  have hEx:∀ w,(binOp .eql 66 (.agg #[.int .u8 x.kind,.int .i64 x.int,.string xs,.bool x.yes]) (.agg #[.int .u8 x.kind,.int .i64 x.int,.string xs,.bool x.yes])).run Tryz.prog w = .ok (.bool true) w:=fun w=>by
   have h:=binop_item x x w
   rw [decide_eq_true rfl] at h
   unfold bv bcs at h
   rw [HXS.out] at h
   exact h
  have hE1:∀ w,(binOp .eql 73 (.agg #[.string p,.int .u8 z.kind,.int .i64 z.int,.string zs,.bool z.yes]) (.agg #[.string p,.int .u8 z.kind,.int .i64 z.int,.string zs,.bool z.yes])).run Tryz.prog w = .ok (.bool true) w:=fun w=>by
   have h:=binop_param ⟨bl p,z⟩ ⟨bl p,z⟩ w
   rw [decide_eq_true rfl] at h
   unfold pcs at h
   simp only [tx_bl,HZS.out] at h
   exact h
  have hE2:∀ w,(binOp .eql 73 (.agg #[.string q,.int .u8 y.kind,.int .i64 y.int,.string ys,.bool y.yes]) (.agg #[.string q,.int .u8 y.kind,.int .i64 y.int,.string ys,.bool y.yes])).run Tryz.prog w = .ok (.bool true) w:=fun w=>by
   have h:=binop_param ⟨bl q,y⟩ ⟨bl q,y⟩ w
   rw [decide_eq_true rfl] at h
   unfold pcs at h
   simp only [tx_bl,HYS.out] at h
   exact h
  have HW8:Hid (∀ W,New W8 W→Calls Tryz.prog 25 #[] W fun e w'=>e = .returned (.bool true)∧New W w'):=Lib.hid fun W hW=>HWk.out W ((hN.trans hA).trans hW)
  refine piece (fun _=>_) (again10 _ rfl W8 rfl rfl rfl rfl rfl rfl (cell_of_row _ _ 0 _ _ _ rI) (cell_of_row _ _ 1 _ _ _ rI) (cell_of_row _ _ 2 _ _ _ rI) (cell_of_row _ _ 3 _ _ _ rI) (cell_of_row _ _ 4 _ _ _ rI) a0 a1 a2 a3 b0 b1 b2 b3 c0 c1 c2 c3 (hA.cell d0 id) (hA.cell d1 id) (hA.cell d2 id) (hA.cell d3 id) (hA.cell d4 id) (hA.cell e0 id) (hA.cell e1 id) (hA.cell e2 id) (hA.cell e3 id) (hA.cell e4 id) hEx hE1 hE2 HW8) ?_
  rintro a' W9 ⟨zf,rfl,hk9⟩
  simp only [pS]
  go_wp2_with fail
  go_ret
  exact ⟨rfl,(hN.trans hA).trans hk9⟩
end Go.Proofs.YtkiiameibdhdfaaGreatDoor
