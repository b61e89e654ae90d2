/- Texts joined. -/
import Derived.Test.YtnknmmbnhoanfaaGreatDoorC05
import Derived.Test.YtnknmmbnhoanfaaGreatDoorC03
set_option linter.unusedSimpArgs false
set_option linter.unusedVariables false
set_option maxHeartbeats 16000000
set_option maxRecDepth 100000
namespace Go.Proofs.YtnknmmbnhoanfaaGreatDoor
open Go.RowKit Go.Shelf Go.Cs
attribute [local go_sem] Oper.semAt_some


theorem item_wrong {τ:Bool} (x:Bare.Itm) (pv:Value) (w:World) (hs:SmX x) (h:RdP τ w pv x.params) :
  Calls Tryz.prog 89 #[.agg (ics x pv).toArray] w fun e w'=>e = .returned (.bool (!Bare.itemB x))∧New w w':=by
 have HR:=Lib.hid (fun W=>right_any x.bare hs.1 (by have:=hs.2.1;omega) W)
 have HP:=Lib.hid (fun W (hN:New w W)=>params_any pv x.params W (h.new hN) hs.2.2.2)
 obtain ⟨ao,cap,rfl⟩:=h.slice
 obtain ⟨b,hb⟩:∃ b,Bare.rightI x.bare=b:=⟨_,rfl⟩
 obtain ⟨c,hc⟩:∃ c,Bare.paramsB x.params=c:=⟨_,rfl⟩
 have e:Bare.itemB x=(b && c):=by unfold Bare.itemB;rw [hb,hc]
 rw [e]
 rw [hb] at HR
 rw [hc] at HP
 clear hb hc e hs h
 unfold bv bcs at HR
 unfold ics
 obtain ⟨⟨k,n,t,y⟩,ps⟩:=x
 simp only at HR HP ⊢
 obtain ⟨s,hs⟩:∃ s,tx t=s:=⟨_,rfl⟩
 obtain ⟨m,hm⟩:∃ m,ps.length=m:=⟨_,rfl⟩
 rw [hs] at HR ⊢
 rw [hm] at HP ⊢
 clear hs hm
 go_enter Tryz.func89,Tryz.ntmps89
 go_upto_region 1 with fail
 have hr:=World.alloc_heap_new w (.cells #[.int .u8 k,.int .i64 n,.string s,.bool y,.slice ao m cap] 85)
 have hN:New w (w.alloc (.cells #[.int .u8 k,.int .i64 n,.string s,.bool y,.slice ao m cap] 85)):=(Mods.refl _ _).alloc _
 obtain ⟨W,hW⟩:∃ W,w.alloc (.cells #[.int .u8 k,.int .i64 n,.string s,.bool y,.slice ao m cap] 85)=W:=⟨_,rfl⟩
 rw [hW] at hr hN ⊢
 obtain ⟨B,hB⟩:∃ B,w.heap.size=B:=⟨_,rfl⟩
 rw [hB] at hr ⊢
 have k0:=cell_of_row _ _ 0 _ _ _ hr
 have k1:=cell_of_row _ _ 1 _ _ _ hr
 have k2:=cell_of_row _ _ 2 _ _ _ hr
 have k3:=cell_of_row _ _ 3 _ _ _ hr
 have k4:=cell_of_row _ _ 4 _ _ _ hr
 simp only [gS] at k0 k1 k2 k3 k4
 clear hW hr hB
 cases b with
 | false =>
  go_wp2_with (refine (HR.out _).mono ?_;rintro e w' ⟨rfl,hN'⟩)
  go_ret
  exact ⟨rfl,hN.trans hN'⟩
 | true =>
  go_wp2_with (go_at_call 13;refine (HR.out _).mono ?_;rintro e w1 ⟨rfl,hN1⟩;have k5:=hN1.cell k4 id)
  refine (HP.out _ (hN.trans hN1)).mono ?_
  rintro e w2 ⟨rfl,hN2⟩
  go_wp2_with fail
  go_ret
  exact ⟨rfl,(hN.trans hN1).trans hN2⟩
theorem items_wrong {τ:Bool} (v:Value) (L:List Bare.Itm) (w:World) (h:RdI τ w v L) (hs:∀ x ∈ L,SmX x) :
  Calls Tryz.prog 92 #[v,.func (.func 89) #[] #[]] w fun e w'=>e = .returned (.bool (!(L.all Bare.itemB)))∧New w w':=by
 obtain ⟨pv,h1,-,h3⟩:=h
 have:=contains_I 89 #[] L.length (fun i j=>(ics (L.getD i Bare.noI) (pv i)).getD j undef) (fun W=>New w W) (fun _ _ a b=>a.trans b) (fun i=>!Bare.itemB (L.getD i Bare.noI)) (fun i W1 hi hN=>item_wrong (L.getD i Bare.noI) (pv i) W1 (hs _ (getD_mem hi)) ((h3 i hi).new hN)) (enters_of Tryz.func89 (by kernel_rfl) rfl) v w h1 (Mods.refl _ _)
 rw [any_getD L Bare.noI (fun x=>!Bare.itemB x)] at this
 refine this.mono fun e w' ⟨he,hn⟩=>⟨?_,hn⟩
 rw [he,List.all_eq_not_any_not,Bool.not_not]
theorem lit45 (t:Array Value) (h:t.size=45):∃ u:Nat→Value,t=([u 0,u 1,u 2,u 3,u 4,u 5,u 6,u 7,u 8,u 9,u 10,u 11,u 12,u 13,u 14,u 15,u 16,u 17,u 18,u 19,u 20,u 21,u 22,u 23,u 24,u 25,u 26,u 27,u 28,u 29,u 30,u 31,u 32,u 33,u 34,u 35,u 36,u 37,u 38,u 39,u 40,u 41,u 42,u 43,u 44]:List Value).toArray:=⟨fun i=>t.getD i undef,range_lit t 45 h⟩
theorem all_upto {α:Type} (l:List α) (d:α) (p:α→Bool):(l.all p=true) ↔ ∀ i,i < l.length→p (l.getD i d)=true:=by
 rw [List.all_eq_true]
 constructor
 ·intro h i hi;exact h _ (getD_mem hi)
 ·intro h x hx
  obtain ⟨i,hi⟩:=List.getElem?_of_mem hx
  obtain ⟨h1,h2⟩:=List.getElem?_eq_some_iff.1 hi
  have:=h i h1
  rwa [List.getD_eq_getElem?_getD,hi,Option.getD_some] at this
theorem right_d {τ:Bool} (v:Value) (d:List Bare.Mem) (w:World) (h:RdD τ w v d) (hs:∀ m ∈ d,SmM m) :
  Calls Tryz.prog 31 #[v] w fun e w'=>e = .returned (.bool (Bare.rightD d))∧New w w':=by
 have hB:=Boxed.new w 36 v
 have hN0:New w (w.alloc (.cells #[v] 36)):=(Mods.refl _ _).alloc _
 obtain ⟨ao,cap,rfl⟩:=h.slice
 have hlen:d.length ≤ 281474976710656:=by obtain ⟨_,_,h1,_⟩:=h;exact h1.1
 obtain ⟨W0,hW⟩:∃ W,w.alloc (.cells #[.slice ao d.length cap] 36)=W:=⟨_,rfl⟩
 rw [hW] at hB hN0
 have h0:=h.new hN0
 have HD:=Lib.hid h0
 obtain ⟨iv,pv,h1,-,h3⟩:=h0
 have hK:=keys_M d.length (fun i=>d.getD i noM) iv pv W0 hB h1 (fun i hi=>by
  obtain ⟨a,c,e⟩:=(h3 i hi).1.slice
  obtain ⟨a',c',e'⟩:=(h3 i hi).2.slice
  exact ⟨⟨a,_,c,e⟩,a',_,c',e'⟩)
 rw [map_getD d noM (·.key)] at hK
 have HA:=Lib.hid (alone_any _ _ _ W0 hK (enters_of Tryz.func88 (by kernel_rfl) rfl) (fun k hk=>by
  obtain ⟨p,hp,rfl⟩:=List.mem_map.1 hk
  have:=(hs p hp).1;omega))
 have HS:=Lib.hid hs
 obtain ⟨A,hA⟩:∃ A,Bare.aloneB (d.map (·.key))=A:=⟨_,rfl⟩
 obtain ⟨r,hr⟩:∃ r,Bare.rightD d=r:=⟨_,rfl⟩
 have HR:Hid (r=(A && d.all Bare.memB)):=Lib.hid (by rw [← hr];unfold Bare.rightD;rw [hA])
 rw [hr]
 rw [hA] at HA
 obtain ⟨k0,f0⟩:=hB.both
 obtain ⟨B,hBB⟩:∃ B,w.heap.size=B:=⟨_,rfl⟩
 rw [hBB] at HA hB k0 f0
 clear hr hA hK hs h f0 h1 h3 iv pv
 go_enter Tryz.func31,Tryz.ntmps31
 go_upto_region 1 with fail
 refine wp_scope_fwd 0 (fun a W=>(a.tmps.size=45∧a.defers = [])∧Hid (r=false)∧New w W) rfl ?first ?pass
 case pass =>
  rintro ⟨z,dfs⟩ W ⟨⟨hs,hd⟩,hrn,hN⟩
  simp only at hs hd
  subst hd
  obtain ⟨u,rfl⟩:=lit45 z hs
  clear hs
  have hr:=hrn.out
  subst hr
  clear hrn HR
  go_wp2_with fail
  rw [Exit.noGoto_ret]
  go_ret
  exact ⟨rfl,hN⟩
 case first =>
  cases A with
  | false =>
   have hrn:Hid (r=false):=Lib.hid (by rw [HR.out];rfl)
   go_wp2_with fail
   refine HA.out.mono ?_
   rintro e w1 ⟨rfl,hN1⟩
   go_wp2_with fail
   exact wp_goto (And.intro rfl ⟨⟨rfl,rfl⟩,hrn,hN0.trans hN1⟩)
  | true =>
   go_wp2_with fail
   refine HA.out.mono ?_
   rintro e w1 ⟨rfl,hN1⟩
   have k1:=hN1.cell k0 id
   clear HA k0 hW hBB
   go_wp2_with fail
   go_loopw [13] (fun t wr=>∃ k:Nat,k ≤ d.length∧t = .int .i64 k∧Hid (∀ i,i < k→Bare.memB (d.getD i noM)=true)∧New W0 wr) (fun t _=>d.length - (intOf t).toNat)
   case atStart=>exact ⟨0,Nat.zero_le _,rfl,Lib.hid fun i hi=>by omega,hN1⟩
   case round =>
    obtain ⟨k,hk,rfl,hbef,hN⟩:=hrel
    by_cases hlt:k < d.length
    ·have hkd:decide ((k:Int) < (d.length:Int))=true:=decide_eq_true (by omega)
     have hd:=HD.out.new hN
     obtain ⟨iv,pv,h1,-,h3⟩:=hd
     obtain ⟨b,o,rfl,hrow⟩:=h1.at.2.2 k hlt
     obtain ⟨c0,c1,c2,c3⟩:=cells4 hrow
     obtain ⟨hi,hp⟩:=h3 k hlt
     have hm:=HS.out _ (getD_mem (d:=noM) hlt)
     have HP:=Lib.hid (fun W (hN:New wr W)=>params_any (pv k) _ W (hp.new hN) hm.2.2.2.2)
     have HC:=Lib.hid (fun W (hN:New wr W)=>items_wrong (iv k) _ W (hi.new hN) hm.2.2.2.1)
     obtain ⟨ia,ic,hie⟩:=hi.slice
     obtain ⟨pa,pc,hpe⟩:=hp.slice
     rw [hie] at c2 HC
     rw [hpe] at c3 HP
     have Hbad:Hid (Bare.memB (d.getD k noM)=false→r=false):=Lib.hid fun hb=>by
      rw [HR.out,Bool.true_and,Bool.eq_false_iff]
      intro h
      rw [(all_upto d noM _).1 h k hlt] at hb;cases hb
     have Hgood:Hid (Bare.memB (d.getD k noM)=true→Hid (∀ i,i < k + 1→Bare.memB (d.getD i noM)=true)):=Lib.hid fun hb=>Lib.hid fun i hi=>by
      by_cases hik:i < k
      ·exact hbef.out i hik
      ·obtain rfl:i=k:=by omega
       exact hb
     clear hrow hi hp hm h1 h3 hie hpe iv pv
     obtain ⟨⟨key,y,its,ps⟩,hme⟩:∃ m,d.getD k noM=m:=⟨_,rfl⟩
     rw [hme] at c0 c1 c2 c3 HP HC Hbad Hgood
     simp only at c0 c1 c2 c3 HP HC
     have e:Bare.memB ⟨key,y,its,ps⟩=((y || (decide (its.length=1) && decide (ps.length=0))) && (Bare.paramsB ps && its.all Bare.itemB)):=by
      unfold Bare.memB
      have:ps.isEmpty=decide (ps.length=0):=by cases ps <;> simp
      rw [this]
     rw [e] at Hbad Hgood
     obtain ⟨PB,hPB⟩:∃ x,Bare.paramsB ps=x:=⟨_,rfl⟩
     obtain ⟨CB,hCB⟩:∃ x,its.all Bare.itemB=x:=⟨_,rfl⟩
     obtain ⟨il,hil⟩:∃ x,its.length=x:=⟨_,rfl⟩
     obtain ⟨pl,hpl⟩:∃ x,ps.length=x:=⟨_,rfl⟩
     obtain ⟨q,hq⟩:∃ x,tx key=x:=⟨_,rfl⟩
     rw [hPB] at HP Hbad Hgood
     rw [hCB] at HC Hbad Hgood
     rw [hil] at HC Hbad Hgood c2
     rw [hpl] at HP Hbad Hgood c3
     rw [hq] at c0
     clear hPB hCB hil hpl hq e hme
     go_upto_region 7 with fail
     obtain ⟨W1,hW1⟩:∃ W1,wr.alloc (.cells #[.string q,.bool y,.slice ia il ic,.slice pa pl pc] 44)=W1:=⟨_,rfl⟩
     have hr1:W1.heap[wr.heap.size]? = some (.cells #[.string q,.bool y,.slice ia il ic,.slice pa pl pc] 44 (0,0)):=by rw [← hW1];exact World.alloc_heap_new _ _
     have hA:New wr W1:=by rw [← hW1];exact (Mods.refl _ _).alloc _
     rw [hW1]
     obtain ⟨B1,hB1⟩:∃ B1,wr.heap.size=B1:=⟨_,rfl⟩
     rw [hB1] at hr1 ⊢
     have k0:=cell_of_row _ _ 0 _ _ _ hr1
     have k1':=cell_of_row _ _ 1 _ _ _ hr1
     have k2:=cell_of_row _ _ 2 _ _ _ hr1
     have k3:=cell_of_row _ _ 3 _ _ _ hr1
     simp only [gS] at k0 k1' k2 k3
     clear hr1 hW1 hB1 c0 c1 c2 c3
     cases y with
     | true =>
      simp only [Bool.true_or,Bool.true_and] at Hbad Hgood
      cases PB with
      | false =>
       have hrn:Hid (r=false):=Lib.hid (Hbad.out (by simp))
       clear Hbad Hgood HR HD HS hbef HC
       go_wp2_with fail
       refine (HP.out _ hA).mono ?_
       rintro e w2 ⟨rfl,hN2⟩
       go_wp2_with fail
       exact wp_goto (And.intro rfl ⟨⟨rfl,rfl⟩,hrn,(hN0.trans hN).trans (hA.trans hN2)⟩)
      | true =>
       go_wp2_with fail
       refine (HP.out _ hA).mono ?_
       rintro e w2 ⟨rfl,hN2⟩
       have q2:=hN2.cell k2 id
       have hNN:=hA.trans hN2
       clear k0 k1' k2 k3 HP
       cases CB with
       | false =>
        have hrn:Hid (r=false):=Lib.hid (Hbad.out (by simp))
        clear Hbad Hgood HR HD HS hbef
        go_wp2_with fail
        refine (HC.out _ hNN).mono ?_
        rintro e w3 ⟨rfl,hN3⟩
        go_wp2_with fail
        exact wp_goto (And.intro rfl ⟨⟨rfl,rfl⟩,hrn,(hN0.trans hN).trans (hNN.trans hN3)⟩)
       | true =>
        have hgo:=Lib.hid (Hgood.out (by simp))
        clear Hbad Hgood
        go_wp2_with fail
        refine (HC.out _ hNN).mono ?_
        rintro e w3 ⟨rfl,hN3⟩
        go_wp2_with fail
        go_roundw
        case rel=>exact ⟨k + 1,by omega,by go_num,hgo.out,hN.trans (hNN.trans hN3)⟩
        case measure=>simp [intOf];omega
     | false =>
      by_cases h1:il=1
      ·subst h1
       by_cases h0:pl=0
       ·subst h0
        simp only [Bool.false_or,decide_true,Bool.true_and] at Hbad Hgood
        cases PB with
        | false =>
         have hrn:Hid (r=false):=Lib.hid (Hbad.out (by simp))
         clear Hbad Hgood HR HD HS hbef HC
         go_wp2_with fail
         refine (HP.out _ hA).mono ?_
         rintro e w2 ⟨rfl,hN2⟩
         go_wp2_with fail
         exact wp_goto (And.intro rfl ⟨⟨rfl,rfl⟩,hrn,(hN0.trans hN).trans (hA.trans hN2)⟩)
        | true =>
         go_wp2_with fail
         refine (HP.out _ hA).mono ?_
         rintro e w2 ⟨rfl,hN2⟩
         have q2:=hN2.cell k2 id
         have hNN:=hA.trans hN2
         clear k0 k1' k2 k3 HP
         cases CB with
         | false =>
          have hrn:Hid (r=false):=Lib.hid (Hbad.out (by simp))
          clear Hbad Hgood HR HD HS hbef
          go_wp2_with fail
          refine (HC.out _ hNN).mono ?_
          rintro e w3 ⟨rfl,hN3⟩
          go_wp2_with fail
          exact wp_goto (And.intro rfl ⟨⟨rfl,rfl⟩,hrn,(hN0.trans hN).trans (hNN.trans hN3)⟩)
         | true =>
          have hgo:=Lib.hid (Hgood.out (by simp))
          clear Hbad Hgood
          go_wp2_with fail
          refine (HC.out _ hNN).mono ?_
          rintro e w3 ⟨rfl,hN3⟩
          go_wp2_with fail
          go_roundw
          case rel=>exact ⟨k + 1,by omega,by go_num,hgo.out,hN.trans (hNN.trans hN3)⟩
          case measure=>simp [intOf];omega
       ·have hne:((pl:Int) != 0)=true:=by rw [bne_iff_ne];omega
        have hrn:Hid (r=false):=Lib.hid (Hbad.out (by simp [h0]))
        clear Hbad Hgood HR HD HS hbef h0 HP HC
        go_wp2_with fail
        exact wp_goto (And.intro rfl ⟨⟨rfl,rfl⟩,hrn,(hN0.trans hN).trans hA⟩)
      ·have hne:((il:Int) != 1)=true:=by rw [bne_iff_ne];omega
       have hrn:Hid (r=false):=Lib.hid (Hbad.out (by simp [h1]))
       clear Hbad Hgood HR HD HS hbef h1 HP HC
       go_wp2_with fail
       exact wp_goto (And.intro rfl ⟨⟨rfl,rfl⟩,hrn,(hN0.trans hN).trans hA⟩)
    ·have hke:k=d.length:=by omega
     have hr1:r=true:=by rw [HR.out,Bool.true_and];exact (all_upto d noM _).2 (by rw [← hke];exact hbef.out)
     have hkd:decide ((k:Int) < (d.length:Int))=false:=decide_eq_false (by omega)
     subst hr1
     clear HR HD HS
     go_wp2_with fail
     simp only [Exit.jump]
     go_ret
     exact ⟨rfl,hN0.trans hN⟩
end Go.Proofs.YtnknmmbnhoanfaaGreatDoor
namespace Go.Proofs.YtnknmmbnhoanfaaGreatDoor
open Go.RowKit Go.Shelf Go.Cs

def regionOf (id:Nat):Code→Option Code
 | .region i ops c=>if i=id then some (.region i ops c) else none
 | .block _ c=>regionOf id c
 | .seq a b=>match regionOf id a with
  | some c=>some c
  | none=>regionOf id b
 | .loop c=>regionOf id c
 | .scope c=>regionOf id c
 | .rangeFunc _ _ a b=>match regionOf id a with
  | some c=>some c
  | none=>regionOf id b
 | .cond _ a b=>match regionOf id a with
  | some c=>some c
  | none=>regionOf id b
 | _=>none
def strs (L:List Bare.Bs):List Value:=L.map fun l=>.string (tx l)
theorem strs_snoc (L:List Bare.Bs) (l:Bare.Bs):strs (L ++ [l])=strs L ++ [.string (tx l)]:=by simp [strs]
def OwS (base:Nat) (W:World) (v:Value) (L:List Bare.Bs):Prop:=W.ownsRow base 9 1 v L.length (strs L)
theorem infoS:(Tryz.prog.info? 9).map (fun i=>(i.zero,i.size,i.bytes))=some (some (.string ⟨#[]⟩),1,16):=by kernel_rfl
theorem OwS.nil (base:Nat) (W:World):OwS base W (.slice none 0 0) []:=World.ownsRow_nil _ _ _ _
theorem OwS.new {base:Nat} {W W':World} {v:Value} {L:List Bare.Bs} (h:OwS base W v L) (hN:New W W'):OwS base W' v L:=Mods.ownsRow hN h (fun _ _ h=>h)
theorem OwS.slice {base:Nat} {W:World} {v:Value} {L:List Bare.Bs} (h:OwS base W v L):∃ ao cap,v = .slice ao L.length cap:=owns_slice h
theorem run_append_S {o:Oper} {a:Act} {w W:World} {s x:Operand} {base:Nat} {v:Value} {L:List Bare.Bs} {l:Bare.Bs} (hop:o.op = .call { callee:=.builtin .append,args:=#[s,x],argTypes:=#[101,101] })
  (hs:a.eval s=v) (hx:a.eval x = .slice (some ⟨w.heap.size,0,none⟩) 1 1) (hW:w.alloc (.cells #[.string (tx l)] 9)=W) (hown:OwS base w v L) (hn:L.length ≤ 2000000) (hbase:base ≤ w.heap.size) :
  ∃ v' W',(execOp a.eval o).run Tryz.prog W = .ok (.value v') W'∧OwS base W' v' (L ++ [l])∧∀ (w0:World) (S:Nat→Prop),Mods S w0 w→(∀ g,v.ownBlock=some g→w0.heap.size ≤ g ∨ S g)→Mods S w0 W':=by
 obtain ⟨i0,hi,hz0,hz1,hz2⟩:=info_parts infoS
 have hown':W.ownsRow base 9 1 v L.length (strs L):=by rw [← hW];exact hown.alloc _
 obtain ⟨v',w',hr,ho,hg,-⟩:=run_append_own (P:=Tryz.prog) W base 101 o.type 9 i0 _ 1 16 Tryz.underlying101 hi hz0 hz1 hz2 rfl (by decide) v L.length (strs L) hown' ⟨w.heap.size,0,none⟩ 1 1 [.string (tx l)] rfl (by rw [← hW];exact cell_one_new _ _ _) (by simp [Value.oneCell']) (by unfold maxLen;omega) (by omega) (by rw [← hW];simp;omega)
 refine ⟨v',w',?_,?_,fun w0 S hN hb=>?_⟩
 ·simp [execOp,hop,resolve,invoke,builtin,hs,hx,hr,Result.andThen]
 ·unfold OwS
  rw [strs_snoc,List.length_append]
  exact ho
 ·rw [← hW] at hg
  exact (hN.alloc _).grown hg (fun g hg=>(hb g hg).imp id fun h=>⟨h,own_cells (hown.alloc _) hg⟩)
theorem wpList_append_S {ops:Array Oper} {Q:Exit→Act→World→Prop} {rest:List Oper} {o:Oper} {a:Act} {w W:World} (s x:Operand) {base:Nat} {v:Value} {L:List Bare.Bs} {l:Bare.Bs} (hgd:o.guard=none) (hop:o.op = .call { callee:=.builtin .append,args:=#[s,x],argTypes:=#[101,101] })
  (hs:a.eval s=v) (hx:a.eval x = .slice (some ⟨w.heap.size,0,none⟩) 1 1) (hW:w.alloc (.cells #[.string (tx l)] 9)=W) (hown:OwS base w v L) (hn:L.length ≤ 2000000) (hbase:base ≤ w.heap.size)
  (h:∀ v' W',OwS base W' v' (L ++ [l])→(∀ (w0:World) (S:Nat→Prop),Mods S w0 w→(∀ g,v.ownBlock=some g→w0.heap.size ≤ g ∨ S g)→Mods S w0 W')→wpList Tryz.prog ops Q rest (a.put o.dst v') W'):wpList Tryz.prog ops Q (o::rest) a W:=by
 refine wpList_plain hgd fun K hK=>?_
 obtain ⟨v',w',hr,ho,hg⟩:=run_append_S hop hs hx hW hown hn hbase
 unfold Oper.wp
 rw [hr]
 exact hK _ _ (h v' w' ho hg)
theorem wpOp_append_S {ops:Array Oper} {Q:Exit→Act→World→Prop} {i:Nat} {o:Oper} (d:Option Tmp) {a:Act} {w W:World} {K:Act→World→Prop} (hi:ops[i]? = some o) (hw:Region.wanted o (yielded ops a.tmps)=true) (hd:o.dst=d) (s x:Operand) {base:Nat} {v:Value} {L:List Bare.Bs} {l:Bare.Bs} (hop:o.op = .call { callee:=.builtin .append,args:=#[s,x],argTypes:=#[101,101] })
  (hs:a.eval s=v) (hx:a.eval x = .slice (some ⟨w.heap.size,0,none⟩) 1 1) (hW:w.alloc (.cells #[.string (tx l)] 9)=W) (hown:OwS base w v L) (hn:L.length ≤ 2000000) (hbase:base ≤ w.heap.size)
  (h:∀ v' W',OwS base W' v' (L ++ [l])→(∀ (w0:World) (S:Nat→Prop),Mods S w0 w→(∀ g,v.ownBlock=some g→w0.heap.size ≤ g ∨ S g)→Mods S w0 W')→K (a.put d v') W'):wpOp Tryz.prog ops Q i K a W:=by
 obtain ⟨v',w',hr,ho,hg⟩:=run_append_S hop hs hx hW hown hn hbase
 exact opH_value d hi hw hd hr (h v' w' ho hg)
end Go.Proofs.YtnknmmbnhoanfaaGreatDoor
namespace Go.Proofs.YtnknmmbnhoanfaaGreatDoor
open Go.RowKit Go.Shelf Go.Cs
attribute [local go_sem] Oper.semAt_some


theorem lit151 (t:Array Value) (h:t.size=151):∃ u:Nat→Value,t=(u 0::u 1::u 2::u 3::u 4::u 5::u 6::u 7::u 8::u 9::u 10::u 11::u 12::u 13::u 14::u 15::u 16::u 17::u 18::u 19::u 20::u 21::u 22::u 23::u 24::u 25::u 26::u 27::u 28::u 29::u 30::u 31::u 32::u 33::u 34::u 35::u 36::u 37::u 38::u 39::u 40::u 41::u 42::u 43::u 44::u 45::u 46::u 47::u 48::u 49::u 50::u 51::u 52::u 53::u 54::u 55::u 56::u 57::u 58::u 59::u 60::u 61::u 62::u 63::u 64::u 65::u 66::u 67::u 68::u 69::u 70::u 71::u 72::u 73::u 74::u 75::u 76::u 77::u 78::u 79::u 80::u 81::u 82::u 83::u 84::u 85::u 86::u 87::u 88::u 89::u 90::u 91::u 92::u 93::u 94::u 95::u 96::u 97::u 98::u 99::u 100::u 101::u 102::u 103::u 104::u 105::u 106::u 107::u 108::u 109::u 110::u 111::u 112::u 113::u 114::u 115::u 116::u 117::u 118::u 119::u 120::u 121::u 122::u 123::u 124::u 125::u 126::u 127::u 128::u 129::u 130::u 131::u 132::u 133::u 134::u 135::u 136::u 137::u 138::u 139::u 140::u 141::u 142::u 143::u 144::u 145::u 146::u 147::u 148::u 149::u 150::([]:List Value)).toArray:=⟨fun i=>t.getD i undef,range_lit t 151 h⟩
noncomputable def reg_causeyref13_Great_5:Code:=((Tryz.f19.body.bind (regionOf 5)).getD .skip)
theorem great5 (t:Array Value) (hs:t.size=151) (w:World) {b1 o1 nd m1 n i li lp ic pc:Nat} {ia pa:Option Addr}
  (hq0:t.getD 0 undef = .slice (some ⟨b1,o1,none⟩) nd m1)
  (hq3:t.getD 3 undef = .int .i64 n)
  (hq5:t.getD 5 undef = .int .i64 i)
  (hin:i < nd) (hn:n ≤ 40) (hli:li ≤ 281474976710656) (hlp:lp ≤ 281474976710656) (c2:w.cell? ⟨b1,o1 + i * 4 + 2,none⟩=some (.slice ia li ic)) (c3:w.cell? ⟨b1,o1 + i * 4 + 3,none⟩=some (.slice pa lp pc)) :
  reg_causeyref13_Great_5.wp Tryz.prog (Only fun a' W'=>∃ z:Nat→Value,a'=⟨((pz t z [22,23,24,25,26,27,28,29,30,31,32,33,34,35,36]).setIfInBounds 3 (.int .i64 (n + li + lp:Nat))),[]⟩∧New w W') ⟨t,[]⟩ w:=by
 conv=>arg 2;whnf
 obtain ⟨u,rfl⟩:=lit151 t hs
 have hq0:u 0 = _:=hq0
 have hq3:u 3 = _:=hq3
 have hq5:u 5 = _:=hq5
 rw [hq0,hq3,hq5]
 clear hq0 hq3 hq5 hs
 have hi1:decide ((i:Int) < (nd:Int))=true:=decide_eq_true (by omega)
 have hw0:IntKind.i64.wrap ((n:Int) + (li:Int))=(n:Int) + (li:Int):=by rw [IntKind.wrap_i64];omega
 have hw1:IntKind.i64.wrap ((n:Int) + (li:Int) + (lp:Int))=(n:Int) + (li:Int) + (lp:Int):=by rw [IntKind.wrap_i64];omega
 refine wp_region_held (S:=fun W=>New w W) (by kernel_rfl) ?_
 show wpAnyH _ _ _ _ _ 16 _ _ w.drew
 have hN:New w w.drew:=(Mods.refl _ _).drew
 have hS:New w w.drew:=(Mods.refl _ _).drew
 refine tkI 0 (some 22) (.int .i64 n) hS ?_
 simp only [pS]
 refine tkI 1 (some 23) (.slice (some ⟨b1,o1,none⟩) nd m1) hS ?_
 simp only [pS]
 refine tkI 2 (some 24) (.int .i64 i) hS ?_
 simp only [pS]
 refine tkI 3 (some 25) (.pointer (some ⟨b1,o1 + i * 4,none⟩)) hS ?_
 simp only [pS]
 refine tkI 4 (some 26) (.pointer (some ⟨b1,o1 + i * 4 + 2,none⟩)) hS ?_
 simp only [pS]
 refine tkA 5 rfl (some 27) (.slice ia li ic) (.inl ⟨by rfl,fun W hW=>by have q:=hW.cell c2 id;go_simp⟩) hS ?_
 simp only [pS]
 refine tkI 6 (some 28) (.int .i64 li) hS ?_
 simp only [pS]
 refine tkI 7 (some 29) (.int .i64 (n + li:Nat)) hS ?_
 simp only [pS]
 refine tkI 8 (some 30) (.slice (some ⟨b1,o1,none⟩) nd m1) hS ?_
 simp only [pS]
 refine tkI 9 (some 31) (.int .i64 i) hS ?_
 simp only [pS]
 refine tkI 10 (some 32) (.pointer (some ⟨b1,o1 + i * 4,none⟩)) hS ?_
 simp only [pS]
 refine tkI 11 (some 33) (.pointer (some ⟨b1,o1 + i * 4 + 3,none⟩)) hS ?_
 simp only [pS]
 refine tkA 12 rfl (some 34) (.slice pa lp pc) (.inl ⟨by rfl,fun W hW=>by have q:=hW.cell c3 id;go_simp⟩) hS ?_
 simp only [pS]
 refine tkI 13 (some 35) (.int .i64 lp) hS ?_
 simp only [pS]
 refine tkI 14 (some 36) (.int .i64 (n + li + lp:Nat)) hS ?_
 simp only [pS]
 refine tkI 15 (some 3) (.int .i64 (n + li + lp:Nat)) hS ?_
 simp only [pS]
 refine wpAnyH_done (by kernel_rfl) ?_ _
 exact zc rfl hN
noncomputable def reg_causeyref13_Great_10:Code:=((Tryz.f19.body.bind (regionOf 10)).getD .skip)
theorem great10 (t:Array Value) (hs:t.size=151) (w:World) {b1 o1 nd m1 b i k b2 o2 lp pc:Nat} {s1 s2:ByteArray}
  (hq0:t.getD 0 undef = .slice (some ⟨b1,o1,none⟩) nd m1)
  (hq4:t.getD 4 undef = .int .i64 b)
  (hq5:t.getD 5 undef = .int .i64 i)
  (hq6:t.getD 6 undef = .int .i64 k)
  (hin:i < nd) (hkl:k < lp) (hb:b ≤ 144115188075855872) (h1:s1.size ≤ 140737488355328) (h2:s2.size ≤ 140737488355328) (c3:w.cell? ⟨b1,o1 + i * 4 + 3,none⟩=some (.slice (some ⟨b2,o2,none⟩) lp pc)) (d0:w.cell? ⟨b2,o2 + k * 5,none⟩=some (.string s1)) (d3:w.cell? ⟨b2,o2 + k * 5 + 3,none⟩=some (.string s2)) :
  reg_causeyref13_Great_10.wp Tryz.prog (Only fun a' W'=>∃ z:Nat→Value,a'=⟨((pz t z [59,60,61,62,63,64,65,66,67,68,69,70,71,72,73,74,75,76,77,78,79,80,81,82]).setIfInBounds 4 (.int .i64 (b + s1.size + s2.size:Nat))),[]⟩∧New w W') ⟨t,[]⟩ w:=by
 conv=>arg 2;whnf
 obtain ⟨u,rfl⟩:=lit151 t hs
 have hq0:u 0 = _:=hq0
 have hq4:u 4 = _:=hq4
 have hq5:u 5 = _:=hq5
 have hq6:u 6 = _:=hq6
 rw [hq0,hq4,hq5,hq6]
 clear hq0 hq4 hq5 hq6 hs
 have hi1:decide ((i:Int) < (nd:Int))=true:=decide_eq_true (by omega)
 have hk1:decide ((k:Int) < (lp:Int))=true:=decide_eq_true (by omega)
 have hw0:IntKind.i64.wrap ((b:Int) + (s1.size:Int))=(b:Int) + (s1.size:Int):=by rw [IntKind.wrap_i64];omega
 have hw1:IntKind.i64.wrap ((b:Int) + (s1.size:Int) + (s2.size:Int))=(b:Int) + (s1.size:Int) + (s2.size:Int):=by rw [IntKind.wrap_i64];omega
 refine wp_region_held (S:=fun W=>New w W) (by kernel_rfl) ?_
 show wpAnyH _ _ _ _ _ 25 _ _ w.drew
 have hN:New w w.drew:=(Mods.refl _ _).drew
 have hS:New w w.drew:=(Mods.refl _ _).drew
 refine tkI 0 (some 59) (.int .i64 b) hS ?_
 simp only [pS]
 refine tkI 1 (some 60) (.slice (some ⟨b1,o1,none⟩) nd m1) hS ?_
 simp only [pS]
 refine tkI 2 (some 61) (.int .i64 i) hS ?_
 simp only [pS]
 refine tkI 3 (some 62) (.pointer (some ⟨b1,o1 + i * 4,none⟩)) hS ?_
 simp only [pS]
 refine tkI 4 (some 63) (.pointer (some ⟨b1,o1 + i * 4 + 3,none⟩)) hS ?_
 simp only [pS]
 refine tkA 5 rfl (some 64) (.slice (some ⟨b2,o2,none⟩) lp pc) (.inl ⟨by rfl,fun W hW=>by have q:=hW.cell c3 id;go_simp⟩) hS ?_
 simp only [pS]
 refine tkI 6 (some 65) (.int .i64 k) hS ?_
 simp only [pS]
 refine tkI 7 (some 66) (.pointer (some ⟨b2,o2 + k * 5,none⟩)) hS ?_
 simp only [pS]
 refine tkI 8 (some 67) (.pointer (some ⟨b2,o2 + k * 5,none⟩)) hS ?_
 simp only [pS]
 refine tkA 9 rfl (some 68) (.string s1) (.inl ⟨by rfl,fun W hW=>by have q:=hW.cell d0 id;go_simp⟩) hS ?_
 simp only [pS]
 refine tkI 10 (some 69) (.int .i64 s1.size) hS ?_
 simp only [pS]
 refine tkI 11 (some 70) (.int .i64 (b + s1.size:Nat)) hS ?_
 simp only [pS]
 refine tkI 12 (some 71) (.slice (some ⟨b1,o1,none⟩) nd m1) hS ?_
 simp only [pS]
 refine tkI 13 (some 72) (.int .i64 i) hS ?_
 simp only [pS]
 refine tkI 14 (some 73) (.pointer (some ⟨b1,o1 + i * 4,none⟩)) hS ?_
 simp only [pS]
 refine tkI 15 (some 74) (.pointer (some ⟨b1,o1 + i * 4 + 3,none⟩)) hS ?_
 simp only [pS]
 refine tkA 16 rfl (some 75) (.slice (some ⟨b2,o2,none⟩) lp pc) (.inl ⟨by rfl,fun W hW=>by have q:=hW.cell c3 id;go_simp⟩) hS ?_
 simp only [pS]
 refine tkI 17 (some 76) (.int .i64 k) hS ?_
 simp only [pS]
 refine tkI 18 (some 77) (.pointer (some ⟨b2,o2 + k * 5,none⟩)) hS ?_
 simp only [pS]
 refine tkI 19 (some 78) (.pointer (some ⟨b2,o2 + k * 5 + 1,none⟩)) hS ?_
 simp only [pS]
 refine tkI 20 (some 79) (.pointer (some ⟨b2,o2 + k * 5 + 3,none⟩)) hS ?_
 simp only [pS]
 refine tkA 21 rfl (some 80) (.string s2) (.inl ⟨by rfl,fun W hW=>by have q:=hW.cell d3 id;go_simp⟩) hS ?_
 simp only [pS]
 refine tkI 22 (some 81) (.int .i64 s2.size) hS ?_
 simp only [pS]
 refine tkI 23 (some 82) (.int .i64 (b + s1.size + s2.size:Nat)) hS ?_
 simp only [pS]
 refine tkI 24 (some 4) (.int .i64 (b + s1.size + s2.size:Nat)) hS ?_
 simp only [pS]
 refine wpAnyH_done (by kernel_rfl) ?_ _
 exact zc rfl hN
noncomputable def reg_causeyref13_Great_20:Code:=((Tryz.f19.body.bind (regionOf 20)).getD .skip)
theorem great20 (t:Array Value) (hs:t.size=151) (w:World) {B b k b2 o2 lp pc:Nat} {s1 s2:ByteArray}
  (hq4:t.getD 4 undef = .int .i64 b)
  (hq8:t.getD 8 undef = .pointer (some ⟨B,0,none⟩))
  (hq9:t.getD 9 undef = .int .i64 k)
  (hkl:k < lp) (hb:b ≤ 144115188075855872) (h1:s1.size ≤ 140737488355328) (h2:s2.size ≤ 140737488355328) (c4:w.cell? ⟨B,4,none⟩=some (.slice (some ⟨b2,o2,none⟩) lp pc)) (d0:w.cell? ⟨b2,o2 + k * 5,none⟩=some (.string s1)) (d3:w.cell? ⟨b2,o2 + k * 5 + 3,none⟩=some (.string s2)) :
  reg_causeyref13_Great_20.wp Tryz.prog (Only fun a' W'=>∃ z:Nat→Value,a'=⟨((pz t z [127,128,129,130,131,132,133,134,135,136,137,138,139,140,141,142,143,144]).setIfInBounds 4 (.int .i64 (b + s1.size + s2.size:Nat))),[]⟩∧New w W') ⟨t,[]⟩ w:=by
 conv=>arg 2;whnf
 obtain ⟨u,rfl⟩:=lit151 t hs
 have hq4:u 4 = _:=hq4
 have hq8:u 8 = _:=hq8
 have hq9:u 9 = _:=hq9
 rw [hq4,hq8,hq9]
 clear hq4 hq8 hq9 hs
 have hk1:decide ((k:Int) < (lp:Int))=true:=decide_eq_true (by omega)
 have hw0:IntKind.i64.wrap ((b:Int) + (s1.size:Int))=(b:Int) + (s1.size:Int):=by rw [IntKind.wrap_i64];omega
 have hw1:IntKind.i64.wrap ((b:Int) + (s1.size:Int) + (s2.size:Int))=(b:Int) + (s1.size:Int) + (s2.size:Int):=by rw [IntKind.wrap_i64];omega
 refine wp_region_held (S:=fun W=>New w W) (by kernel_rfl) ?_
 show wpAnyH _ _ _ _ _ 19 _ _ w.drew
 have hN:New w w.drew:=(Mods.refl _ _).drew
 have hS:New w w.drew:=(Mods.refl _ _).drew
 refine tkI 0 (some 127) (.int .i64 b) hS ?_
 simp only [pS]
 refine tkI 1 (some 128) (.pointer (some ⟨B,4,none⟩)) hS ?_
 simp only [pS]
 refine tkA 2 rfl (some 129) (.slice (some ⟨b2,o2,none⟩) lp pc) (.inl ⟨by rfl,fun W hW=>by have q:=hW.cell c4 id;go_simp⟩) hS ?_
 simp only [pS]
 refine tkI 3 (some 130) (.int .i64 k) hS ?_
 simp only [pS]
 refine tkI 4 (some 131) (.pointer (some ⟨b2,o2 + k * 5,none⟩)) hS ?_
 simp only [pS]
 refine tkI 5 (some 132) (.pointer (some ⟨b2,o2 + k * 5,none⟩)) hS ?_
 simp only [pS]
 refine tkA 6 rfl (some 133) (.string s1) (.inl ⟨by rfl,fun W hW=>by have q:=hW.cell d0 id;go_simp⟩) hS ?_
 simp only [pS]
 refine tkI 7 (some 134) (.int .i64 s1.size) hS ?_
 simp only [pS]
 refine tkI 8 (some 135) (.int .i64 (b + s1.size:Nat)) hS ?_
 simp only [pS]
 refine tkI 9 (some 136) (.pointer (some ⟨B,4,none⟩)) hS ?_
 simp only [pS]
 refine tkA 10 rfl (some 137) (.slice (some ⟨b2,o2,none⟩) lp pc) (.inl ⟨by rfl,fun W hW=>by have q:=hW.cell c4 id;go_simp⟩) hS ?_
 simp only [pS]
 refine tkI 11 (some 138) (.int .i64 k) hS ?_
 simp only [pS]
 refine tkI 12 (some 139) (.pointer (some ⟨b2,o2 + k * 5,none⟩)) hS ?_
 simp only [pS]
 refine tkI 13 (some 140) (.pointer (some ⟨b2,o2 + k * 5 + 1,none⟩)) hS ?_
 simp only [pS]
 refine tkI 14 (some 141) (.pointer (some ⟨b2,o2 + k * 5 + 3,none⟩)) hS ?_
 simp only [pS]
 refine tkA 15 rfl (some 142) (.string s2) (.inl ⟨by rfl,fun W hW=>by have q:=hW.cell d3 id;go_simp⟩) hS ?_
 simp only [pS]
 refine tkI 16 (some 143) (.int .i64 s2.size) hS ?_
 simp only [pS]
 refine tkI 17 (some 144) (.int .i64 (b + s1.size + s2.size:Nat)) hS ?_
 simp only [pS]
 refine tkI 18 (some 4) (.int .i64 (b + s1.size + s2.size:Nat)) hS ?_
 simp only [pS]
 refine wpAnyH_done (by kernel_rfl) ?_ _
 exact zc rfl hN


theorem wp_scope_loop {P:Program} {a:Act} {w:World} {Q:Exit→Act→World→Prop} {c rest:Code} (l:Nat) (J:Act→World→Prop) (μ:Act→World→Nat) (hf:findLabel c l=some rest)
  (pass:∀ a w,J a w→rest.wp P (Exit.jump l (fun a' w'=>J a' w'∧μ a' w' < μ a w) Q) a w)
  (first:(∀ a w,J a w→rest.wp P (Exit.jump l J Q) a w)→c.wp P (Exit.jump l J Q) a w):(Code.scope c).wp P Q a w :=
 wp_scope_jumps l J μ hf (first fun a w h=>wp_mono (pass a w h) fun e a' w' hq=>by
  cases e with
  | goto l'=>exact ⟨hq.1,hq.2.1⟩
  | _=>exact hq) pass
theorem quoted_at (acc:Bare.Bs) (s:ByteArray) (k:Nat) (h:k < s.size):Bare.quoted acc ((bl s).drop k)=(if Bare.plnB (gb s k)=false then none
  else if gb s k=34 then some (⟨3,0,acc,false⟩,(bl s).drop (k + 1))
  else if gb s k=92 then (if k + 1 < s.size∧(gb s (k + 1)=34 ∨ gb s (k + 1)=92) then Bare.quoted (acc ++ [gb s (k + 1)]) ((bl s).drop (k + 2)) else none)
  else Bare.quoted (acc ++ [gb s k]) ((bl s).drop (k + 1))):=by
 have hdr:(bl s).drop k=gb s k::(bl s).drop (k + 1):=by
  have:=gb_get s k h
  obtain ⟨h1,h2⟩:=List.getElem?_eq_some_iff.1 this
  rw [List.drop_eq_getElem_cons h1,h2]
 rw [hdr,Bare.quoted_cons]
 by_cases hp:Bare.plnB (gb s k)=false
 ·rw [if_pos hp,if_pos hp]
 rw [if_neg hp,if_neg hp]
 by_cases h34:gb s k=34
 ·rw [if_pos h34,if_pos h34]
 rw [if_neg h34,if_neg h34]
 by_cases h92:gb s k=92
 ·rw [if_pos h92,if_pos h92]
  by_cases hk:k + 1 < s.size
  ·have hdr2:(bl s).drop (k + 1)=gb s (k + 1)::(bl s).drop (k + 2):=by
    have:=gb_get s (k + 1) hk
    obtain ⟨h1,h2⟩:=List.getElem?_eq_some_iff.1 this
    rw [List.drop_eq_getElem_cons h1,h2]
   rw [hdr2]
   simp only
   by_cases hd:gb s (k + 1)=34 ∨ gb s (k + 1)=92
   ·rw [if_pos hd,if_pos ⟨hk,hd⟩]
   ·rw [if_neg hd,if_neg (fun h=>hd h.2)]
  ·have hdr2:(bl s).drop (k + 1) = []:=List.drop_eq_nil_of_le (by rw [bl_len];omega)
   rw [hdr2,if_neg (fun h=>hk h.1)]
 ·rw [if_neg h92,if_neg h92]
theorem quoted_end (acc:Bare.Bs) (s:ByteArray) (k:Nat) (h:s.size ≤ k):Bare.quoted acc ((bl s).drop k)=none:=by
 rw [List.drop_eq_nil_of_le (by rw [bl_len];exact h)]
 rfl
theorem byte_test (c:UInt8) (d:Nat) (hd:d < 256) (n:Nat) (hn:c.toNat=n):((n:Int) == (d:Int))=decide (c=UInt8.ofNat d)∧((n:Int) != (d:Int)) = !decide (c=UInt8.ofNat d):=by
 have e:((n:Int) == (d:Int))=decide (c=UInt8.ofNat d):=by
  rw [Bool.eq_iff_iff,beq_iff_eq,decide_eq_true_eq,← UInt8.toNat_inj,hn,UInt8.toNat_ofNat']
  omega
 exact ⟨e,by rw [← e];rfl⟩
theorem lit62' (t:Array Value) (h:t.size=62):∃ u:Nat→Value,t=(u 0::u 1::u 2::u 3::u 4::u 5::u 6::u 7::u 8::u 9::u 10::u 11::u 12::u 13::u 14::u 15::u 16::u 17::u 18::u 19::u 20::u 21::u 22::u 23::u 24::u 25::u 26::u 27::u 28::u 29::u 30::u 31::u 32::u 33::u 34::u 35::u 36::u 37::u 38::u 39::u 40::u 41::u 42::u 43::u 44::u 45::u 46::u 47::u 48::u 49::u 50::u 51::u 52::u 53::u 54::u 55::u 56::u 57::u 58::u 59::u 60::u 61::([]:List Value)).toArray:=⟨fun i=>t.getD i undef,range_lit t 62 h⟩
def scopeOf:Code→Option Code
 | .scope c=>some c
 | .seq a b=>(scopeOf a).orElse fun _=>scopeOf b
 | .block _ c=>scopeOf c
 | _=>none
def behindSkip:Code→Code
 | .seq .skip x=>x
 | x=>x
noncomputable def quotedX:Code:=((((Tryz.f54.body.bind scopeOf).bind fun c=>findLabel c 0).map behindSkip).getD .skip)
def QJ (s:ByteArray) (w:World) (B:Nat) (r:Option (Bare.It × Bare.Bs)) (a:Act) (W:World):Prop:=∃ (k:Nat) (acc:Bare.Bs) (v:Value),(a.tmps.size=62∧a.defers = []∧a.tmps.getD 0 undef = .string s∧a.tmps.getD 2 undef = .pointer (some ⟨B,0,none⟩)∧a.tmps.getD 5 undef=v∧a.tmps.getD 6 undef = .int .i64 k)∧k ≤ s.size∧acc.length ≤ k∧W.ownsRow (B + 1) 5 1 v acc.length (u8s acc)∧W.heap[B]? = some (.cells #[.int .u8 0,.int .i64 0,.string ⟨#[]⟩,.bool false] 23 (0,0))∧New w W∧Hid (Bare.quoted acc ((bl s).drop k)=r)
def Qμ (s:ByteArray) (a:Act) (_:World):Nat:=s.size - (intOf (a.tmps.getD 6 undef)).toNat
theorem quoted_X (s:ByteArray) (w:World) (B:Nat) (r:Option (Bare.It × Bare.Bs)) (hs:s.size ≤ 1000000) (hBw:w.heap.size ≤ B) (a0:Act) (W:World) (hJ:QJ s w B r a0 W) :
  quotedX.wp Tryz.prog (Exit.jump 0 (fun a' w'=>QJ s w B r a' w'∧Qμ s a' w' < Qμ s a0 W) (bodyPost Tryz.prog Tryz.f54 fun e w'=>ReadP r w e w')) a0 W:=by
 conv=>arg 2;whnf
 obtain ⟨i0,hi,hz0,hz1,hz2⟩:=info_parts infoB'
 obtain ⟨z,dfs⟩:=a0
 obtain ⟨k,acc,v,⟨hsz,hd,hq0,hq2,hq5,hq6⟩,hk,hacc,hown,hr,hN,HR⟩:=hJ
 simp only at hsz hd hq0 hq2 hq5 hq6
 subst hd
 obtain ⟨u,rfl⟩:=lit62' z hsz
 have hp0:u 0 = _:=hq0
 have hp2:u 2 = _:=hq2
 have hp5:u 5 = _:=hq5
 have hp6:u 6 = _:=hq6
 rw [hp0,hp2,hp5,hp6]
 clear hp0 hp2 hp5 hp6 hq0 hq2 hq5 hq6 hsz
 skip
 obtain ⟨⟨c0,c1,c2,c3⟩,f0,f1,f2,f3⟩:=row_facts hr
 have hBl:B < W.heap.size:=(Array.getElem?_eq_some_iff.1 hr).1
 by_cases hlt:k < s.size
 ·have hge:decide ((s.size:Int) ≤ (k:Int))=false:=decide_eq_false (by omega)
  have hix:=run_idx s k hlt
  have HP:=Lib.hid (fun W=>(plain_p (gb s k) W).mono fun e w' h=>show e = _∧W=w' from ⟨h.1,h.2.symm⟩)
  have hqa:=quoted_at acc s k hlt
  rw [HR.out] at hqa
  obtain ⟨n,hn⟩:∃ n,(gb s k).toNat=n:=⟨_,rfl⟩
  obtain ⟨t34,t34n⟩:=byte_test (gb s k) 34 (by decide) n hn
  obtain ⟨t92,t92n⟩:=byte_test (gb s k) 92 (by decide) n hn
  rw [show UInt8.ofNat 34=34 from rfl] at t34
  rw [show UInt8.ofNat 92=92 from rfl] at t92
  have t34:((n:Int) == 34)=decide (gb s k=34):=t34
  have t92:((n:Int) == 92)=decide (gb s k=92):=t92
  have hnc:(gb s k).toNat=n:=hn
  rw [hn] at HP hix
  clear t34n t92n HR hn
  cases hp:Bare.plnB (gb s k) with
  | false =>
   rw [hp,if_pos rfl] at hqa
   rw [hp] at HP
   subst hqa
   unfold ReadP bv bcs noIt
   simp only
   clear t34 t92 hp
   go_wp2_with (go_at_call 110;refine (HP.out _).mono ?_;rintro e w' ⟨rfl,rfl⟩)
   simp only [Exit.jump]
   obtain ⟨hN2,hr2⟩:=set4 hN hBw hr (.int .u8 0) (.int .i64 0) (.string ⟨#[]⟩) (.bool false)
   obtain ⟨W2,hW2⟩:∃ W2,((((W.setCell ⟨B,0,none⟩ (.int .u8 0)).setCell ⟨B,1,none⟩ (.int .i64 0)).setCell ⟨B,2,none⟩ (.string ⟨#[]⟩)).setCell ⟨B,3,none⟩ (.bool false))=W2:=⟨_,rfl⟩
   rw [hW2] at hN2 hr2 ⊢
   exact read_end (by kernel_rfl) rfl rfl rfl hr2 ⟨rfl,hN2⟩
  | true =>
   rw [hp,if_neg (by decide)] at hqa
   rw [hp] at HP
   have hkb:(k:Int) ≤ 1000000:=by omega
   by_cases h34:gb s k=34
   ·rw [if_pos h34] at hqa
    rw [decide_eq_true h34] at t34
    have hcv:=conv_own (w:=W.drew) hown
    have hsl:∀ W,(Instr.slice 9 (.string s) (some (.int .i64 ((k:Int) + 1))) none none).run Tryz.prog W = .ok (.string (tx ((bl s).drop (k + 1)))) W:=fun W=>run_sl_l s (k + 1) (by omega) W
    subst hqa
    unfold ReadP bv bcs
    simp only
    obtain ⟨x,hx⟩:∃ x,tx acc=x:=⟨_,rfl⟩
    obtain ⟨y,hy⟩:∃ y,tx ((bl s).drop (k + 1))=y:=⟨_,rfl⟩
    rw [hx] at hcv ⊢
    rw [hy] at hsl ⊢
    clear hx hy hp h34 t92 hacc hk
    go_upto_region 7 with (go_at_call 110;refine (HP.out _).mono ?_;rintro e w' ⟨rfl,rfl⟩)
    go_region
    obtain ⟨hN2,hr2⟩:=set4 hN hBw hr (.int .u8 3) (.int .i64 0) (.string x) (.bool false)
    have hN2:=hN2.drew
    have hr2:((((W.setCell ⟨B,0,none⟩ (.int .u8 3)).setCell ⟨B,1,none⟩ (.int .i64 0)).setCell ⟨B,2,none⟩ (.string x)).setCell ⟨B,3,none⟩ (.bool false)).drew.heap[B]? = some (.cells #[(.int .u8 3),(.int .i64 0),(.string x),(.bool false)] 23 (0,0)):=hr2
    obtain ⟨W2,hW2⟩:∃ W2,((((W.setCell ⟨B,0,none⟩ (.int .u8 3)).setCell ⟨B,1,none⟩ (.int .i64 0)).setCell ⟨B,2,none⟩ (.string x)).setCell ⟨B,3,none⟩ (.bool false)).drew=W2:=⟨_,rfl⟩
    rw [hW2] at hN2 hr2 ⊢
    go_wp2_with fail
    simp only [Exit.jump]
    exact read_end (by kernel_rfl) rfl rfl rfl hr2 ⟨rfl,hN2⟩
   rw [if_neg h34] at hqa
   rw [decide_eq_false h34] at t34
   by_cases h92:gb s k=92
   ·rw [if_pos h92] at hqa
    rw [decide_eq_true h92] at t92
    by_cases hk1:k + 1 < s.size
    ·have hge1:decide ((s.size:Int) ≤ (k:Int) + 1)=false:=decide_eq_false (by omega)
     have hix2:∀ W,(Instr.index 9 (.string s) (.int .i64 ((k:Int) + 1))).run Tryz.prog W = .ok (.int .u8 ((gb s (k + 1)).toNat:Nat)) W:=fun W=>run_idx s (k + 1) hk1 W
     obtain ⟨m,hm⟩:∃ m,(gb s (k + 1)).toNat=m:=⟨_,rfl⟩
     obtain ⟨-,m34⟩:=byte_test (gb s (k + 1)) 34 (by decide) m hm
     obtain ⟨-,m92⟩:=byte_test (gb s (k + 1)) 92 (by decide) m hm
     rw [show UInt8.ofNat 34=34 from rfl] at m34
     rw [show UInt8.ofNat 92=92 from rfl] at m92
     have m34:((m:Int) != 34) = !decide (gb s (k + 1)=34):=m34
     have m92:((m:Int) != 92) = !decide (gb s (k + 1)=92):=m92
     have hmc:(gb s (k + 1)).toNat=m:=hm
     rw [hm] at hix2
     by_cases hok:gb s (k + 1)=34 ∨ gb s (k + 1)=92
     ·rw [if_pos ⟨hk1,hok⟩] at hqa
      obtain ⟨a,ha⟩:∃ a,decide (gb s (k + 1)=34)=a:=⟨_,rfl⟩
      obtain ⟨b,hb⟩:∃ b,decide (gb s (k + 1)=92)=b:=⟨_,rfl⟩
      have hab:a=true ∨ (a=false∧b=true):=by
       rw [← ha,← hb]
       by_cases h:gb s (k + 1)=34
       ·exact .inl (decide_eq_true h)
       ·exact .inr ⟨decide_eq_false h,decide_eq_true (hok.resolve_left h)⟩
      rw [ha] at m34
      rw [hb] at m92
      clear ha hb hok hm hp h34 h92
      rcases hab with rfl | ⟨rfl,rfl⟩
      ·have m34:((m:Int) != 34)=false:=m34
       clear m92
       go_wp2_with (first | (go_at_call 110;refine (HP.out _).mono ?_;rintro e w' ⟨rfl,rfl⟩) | (at_builtin;refine wpList_append_own _ rfl _ _ 62 rfl (B + 1) 5 i0 _ 1 1 Tryz.underlying62 hi hz0 hz1 hz2 rfl (by decide) _ _ _ rfl (hown.alloc _) ⟨W.heap.size,0,none⟩ 1 1 [.int .u8 (m:Nat)] rfl rfl ?c1 ?c2 ?c3 ?c4 ?c5 ?_))
       case c1=>exact cell_one_new _ _ _
       case c2=>simp [Value.oneCell']
       case c3=>unfold maxLen;omega
       case c4=>have:=hown.1;simp;omega
       case c5=>simp;omega
       intro v' W2 hown' hgrow _
       have hk2:New W (W.alloc (.cells #[.int .u8 (m:Nat)] 5)):=(Mods.refl _ _).alloc _
       have hN3:New w W2:=(hN.alloc _).grown hgrow (fun g hg=>.inl (by have:=(hown.lt g hg).1;omega))
       have hr3:W2.heap[B]? = some (.cells #[.int .u8 0,.int .i64 0,.string ⟨#[]⟩,.bool false] 23 (0,0)):=by
        have h2:=hk2.heap hr id
        have h3:Mods (fun b=>B + 1 ≤ b) (W.alloc (.cells #[.int .u8 (m:Nat)] 5)) W2:=(Mods.refl _ _).grown hgrow (fun g hg=>.inr ⟨(hown.lt g hg).1,own_cells (hown.alloc _) hg⟩)
        exact h3.heap h2 (by omega)
       have hown3:W2.ownsRow (B + 1) 5 1 v' (acc ++ [gb s (k + 1)]).length (u8s (acc ++ [gb s (k + 1)])):=by
        have:u8s (acc ++ [gb s (k + 1)])=u8s acc ++ [.int .u8 (m:Nat)]:=by rw [u8s_snoc,hmc]
        rw [this,List.length_append]
        exact hown'
       clear hown hown' hgrow c0 c1 c2 c3 f0 f1 f2 f3 hk2
       go_wp2_with fail
       exact wp_goto (And.intro rfl ⟨⟨k + 2,acc ++ [gb s (k + 1)],v',⟨rfl,rfl,rfl,rfl,rfl,rfl⟩,by omega,by rw [List.length_append];show acc.length + 1 ≤ _;omega,hown3,hr3,hN3,Lib.hid hqa.symm⟩,by simp [Qμ,intOf];omega⟩)
      ·have m34:((m:Int) != 34)=true:=m34
       have m92:((m:Int) != 92)=false:=m92
       go_wp2_with (first | (go_at_call 110;refine (HP.out _).mono ?_;rintro e w' ⟨rfl,rfl⟩) | (at_builtin;refine wpList_append_own _ rfl _ _ 62 rfl (B + 1) 5 i0 _ 1 1 Tryz.underlying62 hi hz0 hz1 hz2 rfl (by decide) _ _ _ rfl (hown.alloc _) ⟨W.heap.size,0,none⟩ 1 1 [.int .u8 (m:Nat)] rfl rfl ?c1 ?c2 ?c3 ?c4 ?c5 ?_))
       case c1=>exact cell_one_new _ _ _
       case c2=>simp [Value.oneCell']
       case c3=>unfold maxLen;omega
       case c4=>have:=hown.1;simp;omega
       case c5=>simp;omega
       intro v' W2 hown' hgrow _
       have hk2:New W (W.alloc (.cells #[.int .u8 (m:Nat)] 5)):=(Mods.refl _ _).alloc _
       have hN3:New w W2:=(hN.alloc _).grown hgrow (fun g hg=>.inl (by have:=(hown.lt g hg).1;omega))
       have hr3:W2.heap[B]? = some (.cells #[.int .u8 0,.int .i64 0,.string ⟨#[]⟩,.bool false] 23 (0,0)):=by
        have h2:=hk2.heap hr id
        have h3:Mods (fun b=>B + 1 ≤ b) (W.alloc (.cells #[.int .u8 (m:Nat)] 5)) W2:=(Mods.refl _ _).grown hgrow (fun g hg=>.inr ⟨(hown.lt g hg).1,own_cells (hown.alloc _) hg⟩)
        exact h3.heap h2 (by omega)
       have hown3:W2.ownsRow (B + 1) 5 1 v' (acc ++ [gb s (k + 1)]).length (u8s (acc ++ [gb s (k + 1)])):=by
        have:u8s (acc ++ [gb s (k + 1)])=u8s acc ++ [.int .u8 (m:Nat)]:=by rw [u8s_snoc,hmc]
        rw [this,List.length_append]
        exact hown'
       clear hown hown' hgrow c0 c1 c2 c3 f0 f1 f2 f3 hk2
       go_wp2_with fail
       exact wp_goto (And.intro rfl ⟨⟨k + 2,acc ++ [gb s (k + 1)],v',⟨rfl,rfl,rfl,rfl,rfl,rfl⟩,by omega,by rw [List.length_append];show acc.length + 1 ≤ _;omega,hown3,hr3,hN3,Lib.hid hqa.symm⟩,by simp [Qμ,intOf];omega⟩)
     ·rw [if_neg (fun h=>hok h.2)] at hqa
      have n34:((m:Int) != 34)=true:=by rw [m34,decide_eq_false (fun h=>hok (.inl h))];rfl
      have n92:((m:Int) != 92)=true:=by rw [m92,decide_eq_false (fun h=>hok (.inr h))];rfl
      clear m34 m92
      subst hqa
      unfold ReadP bv bcs noIt
      simp only
      clear hok hm hmc hp h34 h92
      go_wp2_with (go_at_call 110;refine (HP.out _).mono ?_;rintro e w' ⟨rfl,rfl⟩)
      simp only [Exit.jump]
      obtain ⟨hN2,hr2⟩:=set4 hN hBw hr (.int .u8 0) (.int .i64 0) (.string ⟨#[]⟩) (.bool false)
      obtain ⟨W2,hW2⟩:∃ W2,((((W.setCell ⟨B,0,none⟩ (.int .u8 0)).setCell ⟨B,1,none⟩ (.int .i64 0)).setCell ⟨B,2,none⟩ (.string ⟨#[]⟩)).setCell ⟨B,3,none⟩ (.bool false))=W2:=⟨_,rfl⟩
      rw [hW2] at hN2 hr2 ⊢
      exact read_end (by kernel_rfl) rfl rfl rfl hr2 ⟨rfl,hN2⟩
    ·have hge1:decide ((s.size:Int) ≤ (k:Int) + 1)=true:=decide_eq_true (by omega)
     rw [if_neg (fun h=>hk1 h.1)] at hqa
     subst hqa
     unfold ReadP bv bcs noIt
     simp only
     have hge1':(s.size:Int) ≤ (k:Int) + 1:=by omega
     clear hp h34 h92 hk1
     go_wp2_with (go_at_call 110;refine (HP.out _).mono ?_;rintro e w' ⟨rfl,rfl⟩)
     simp only [Exit.jump]
     obtain ⟨hN2,hr2⟩:=set4 hN hBw hr (.int .u8 0) (.int .i64 0) (.string ⟨#[]⟩) (.bool false)
     obtain ⟨W2,hW2⟩:∃ W2,((((W.setCell ⟨B,0,none⟩ (.int .u8 0)).setCell ⟨B,1,none⟩ (.int .i64 0)).setCell ⟨B,2,none⟩ (.string ⟨#[]⟩)).setCell ⟨B,3,none⟩ (.bool false))=W2:=⟨_,rfl⟩
     rw [hW2] at hN2 hr2 ⊢
     exact read_end (by kernel_rfl) rfl rfl rfl hr2 ⟨rfl,hN2⟩
   ·rw [if_neg h92] at hqa
    rw [decide_eq_false h92] at t92
    clear hp h34 h92
    go_wp2_with (first | (go_at_call 110;refine (HP.out _).mono ?_;rintro e w' ⟨rfl,rfl⟩) | (at_builtin;refine wpList_append_own _ rfl _ _ 62 rfl (B + 1) 5 i0 _ 1 1 Tryz.underlying62 hi hz0 hz1 hz2 rfl (by decide) _ _ _ rfl (hown.alloc _) ⟨W.heap.size,0,none⟩ 1 1 [.int .u8 (n:Nat)] rfl rfl ?c1 ?c2 ?c3 ?c4 ?c5 ?_))
    case c1=>exact cell_one_new _ _ _
    case c2=>simp [Value.oneCell']
    case c3=>unfold maxLen;omega
    case c4=>have:=hown.1;simp;omega
    case c5=>simp;omega
    intro v' W2 hown' hgrow _
    have hk2:New W (W.alloc (.cells #[.int .u8 (n:Nat)] 5)):=(Mods.refl _ _).alloc _
    have hN3:New w W2:=(hN.alloc _).grown hgrow (fun g hg=>.inl (by have:=(hown.lt g hg).1;omega))
    have hr3:W2.heap[B]? = some (.cells #[.int .u8 0,.int .i64 0,.string ⟨#[]⟩,.bool false] 23 (0,0)):=by
     have h2:=hk2.heap hr id
     have h3:Mods (fun b=>B + 1 ≤ b) (W.alloc (.cells #[.int .u8 (n:Nat)] 5)) W2:=(Mods.refl _ _).grown hgrow (fun g hg=>.inr ⟨(hown.lt g hg).1,own_cells (hown.alloc _) hg⟩)
     exact h3.heap h2 (by omega)
    have hown3:W2.ownsRow (B + 1) 5 1 v' (acc ++ [gb s k]).length (u8s (acc ++ [gb s k])):=by
     have:u8s (acc ++ [gb s k])=u8s acc ++ [.int .u8 (n:Nat)]:=by rw [u8s_snoc,hnc]
     rw [this,List.length_append]
     exact hown'
    clear hown hown' hgrow c0 c1 c2 c3 f0 f1 f2 f3 hk2
    go_wp2_with fail
    exact wp_goto (And.intro rfl ⟨⟨k + 1,acc ++ [gb s k],v',⟨rfl,rfl,rfl,rfl,rfl,rfl⟩,by omega,by rw [List.length_append];show acc.length + 1 ≤ _;omega,hown3,hr3,hN3,Lib.hid hqa.symm⟩,by simp [Qμ,intOf];omega⟩)
 ·have hge:decide ((s.size:Int) ≤ (k:Int))=true:=decide_eq_true (by omega)
  have hqa:=quoted_end acc s k (by omega)
  rw [HR.out] at hqa
  subst hqa
  unfold ReadP bv bcs noIt
  simp only
  have hge':s.size ≤ k:=by omega
  clear HR hlt
  go_wp2_with fail
  simp only [Exit.jump]
  obtain ⟨hN2,hr2⟩:=set4 hN hBw hr (.int .u8 0) (.int .i64 0) (.string ⟨#[]⟩) (.bool false)
  obtain ⟨W2,hW2⟩:∃ W2,((((W.setCell ⟨B,0,none⟩ (.int .u8 0)).setCell ⟨B,1,none⟩ (.int .i64 0)).setCell ⟨B,2,none⟩ (.string ⟨#[]⟩)).setCell ⟨B,3,none⟩ (.bool false))=W2:=⟨_,rfl⟩
  rw [hW2] at hN2 hr2 ⊢
  exact read_end (by kernel_rfl) rfl rfl rfl hr2 ⟨rfl,hN2⟩
theorem quoted_read (s:ByteArray) (w:World) (hs:s.size ≤ 1000000) (h0:0 < s.size) :
  Calls Tryz.prog 54 #[.string s] w (ReadP (Bare.quoted [] ((bl s).drop 1)) w):=by
 obtain ⟨r,hr'⟩:∃ r,Bare.quoted [] ((bl s).drop 1)=r:=⟨_,rfl⟩
 have HR:=Lib.hid hr'
 rw [hr']
 clear hr'
 obtain ⟨hN,hr⟩:=no_row w
 go_enter Tryz.func54,Tryz.ntmps54
 go_upto_region 1 with fail
 obtain ⟨W,hW⟩:∃ W,w.alloc (.cells #[.int .u8 0,.int .i64 0,.string ⟨#[]⟩,.bool false] 23)=W:=⟨_,rfl⟩
 rw [hW] at hN hr ⊢
 obtain ⟨B,hB⟩:∃ B,w.heap.size=B:=⟨_,rfl⟩
 have hBw:w.heap.size ≤ B:=by omega
 rw [hB] at hr ⊢
 clear hW hB
 obtain ⟨⟨c0,c1,c2,c3⟩,f0,f1,f2,f3⟩:=row_facts hr
 clear c0 c1 c2 c3 f0 f1 f2 f3
 refine wp_scope_loop 0 (QJ s w B r) (Qμ s) rfl ?pass ?first
 case first =>
  intro hp
  go_wp2_with fail
  refine wp_label ?_
  rename_i K hK
  refine hK _ _ (wp_mono (quoted_X s w B r hs hBw _ _ ⟨1,[],.slice none 0 0,⟨rfl,rfl,rfl,rfl,rfl,rfl⟩,by omega,by simp,World.ownsRow_nil _ _ _ _,hr,hN,HR⟩) ?_)
  intro e a' w' hq
  cases e with
  | goto l'=>exact ⟨hq.1,hq.2.1⟩
  | _=>exact hq
 case pass =>
  intro a W' hJ
  refine wp_seq (wp_skip ?_)
  exact quoted_X s w B r hs hBw a W' hJ
end Go.Proofs.YtnknmmbnhoanfaaGreatDoor
