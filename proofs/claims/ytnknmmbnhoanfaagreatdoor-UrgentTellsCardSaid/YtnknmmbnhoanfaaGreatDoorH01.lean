/- Texts joined. -/
import Derived.Lib.ItoaNum
import Derived.Lib.Atoi
import Derived.Lib.Replace
import Derived.Lib.SlTrimSet
import Derived.Lib.IndexBytes
import Derived.Lib.IndexLaws
import Derived.Test.YtnknmmbnhoanfaaGreatDoorH00
import Derived.Laws.DeepStrings4
import Derived.Laws.Concat
import Derived.Lib.Strings
import Derived.Shelf.Strings.SlTrimAscii
import Derived.Deep.CutRange
import Derived.Deep.CutBlock
import Derived.Deep.RegionHeld3
import Derived.Deep.LoopGhost
import Derived.MapKept
import Derived.WalkSpells
set_option linter.unusedSimpArgs false
set_option linter.unusedVariables false
set_option maxHeartbeats 16000000
set_option maxRecDepth 100000
namespace Go.Bare
open Go.Lib
abbrev Bs:=List UInt8
def digB (c:UInt8):Bool:=decide (48 ≤ c.toNat) && decide (c.toNat ≤ 57)
def letB (c:UInt8):Bool:=(decide (97 ≤ c.toNat) && decide (c.toNat ≤ 122)) || (decide (65 ≤ c.toNat) && decide (c.toNat ≤ 90))
def plnB (c:UInt8):Bool:=decide (32 ≤ c.toNat) && decide (c.toNat ≤ 126)
def marks:Bs:=[33,35,36,37,38,39,42,43,45,46,94,95,96,124,126,58,47]
def inTok (c:UInt8):Bool:=letB c || (digB c || marks.contains c)
def headTok (c:UInt8):Bool:=letB c || c == 42
def tokB:Bs→Bool
 | []=>false
 | c::r=>headTok c && r.all inTok
structure It where
 kind:Int
 int:Int
 text:Bs
 yes:Bool
 deriving DecidableEq
def most:Int:=999999999999999
def rightI (b:It):Bool :=
 if b.kind=1 ∨ b.kind=2 then decide (-most ≤ b.int) && (decide (b.int ≤ most) && (b.text.isEmpty && !b.yes))
 else if b.kind=3 then decide (b.int=0) && (!b.yes && b.text.all plnB)
 else if b.kind=4 then decide (b.int=0) && (!b.yes && tokB b.text)
 else if b.kind=5 then decide (b.int=0) && !b.yes
 else if b.kind=6 then decide (b.int=0) && b.text.isEmpty
 else false
def trimR (c:UInt8) (l:Bs):Bs:=(l.reverse.dropWhile (· == c)).reverse
def decimal (n:Int):Bs :=
 let part:=trimR 48 ((decDigits (1000 + n.natAbs % 1000)).drop 1)
 (if n < 0 then [45] else []) ++ decDigits (n.natAbs / 1000) ++ [46] ++ (if part.isEmpty then [48] else part)
def esc:Bs→Bs
 | []=>[]
 | c::r=>if c=92 ∨ c=34 then 92::c::esc r else c::esc r
def sx:Bs:=[65,66,67,68,69,70,71,72,73,74,75,76,77,78,79,80,81,82,83,84,85,86,87,88,89,90,97,98,99,100,101,102,103,104,105,106,107,108,109,110,111,112,113,114,115,116,117,118,119,120,121,122,48,49,50,51,52,53,54,55,56,57,43,47]
def s6 (n:Nat):UInt8:=sx.getD n 0
def sixes:Bs→Bs
 | a::b::c::r=>s6 (a.toNat / 4)::s6 (a.toNat % 4 * 16 + b.toNat / 16)::s6 (b.toNat % 16 * 4 + c.toNat / 64)::s6 (c.toNat % 64)::sixes r
 | [a,b]=>[s6 (a.toNat / 4),s6 (a.toNat % 4 * 16 + b.toNat / 16),s6 (b.toNat % 16 * 4),61]
 | [a]=>[s6 (a.toNat / 4),s6 (a.toNat % 4 * 16),61,61]
 | []=>[]
def v6 (c:UInt8):Option Nat:=if c ∈ sx then some (sx.idxOf c) else none
def take6:Nat→Nat→Bs→Option Bs
 | r,_,[]=>if r=0 then some [] else none
 | r,k,c::l=>match v6 c with
  | none=>none
  | some v=>if 2 ≤ k then (take6 ((r * 64 + v) % 2 ^ (k - 2)) (k - 2) l).map (UInt8.ofNat ((r * 64 + v) / 2 ^ (k - 2))::·) else take6 (r * 64 + v) (k + 6) l
def unsix (l:Bs):Option Bs :=
 let short:=trimR 61 l
 if l.length % 4 ≠ 0 ∨ 2 < l.length - short.length then none else take6 0 0 short
def printI (b:It):Option Bs :=
 if rightI b=false then none
 else if b.kind=1 then some (itoa b.int)
 else if b.kind=2 then some (decimal b.int)
 else if b.kind=3 then some (34::(esc b.text ++ [34]))
 else if b.kind=5 then some (58::(sixes b.text ++ [58]))
 else if b.kind=6 then some [63,if b.yes then 49 else 48]
 else some b.text
def valD (l:Bs):Nat:=l.foldl (fun n c=>n * 10 + (c.toNat - 48)) 0
def number (s:Bs):Option (It × Bs) :=
 let neg:=s.head? == some 45
 let t:=if neg then s.drop 1 else s
 let d:=t.takeWhile digB
 let r:=t.drop d.length
 if d.length < 1 ∨ 15 < d.length then none
 else if r.head? ≠ some 46 then some (⟨1,(if neg then -1 else 1) * (valD d:Int),[],false⟩,r)
 else
  let e:=(r.drop 1).takeWhile digB
  if 12 < d.length ∨ e.length < 1 ∨ 3 < e.length then none
  else some (⟨2,(if neg then -1 else 1) * (1000 * (valD d:Int) + valD ((e ++ [48,48]).take 3)),[],false⟩,r.drop (1 + e.length))
def quoted:Bs→Bs→Option (It × Bs)
 | _,[]=>none
 | acc,c::r =>
  if plnB c=false then none
  else if c=34 then some (⟨3,0,acc,false⟩,r)
  else if c=92 then (match r with
   | d::r'=>if d=34 ∨ d=92 then quoted (acc ++ [d]) r' else none
   | []=>none)
  else quoted (acc ++ [c]) r
def packed (l:Bs):Option (It × Bs) :=
 let inner:=l.takeWhile (· != 58)
 if inner.length=l.length then none
 else (unsix inner).map fun t=>(⟨5,0,t,false⟩,l.drop (inner.length + 1))
def parseI:Bs→Option (It × Bs)
 | []=>none
 | c::r =>
  if digB c || c == 45 then number (c::r)
  else if headTok c then
   let t:=(c::r).takeWhile inTok
   some (⟨4,0,t,false⟩,(c::r).drop t.length)
  else if c=34 then quoted [] r
  else if c=58 then packed r
  else if c=63 then (match r with
   | d::r'=>if d=48 ∨ d=49 then some (⟨6,0,[],d == 49⟩,r') else none
   | []=>none)
  else none
def Stops (p:UInt8→Bool) (x:Bs):Prop:=∀ c,x.head? = some c→p c=false
theorem takeWhile_app {p:UInt8→Bool}:∀ {l x:Bs},l.all p=true→Stops p x→(l ++ x).takeWhile p=l
 | [],[],_,_=>rfl
 | [],c::x,_,h=>by simp [h c rfl]
 | a::l,x,h,hs=>by
  simp only [List.all_cons,Bool.and_eq_true] at h
  simp only [List.cons_append,List.takeWhile_cons,h.1,if_true]
  rw [takeWhile_app h.2 hs]
theorem digit_ofNat {k:Nat} (h:k < 10):digB (UInt8.ofNat (48 + k))=true∧(UInt8.ofNat (48 + k)).toNat=48 + k:=by
 have:(UInt8.ofNat (48 + k)).toNat=48 + k:=by
  rw [UInt8.toNat_ofNat'];omega
 refine ⟨?_,this⟩
 unfold digB
 rw [this]
 simp
 omega
theorem valD_snoc (l:Bs) (c:UInt8):valD (l ++ [c])=valD l * 10 + (c.toNat - 48):=by
 unfold valD
 rw [List.foldl_append]
 rfl
theorem dec_facts (n:Nat):(decDigits n).all digB=true∧valD (decDigits n)=n∧decDigits n ≠ []:=by
 induction n using Nat.strongRecOn with
 | ind n ih =>
  rw [decDigits]
  split
  ·rename_i h
   obtain ⟨h1,h2⟩:=digit_ofNat h
   refine ⟨by rw [List.all_cons,h1];rfl,?_,by simp⟩
   show 0 * 10 + ((UInt8.ofNat (48 + n)).toNat - 48)=n
   rw [h2];omega
  ·rename_i h
   obtain ⟨i1,i2,i3⟩:=ih (n / 10) (by omega)
   obtain ⟨h1,h2⟩:=digit_ofNat (k:=n % 10) (by omega)
   refine ⟨by rw [List.all_append,i1,List.all_cons,h1];rfl,?_,by simp⟩
   rw [valD_snoc,i2,h2]
   omega
theorem dec_len (n:Nat):∀ k,n < 10 ^ (k + 1)→(decDigits n).length ≤ k + 1:=by
 induction n using Nat.strongRecOn with
 | ind n ih =>
  intro k hk
  rw [decDigits]
  split
  ·simp
  ·rename_i h
   cases k with
   | zero=>omega
   | succ k =>
    have:=ih (n / 10) (by omega) k (by rw [Nat.pow_succ] at hk;omega)
    simp
    omega
theorem dec_pos (n:Nat):1 ≤ (decDigits n).length:=by
 have:=(dec_facts n).2.2
 cases h:decDigits n with
 | nil=>exact absurd h this
 | cons a l=>simp
theorem dec_head (n:Nat):∃ c r,decDigits n=c::r∧digB c=true:=by
 obtain ⟨h1,-,h3⟩:=dec_facts n
 cases h:decDigits n with
 | nil=>exact absurd h h3
 | cons a l =>
  rw [h] at h1
  simp only [List.all_cons,Bool.and_eq_true] at h1
  exact ⟨a,l,rfl,h1.1⟩
theorem dig_ne {c:UInt8} (h:digB c=true):c ≠ 45∧c ≠ 46:=by
 constructor <;> (rintro rfl;exact absurd h (by decide))
theorem number_eq (neg:Bool) (d x:Bs) (hd:d.all digB=true) (h1:1 ≤ d.length) (h15:d.length ≤ 15) (hx:Stops digB x) :
    number ((if neg then [45] else []) ++ d ++ x) =
      (if x.head? ≠ some 46 then some (⟨1,(if neg then -1 else 1) * (valD d:Int),[],false⟩,x)
       else
        let e:=(x.drop 1).takeWhile digB
        if 12 < d.length ∨ e.length < 1 ∨ 3 < e.length then none
        else some (⟨2,(if neg then -1 else 1) * (1000 * (valD d:Int) + valD ((e ++ [48,48]).take 3)),[],false⟩,x.drop (1 + e.length))):=by
  obtain ⟨c,r,rfl⟩:∃ c r,d=c::r:=by
    cases d with
    | nil=>simp at h1
    | cons c r=>exact ⟨c,r,rfl⟩
  have hc:digB c=true:=by simp only [List.all_cons,Bool.and_eq_true] at hd;exact hd.1
  have hneg:((((if neg then [45] else []) ++ (c::r) ++ x:Bs).head? == some 45)=neg):=by
    cases neg with
    | true=>rfl
    | false=>simp [(dig_ne hc).1]
  have ht:(if neg=true then ((if neg then [45] else []) ++ (c::r) ++ x:Bs).drop 1 else ((if neg then [45] else []) ++ (c::r) ++ x:Bs))=(c::r) ++ x:=by cases neg <;> simp
  unfold number
  simp only [hneg,ht]
  rw [takeWhile_app hd hx,List.drop_left]
  rw [if_neg (by omega)]
theorem itoa_eq (n:Int):itoa n=(if n < 0 then [45] else []) ++ decDigits n.natAbs:=by
 unfold itoa
 split
 ·rfl
 ·have:n.toNat=n.natAbs:=by omega
  rw [this];rfl
theorem sign_abs (n:Int):(if decide (n < 0) then (-1:Int) else 1) * (n.natAbs:Int)=n:=by
 by_cases h:n < 0
 ·rw [if_pos (by simpa using h)];omega
 ·rw [if_neg (by simpa using h)];omega
theorem most_pow:(999999999999999:Nat) < 10 ^ (14 + 1):=by decide
theorem int_back (n:Int) (h0:-most ≤ n) (h1:n ≤ most) (x:Bs) (hx:Stops digB x) (hp:x.head? ≠ some 46):number (itoa n ++ x)=some (⟨1,n,[],false⟩,x):=by
 have hn:n.natAbs < 10 ^ (14 + 1):=by unfold most at h0 h1;have:=most_pow;omega
 have:=number_eq (decide (n < 0)) (decDigits n.natAbs) x (dec_facts _).1 (dec_pos _) (dec_len _ 14 hn) hx
 rw [if_pos hp,(dec_facts _).2.1,sign_abs] at this
 rw [itoa_eq]
 have e:(if n < 0 then [45] else []:Bs)=(if decide (n < 0)=true then [45] else []):=by by_cases h:n < 0 <;> simp [h]
 rw [e]
 exact this
def partOf (m:Nat):Bs:=let p:=trimR 48 ((decDigits (1000 + m)).drop 1);if p.isEmpty then [48] else p
theorem dec4 (m:Nat) (h:m < 1000):(decDigits (1000 + m)).drop 1 = [UInt8.ofNat (48 + m / 100),UInt8.ofNat (48 + m / 10 % 10),UInt8.ofNat (48 + m % 10)]:=by
 rw [decDigits,dif_neg (by omega),decDigits,dif_neg (by omega),decDigits,dif_neg (by omega),decDigits,dif_pos (by omega)]
 have e1:(1000 + m) % 10=m % 10:=by omega
 have e2:(1000 + m) / 10 % 10=m / 10 % 10:=by omega
 have e3:(1000 + m) / 10 / 10 % 10=m / 100:=by omega
 rw [e1,e2,e3]
 rfl
def part3 (m:Nat):Bs:=let p:=trimR 48 [UInt8.ofNat (48 + m / 100),UInt8.ofNat (48 + m / 10 % 10),UInt8.ofNat (48 + m % 10)];if p.isEmpty then [48] else p
theorem part3_all:∀ m:Fin 1000,((part3 m.1).all digB && (decide (1 ≤ (part3 m.1).length) && (decide ((part3 m.1).length ≤ 3) && (decide (valD ((part3 m.1 ++ [48,48]).take 3)=m.1) && (decide ((part3 m.1).length=1) || decide ((part3 m.1).getLast? ≠ some 48)) && (decide (m.1 ≠ 0) || decide (part3 m.1 = [48]))))))=true:=by decide +kernel
theorem part_facts {m:Nat} (h:m < 1000):(partOf m).all digB=true∧1 ≤ (partOf m).length∧(partOf m).length ≤ 3∧valD ((partOf m ++ [48,48]).take 3)=m∧((partOf m).length=1 ∨ (partOf m).getLast? ≠ some 48)∧(m=0→partOf m = [48]):=by
 have e:partOf m=part3 m:=by unfold partOf part3;rw [dec4 m h]
 have:=part3_all ⟨m,h⟩
 simp only [Bool.and_eq_true,Bool.or_eq_true,decide_eq_true_eq] at this
 rw [e]
 obtain ⟨h1,h2,h3,⟨h4,h5⟩,h6⟩:=this
 exact ⟨h1,h2,h3,h4,h5,fun h0=>h6.resolve_left (fun hn=>hn h0)⟩
theorem decimal_eq (n:Int):decimal n=(if n < 0 then [45] else []) ++ decDigits (n.natAbs / 1000) ++ 46::partOf (n.natAbs % 1000):=by
 unfold decimal partOf
 simp
theorem decimal_back (n:Int) (h0:-most ≤ n) (h1:n ≤ most) (x:Bs) (hx:Stops digB x):number (decimal n ++ x)=some (⟨2,n,[],false⟩,x):=by
 have hn:n.natAbs / 1000 < 10 ^ (11 + 1):=by unfold most at h0 h1;(have:(10:Nat) ^ (11 + 1)=1000000000000:=by decide);omega
 have hl:=dec_len _ 11 hn
 obtain ⟨p1,p2,p3,p4,-,-⟩:=part_facts (m:=n.natAbs % 1000) (by omega)
 have:=number_eq (decide (n < 0)) (decDigits (n.natAbs / 1000)) (46::partOf (n.natAbs % 1000) ++ x) (dec_facts _).1 (dec_pos _) (by omega) (fun c hc=>by cases hc;decide)
 have hne:¬ ((46::partOf (n.natAbs % 1000) ++ x:Bs).head? ≠ some 46):=by simp
 have hno:¬ (12 < (decDigits (n.natAbs / 1000)).length ∨ (partOf (n.natAbs % 1000)).length < 1 ∨ 3 < (partOf (n.natAbs % 1000)).length):=by omega
 rw [if_neg hne] at this
 simp only [List.cons_append,List.drop_succ_cons,List.drop_zero] at this
 rw [takeWhile_app p1 hx] at this
 rw [if_neg hno,p4,(dec_facts _).2.1] at this
 have e:(if n < 0 then [45] else []:Bs)=(if decide (n < 0)=true then [45] else []):=by by_cases h:n < 0 <;> simp [h]
 have e2:(if decide (n < 0)=true then (-1:Int) else 1) * (1000 * ((n.natAbs / 1000:Nat):Int) + ((n.natAbs % 1000:Nat):Int))=n:=by
  have:1000 * ((n.natAbs / 1000:Nat):Int) + ((n.natAbs % 1000:Nat):Int)=(n.natAbs:Int):=by omega
  rw [this,sign_abs]
 rw [e2] at this
 rw [decimal_eq,e]
 have e3:(46::(partOf (n.natAbs % 1000) ++ x)).drop (1 + (partOf (n.natAbs % 1000)).length)=x:=by rw [Nat.add_comm];simp
 rw [e3] at this
 rw [List.append_assoc]
 exact this
theorem valD_aux:∀ (l:Bs) (acc:Nat),l.all digB=true→l.foldl (fun n c=>n * 10 + (c.toNat - 48)) acc < (acc + 1) * 10 ^ l.length
 | [],acc,_=>by simp
 | c::l,acc,h=>by
  simp only [List.all_cons,Bool.and_eq_true] at h
  have hc:=h.1
  unfold digB at hc
  simp only [Bool.and_eq_true,decide_eq_true_eq] at hc
  have ih:=valD_aux l (acc * 10 + (c.toNat - 48)) h.2
  simp only [List.foldl_cons,List.length_cons]
  refine Nat.lt_of_lt_of_le ih ?_
  have e:(acc + 1) * 10 ^ (l.length + 1)=((acc + 1) * 10) * 10 ^ l.length:=by rw [Nat.pow_succ,Nat.mul_assoc,Nat.mul_comm (10 ^ _) 10]
  rw [e]
  exact Nat.mul_le_mul_right _ (by omega)
theorem valD_lt {l:Bs} (h:l.all digB=true):valD l < 10 ^ l.length:=by
 have:=valD_aux l 0 h
 simpa [valD] using this
theorem all_takeWhile (p:UInt8→Bool):∀ l:Bs,(l.takeWhile p).all p=true
 | []=>rfl
 | c::l=>by
  rw [List.takeWhile_cons]
  split
  ·rename_i h
   rw [List.all_cons,h,all_takeWhile p l];rfl
  ·rfl
theorem take_drop_while (p:UInt8→Bool) (l:Bs):l.takeWhile p ++ l.drop (l.takeWhile p).length=l:=by
 induction l with
 | nil=>rfl
 | cons c l ih =>
  rw [List.takeWhile_cons]
  split
  ·simp [ih]
  ·simp
theorem pow_le10 {a b:Nat} (h:a ≤ b):10 ^ a ≤ 10 ^ b:=Nat.pow_le_pow_right (by decide) h
theorem number_may {s : Bs} {b : It} {rest : Bs} (h : number s = some (b, rest)) : rightI b = true ∧ (b.kind = 1 ∨ b.kind = 2) ∧ ∃ u, s = u ++ rest ∧ 1 ≤ u.length ∧ u.length ≤ 17 := by
  unfold number at h
  obtain ⟨neg, hneg⟩ : ∃ x, (s.head? == some 45) = x := ⟨_, rfl⟩
  obtain ⟨t, ht⟩ : ∃ x, (if neg then s.drop 1 else s) = x := ⟨_, rfl⟩
  have hs : s = (if neg then [45] else []) ++ t := by
    rw [← ht]
    cases neg with
    | false => rfl
    | true =>
      cases s with
      | nil => cases hneg
      | cons c r =>
        have : c = 45 := by simpa using hneg
        subst this; rfl
  simp only [hneg, ht] at h
  obtain ⟨d, hd⟩ : ∃ x, t.takeWhile digB = x := ⟨_, rfl⟩
  have hda := all_takeWhile digB t
  have htd := take_drop_while digB t
  obtain ⟨r, hr⟩ : ∃ x, t.drop d.length = x := ⟨_, rfl⟩
  rw [hd] at hda htd h
  rw [hr] at htd h
  have hlen : ((if neg then [45] else []) : Bs).length ≤ 1 := by cases neg <;> simp
  have hsg : ∀ m : Nat, (m : Int) ≤ most → -most ≤ (if neg = true then (-1 : Int) else 1) * m ∧ (if neg = true then (-1 : Int) else 1) * m ≤ most := by
    intro m hm
    have h0 : (0 : Int) ≤ m := Int.natCast_nonneg m
    have hmm : most = 999999999999999 := rfl
    cases neg <;> simp <;> omega
  by_cases h1 : d.length < 1 ∨ 15 < d.length
  · rw [if_pos h1] at h; cases h
  rw [if_neg h1] at h
  have hv := valD_lt hda
  by_cases h2 : r.head? ≠ some 46
  · rw [if_pos h2] at h
    cases h
    have h15 : valD d < 10 ^ 15 := Nat.lt_of_lt_of_le hv (pow_le10 (by omega))
    have hb := hsg (valD d) (by have : (10 : Nat) ^ 15 = 1000000000000000 := by decide
                                have hmm : most = 999999999999999 := rfl
                                omega)
    refine ⟨?_, .inl rfl, (if neg then [45] else []) ++ d, ?_, ?_, ?_⟩
    · unfold rightI; rw [if_pos (.inl rfl)]; simp [hb.1, hb.2]
    · rw [List.append_assoc, htd]; exact hs
    · simp; omega
    · simp only [List.length_append]; omega
  · rw [if_neg h2] at h
    obtain ⟨e, he⟩ : ∃ x, (r.drop 1).takeWhile digB = x := ⟨_, rfl⟩
    have hea := all_takeWhile digB (r.drop 1)
    have hed := take_drop_while digB (r.drop 1)
    rw [he] at hea hed
    simp only [he] at h
    by_cases h3 : 12 < d.length ∨ e.length < 1 ∨ 3 < e.length
    · rw [if_pos h3] at h; cases h
    rw [if_neg h3] at h
    cases h
    have hr1 : r = 46 :: r.drop 1 := by
      cases r with
      | nil => simp at h2
      | cons c r =>
        have : c = 46 := by simpa using h2
        subst this; rfl
    have h12 : valD d < 10 ^ 12 := Nat.lt_of_lt_of_le hv (pow_le10 (by omega))
    have he3 : valD ((e ++ [48, 48]).take 3) < 10 ^ 3 := by
      have ha : ((e ++ [48, 48]).take 3).all digB = true := by
        rw [List.all_eq_true]
        intro x hx
        have := List.mem_of_mem_take hx
        rcases List.mem_append.1 this with h | h
        · exact List.all_eq_true.1 hea x h
        · simp at h; subst h; decide
      exact Nat.lt_of_lt_of_le (valD_lt ha) (pow_le10 (by simp; omega))
    have hb := hsg (1000 * valD d + valD ((e ++ [48, 48]).take 3)) (by
      have h4 : (10 : Nat) ^ 12 = 1000000000000 := by decide
      have h5 : (10 : Nat) ^ 3 = 1000 := by decide
      have hmm : most = 999999999999999 := rfl
      omega)
    have hcast : ((1000 * valD d + valD ((e ++ [48, 48]).take 3) : Nat) : Int) = 1000 * (valD d : Int) + (valD ((e ++ [48, 48]).take 3) : Int) := by omega
    rw [hcast] at hb
    refine ⟨?_, .inr rfl, (if neg then [45] else []) ++ (d ++ 46 :: e), ?_, ?_, ?_⟩
    · unfold rightI; rw [if_pos (.inr rfl)]; simp only [hb.1, hb.2, decide_true]; rfl
    · have e1 : r.drop (1 + e.length) = (r.drop 1).drop e.length := by rw [List.drop_drop]
      have e2 : (d ++ 46 :: e) ++ r.drop (1 + e.length) = t := by
        rw [List.append_assoc, e1, List.cons_append, hed, ← hr1, htd]
      rw [List.append_assoc, e2]; exact hs
    · simp; omega
    · simp only [List.length_append, List.length_cons]; omega
theorem s6_all:∀ n:Fin 64,(decide (v6 (s6 n.1)=some n.1) && (decide (s6 n.1 ≠ 61) && decide (s6 n.1 ≠ 58)))=true:=by decide +kernel
theorem s6_facts {n:Nat} (h:n < 64):v6 (s6 n)=some n∧s6 n ≠ 61∧s6 n ≠ 58:=by
 have:=s6_all ⟨n,h⟩
 simpa using this
theorem v6_all:∀ c:Fin 256,(match v6 (UInt8.ofNat c.1) with | some v=>decide (v < 64) && decide (s6 v=UInt8.ofNat c.1) | none=>true)=true:=by decide +kernel
theorem v6_facts {c:UInt8} {v:Nat} (h:v6 c=some v):v < 64∧s6 v=c:=by
 have:=v6_all ⟨c.toNat,UInt8.toNat_lt c⟩
 simp only [UInt8.ofNat_toNat,h,Bool.and_eq_true,decide_eq_true_eq] at this
 exact this
theorem t6_0 (c:UInt8) (l:Bs) (v:Nat) (h:v6 c=some v):take6 0 0 (c::l)=take6 v 6 l:=by
 simp [take6,h]
theorem t6_6 (r:Nat) (c:UInt8) (l:Bs) (v:Nat) (h:v6 c=some v):take6 r 6 (c::l)=(take6 ((r * 64 + v) % 16) 4 l).map (UInt8.ofNat ((r * 64 + v) / 16)::·):=by
 simp [take6,h]
theorem t6_4 (r:Nat) (c:UInt8) (l:Bs) (v:Nat) (h:v6 c=some v):take6 r 4 (c::l)=(take6 ((r * 64 + v) % 4) 2 l).map (UInt8.ofNat ((r * 64 + v) / 4)::·):=by
 simp [take6,h]
theorem t6_2 (r:Nat) (c:UInt8) (l:Bs) (v:Nat) (h:v6 c=some v):take6 r 2 (c::l)=(take6 0 0 l).map (UInt8.ofNat (r * 64 + v)::·):=by
 simp [take6,h,Nat.mod_one]
theorem t6_no (r k:Nat) (c:UInt8) (l:Bs) (h:v6 c=none):take6 r k (c::l)=none:=by
 simp [take6,h]
theorem byte_eq {a:UInt8} {n:Nat} (h:n=a.toNat):UInt8.ofNat n=a:=by subst h;exact UInt8.ofNat_toNat
def core:Bs→Bs
 | a::b::c::r=>s6 (a.toNat / 4)::s6 (a.toNat % 4 * 16 + b.toNat / 16)::s6 (b.toNat % 16 * 4 + c.toNat / 64)::s6 (c.toNat % 64)::core r
 | [a,b]=>[s6 (a.toNat / 4),s6 (a.toNat % 4 * 16 + b.toNat / 16),s6 (b.toNat % 16 * 4)]
 | [a]=>[s6 (a.toNat / 4),s6 (a.toNat % 4 * 16)]
 | []=>[]
def pads (n:Nat):Nat:=if n % 3=0 then 0 else 3 - n % 3
theorem sixes_core:∀ t:Bs,sixes t=core t ++ List.replicate (pads t.length) 61
 | []=>rfl
 | [a]=>rfl
 | [a,b]=>rfl
 | a::b::c::r=>by
  have ih:=sixes_core r
  have e:pads (a::b::c::r).length=pads r.length:=by unfold pads;simp only [List.length_cons];rw [show (r.length + 1 + 1 + 1) % 3=r.length % 3 by omega]
  rw [e]
  simp only [sixes,core,List.cons_append,ih]
theorem core_no:∀ t:Bs,∀ x ∈ core t,x ≠ 61∧x ≠ 58
 | []=>by simp [core]
 | [a]=>by
  have:=UInt8.toNat_lt a
  intro x hx
  simp only [core,List.mem_cons,List.not_mem_nil,or_false] at hx
  rcases hx with rfl | rfl <;> exact (s6_facts (by omega)).2
 | [a,b]=>by
  have:=UInt8.toNat_lt a
  have:=UInt8.toNat_lt b
  intro x hx
  simp only [core,List.mem_cons,List.not_mem_nil,or_false] at hx
  rcases hx with rfl | rfl | rfl <;> exact (s6_facts (by omega)).2
 | a::b::c::r=>by
  have:=UInt8.toNat_lt a
  have:=UInt8.toNat_lt b
  have:=UInt8.toNat_lt c
  intro x hx
  simp only [core,List.mem_cons] at hx
  rcases hx with rfl | rfl | rfl | rfl | hx
  ·exact (s6_facts (by omega)).2
  ·exact (s6_facts (by omega)).2
  ·exact (s6_facts (by omega)).2
  ·exact (s6_facts (by omega)).2
  ·exact core_no r x hx
theorem core_len:∀ t:Bs,(core t).length + pads t.length=(t.length + 2) / 3 * 4
 | []=>rfl
 | [a]=>by simp [core,pads]
 | [a,b]=>by simp [core,pads]
 | a::b::c::r=>by
  have ih:=core_len r
  have e:pads (a::b::c::r).length=pads r.length:=by unfold pads;simp only [List.length_cons];rw [show (r.length + 1 + 1 + 1) % 3=r.length % 3 by omega]
  rw [e]
  simp only [core,List.length_cons]
  omega
theorem sixes_len (t:Bs):(sixes t).length=(t.length + 2) / 3 * 4:=by
 rw [sixes_core,List.length_append,List.length_replicate,core_len]
theorem trimR_pad (c:UInt8) (l:Bs) (k:Nat) (h:∀ x ∈ l,x ≠ c):trimR c (l ++ List.replicate k c)=l:=by
 unfold trimR
 rw [List.reverse_append,List.reverse_replicate]
 have h1:(List.replicate k c ++ l.reverse).dropWhile (· == c)=l.reverse:=by
  induction k with
  | zero =>
   simp only [List.replicate_zero,List.nil_append]
   cases hl:l.reverse with
   | nil=>rfl
   | cons a r =>
    have ha:a ∈ l:=by rw [← List.mem_reverse,hl];exact List.mem_cons_self ..
    have:(a == c)=false:=by simpa using h a ha
    simp [this]
  | succ k ih=>simp [List.replicate_succ,ih]
 rw [h1,List.reverse_reverse]
theorem take6_core:∀ t:Bs,take6 0 0 (core t)=some t
 | []=>rfl
 | [a]=>by
  have ha:=UInt8.toNat_lt a
  simp only [core]
  rw [t6_0 _ _ _ (s6_facts (by omega)).1,t6_6 _ _ _ _ (s6_facts (by omega)).1]
  rw [show (a.toNat / 4 * 64 + a.toNat % 4 * 16) % 16=0 by omega]
  simp only [take6,if_true,Option.map_some]
  rw [byte_eq (a:=a) (by omega)]
 | [a,b]=>by
  have ha:=UInt8.toNat_lt a
  have hb:=UInt8.toNat_lt b
  simp only [core]
  rw [t6_0 _ _ _ (s6_facts (by omega)).1,t6_6 _ _ _ _ (s6_facts (by omega)).1,t6_4 _ _ _ _ (s6_facts (by omega)).1]
  rw [show ((a.toNat / 4 * 64 + (a.toNat % 4 * 16 + b.toNat / 16)) % 16 * 64 + b.toNat % 16 * 4) % 4=0 by omega]
  simp only [take6,if_true,Option.map_some]
  rw [byte_eq (a:=a) (by omega),byte_eq (a:=b) (by omega)]
 | a::b::c::r=>by
  have ha:=UInt8.toNat_lt a
  have hb:=UInt8.toNat_lt b
  have hc:=UInt8.toNat_lt c
  simp only [core]
  rw [t6_0 _ _ _ (s6_facts (by omega)).1,t6_6 _ _ _ _ (s6_facts (by omega)).1,t6_4 _ _ _ _ (s6_facts (by omega)).1,t6_2 _ _ _ _ (s6_facts (by omega)).1,take6_core r]
  simp only [Option.map_some]
  rw [byte_eq (a:=a) (by omega),byte_eq (a:=b) (by omega),byte_eq (a:=c) (by omega)]
theorem unsix_sixes (t:Bs):unsix (sixes t)=some t:=by
 unfold unsix
 have h1:trimR 61 (sixes t)=core t:=by rw [sixes_core];exact trimR_pad 61 _ _ fun x hx=>(core_no t x hx).1
 have h2:=sixes_len t
 have h3:=core_len t
 simp only [h1]
 rw [if_neg]
 ·exact take6_core t
 ·unfold pads at h3
  split at h3 <;> omega
theorem trimR_spec (c:UInt8) (l:Bs):∃ k,l=trimR c l ++ List.replicate k c:=by
 unfold trimR
 have h:∀ m:Bs,∃ k,m=List.replicate k c ++ m.dropWhile (· == c):=by
  intro m
  induction m with
  | nil=>exact ⟨0,rfl⟩
  | cons a r ih =>
   by_cases ha:(a == c)=true
   ·obtain ⟨k,hk⟩:=ih
    refine ⟨k + 1,?_⟩
    have:a=c:=by simpa using ha
    subst this
    simp only [List.dropWhile_cons,beq_self_eq_true,if_true,List.replicate_succ,List.cons_append]
    rw [← hk]
   ·refine ⟨0,?_⟩
    simp [ha]
 obtain ⟨k,hk⟩:=h l.reverse
 refine ⟨k,?_⟩
 have:=congrArg List.reverse hk
 rw [List.reverse_reverse,List.reverse_append,List.reverse_replicate] at this
 exact this
theorem take6_back:∀ (l y:Bs),l.length % 4 ≠ 1→take6 0 0 l=some y→core y=l∧pads y.length=(4 - l.length % 4) % 4
 | [],y,_,h=>by
  simp only [take6,if_true] at h
  cases h
  exact ⟨rfl,rfl⟩
 | [a],_,h1,_=>absurd rfl h1
 | [a,b],y,_,h=>by
  cases ha:v6 a with
  | none=>rw [t6_no _ _ _ _ ha] at h;cases h
  | some p =>
   rw [t6_0 _ _ _ ha] at h
   cases hb:v6 b with
   | none=>rw [t6_no _ _ _ _ hb] at h;cases h
   | some q =>
    rw [t6_6 _ _ _ _ hb] at h
    obtain ⟨hp,ep⟩:=v6_facts ha
    obtain ⟨hq,eq⟩:=v6_facts hb
    simp only [take6] at h
    split at h
    ·rename_i h0
     simp only [Option.map_some,Option.some.injEq] at h
     subst h
     have e1:(UInt8.ofNat ((p * 64 + q) / 16)).toNat=(p * 64 + q) / 16:=by rw [UInt8.toNat_ofNat'];omega
     refine ⟨?_,rfl⟩
     simp only [core,e1]
     rw [show (p * 64 + q) / 16 / 4=p by omega,show (p * 64 + q) / 16 % 4 * 16=q by omega,ep,eq]
    ·cases h
 | [a,b,c],y,_,h=>by
  cases ha:v6 a with
  | none=>rw [t6_no _ _ _ _ ha] at h;cases h
  | some p =>
   rw [t6_0 _ _ _ ha] at h
   cases hb:v6 b with
   | none=>rw [t6_no _ _ _ _ hb] at h;cases h
   | some q =>
    rw [t6_6 _ _ _ _ hb] at h
    cases hc:v6 c with
    | none=>rw [t6_no _ _ _ _ hc] at h;cases h
    | some r =>
     rw [t6_4 _ _ _ _ hc] at h
     obtain ⟨hp,ep⟩:=v6_facts ha
     obtain ⟨hq,eq⟩:=v6_facts hb
     obtain ⟨hr,er⟩:=v6_facts hc
     simp only [take6] at h
     split at h
     ·rename_i h0
      simp only [Option.map_some,Option.some.injEq] at h
      subst h
      have e1:(UInt8.ofNat ((p * 64 + q) / 16)).toNat=(p * 64 + q) / 16:=by rw [UInt8.toNat_ofNat'];omega
      have e2:(UInt8.ofNat (((p * 64 + q) % 16 * 64 + r) / 4)).toNat=((p * 64 + q) % 16 * 64 + r) / 4:=by rw [UInt8.toNat_ofNat'];omega
      refine ⟨?_,rfl⟩
      simp only [core,e1,e2]
      rw [show (p * 64 + q) / 16 / 4=p by omega,show (p * 64 + q) / 16 % 4 * 16 + ((p * 64 + q) % 16 * 64 + r) / 4 / 16=q by omega,show ((p * 64 + q) % 16 * 64 + r) / 4 % 16 * 4=r by omega,ep,eq,er]
     ·cases h
 | a::b::c::d::l,y,h1,h=>by
  cases ha:v6 a with
  | none=>rw [t6_no _ _ _ _ ha] at h;cases h
  | some p =>
   rw [t6_0 _ _ _ ha] at h
   cases hb:v6 b with
   | none=>rw [t6_no _ _ _ _ hb] at h;cases h
   | some q =>
    rw [t6_6 _ _ _ _ hb] at h
    cases hc:v6 c with
    | none=>rw [t6_no _ _ _ _ hc] at h;cases h
    | some r =>
     rw [t6_4 _ _ _ _ hc] at h
     cases hd:v6 d with
     | none=>rw [t6_no _ _ _ _ hd] at h;cases h
     | some s =>
      rw [t6_2 _ _ _ _ hd] at h
      cases hl:take6 0 0 l with
      | none=>rw [hl] at h;cases h
      | some z =>
       rw [hl] at h
       simp only [Option.map_some,Option.some.injEq] at h
       subst h
       have hlen:(a::b::c::d::l).length % 4=l.length % 4:=by simp only [List.length_cons];omega
       obtain ⟨i1,i2⟩:=take6_back l z (by rw [← hlen];exact h1) hl
       obtain ⟨hp,ep⟩:=v6_facts ha
       obtain ⟨hq,eq⟩:=v6_facts hb
       obtain ⟨hr,er⟩:=v6_facts hc
       obtain ⟨hs,es⟩:=v6_facts hd
       have e1:(UInt8.ofNat ((p * 64 + q) / 16)).toNat=(p * 64 + q) / 16:=by rw [UInt8.toNat_ofNat'];omega
       have e2:(UInt8.ofNat (((p * 64 + q) % 16 * 64 + r) / 4)).toNat=((p * 64 + q) % 16 * 64 + r) / 4:=by rw [UInt8.toNat_ofNat'];omega
       have e3:(UInt8.ofNat (((p * 64 + q) % 16 * 64 + r) % 4 * 64 + s)).toNat=((p * 64 + q) % 16 * 64 + r) % 4 * 64 + s:=by rw [UInt8.toNat_ofNat'];omega
       refine ⟨?_,?_⟩
       ·simp only [core,e1,e2,e3,i1]
        rw [show (p * 64 + q) / 16 / 4=p by omega,show (p * 64 + q) / 16 % 4 * 16 + ((p * 64 + q) % 16 * 64 + r) / 4 / 16=q by omega,show ((p * 64 + q) % 16 * 64 + r) / 4 % 16 * 4 + (((p * 64 + q) % 16 * 64 + r) % 4 * 64 + s) / 64=r by omega,show (((p * 64 + q) % 16 * 64 + r) % 4 * 64 + s) % 64=s by omega,ep,eq,er,es]
       ·rw [hlen,← i2]
        unfold pads
        simp only [List.length_cons]
        rw [show (z.length + 1 + 1 + 1) % 3=z.length % 3 by omega]
theorem sixes_unsix {s y:Bs} (h:unsix s=some y):sixes y=s:=by
 unfold unsix at h
 obtain ⟨k,hk⟩:=trimR_spec 61 s
 obtain ⟨t,ht⟩:∃ x,trimR 61 s=x:=⟨_,rfl⟩
 rw [ht] at hk
 simp only [ht] at h
 split at h
 ·cases h
 ·rename_i hc
  have hl:s.length=t.length + k:=by rw [hk];simp
  obtain ⟨h1,h2⟩:=take6_back t y (by omega) h
  rw [sixes_core,h1,h2,hk]
  congr 1
  congr 1
  omega
theorem quoted_cons (acc:Bs) (c:UInt8) (r:Bs):quoted acc (c::r)=(if plnB c=false then none
  else if c=34 then some (⟨3,0,acc,false⟩,r)
  else if c=92 then (match r with
   | d::r'=>if d=34 ∨ d=92 then quoted (acc ++ [d]) r' else none
   | []=>none)
  else quoted (acc ++ [c]) r):=by
 cases r <;> rfl
theorem parseI_cons (c:UInt8) (r:Bs):parseI (c::r)=(if digB c || c == 45 then number (c::r)
  else if headTok c then some (⟨4,0,(c::r).takeWhile inTok,false⟩,(c::r).drop ((c::r).takeWhile inTok).length)
  else if c=34 then quoted [] r
  else if c=58 then packed r
  else if c=63 then (match r with
   | d::r'=>if d=48 ∨ d=49 then some (⟨6,0,[],d == 49⟩,r') else none
   | []=>none)
  else none):=rfl
theorem quoted_esc:∀ (t acc x:Bs),t.all plnB=true→quoted acc (esc t ++ 34::x)=some (⟨3,0,acc ++ t,false⟩,x)
 | [],acc,x,_=>by
  simp only [esc,List.nil_append,List.append_nil]
  rw [quoted_cons,if_neg (by decide),if_pos rfl]
 | c::r,acc,x,h=>by
  simp only [List.all_cons,Bool.and_eq_true] at h
  have ih:=quoted_esc r (acc ++ [c]) x h.2
  rw [List.append_assoc,List.singleton_append] at ih
  simp only [esc]
  split
  ·rename_i hc
   have hc':c=34 ∨ c=92:=hc.symm
   simp only [List.cons_append]
   rw [quoted_cons]
   rw [if_neg (by decide),if_neg (by decide),if_pos rfl]
   simp only [if_pos hc']
   exact ih
  ·rename_i hc
   have h1:¬ c=34:=fun e=>hc (.inr e)
   have h2:¬ c=92:=fun e=>hc (.inl e)
   simp only [List.cons_append]
   rw [quoted_cons]
   rw [if_neg (by rw [h.1];decide),if_neg h1,if_neg h2]
   exact ih
theorem quoted_may:∀ (n:Nat) (s acc rest:Bs) (b:It),s.length ≤ n→acc.all plnB=true→quoted acc s=some (b,rest) →
  (∃ t,b=⟨3,0,t,false⟩∧t.all plnB=true)∧∃ u,s=u ++ rest∧1 ≤ u.length
 | _,[],_,_,_,_,_,h=>by cases h
 | 0,c::r,_,_,_,hn,_,_=>by simp at hn
 | n + 1,c::r,acc,rest,b,hn,ha,h=>by
  rw [quoted_cons] at h
  split at h
  ·cases h
  ·rename_i hp
   have hp:plnB c=true:=by simpa using hp
   split at h
   ·cases h
    exact ⟨⟨acc,rfl,ha⟩,[c],rfl,Nat.le_refl _⟩
   ·split at h
    ·cases r with
     | nil=>cases h
     | cons d r' =>
      simp only at h
      split at h
      ·rename_i hd
       have hd':plnB d=true:=by rcases hd with rfl | rfl <;> decide
       obtain ⟨h1,u,hu,-⟩:=quoted_may n r' (acc ++ [d]) rest b (by simp at hn;omega) (by rw [List.all_append,ha];simp [hd']) h
       exact ⟨h1,c::d::u,by rw [hu];rfl,by simp⟩
      ·cases h
    ·obtain ⟨h1,u,hu,-⟩:=quoted_may n r (acc ++ [c]) rest b (by simp at hn;omega) (by rw [List.all_append,ha];simp [hp]) h
     exact ⟨h1,c::u,by rw [hu];rfl,by simp⟩
theorem head_class {c:UInt8} (h:headTok c=true):(digB c || c == 45)=false∧inTok c=true:=by
 revert h
 have:∀ c:Fin 256,headTok (UInt8.ofNat c.1)=true→(digB (UInt8.ofNat c.1) || UInt8.ofNat c.1 == 45)=false∧inTok (UInt8.ofNat c.1)=true:=by decide +kernel
 have h:=this ⟨c.toNat,UInt8.toNat_lt c⟩
 simpa only [UInt8.ofNat_toNat] using h
theorem tok_all {t:Bs} (h:tokB t=true):∃ c r,t=c::r∧headTok c=true∧t.all inTok=true:=by
 cases t with
 | nil=>cases h
 | cons c r =>
  simp only [tokB,Bool.and_eq_true] at h
  exact ⟨c,r,rfl,h.1,by rw [List.all_cons,(head_class h.1).2,h.2];rfl⟩
theorem packed_back (t x:Bs):packed (sixes t ++ 58::x)=some (⟨5,0,t,false⟩,x):=by
 have hno:(sixes t).all (· != 58)=true:=by
  rw [List.all_eq_true]
  intro c hc
  rw [sixes_core] at hc
  rcases List.mem_append.1 hc with h | h
  ·simpa using (core_no t c h).2
  ·have:=(List.mem_replicate.1 h).2
   subst this;decide
 have htw:(sixes t ++ 58::x).takeWhile (· != 58)=sixes t:=takeWhile_app hno fun c hc=>by cases hc;decide
 unfold packed
 simp only [htw]
 rw [if_neg (by simp),unsix_sixes]
 simp
theorem dig_head {c:UInt8} (h:(digB c || c == 45)=true) (r:Bs):parseI (c::r)=number (c::r):=by
 rw [parseI_cons,if_pos h]
theorem back {b:It} (h:rightI b=true) (x:Bs) (hx:∀ c,x.head? = some c→c=44 ∨ c=59 ∨ c=32 ∨ c=41 ∨ c=40 ∨ c=9) :
  ∃ t,printI b=some t∧parseI (t ++ x)=some (b,x):=by
 have hdig:Stops digB x:=fun c hc=>by rcases hx c hc with rfl | rfl | rfl | rfl | rfl | rfl <;> decide
 have htok:Stops inTok x:=fun c hc=>by rcases hx c hc with rfl | rfl | rfl | rfl | rfl | rfl <;> decide
 have hdot:x.head? ≠ some 46:=fun hc=>by rcases hx 46 hc with h | h | h | h | h | h <;> exact absurd h (by decide)
 unfold printI
 rw [if_neg (by rw [h];decide)]
 obtain ⟨k,n,t,y⟩:=b
 unfold rightI at h
 simp only at h ⊢
 by_cases h1:k=1
 ·subst h1
  rw [if_pos (.inl rfl)] at h
  simp only [Bool.and_eq_true,decide_eq_true_eq,List.isEmpty_iff,Bool.not_eq_true'] at h
  obtain ⟨n0,n1,rfl,rfl⟩:=h
  refine ⟨itoa n,by simp,?_⟩
  have hb:=int_back n n0 n1 x hdig hdot
  have:∃ c r,itoa n ++ x=c::r∧(digB c || c == 45)=true:=by
   rw [itoa_eq]
   obtain ⟨c,r,e,hc⟩:=dec_head n.natAbs
   rw [e]
   split
   ·exact ⟨45,c::r ++ x,rfl,rfl⟩
   ·exact ⟨c,r ++ x,rfl,by rw [hc];rfl⟩
  obtain ⟨c,r,e,hc⟩:=this
  rw [e] at hb ⊢
  rw [dig_head hc,hb]
 by_cases h2:k=2
 ·subst h2
  rw [if_pos (.inr rfl)] at h
  simp only [Bool.and_eq_true,decide_eq_true_eq,List.isEmpty_iff,Bool.not_eq_true'] at h
  obtain ⟨n0,n1,rfl,rfl⟩:=h
  refine ⟨decimal n,by simp,?_⟩
  have hb:=decimal_back n n0 n1 x hdig
  have:∃ c r,decimal n ++ x=c::r∧(digB c || c == 45)=true:=by
   rw [decimal_eq]
   obtain ⟨c,r,e,hc⟩:=dec_head (n.natAbs / 1000)
   rw [e]
   split
   ·exact ⟨45,_,rfl,rfl⟩
   ·exact ⟨c,_,rfl,by rw [hc];rfl⟩
  obtain ⟨c,r,e,hc⟩:=this
  rw [e] at hb ⊢
  rw [dig_head hc,hb]
 rw [if_neg (by omega)] at h
 rw [if_neg h1,if_neg h2]
 by_cases h3:k=3
 ·subst h3
  simp only [if_pos,Bool.and_eq_true,decide_eq_true_eq,Bool.not_eq_true'] at h
  obtain ⟨rfl,rfl,ht⟩:=h
  refine ⟨_,if_pos rfl,?_⟩
  rw [List.cons_append,List.append_assoc,parseI_cons,if_neg (by decide),if_neg (by decide),if_pos rfl]
  simpa using quoted_esc t [] x ht
 rw [if_neg h3] at h ⊢
 by_cases h4:k=4
 ·subst h4
  simp only [if_pos,Bool.and_eq_true,decide_eq_true_eq,Bool.not_eq_true'] at h
  obtain ⟨rfl,rfl,ht⟩:=h
  refine ⟨t,by simp,?_⟩
  obtain ⟨c,r,rfl,hc,hall⟩:=tok_all ht
  have htw:((c::r) ++ x).takeWhile inTok=c::r:=takeWhile_app hall htok
  rw [List.cons_append] at htw ⊢
  rw [parseI_cons,if_neg (by rw [(head_class hc).1];decide),if_pos hc]
  simp only [htw]
  congr 1
  congr 1
  rw [← List.cons_append]
  exact List.drop_left
 rw [if_neg h4] at h
 by_cases h5:k=5
 ·subst h5
  simp only [if_pos,Bool.and_eq_true,decide_eq_true_eq,Bool.not_eq_true'] at h
  obtain ⟨rfl,rfl⟩:=h
  refine ⟨_,if_pos rfl,?_⟩
  rw [List.cons_append,List.append_assoc,parseI_cons,if_neg (by decide),if_neg (by decide),if_neg (by decide),if_pos rfl]
  simpa using packed_back t x
 rw [if_neg h5] at h ⊢
 by_cases h6:k=6
 ·subst h6
  simp only [if_pos,Bool.and_eq_true,decide_eq_true_eq,List.isEmpty_iff] at h
  obtain ⟨rfl,rfl⟩:=h
  refine ⟨_,if_pos rfl,?_⟩
  simp only [List.cons_append,List.nil_append]
  rw [parseI_cons,if_neg (by decide),if_neg (by decide),if_neg (by decide),if_neg (by decide),if_pos rfl]
  cases y <;> simp
 rw [if_neg h6] at h
 cases h
theorem may {s:Bs} {b:It} {rest:Bs} (h:parseI s=some (b,rest)):rightI b=true∧∃ u,s=u ++ rest∧1 ≤ u.length∧((b.kind=1 ∨ b.kind=2)→u.length ≤ 17):=by
 cases s with
 | nil=>cases h
 | cons c r =>
  rw [parseI_cons] at h
  split at h
  ·obtain ⟨h1,h2,u,hu,hu1,hu2⟩:=number_may h
   exact ⟨h1,u,hu,hu1,fun _=>hu2⟩
  split at h
  ·rename_i hd hc
   simp only [Option.some.injEq,Prod.mk.injEq] at h
   obtain ⟨rfl,rfl⟩:=h
   have ht:=take_drop_while inTok (c::r)
   have hall:=all_takeWhile inTok (c::r)
   rw [List.takeWhile_cons,if_pos (head_class hc).2] at ht hall ⊢
   refine ⟨?_,_,ht.symm,by simp,fun h=>by rcases h with h | h <;> cases h⟩
   unfold rightI
   simp only [if_pos]
   rw [if_neg (by decide),if_neg (by decide)]
   simp only [tokB,hc]
   rw [List.all_cons] at hall
   simp only [Bool.and_eq_true] at hall
   simp [hall.2]
  split at h
  ·obtain ⟨⟨t,rfl,ht⟩,u,hu,hu1⟩:=quoted_may r.length r [] rest b (Nat.le_refl _) rfl h
   refine ⟨?_,c::u,by rw [hu];rfl,by simp,fun h=>by rcases h with h | h <;> cases h⟩
   unfold rightI
   rw [if_neg (by simp),if_pos rfl,ht]
   rfl
  split at h
  ·unfold packed at h
   obtain ⟨i,hi⟩:∃ x,r.takeWhile (· != 58)=x:=⟨_,rfl⟩
   simp only [hi] at h
   split at h
   ·cases h
   ·rename_i hne
    cases hu:unsix i with
    | none=>rw [hu] at h;cases h
    | some t =>
     rw [hu] at h
     simp only [Option.map_some,Option.some.injEq,Prod.mk.injEq] at h
     obtain ⟨rfl,rfl⟩:=h
     refine ⟨by unfold rightI;simp,c::r.take (i.length + 1),?_,by simp,fun h=>by rcases h with h | h <;> cases h⟩
     rw [List.cons_append,List.take_append_drop]
  split at h
  ·cases r with
   | nil=>cases h
   | cons d r' =>
    simp only at h
    split at h
    ·simp only [Option.some.injEq,Prod.mk.injEq] at h
     obtain ⟨rfl,rfl⟩:=h
     exact ⟨by unfold rightI;simp,[c,d],rfl,by simp,fun h=>by rcases h with h | h <;> cases h⟩
    ·cases h
  ·cases h
theorem again {s:Bs} {b:It} {rest:Bs} (h:parseI s=some (b,rest)):∃ t,printI b=some t∧parseI t=some (b,[]):=by
 obtain ⟨t,h1,h2⟩:=back (may h).1 [] (fun c hc=>by cases hc)
 exact ⟨t,h1,by simpa using h2⟩
def ahead (n:Int):Bs:=(if n < 0 then [45] else []) ++ decDigits (n.natAbs / 1000)
def val4 (a b c d:UInt8):Nat:=((((v6 a).getD 0) * 64 + (v6 b).getD 0) * 64 + (v6 c).getD 0) * 64 + (v6 d).getD 0
def have4 (a b c d:UInt8):Nat:=(if (v6 a).isSome then 1 else 0) + (if (v6 b).isSome then 1 else 0) + (if (v6 c).isSome then 1 else 0) + (if (v6 d).isSome then 1 else 0)
def refOut:Bs→Option Bs
 | a::b::c::d::r =>
  if have4 a b c d < 2 then none
  else (refOut r).map (([UInt8.ofNat (val4 a b c d / 65536),UInt8.ofNat (val4 a b c d / 256 % 256),UInt8.ofNat (val4 a b c d % 256)].take (have4 a b c d - 1)) ++ ·)
 | _=>some []
def refUnsix (s:Bs):Option Bs:=match refOut s with
 | none=>none
 | some o=>if sixes o=s then some o else none
theorem v61:v6 61=none:=by decide
theorem refOut_sixes:∀ y:Bs,refOut (sixes y)=some y
 | []=>rfl
 | [a]=>by
  have ha:=UInt8.toNat_lt a
  have h1:=(s6_facts (n:=a.toNat / 4) (by omega)).1
  have h2:=(s6_facts (n:=a.toNat % 4 * 16) (by omega)).1
  have e:val4 (s6 (a.toNat / 4)) (s6 (a.toNat % 4 * 16)) 61 61 / 65536=a.toNat:=by
   unfold val4
   rw [h1,h2,v61]
   simp only [Option.getD_some,Option.getD_none]
   omega
  simp only [sixes,refOut]
  have e2:have4 (s6 (a.toNat / 4)) (s6 (a.toNat % 4 * 16)) 61 61=2:=by unfold have4;rw [h1,h2,v61];rfl
  rw [e2,e,UInt8.ofNat_toNat]
  rfl
 | [a,b]=>by
  have ha:=UInt8.toNat_lt a
  have hb:=UInt8.toNat_lt b
  have h1:=(s6_facts (n:=a.toNat / 4) (by omega)).1
  have h2:=(s6_facts (n:=a.toNat % 4 * 16 + b.toNat / 16) (by omega)).1
  have h3:=(s6_facts (n:=b.toNat % 16 * 4) (by omega)).1
  obtain ⟨v,hv⟩:∃ v,val4 (s6 (a.toNat / 4)) (s6 (a.toNat % 4 * 16 + b.toNat / 16)) (s6 (b.toNat % 16 * 4)) 61=v:=⟨_,rfl⟩
  have e:v / 65536=a.toNat∧v / 256 % 256=b.toNat:=by
   rw [← hv]
   unfold val4
   rw [h1,h2,h3,v61]
   simp only [Option.getD_some,Option.getD_none]
   omega
  have e2:have4 (s6 (a.toNat / 4)) (s6 (a.toNat % 4 * 16 + b.toNat / 16)) (s6 (b.toNat % 16 * 4)) 61=3:=by unfold have4;rw [h1,h2,h3,v61];rfl
  simp only [sixes,refOut]
  rw [e2,hv,e.1,e.2,UInt8.ofNat_toNat,UInt8.ofNat_toNat]
  rfl
 | a::b::c::r=>by
  have ha:=UInt8.toNat_lt a
  have hb:=UInt8.toNat_lt b
  have hc:=UInt8.toNat_lt c
  have h1:=(s6_facts (n:=a.toNat / 4) (by omega)).1
  have h2:=(s6_facts (n:=a.toNat % 4 * 16 + b.toNat / 16) (by omega)).1
  have h3:=(s6_facts (n:=b.toNat % 16 * 4 + c.toNat / 64) (by omega)).1
  have h4:=(s6_facts (n:=c.toNat % 64) (by omega)).1
  obtain ⟨v,hv⟩:∃ v,val4 (s6 (a.toNat / 4)) (s6 (a.toNat % 4 * 16 + b.toNat / 16)) (s6 (b.toNat % 16 * 4 + c.toNat / 64)) (s6 (c.toNat % 64))=v:=⟨_,rfl⟩
  have e:v / 65536=a.toNat∧v / 256 % 256=b.toNat∧v % 256=c.toNat:=by
   rw [← hv]
   unfold val4
   rw [h1,h2,h3,h4]
   simp only [Option.getD_some]
   omega
  have e2:have4 (s6 (a.toNat / 4)) (s6 (a.toNat % 4 * 16 + b.toNat / 16)) (s6 (b.toNat % 16 * 4 + c.toNat / 64)) (s6 (c.toNat % 64))=4:=by unfold have4;rw [h1,h2,h3,h4];rfl
  simp only [sixes,refOut]
  rw [e2,hv,e.1,e.2.1,e.2.2,UInt8.ofNat_toNat,UInt8.ofNat_toNat,UInt8.ofNat_toNat,refOut_sixes r]
  rfl
theorem refUnsix_eq (s:Bs):refUnsix s=unsix s:=by
 unfold refUnsix
 cases h:refOut s with
 | none =>
  simp only
  cases hu:unsix s with
  | none=>rfl
  | some y =>
   have:=sixes_unsix hu
   rw [← this,refOut_sixes] at h
   cases h
 | some o =>
  simp only
  split
  ·rename_i e
   rw [← e,unsix_sixes]
  ·rename_i e
   cases hu:unsix s with
   | none=>rfl
   | some y =>
    have hy:=sixes_unsix hu
    rw [← hy,refOut_sixes] at h
    cases h
    exact absurd hy e
theorem v6_index:∀ c:Fin 256,(match v6 (UInt8.ofNat c.1) with | some v=>decide (Lib.indexByte sx (UInt8.ofNat c.1)=(v:Int)) | none=>decide (Lib.indexByte sx (UInt8.ofNat c.1) = -1))=true:=by decide +kernel
theorem index_v6 (c:UInt8):Lib.indexByte sx c=(match v6 c with | some v=>(v:Int) | none=>-1):=by
 have h:=v6_index ⟨c.toNat,UInt8.toNat_lt c⟩
 simp only [UInt8.ofNat_toNat] at h
 cases hv:v6 c with
 | none=>rw [hv] at h;simpa using h
 | some v=>rw [hv] at h;simpa using h
def chunk (l:Bs):Nat × Nat:=((l.getD 0 0).toNat * 65536 + (l.getD 1 0).toNat * 256 + (l.getD 2 0).toNat,min 3 l.length)
def chunks:Bs→List (Nat × Nat)
 | a::b::c::r=>chunk (a::b::c::r)::chunks r
 | [a,b]=>[chunk [a,b]]
 | [a]=>[chunk [a]]
 | []=>[]
theorem chunks_cons:∀ {l:Bs},l ≠ []→chunks l=chunk l::chunks (l.drop 3)
 | [],h=>absurd rfl h
 | [_],_=>rfl
 | [_,_],_=>rfl
 | _::_::_::_,_=>rfl
theorem chunk_lt (l:Bs):(chunk l).1 < 16777216:=by
 unfold chunk
 have h0:=UInt8.toNat_lt (l.getD 0 0)
 have h1:=UInt8.toNat_lt (l.getD 1 0)
 have h2:=UInt8.toNat_lt (l.getD 2 0)
 simp only
 omega
def letterOf (p:Nat × Nat) (i:Nat):UInt8:=if p.2 < i then 61 else s6 (p.1 / 2 ^ (18 - 6 * i) % 64)
def four (p:Nat × Nat):Bs:=[letterOf p 0,letterOf p 1,letterOf p 2,letterOf p 3]
theorem ar0 (a:Nat) (h:a < 256):(a * 65536 + 0 * 256 + 0) / 262144 % 64=a / 4∧(a * 65536 + 0 * 256 + 0) / 4096 % 64=a % 4 * 16:=by omega
theorem ar1 (a b:Nat) (h:a < 256) (h2:b < 256):(a * 65536 + b * 256 + 0) / 262144 % 64=a / 4∧(a * 65536 + b * 256 + 0) / 4096 % 64=a % 4 * 16 + b / 16∧(a * 65536 + b * 256 + 0) / 64 % 64=b % 16 * 4:=by omega
theorem ar2 (a b c:Nat) (h:a < 256) (h2:b < 256) (h3:c < 256):(a * 65536 + b * 256 + c) / 262144 % 64=a / 4∧(a * 65536 + b * 256 + c) / 4096 % 64=a % 4 * 16 + b / 16∧(a * 65536 + b * 256 + c) / 64 % 64=b % 16 * 4 + c / 64∧(a * 65536 + b * 256 + c) / 1 % 64=c % 64:=by omega
theorem z8:(0:UInt8).toNat=0:=rfl
theorem sixes_four:∀ l:Bs,sixes l=(chunks l).flatMap four
 | []=>rfl
 | [a]=>by
  obtain ⟨e0,e1⟩:=ar0 a.toNat (UInt8.toNat_lt a)
  simp only [chunks,List.flatMap_cons,List.flatMap_nil,List.append_nil,four,letterOf,chunk,List.getD_cons_zero,List.getD_cons_succ,List.getD_nil,List.length_cons,List.length_nil,Nat.reduceMul,Nat.reduceSub,Nat.reducePow,z8,e0,e1]
  rfl
 | [a,b]=>by
  obtain ⟨e0,e1,e2⟩:=ar1 a.toNat b.toNat (UInt8.toNat_lt a) (UInt8.toNat_lt b)
  simp only [chunks,List.flatMap_cons,List.flatMap_nil,List.append_nil,four,letterOf,chunk,List.getD_cons_zero,List.getD_cons_succ,List.getD_nil,List.length_cons,List.length_nil,Nat.reduceMul,Nat.reduceSub,Nat.reducePow,z8,e0,e1,e2]
  rfl
 | a::b::c::r=>by
  obtain ⟨e0,e1,e2,e3⟩:=ar2 a.toNat b.toNat c.toNat (UInt8.toNat_lt a) (UInt8.toNat_lt b) (UInt8.toNat_lt c)
  have em:min 3 (r.length + 1 + 1 + 1)=3:=by omega
  simp only [chunks,List.flatMap_cons,four,letterOf,chunk,List.getD_cons_zero,List.getD_cons_succ,List.length_cons,Nat.reduceMul,Nat.reduceSub,Nat.reducePow,e0,e1,e2,e3,em]
  rw [← sixes_four r]
  rfl
theorem take6_few (n k:Nat) (c:UInt8) (l:Bs) (v:Nat) (h:v6 c=some v) (hk:k=0):take6 (n % 2 ^ k) k (c::l)=take6 ((n * 64 + v) % 4294967296 % 2 ^ (k + 6)) (k + 6) l:=by
 subst hk
 have hv:=(v6_facts h).1
 rw [Nat.pow_zero,Nat.mod_one,t6_0 c l v h]
 congr 1
 simp only [Nat.zero_add,Nat.reducePow]
 omega
theorem take6_more (n k:Nat) (c:UInt8) (l:Bs) (v:Nat) (h:v6 c=some v) (hk:k=2 ∨ k=4 ∨ k=6) :
  take6 (n % 2 ^ k) k (c::l)=(take6 ((n * 64 + v) % 4294967296 % 2 ^ (k - 2)) (k - 2) l).map (UInt8.ofNat ((n * 64 + v) % 4294967296 / 2 ^ (k - 2) % 256)::·):=by
 have hv:=(v6_facts h).1
 rcases hk with rfl | rfl | rfl
 ·rw [t6_2 _ c l v h]
  simp only [Nat.reduceSub,Nat.reducePow,Nat.mod_one,Nat.div_one]
  have e:(n * 64 + v) % 4294967296 % 256=n % 4 * 64 + v:=by omega
  rw [e]
 ·rw [t6_4 _ c l v h]
  simp only [Nat.reduceSub,Nat.reducePow]
  have e:(n * 64 + v) % 4294967296 / 4 % 256=(n % 16 * 64 + v) / 4:=by omega
  have e2:(n * 64 + v) % 4294967296 % 4=(n % 16 * 64 + v) % 4:=by omega
  rw [e,e2]
 ·rw [t6_6 _ c l v h]
  simp only [Nat.reduceSub,Nat.reducePow]
  have e:(n * 64 + v) % 4294967296 / 16 % 256=(n % 64 * 64 + v) / 16:=by omega
  have e2:(n * 64 + v) % 4294967296 % 16=(n % 64 * 64 + v) % 16:=by omega
  rw [e,e2]
theorem take6_end (r k:Nat):take6 r k []=if r=0 then some [] else none:=rfl
def rep1 (c:UInt8) (new l:Bs):Bs:=l.flatMap fun x=>if x=c then new else [x]
theorem rep1_none {c:UInt8} {new:Bs}:∀ {l:Bs},(∀ x ∈ l,x ≠ c)→rep1 c new l=l
 | [],_=>rfl
 | a::l,h=>by
  unfold rep1
  rw [List.flatMap_cons,if_neg (h a (by simp))]
  have:=rep1_none (c:=c) (new:=new) (l:=l) fun x hx=>h x (by simp [hx])
  unfold rep1 at this
  rw [this]
  rfl
theorem rep1_append (c:UInt8) (new a b:Bs):rep1 c new (a ++ b)=rep1 c new a ++ rep1 c new b:=by
 unfold rep1
 rw [List.flatMap_append]
theorem replace_from (c:UInt8) (new:Bs):∀ (f:Nat) (s:Bs),s.length < f→Lib.replaceK [c] new (Lib.countFrom [c] f s) s=rep1 c new s
 | 0,s,h=>by omega
 | f + 1,s,h=>by
  rw [Lib.countFrom]
  by_cases hi:Lib.index s [c] = -1
  ·rw [if_pos (by rw [hi];rfl),Lib.replaceK]
   rw [Lib.index_one] at hi
   refine (rep1_none fun x hx e=>?_).symm
   obtain ⟨k,hk⟩:=List.getElem?_of_mem hx
   exact Lib.indexByte_none hi k (by rw [hk,e])
  ·rw [if_neg (by simpa using hi)]
   have hge:=Lib.indexByte_ge s c
   rw [Lib.index_one] at hi ⊢
   obtain ⟨i,hi'⟩:∃ i:Nat,Lib.indexByte s c=i:=⟨(Lib.indexByte s c).toNat,by omega⟩
   have hidx:Lib.index s [c]=i:=by rw [Lib.index_one];exact hi'
   obtain ⟨h1,h2⟩:=Lib.indexByte_some hi'
   have hlt:=(List.getElem?_eq_some_iff.1 h1).1
   rw [hi',Nat.add_comm 1,Lib.replaceK_hit _ _ _ _ i hidx]
   simp only [List.length_cons,List.length_nil,Int.toNat_natCast]
   rw [replace_from c new f (s.drop (i + (0 + 1))) (by rw [List.length_drop];omega)]
   have hs:s=s.take i ++ (c::s.drop (i + 1)):=by
    have e:=(List.getElem?_eq_some_iff.1 h1).2
    rw [← e,← List.drop_eq_getElem_cons hlt,List.take_append_drop]
   conv=>rhs;rw [hs]
   rw [rep1_append]
   have ht:rep1 c new (s.take i)=s.take i:=rep1_none fun x hx e=>by
    obtain ⟨k,hk⟩:=List.getElem?_of_mem hx
    have hk':k < i:=by
     have:=(List.getElem?_eq_some_iff.1 hk).1
     rw [List.length_take] at this;omega
    rw [List.getElem?_take,if_pos hk'] at hk
    exact h2 k hk' (by rw [hk,e])
   rw [ht,List.append_assoc]
   congr 1
   unfold rep1
   rw [List.flatMap_cons,if_pos rfl]
theorem replaceAll_one (c:UInt8) (new s:Bs) (hne:new ≠ [c]):Lib.replaceAll s [c] new=rep1 c new s:=by
 unfold Lib.replaceAll Lib.replace Lib.replaceNum
 rw [if_neg (by simpa using fun e=>hne e.symm),if_pos (.inl (by decide))]
 unfold Lib.count
 exact replace_from c new _ s (by omega)
theorem esc_rep:∀ t:Bs,esc t=rep1 34 [92,34] (rep1 92 [92,92] t)
 | []=>rfl
 | c::r=>by
  have ih:=esc_rep r
  have e:rep1 92 [92,92] (c::r)=(if c=92 then [92,92] else [c]) ++ rep1 92 [92,92] r:=by unfold rep1;rw [List.flatMap_cons]
  rw [e,rep1_append,← ih,esc]
  by_cases h1:c=92
  ·subst h1;rfl
  ·by_cases h2:c=34
   ·subst h2;rfl
   ·rw [if_neg (by rintro (h | h);exact h1 h;exact h2 h),if_neg h1]
    have:rep1 34 [92,34] [c] = [c]:=rep1_none fun x hx=>by simp at hx;subst hx;exact h2
    rw [this];rfl
theorem rep1_len (c:UInt8) (new:Bs):∀ l:Bs,(rep1 c new l).length ≤ l.length * (new.length + 1)
 | []=>by simp [rep1]
 | a::l=>by
  have ih:=rep1_len c new l
  have e:rep1 c new (a::l)=(if a=c then new else [a]) ++ rep1 c new l:=by unfold rep1;rw [List.flatMap_cons]
  rw [e,List.length_append,List.length_cons,Nat.add_mul,Nat.one_mul]
  split <;> simp <;> omega
def padD (n least:Nat):Bs:=if n=0∧least=0 then [] else padD (n / 10) (least - 1) ++ [UInt8.ofNat (48 + n % 10)]
termination_by n + least
decreasing_by all_goals omega
theorem padD_step {n least:Nat} (h:¬ (n=0∧least=0)):padD n least=padD (n / 10) (least - 1) ++ [UInt8.ofNat (48 + n % 10)]:=by rw [padD,if_neg h]
theorem padD_done:padD 0 0 = []:=by rw [padD,if_pos ⟨rfl,rfl⟩]
theorem padD_zero (n:Nat):∀ l,l ≤ 1→(1 ≤ n ∨ l=1)→padD n l=decDigits n:=by
 induction n using Nat.strongRecOn with
 | ind n ih =>
  intro l hl h
  rw [padD_step (by omega),decDigits]
  split
  ·rename_i hn
   have e:n / 10=0:=by omega
   have e2:n % 10=n:=by omega
   have e3:l - 1=0:=by omega
   rw [e,e2,e3,padD_done];rfl
  ·rename_i hn
   rw [ih (n / 10) (by omega) (l - 1) (by omega) (.inl (by omega))]
theorem padD_three {m:Nat} (h:m < 1000):padD m 3=(decDigits (1000 + m)).drop 1:=by
 rw [dec4 m h,padD_step (by omega),padD_step (by omega),padD_step (by omega)]
 have e:m / 10 / 10 / 10=0:=by omega
 have e1:m / 10 / 10 % 10=m / 100:=by omega
 rw [e,e1,padD_done]
 rfl
def fin (l:Bs):Bs:=if (trimR 48 l).isEmpty then [48] else trimR 48 l
theorem trimR_snoc (c x:UInt8) (l:Bs):trimR c (l ++ [x])=if x=c then trimR c l else l ++ [x]:=by
 unfold trimR
 rw [List.reverse_append,List.reverse_singleton,List.singleton_append,List.dropWhile_cons]
 by_cases h:x=c
 ·subst h;simp
 ·rw [if_neg (by simpa using h),if_neg h];simp
theorem fin_step (l:Bs):fin (l ++ [48])=fin l:=by unfold fin;rw [trimR_snoc,if_pos rfl]
theorem fin_last (l:Bs) (x:UInt8) (h:x ≠ 48):fin (l ++ [x])=l ++ [x]:=by
 unfold fin;rw [trimR_snoc,if_neg h,if_neg (by simp)]
theorem fin_one (x:UInt8):fin [x] = [x]:=by
 by_cases h:x=48
 ·subst h;rfl
 ·exact fin_last [] x h
theorem decimal_fin (n:Int):decimal n=(if n < 0 then [45] else []) ++ decDigits (n.natAbs / 1000) ++ [46] ++ fin ((decDigits (1000 + n.natAbs % 1000)).drop 1):=rfl
theorem decFrom_digits:∀ (l:Bs) (acc:Nat),l.all digB=true→Lib.decFrom acc l=some (l.foldl (fun n c=>n * 10 + (c.toNat - 48)) acc)
 | [],_,_=>rfl
 | b::r,acc,h=>by
  simp only [List.all_cons,Bool.and_eq_true] at h
  have hb:=h.1
  unfold digB at hb
  simp only [Bool.and_eq_true,decide_eq_true_eq] at hb
  rw [Lib.decFrom,Lib.digitVal,if_pos hb]
  exact decFrom_digits r _ h.2
theorem atoi_digits {l:Bs} (h:l.all digB=true) (hne:l ≠ []):Lib.atoi l=some (valD l:Int):=by
 cases l with
 | nil=>exact absurd rfl hne
 | cons b r =>
  have hd:digB b=true:=by simp only [List.all_cons,Bool.and_eq_true] at h;exact h.1
  have h1:(b == 45)=false:=by simpa using (dig_ne hd).1
  have h2:(b == 43)=false:=by rw [beq_eq_false_iff_ne];rintro rfl;exact absurd hd (by decide)
  show (if (b == 45)=true then _ else if (b == 43)=true then _ else _) = _
  rw [if_neg (by simp [h1]),if_neg (by simp [h2])]
  unfold Lib.decNat
  rw [if_neg (by simp),decFrom_digits _ 0 h]
  rfl
theorem index_while (c:UInt8):∀ l:Bs,Lib.index l [c]=if (l.takeWhile (· != c)).length=l.length then -1 else ((l.takeWhile (· != c)).length:Int)
 | []=>rfl
 | b::l=>by
  rw [Lib.index_one,Lib.indexByte,List.takeWhile_cons]
  have ih:=index_while c l
  rw [Lib.index_one] at ih
  by_cases h:b=c
  ·subst h;simp
  ·have hb:(b == c)=false:=by simpa using h
   have hb2:(b != c)=true:=by simp [h]
   rw [if_neg (by simp [hb]),if_pos hb2]
   simp only [List.length_cons]
   by_cases hl:(l.takeWhile (· != c)).length=l.length
   ·rw [if_pos hl] at ih
    rw [ih,if_pos (show (l.takeWhile (· != c)).length + 1=l.length + 1 by omega)];rfl
   ·rw [if_neg hl] at ih
    have:(((l.takeWhile (· != c)).length:Int) == -1)=false:=by rw [beq_eq_false_iff_ne];omega
    rw [ih,if_neg (show ¬ (l.takeWhile (· != c)).length + 1=l.length + 1 by omega),this]
    simp
theorem takeWhile_len (p:UInt8→Bool) (l:Bs):(l.takeWhile p).length ≤ l.length:=by
 have:=congrArg List.length (take_drop_while p l)
 rw [List.length_append] at this;omega
theorem takeWhile_take (p:UInt8→Bool) (l:Bs):l.take (l.takeWhile p).length=l.takeWhile p:=by
 obtain ⟨d,hd⟩:∃ d,l.takeWhile p=d:=⟨_,rfl⟩
 have:=take_drop_while p l
 rw [hd] at this ⊢
 conv=>lhs;rw [← this]
 exact List.take_left
theorem cut_colon (l:Bs):Lib.cut l [58]=(if (l.takeWhile (· != 58)).length=l.length then (l,[],false) else (l.takeWhile (· != 58),l.drop ((l.takeWhile (· != 58)).length + 1),true)):=by
 unfold Lib.cut
 rw [index_while]
 by_cases h:(l.takeWhile (· != 58)).length=l.length
 ·rw [if_pos h,if_neg (by decide),if_pos h]
 ·rw [if_neg h,if_pos (by omega),if_neg h]
  simp only [Int.toNat_natCast,List.length_cons,List.length_nil]
  rw [takeWhile_take]
theorem while_at (p:UInt8→Bool):∀ (l:Bs) (k:Nat),k ≤ l.length→(∀ j,j < k→∀ c,l[j]? = some c→p c=true)→(∀ c,l[k]? = some c→p c=false)→(l.takeWhile p).length=k
 | [],k,hk,_,_=>by simp at hk;subst hk;rfl
 | a::l,0,_,_,h=>by
  have:=h a rfl
  rw [List.takeWhile_cons,if_neg (by rw [this];decide)];rfl
 | a::l,k + 1,hk,h1,h2=>by
  have ha:=h1 0 (by omega) a rfl
  rw [List.takeWhile_cons,if_pos ha,List.length_cons,while_at p l k (by simpa using hk) (fun j hj c hc=>h1 (j + 1) (by omega) c (by simpa using hc)) (fun c hc=>h2 c (by simpa using hc))]
end Go.Bare
namespace Go.Proofs.YtnknmmbnhoanfaaGreatDoor
open Go.RowKit Go.Shelf Go.Cs
attribute [local go_sem] Oper.semAt_some
abbrev bl (s:ByteArray):Bare.Bs:=s.data.toList
abbrev tx (l:Bare.Bs):ByteArray:=⟨l.toArray⟩
theorem bl_tx (l:Bare.Bs):bl (tx l)=l:=rfl
theorem tx_bl (s:ByteArray):tx (bl s)=s:=by
 cases s;rfl
theorem bl_len (s:ByteArray):(bl s).length=s.size:=by
 cases s;simp [ByteArray.size]
theorem tx_size (l:Bare.Bs):(tx l).size=l.length:=by
 simp [ByteArray.size]
theorem tx_inj {a b:Bare.Bs}:tx a=tx b ↔ a=b:=⟨fun h=>by rw [← bl_tx a,h,bl_tx],fun h=>by rw [h]⟩
def gb (s:ByteArray) (k:Nat):UInt8:=s.data.toList.getD k 0
theorem gb_eq (s:ByteArray) (k:Nat) (h:k < s.size):s[k]'h=gb s k:=by
 have:=Lib.data_getElem? s k h
 unfold gb
 rw [List.getD_eq_getElem?_getD,this]
 rfl
theorem gb_get (s:ByteArray) (k:Nat) (h:k < s.size):(bl s)[k]? = some (gb s k):=by
 have:=Lib.data_getElem? s k h
 rw [gb_eq s k h] at this
 exact this
theorem get_gb {s:ByteArray} {k:Nat} {c:UInt8} (h:(bl s)[k]? = some c):k < s.size∧gb s k=c:=by
 have hl:=(List.getElem?_eq_some_iff.1 h).1
 rw [bl_len] at hl
 rw [gb_get s k hl] at h
 exact ⟨hl,Option.some.inj h⟩
theorem run_idx (s:ByteArray) (k:Nat) (h:k < s.size) (w:World):(Instr.index 9 (.string s) (.int .i64 (k:Nat))).run Tryz.prog w = .ok (.int .u8 ((gb s k).toNat:Nat)) w:=by
 have e:=gb_eq s k h
 rw [← e]
 simp [go_sem,h]
theorem all_gb (s:ByteArray) (p:UInt8→Bool):((bl s).all p=true) ↔ ∀ k,k < s.size→p (gb s k)=true:=by
 rw [List.all_eq_true]
 constructor
 ·intro h k hk
  exact h _ (List.mem_of_getElem? (gb_get s k hk))
 ·intro h x hx
  obtain ⟨i,hi⟩:=List.getElem?_of_mem hx
  obtain ⟨h1,h2⟩:=get_gb hi
  rw [← h2]
  exact h i h1
def piec (s:ByteArray) (i j:Nat):ByteArray:=tx (((bl s).drop i).take (j - i))
theorem extract_piec (s:ByteArray) (i j:Nat):s.extract i j=piec s i j:=by
 apply ByteArray.ext
 unfold piec tx
 rw [ByteArray.data_extract]
 apply Array.toList_inj.1
 rw [Array.toList_extract,List.extract_eq_take_drop]
theorem piec_size (s:ByteArray) (i j:Nat) (h:j ≤ s.size):(piec s i j).size=j - i:=by
 unfold piec
 rw [tx_size,List.length_take,List.length_drop,bl_len];omega
theorem bl_piec (s:ByteArray) (i j:Nat):bl (piec s i j)=((bl s).drop i).take (j - i):=rfl
theorem piec_end (s:ByteArray) (i:Nat):piec s i s.size=tx ((bl s).drop i):=by
 unfold piec
 rw [List.take_of_length_le]
 rw [List.length_drop,bl_len];omega
theorem piec_head (s:ByteArray) (j:Nat):piec s 0 j=tx ((bl s).take j):=by
 unfold piec
 rw [List.drop_zero,Nat.sub_zero]
theorem run_sl (s:ByteArray) (i j:Nat) (h:i ≤ j) (hj:j ≤ s.size) (w:World):(Instr.slice 9 (.string s) (some (.int .i64 (i:Int))) (some (.int .i64 (j:Int))) none).run Tryz.prog w = .ok (.string (piec s i j)) w:=by
 rw [run_slice_string_if w 9 s .i64 .i64 _ _ Tryz.underlying9,if_pos (by omega),if_pos (by omega),← extract_piec]
 congr 1
theorem run_sl_l (s:ByteArray) (i:Nat) (h:i ≤ s.size) (w:World):(Instr.slice 9 (.string s) (some (.int .i64 (i:Int))) none none).run Tryz.prog w = .ok (.string (tx ((bl s).drop i))) w:=by
 rw [run_slice_string_l w 9 s Tryz.underlying9 .i64 _ (by omega) (by omega),← piec_end,← extract_piec]
 congr 1
theorem run_sl_h (s:ByteArray) (j:Nat) (h:j ≤ s.size) (w:World):(Instr.slice 9 (.string s) none (some (.int .i64 (j:Int))) none).run Tryz.prog w = .ok (.string (tx ((bl s).take j))) w:=by
 rw [run_slice_string_h w 9 s Tryz.underlying9 .i64 _ (by omega) (by omega),← piec_head,← extract_piec]
 congr 1
theorem eq_tx (a b:ByteArray):(a.toList == b.toList)=decide (bl a=bl b):=by
 rw [Lib.toList_data,Lib.toList_data,Bool.eq_iff_iff]
 simp
theorem empty_toList (s:ByteArray):s.toList.isEmpty=decide (s.size=0):=by
 rw [Lib.toList_data,← bl_len,Bool.eq_iff_iff,List.isEmpty_iff,decide_eq_true_eq,List.length_eq_zero_iff]
theorem setCell_heap {W:World} {B i:Nat} {cs:Array Value} {t:TypeId} {fr:Nat × Nat} (h:W.heap[B]? = some (.cells cs t fr)) (v:Value):(W.setCell ⟨B,i,none⟩ v).heap[B]? = some (.cells (cs.setIfInBounds i v) t fr):=by
 simp only [World.setCell,Array.getElem?_modify,if_pos,h,Option.map_some]
 simp
theorem frozen_row {W:World} {B i:Nat} {cs:Array Value} {t:TypeId} (h:W.heap[B]? = some (.cells cs t (0,0))):W.frozen? ⟨B,i,none⟩=false:=by simp [World.frozen?,h]
theorem pair_rows (w:World) (c1 c2:Array Value) (t1 t2:TypeId):∃ W B C,(w.alloc (.cells c1 t1)).alloc (.cells c2 t2)=W∧w.heap.size=B∧B + 1=C∧W.heap[B]? = some (.cells c1 t1 (0,0))∧W.heap[C]? = some (.cells c2 t2 (0,0))∧New w W∧W.heap.size=C + 1:=by
 refine ⟨_,_,_,rfl,rfl,rfl,?_,?_,(Mods.refl _ _).alloc _ |>.alloc _,by simp⟩
 ·exact ((Mods.refl (fun _=>False) (w.alloc (.cells c1 t1))).alloc (.cells c2 t2)).heap (World.alloc_heap_new w _) id
 ·have:=World.alloc_heap_new (w.alloc (.cells c1 t1)) (.cells c2 t2)
  simpa using this
def PredB (g:Nat) (lb:Array Value) (p:UInt8→Bool):Prop:=∀ (c:UInt8) (w:World),Calls Tryz.prog g (#[.int .u8 (c.toNat:Nat)] ++ lb) w fun e w'=>e = .returned (.bool (p c))∧w'=w
end Go.Proofs.YtnknmmbnhoanfaaGreatDoor
namespace Go.Proofs.YtnknmmbnhoanfaaGreatDoor

open Go.RowKit Go.Shelf Go.Cs
attribute [local go_sem] Oper.semAt_some
theorem digit_fact (n:Nat) (h:n < 256):decide (((n:Int) - 48) % 256 < 10)=(decide (48 ≤ n) && decide (n ≤ 57)):=by
 rw [Bool.eq_iff_iff]
 simp only [decide_eq_true_eq,Bool.and_eq_true]
 omega
theorem digit_p:PredB 50 #[] Bare.digB:=by
 intro c w
 unfold Bare.digB
 have hlt:=UInt8.toNat_lt c
 obtain ⟨n,hn⟩:∃ n,c.toNat=n:=⟨_,rfl⟩
 rw [hn] at hlt ⊢
 clear hn
 go_enter Tryz.func50,Tryz.ntmps50
 go_wp2_with fail
 go_ret
 exact ⟨congrArg (fun b=>Ending.returned (.bool b)) (digit_fact n hlt),rfl⟩
theorem letter_facts:∀ k:Fin 256,(decide (97 ≤ (bits BinOp.or IntKind.u8 ((k.1:Nat):Int) 32)) && decide ((bits BinOp.or IntKind.u8 ((k.1:Nat):Int) 32) ≤ 122))=Bare.letB (UInt8.ofNat k.1)∧0 ≤ (bits BinOp.or IntKind.u8 ((k.1:Nat):Int) 32):=by decide +kernel
theorem letter_p:PredB 52 #[] Bare.letB:=by
 intro c w
 have hlt:=UInt8.toNat_lt c
 have hf:=letter_facts ⟨c.toNat,hlt⟩
 rw [show UInt8.ofNat c.toNat=c from UInt8.ofNat_toNat] at hf
 obtain ⟨r,hr⟩:∃ r,Bare.letB c=r:=⟨_,rfl⟩
 rw [hr] at hf ⊢
 obtain ⟨n,hn⟩:∃ n,c.toNat=n:=⟨_,rfl⟩
 simp only [hn] at hf ⊢
 obtain ⟨m,hm⟩:∃ m,bits BinOp.or IntKind.u8 (n:Int) 32=m:=⟨_,rfl⟩
 rw [hm] at hf
 clear hn hr hlt
 by_cases h1:97 ≤ m
 ·have d1:decide (97 ≤ m)=true:=decide_eq_true h1
  have hf:=hf.1
  rw [d1,Bool.true_and] at hf
  go_enter Tryz.func52,Tryz.ntmps52
  go_wp2_with fail
  go_ret
  exact ⟨rfl,rfl⟩
 ·have d1:decide (97 ≤ m)=false:=decide_eq_false h1
  have hf:=hf.1
  rw [d1,Bool.false_and] at hf
  subst hf
  go_enter Tryz.func52,Tryz.ntmps52
  go_wp2_with fail
  go_ret
  exact ⟨rfl,rfl⟩
theorem plain_p:PredB 110 #[] Bare.plnB:=by
 intro c w
 unfold Bare.plnB
 obtain ⟨n,hn⟩:∃ n,c.toNat=n:=⟨_,rfl⟩
 rw [hn]
 clear hn
 by_cases h1:32 ≤ n
 ·by_cases h2:n ≤ 126
  ·go_enter Tryz.func110,Tryz.ntmps110
   go_wp2_with fail
   go_ret
   exact ⟨by simp [h1,h2];try omega,rfl⟩
  ·go_enter Tryz.func110,Tryz.ntmps110
   go_wp2_with fail
   go_ret
   exact ⟨by simp [h1,h2];try omega,rfl⟩
 ·go_enter Tryz.func110,Tryz.ntmps110
  go_wp2_with fail
  go_ret
  exact ⟨by simp [show ¬ 32 ≤ n from h1],rfl⟩
def tokAt (k:Nat) (c:UInt8):Bool:=if k=0 then Bare.headTok c else Bare.inTok c
theorem tok_bad (k:Nat) (c:UInt8):(!Bare.letB c && (!(c == 42) && (k == 0 || (!Bare.digB c && !Bare.marks.contains c)))) = !tokAt k c:=by
 have h42:c=42→Bare.marks.contains c=true:=by rintro rfl;decide
 unfold tokAt Bare.headTok Bare.inTok
 by_cases hk:k=0
 ·subst hk;cases Bare.letB c <;> cases h:(c == 42) <;> simp
 ·rw [if_neg hk]
  have:(k == 0)=false:=by simpa using hk
  rw [this]
  cases h:(c == 42) with
  | true=>rw [h42 (by simpa using h)];cases Bare.letB c <;> cases Bare.digB c <;> rfl
  | false=>cases Bare.letB c <;> cases Bare.digB c <;> cases Bare.marks.contains c <;> rfl
theorem tokB_at (l:Bare.Bs):Bare.tokB l=true ↔ l ≠ []∧∀ k c,l[k]? = some c→tokAt k c=true:=by
 cases l with
 | nil=>simp [Bare.tokB]
 | cons a r =>
  simp only [Bare.tokB,Bool.and_eq_true]
  constructor
  ·rintro ⟨h1,h2⟩
   refine ⟨by simp,fun k c hk=>?_⟩
   cases k with
   | zero=>simp at hk;subst hk;exact h1
   | succ k =>
    rw [List.getElem?_cons_succ] at hk
    exact List.all_eq_true.1 h2 c (List.mem_of_getElem? hk)
  ·rintro ⟨-,h⟩
   refine ⟨h 0 a rfl,List.all_eq_true.2 fun c hc=>?_⟩
   obtain ⟨i,hi⟩:=List.getElem?_of_mem hc
   exact h (i + 1) c (by simpa using hi)
end Go.Proofs.YtnknmmbnhoanfaaGreatDoor
