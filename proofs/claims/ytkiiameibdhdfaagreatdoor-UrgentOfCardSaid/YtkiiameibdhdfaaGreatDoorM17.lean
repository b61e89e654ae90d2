/- Regions that draw, inside a round: what yields one value in every world that meets S goes first; S is shown anew behind each operation. -/
import Derived.Test.YtkiiameibdhdfaaGreatDoorM00
import Derived.Test.YtkiiameibdhdfaaGreatDoorM15
import Derived.Test.YtkiiameibdhdfaaGreatDoorM16
import Derived.Test.YtkiiameibdhdfaaGreatDoorM06
import Derived.Test.YtkiiameibdhdfaaGreatDoorM11
import Derived.Test.YtkiiameibdhdfaaGreatDoorM12
import Derived.OrdersHeld
set_option linter.unusedSimpArgs false
set_option linter.unusedVariables false
namespace Go.Cs
open Go.RowKit
set_option linter.unusedVariables false
variable {P : Program} {ops : Array Oper} {Q : Exit → Act → World → Prop} {md : Region.Mode} {r : Option Nat} {S : World → Prop}
def SureIf (P : Program) (ops : Array Oper) (S : World → Prop) (o : Oper) (v : Value) (a : Act) : Prop := ∀ w, S w → YieldsAt P ops w o v a
theorem SureIf.of_same {o : Oper} {v : Value} {a a' : Act} (hy : SureIf P ops S o v a) (he : execOp a'.eval o = execOp a.eval o)
    (hw : Region.wanted o (yielded ops a'.tmps) = Region.wanted o (yielded ops a.tmps)) : SureIf P ops S o v a' := fun w h => (hy w h).of_same he hw
theorem SureIf.opIn {i : Nat} {o : Oper} {v : Value} {a : Act} (hp : plainOp o = true) (hi : ops[i]? = some o) (hy : SureIf P ops S o v a)
    {K : Act → World → Prop} {w : World} (hS : S w) (h : K (a.put o.dst v) w) : wpOpIn (Fr r) 0 P ops Q i K a w := by
  unfold Go.wpOpIn
  simp only [hi]
  rcases hy w hS with ⟨hw, hv⟩ | ⟨hw, rfl⟩
  · simp only [hw, if_true, Oper.wpIn, semAt_plain hp]
    refine ⟨fun _ _ => trivial, ?_⟩
    rcases hv with hv | ⟨hv, rfl⟩ | ⟨f, args, hv, hc⟩
    · rw [hv]; exact h
    · rw [hv]; exact h
    · rw [hv]
      refine ⟨fun h => by simp [Fence.wide] at h, (callsIn_wide (n := 0)).2 (hc.mono ?_)⟩
      rintro e w' ⟨rfl, rfl⟩
      exact h
  · simp only [hw, Bool.false_eq_true, if_false]; exact ⟨fun _ _ => trivial, h⟩

theorem opIn_putS {j : Nat} {oi oj : Oper} {v : Value} (hj : ops[j]? = some oj) (hap : oi.apart ops oj = true) (hpi : plainOp oi = true) (hpj : plainOp oj = true)
    (hQ : ∀ c a w, Q (.panic c) (a.put oi.dst v) w → Q (.panic c) a w) {K : Act → World → Prop} {a : Act} {w : World}
    (hy : SureIf P ops S oi v a) (h : wpOpIn (Fr r) 0 P ops Q j K (a.put oi.dst v) w) :
    wpOpIn (Fr r) 0 P ops Q j (fun a' w' => SureIf P ops S oi v a' ∧ K (a'.put oi.dst v) w') a w := by
  obtain ⟨h1, h2, h3⟩ := Oper.apart_spec hap
  have hsi := plainOp_sel hpi
  have hsj := plainOp_sel hpj
  have keep : ∀ (a : Act), SureIf P ops S oi v a → ∀ u, SureIf P ops S oi v (a.put oj.dst u) := fun a hy u =>
    hy.of_same (execOp_put oi hsi a oj.dst u h3) (wanted_put oi a oj.dst u h3)
  have keepD : ∀ d, SureIf P ops S oi v { a with defers := d :: a.defers } := fun d => hy.of_same rfl rfl
  unfold wpOpIn at *
  simp only [hj] at *
  rw [wanted_put oj a oi.dst v h1, about_put oj w a oi.dst v h1] at h
  split
  · rename_i hw
    simp only [hw, if_true] at h
    unfold Oper.wpIn at *
    rw [about_put oj w a oi.dst v h1] at h
    refine ⟨h.1, ?_⟩
    have h := h.2
    rw [semAt_plain hpj, execOp_put oj hsj a oi.dst v h1] at h
    rw [semAt_plain hpj]
    generalize (execOp a.eval oj).run P w = r at *
    cases r with
    | ok x w' =>
      cases x <;> simp only [Oper.uponIn] at h ⊢
      case value u => exact ⟨keep a hy u, by rw [← Act.put_comm a v u h2]; exact h⟩
      case skip => exact ⟨keep a hy _, by rw [← Act.put_comm a v undef h2]; exact h⟩
      case defer d =>
        refine ⟨keep _ (keepD d) _, ?_⟩
        rw [← Act.put_comm _ v undef h2, ← Act.put_defers]
        exact h
      case enter f args =>
        refine ⟨h.1, CallsIn.mono h.2 fun e w'' he => ?_⟩
        cases e with
        | returned u => exact ⟨keep a hy u, by rw [← Act.put_comm a v u h2]; exact he⟩
        | panicked c => exact hQ _ _ _ he
        | outgrown => exact he
      case row row args => exact ⟨h.1, RowsIn.mono h.2 fun u w'' he => ⟨keep a hy u, by rw [← Act.put_comm a v u h2]; exact he⟩⟩
      case round l f tmps assign body =>
        refine ⟨h.1, RoundIn.mono h.2 fun e w'' he => ?_⟩
        cases e with
        | returned u => exact ⟨keep a hy u, by rw [← Act.put_comm a v u h2]; exact he⟩
        | panicked c => exact hQ _ _ _ he
        | outgrown => exact he
    | halt x w' =>
      cases x <;> simp only [Oper.uponIn] at h ⊢
      case panic u => exact hQ _ _ _ h
  · rename_i hw
    simp only [hw] at h
    exact ⟨h.1, keep a hy _, by rw [← Act.put_comm a v undef h2]; exact h.2⟩


/-- Whatever order is picked, and S holds behind every operation. -/
def wpAnyHI (r : Option Nat) (P : Program) (md : Region.Mode) (ops : Array Oper) (Q : Exit → Act → World → Prop) (S : World → Prop) : Nat → Array Bool → Act → World → Prop
  | 0, listed, a, w => Region.ready md ops listed = [] ∧ Q .normal a w
  | fuel + 1, listed, a, w =>
    (Region.ready md ops listed = [] → Q .normal a w) ∧
    ∀ i ∈ Region.ready md ops listed, wpOpIn (Fr r) 0 P ops Q i (fun a' w' => S w' ∧ wpAnyHI r P md ops Q S fuel (listed.setIfInBounds i true) a' w') a w
theorem anyIn_of_held : ∀ (fuel : Nat) (listed : Array Bool) (a : Act) (w : World), wpAnyHI r P md ops Q S fuel listed a w → wpAnyIn (Fr r) 0 P md ops Q fuel listed a w
  | 0, _, _, _, h => h
  | fuel + 1, _, _, _, h => ⟨h.1, fun i hi => wpOpIn_mono (fun a' w' h' => anyIn_of_held fuel _ a' w' h'.2) (h.2 i hi)⟩
theorem anyHI_first {i : Nat} {oi : Oper} {v : Value} (hi : ops[i]? = some oi) (hpl : ∀ (j : Nat) (o : Oper), ops[j]? = some o → plainOp o = true)
    (hQ : ∀ c a w, Q (.panic c) (a.put oi.dst v) w → Q (.panic c) a w) :
    ∀ (fuel : Nat) (listed : Array Bool) (a : Act) (w : World),
      (∀ j oj, ops[j]? = some oj → j ≠ i → listed.getD j true = false → (∀ e ∈ oj.after, Region.binds md e = true → e.on ≠ i) → oi.apart ops oj = true) →
      i ∈ Region.ready md ops listed → SureIf P ops S oi v a → S w →
      wpAnyHI r P md ops Q S fuel (listed.setIfInBounds i true) (a.put oi.dst v) w → wpAnyHI r P md ops Q S (fuel + 1) listed a w := by
  intro fuel
  induction fuel with
  | zero =>
    intro listed a w _ hr hy hS H
    refine ⟨fun h => (by rw [h] at hr; cases hr), fun j hj => ?_⟩
    by_cases hji : j = i
    · subst hji; exact hy.opIn (hpl _ _ hi) hi hS ⟨hS, H⟩
    · have := ready_mono hj hji
      rw [H.1] at this
      cases this
  | succ fuel ih =>
    intro listed a w hfree hr hy hS H
    refine ⟨fun h => (by rw [h] at hr; cases hr), fun j hj => ?_⟩
    by_cases hji : j = i
    · subst hji; exact hy.opIn (hpl _ _ hi) hi hS ⟨hS, H⟩
    · have h1 := H.2 j (ready_mono hj hji)
      obtain ⟨hjun, oj, hoj, hall⟩ := mem_ready.1 hj
      have hnot : ∀ e ∈ oj.after, Region.binds md e = true → e.on ≠ i := fun e he hb heq => by
        have h1 := hall e he hb
        have h0 := (mem_ready.1 hr).1
        rw [heq] at h1
        rcases Nat.lt_or_ge i listed.size with h' | h'
        · simp [h'] at h0 h1; rw [h0] at h1; cases h1
        · simp [Array.getElem?_eq_none h'] at h1
      have h2 := opIn_putS hoj (hfree j oj hoj hji hjun hnot) (hpl i oi hi) (hpl j oj hoj) hQ hy h1
      have hfree' : ∀ k ok, ops[k]? = some ok → k ≠ i → (listed.setIfInBounds j true).getD k true = false →
          (∀ e ∈ ok.after, Region.binds md e = true → e.on ≠ i) → oi.apart ops ok = true := fun k ok hk hki hun hno => by
        refine hfree k ok hk hki ?_ hno
        by_cases hjk : j = k
        · subst hjk; exact hjun
        · rw [getD_set_ne true hjk] at hun; exact hun
      refine wpOpIn_mono (fun a' w' h3 => ⟨h3.2.1, ih (listed.setIfInBounds j true) a' w' hfree' (ready_mono hr (Ne.symm hji)) h3.1 h3.2.1 ?_⟩) h2
      rw [Array.setIfInBounds_comm _ _ hji]
      exact h3.2.2
/-- An operation that yields v in every world that meets S goes first. -/
theorem anyHI_take (i : Nat) {oi : Oper} (d : Option Tmp) (v : Value) {fuel : Nat} {listed : Array Bool} {a : Act} {w : World} (hi : ops[i]? = some oi) (hd : oi.dst = d)
    (hpl : ops.all plainOp = true) (hf : Region.free md ops listed i = true) (hr : (Region.ready md ops listed).contains i = true)
    (hQ : ∀ c a w, Q (.panic c) (a.put d v) w → Q (.panic c) a w) (hy : SureIf P ops S oi v a) (hS : S w)
    (h : wpAnyHI r P md ops Q S fuel (listed.setIfInBounds i true) (a.put d v) w) : wpAnyHI r P md ops Q S (fuel + 1) listed a w := by
  subst hd
  exact anyHI_first hi (fun j o hj => by
    rw [Array.all_eq_true] at hpl
    obtain ⟨hlt, rfl⟩ := Array.getElem?_eq_some_iff.1 hj
    exact hpl j hlt) hQ fuel listed a w (Region.free_spec hi hf) (by simpa using hr) hy hS h
theorem anyHI_all {rs : List Nat} {fuel : Nat} {listed : Array Bool} {a : Act} {w : World} (hr : Region.ready md ops listed = rs) (hne : rs ≠ [])
    (h : ∀ i ∈ rs, wpOpIn (Fr r) 0 P ops Q i (fun a' w' => S w' ∧ wpAnyHI r P md ops Q S fuel (listed.setIfInBounds i true) a' w') a w) : wpAnyHI r P md ops Q S (fuel + 1) listed a w :=
  ⟨fun h0 => absurd (hr ▸ h0) hne, hr ▸ h⟩
theorem anyHI_done {listed : Array Bool} {a : Act} {w : World} (hr : Region.ready md ops listed = []) (h : Q .normal a w) :
    ∀ fuel, wpAnyHI r P md ops Q S fuel listed a w
  | 0 => ⟨hr, h⟩
  | _ + 1 => ⟨fun _ => h, by rw [hr]; simp⟩
theorem wpIn_region_held {id : Nat} {a : Act} {w : World} (S : World → Prop) (hm : P.follows .mixedOrders = true)
    (h : wpAnyHI r P .any ops Q S ops.size (Array.replicate ops.size false) a w.drew) : (Code.region id ops true).wpIn (Fr r) 0 P Q a w :=
  wpIn_region_any hm (anyIn_of_held _ _ _ _ h)
/-- A value, reckoned. -/
theorem SureIf.value {o : Oper} {v : Value} {a : Act} (hg : o.guard = none) (h : ∀ w, S w → (execOp a.eval o).run P w = .ok (.value v) w) : SureIf P ops S o v a :=
  fun w hS => .inl ⟨by simp [Region.wanted, hg], .inl (h w hS)⟩
theorem SureIf.value_g {o : Oper} {v : Value} {a : Act} (hg : Region.wanted o (yielded ops a.tmps) = true) (h : ∀ w, S w → (execOp a.eval o).run P w = .ok (.value v) w) : SureIf P ops S o v a :=
  fun w hS => .inl ⟨hg, .inl (h w hS)⟩
theorem SureIf.skip {o : Oper} {a : Act} (hg : Region.wanted o (yielded ops a.tmps) = false) : SureIf P ops S o undef a :=
  fun w hS => .inr ⟨hg, rfl⟩
theorem opIn_callS {r : Option Nat} {i : Nat} {o : Oper} (d : Option Tmp) {a : Act} {w : World} {K : Act → World → Prop} (hp : plainOp o = true) (hi : ops[i]? = some o) (hg : Region.wanted o (yielded ops a.tmps) = true) (hd : o.dst = d)
    (f : FuncId) (args : Array Value) (h : (execOp a.eval o).run P w = .ok (.enter f args) w) (hc : Calls P f args w fun e w' => ∃ v, e = .returned v ∧ K (a.put d v) w') : wpOpIn (Fr r) 0 P ops Q i K a w := by
  subst hd
  unfold Go.wpOpIn
  simp only [hi, hg, if_true, Oper.wpIn, semAt_plain hp, h]
  refine ⟨fun _ _ => trivial, fun h => by simp [Fence.wide] at h, (callsIn_wide (n := 0)).2 (hc.mono ?_)⟩
  rintro e w' ⟨v, rfl, hk⟩
  exact hk
end Go.Cs
/- A range over a function whose values are a known list, its round told whole (the assignments write memory, too). -/
namespace Go.Cs
open Go.RowKit
variable {P : Program}
theorem wp_rangeListA {g : Operand} {ps : Array Tmp} {assign body : Code} {Q : Exit → Act → World → Prop} {a : Act} {w : World}
    {gf : Nat} {lb : Array Value} (hg : a.eval g = .func (.func gf) #[] lb) (eg : ∀ args w, (callFunc gf args).run P w = .ok (.enter gf args) w)
    (L : List (Array Value)) (S : Nat → Prop) (hit : ∀ W, New w W → IterAt P gf lb L S W) (hps : ∀ x ∈ L, x.size = ps.size)
    (I : Nat → World → Prop) (Ix : Code → Nat → World → Prop) (hI : ∀ k, Stab w.heap.size (I k)) (hIx : ∀ c k, Stab w.heap.size (Ix c k)) (h0 : I 0 w)
    (hround : ∀ (l k : Nat) (x : Array Value) (W : World), L[k]? = some x → w.heap.size ≤ l → (∃ r, W.heap[l]? = some (.loop r)) → I k W →
      assign.wpIn (Fr (some l)) 0 P (Exit.then (fun a1 W1 => Mods S W W1 ∧ ∀ W2, Quiet w.heap.size W1 W2 → (∃ r, W2.heap[l]? = some (.loop r)) → body.wpIn (Fr (some l)) 0 P (roundQ S I Ix (k + 1) W2) a1 W2) (fun _ _ _ => False))
        { tmps := (ps.zip x).foldl (fun t (p, v) => t.setIfInBounds p v) a.tmps, defers := [] } W)
    (hdone : ∀ W, I L.length W → W.heap[w.heap.size]? = some (.deferred (some [])) → Q .normal { a with defers := { target := .collected w.heap.size, args := #[] } :: a.defers } W)
    (hstop : ∀ c k W, k ≤ L.length → Ix c k W → W.heap[w.heap.size]? = some (.deferred (some [])) → c.wp P Q { a with defers := { target := .collected w.heap.size, args := #[] } :: a.defers } W) :
    (Code.rangeFunc g ps assign body).wp P Q a w := by
  refine (wpIn_wide (n := 0)).1 ?_
  refine rangeList_core (P := P) none hg eg L S hit hps (w.alloc (.deferred (some []))) ((Mods.refl _ _).alloc _) [{ target := .collected w.heap.size, args := #[] }] w.heap.size ?_ I Ix hI hIx h0 hround ?_ ?_
  · intro fn
    rw [World.size_alloc]
    exact run_enterLoop_outer _ _ _ _ _
  · intro W hi ho
    exact hdone W hi (ho _ _ (World.alloc_heap_new w _) rfl)
  · intro c k W hk hi ho
    exact (wpIn_wide (n := 0)).2 (hstop c k W hk hi (ho _ _ (World.alloc_heap_new w _) rfl))
end Go.Cs
/- A dictionary's priority (the program). -/
namespace Go.Proofs.YtkiiameibdhdfaaGreatDoor
open Go.RowKit Go.Shelf Go.Cs
attribute [local go_sem] Oper.semAt_some
set_option linter.unusedVariables false
set_option linter.unusedSimpArgs false
def enc2 (p : Nat × Bare.It) : Array Value := #[k1 .u8 p.1, bv p.2]
def hL (d : List Bare.Mem) : List (Nat × Bare.It) := (List.range 2).filterMap fun i => (Bare.heard d (kb i)).map fun b => (kc i, b)
theorem heard_list (d : List Bare.Mem) : heardL d 2 = (hL d).map enc2 := by
  unfold heardL hL
  rw [List.map_filterMap]
  congr 1
  funext i
  unfold heardG
  cases Bare.heard d (kb i) <;> rfl
def stP (s : Int × Bool) (p : Nat × Bare.It) : Int × Bool := if p.1 = 117 then (cntU p.2 s.1, s.2) else (s.1, cntI p.2)
theorem st_end (d : List Bare.Mem) : (hL d).foldl stP (3, false) = (Bare.urgOf d, Bare.incOf d) := by
  have e : hL d = ((Bare.heard d [117]).map fun b => (117, b)).toList ++ ((Bare.heard d [105]).map fun b => (105, b)).toList := by
    unfold hL
    rw [show List.range 2 = [0, 1] from rfl]
    simp only [List.filterMap_cons, List.filterMap_nil]
    rw [show kb 0 = [117] from rfl, show kb 1 = [105] from rfl, show kc 0 = 117 from rfl, show kc 1 = 105 from rfl]
    cases Bare.heard d [117] <;> cases Bare.heard d [105] <;> rfl
  rw [e]
  unfold Bare.urgOf Bare.incOf
  cases Bare.heard d [117] <;> cases Bare.heard d [105] <;> simp [stP, cntU, cntI]
theorem hL_key {d : List Bare.Mem} {p : Nat × Bare.It} (h : p ∈ hL d) : (p.1 = 117 ∧ Bare.heard d [117] = some p.2) ∨ (p.1 = 105 ∧ Bare.heard d [105] = some p.2) := by
  unfold hL at h
  rw [List.mem_filterMap] at h
  obtain ⟨i, hi, he⟩ := h
  rw [List.mem_range] at hi
  obtain rfl | rfl : i = 0 ∨ i = 1 := by omega
  · cases hb : Bare.heard d (kb 0) with
    | none => rw [hb] at he; cases he
    | some b => rw [hb] at he; cases he; exact .inl ⟨rfl, hb⟩
  · cases hb : Bare.heard d (kb 1) with
    | none => rw [hb] at he; cases he
    | some b => rw [hb] at he; cases he; exact .inr ⟨rfl, hb⟩
theorem zero_fn (W : World) : (zeroValue 129).run Tryz.prog W = .ok .nilFunc W := by go_simp
theorem lit17 (t : Array Value) (h : t.size = 17) : ∃ u : Nat → Value, t = (u 0 :: u 1 :: u 2 :: u 3 :: u 4 :: u 5 :: u 6 :: u 7 :: u 8 :: u 9 :: u 10 :: u 11 :: u 12 :: u 13 :: u 14 :: u 15 :: u 16 :: ([] : List Value)).toArray := ⟨fun i => t.getD i undef, range_lit t 17 h⟩
noncomputable def reg_urgent_Of_5 : Code := ((Tryz.f40.body.bind (regionOf 5)).getD .skip)
set_option maxHeartbeats 4000000 in
set_option maxRecDepth 100000 in
theorem of5 (t : Array Value) (hs : t.size = 17) (w : World) {B C D : Nat} {fid : FuncId} {c u u' q n : Int} {i i' y : Bool} {s : ByteArray} {r : Option Nat}
    (hq3 : t.getD 3 undef = .pointer (some ⟨B, 0, none⟩))
    (hq4 : t.getD 4 undef = .pointer (some ⟨C, 0, none⟩))
    (hq5 : t.getD 5 undef = .pointer (some ⟨D, 0, none⟩))
    (rP : w.heap[B]? = some (.cells #[.int .u8 u, .bool i] 31 (0, 0))) (k0 : w.cell? ⟨C, 0, none⟩ = some (.int .u8 c))
    (h0 : w.cell? ⟨D, 0, none⟩ = some (.int .u8 q)) (h1 : w.cell? ⟨D, 1, none⟩ = some (.int .i64 n)) (h2 : w.cell? ⟨D, 2, none⟩ = some (.string s)) (h3 : w.cell? ⟨D, 3, none⟩ = some (.bool y))
    (hCB : ¬ C = B) (hDB : ¬ D = B) (eg : ∀ args w, (callFunc fid args).run Tryz.prog w = .ok (.enter fid args) w) (hcf : cntF c = some (.func (.func fid) #[] #[]))
    (HC : Hid (∀ W : World, W.heap[B]? = some (.cells #[.int .u8 u, .bool i] 31 (0, 0)) → Calls Tryz.prog fid #[.pointer (some ⟨B, 0, none⟩), .agg #[.int .u8 q, .int .i64 n, .string s, .bool y]] W fun e w' => (∃ v, e = .returned v) ∧ w'.heap[B]? = some (.cells #[.int .u8 u', .bool i'] 31 (0, 0)) ∧ Mods (fun x => x = B) W w')) :
    reg_urgent_Of_5.wpIn (Fr r) 0 Tryz.prog (Only fun a' W' => (a'.tmps.size = 17 ∧ a'.defers = [] ∧ a'.tmps.getD 3 undef = .pointer (some ⟨B, 0, none⟩) ∧ a'.tmps.getD 4 undef = .pointer (some ⟨C, 0, none⟩) ∧ a'.tmps.getD 5 undef = .pointer (some ⟨D, 0, none⟩)) ∧ W'.heap[B]? = some (.cells #[.int .u8 u', .bool i'] 31 (0, 0)) ∧ Mods (fun x => x = B) w W') ⟨t, []⟩ w := by
  conv => arg 4; whnf
  obtain ⟨u, rfl⟩ := lit17 t hs
  have hq3 : u 3 = .pointer (some ⟨B, 0, none⟩) := hq3
  have hq4 : u 4 = .pointer (some ⟨C, 0, none⟩) := hq4
  have hq5 : u 5 = .pointer (some ⟨D, 0, none⟩) := hq5
  rw [hq3, hq4, hq5]
  clear hq3 hq4 hq5 hs
  refine wpIn_region_held (fun W => Mods (fun x => x = B) w W) (by kernel_rfl) ?_
  show wpAnyHI _ _ _ _ _ _ 5 _ _ w.drew
  have hS : Mods (fun x => x = B) w w.drew := (Mods.refl _ _).drew
  have hN : New w w.drew := (Mods.refl _ _).drew
  refine anyHI_take 1 (some 12) (.agg #[.int .u8 c]) rfl rfl (by kernel_rfl) (by kernel_rfl) (by kernel_rfl) (fun _ _ _ h => h.elim) (.value rfl fun W hW => by have q1 := (show Mods (fun x => x = B) w W from hW).cell k0 hCB; go_simp) hS ?_
  simp only [Act.put, List.setIfInBounds_toArray, List.set_cons_succ, List.set_cons_zero]
  refine anyHI_take 3 (some 14) (.agg #[.int .u8 q, .int .i64 n, .string s, .bool y]) rfl rfl (by kernel_rfl) (by kernel_rfl) (by kernel_rfl) (fun _ _ _ h => h.elim) (.value rfl fun W hW => by have q0 := (show Mods (fun x => x = B) w W from hW).cell h0 hDB; have q1 := (show Mods (fun x => x = B) w W from hW).cell h1 hDB; have q2 := (show Mods (fun x => x = B) w W from hW).cell h2 hDB; have q3 := (show Mods (fun x => x = B) w W from hW).cell h3 hDB; go_simp) hS ?_
  simp only [Act.put, List.setIfInBounds_toArray, List.set_cons_succ, List.set_cons_zero]
  refine anyHI_all (rs := [0]) (by kernel_rfl) (by simp) ?_
  simp only [List.mem_cons, List.not_mem_nil, or_false, forall_eq]
  refine opIn_callS (some 11) rfl rfl (by rfl) rfl 88 #[] (by go_simp) ((counts_any _).mono ?_)
  rintro e w1 ⟨M, rfl, hM, hN1⟩
  have hN : New w w1 := hN.trans hN1
  have hS : Mods (fun x => x = B) w w1 := Mods.ofNew hN
  refine ⟨_, rfl, hS, ?_⟩
  simp only [Act.put, List.setIfInBounds_toArray, List.set_cons_succ, List.set_cons_zero]
  refine anyHI_all (rs := [2]) (by kernel_rfl) (by simp) ?_
  simp only [List.mem_cons, List.not_mem_nil, or_false, forall_eq]
  have hk := MapFn.look keyB1 Tryz.underlying130 (zero_fn w1) hM c false
  rw [hcf] at hk
  have hk2 : (Instr.lookup 130 (.map (some M)) (.agg #[.int .u8 c]) false).run Tryz.prog w1 = .ok (.func (.func fid) #[] #[]) w1 := hk
  refine opIn_value (some 13) (v := .func (.func fid) #[] #[]) (w' := w1) rfl rfl rfl rfl (by go_simp) ?_
  refine ⟨hS, ?_⟩
  simp only [Act.put, List.setIfInBounds_toArray, List.set_cons_succ, List.set_cons_zero]
  refine anyHI_all (rs := [4]) (by kernel_rfl) (by simp) ?_
  simp only [List.mem_cons, List.not_mem_nil, or_false, forall_eq]
  refine opIn_callS (some 15) rfl rfl (by rfl) rfl fid #[.pointer (some ⟨B, 0, none⟩), .agg #[.int .u8 q, .int .i64 n, .string s, .bool y]] (by go_simp) ((HC.out w1 (hN.heap rP id)).mono ?_)
  rintro e w2 ⟨⟨v, rfl⟩, hp2, hm2⟩
  have hS := hS.trans hm2
  refine ⟨_, rfl, hS, ?_⟩
  simp only [Act.put, List.setIfInBounds_toArray, List.set_cons_succ, List.set_cons_zero]
  refine anyHI_done (by kernel_rfl) ?_ _
  exact ⟨⟨rfl, rfl, rfl, rfl, rfl⟩, hp2, hS⟩
set_option maxHeartbeats 2000000 in
set_option maxRecDepth 100000 in
theorem of_any {τ : Bool} (v : Value) (d : List Bare.Mem) (w : World) (hd : RdD τ w v d) (hf : ∀ m ∈ d, Fits m) (hi : ∀ b, Bare.heard d [117] = some b → ItI b) :
    Calls Tryz.prog 40 #[v] w fun e w' => e = .returned (prV (Bare.urgOf d) (Bare.incOf d)) ∧ New w w' := by
  obtain ⟨ao, cap, rfl⟩ := hd.slice
  have HD := Lib.hid hd
  have HFt := Lib.hid hf
  clear hd hf
  obtain ⟨n, hn⟩ : ∃ n, d.length = n := ⟨_, rfl⟩
  have Hn := Lib.hid hn
  rw [hn] at HD ⊢
  clear hn
  refine calls_of_marks Tryz.func40 rfl ?_
  simp only [Tryz.ntmps40, List.size_toArray, List.length_cons, List.length_nil, Nat.reduceAdd, Nat.reduceSub, Array.replicate_succ, Array.replicate_zero, List.push_toArray, List.append_toArray, List.nil_append, List.cons_append]
  have HH := Lib.hid (fun W => heard_any (.slice ao n cap) ⟨_, _, _, rfl⟩ W)
  have hN0 : New w (w.alloc (.cells #[.int .u8 0, .bool false] 31)) := (Mods.refl _ _).alloc _
  have r0 := World.alloc_heap_new w (.cells #[.int .u8 0, .bool false] 31)
  go_wp2_with fail
  refine (first_u _).mono ?_
  rintro e w1 ⟨rfl, hN1⟩
  unfold prV
  replace r0 := hN1.heap r0 id
  replace hN0 := hN0.trans hN1
  obtain ⟨R, hR⟩ : ∃ b, w.heap.size = b := ⟨_, rfl⟩
  rw [hR] at r0 ⊢
  have hRl : R < w1.heap.size := (Array.getElem?_eq_some_iff.1 r0).1
  go_upto_region 2 with fail
  have hA : New w1 (w1.alloc (.cells #[.int .u8 3, .bool false] 31)) := (Mods.refl _ _).alloc _
  have rP := World.alloc_heap_new w1 (.cells #[.int .u8 3, .bool false] 31)
  obtain ⟨w2, hw2⟩ : ∃ W, w1.alloc (.cells #[.int .u8 3, .bool false] 31) = W := ⟨_, rfl⟩
  obtain ⟨P, hP⟩ : ∃ b, w1.heap.size = b := ⟨_, rfl⟩
  rw [hw2] at hA rP ⊢
  have hwP : w.heap.size ≤ P := by rw [← hP]; exact hN0.size
  rw [hP] at rP hRl ⊢
  replace r0 := hA.heap r0 id
  replace hN0 := hN0.trans hA
  have hlt : P < w2.heap.size := (Array.getElem?_eq_some_iff.1 rP).1
  clear hw2 hP hA hN1
  go_wp2_with (go_at_call 87; refine (HH.out _).mono ?_; rintro e w3 ⟨rfl, hw3⟩)
  have hA : New w2 w3 := by rw [← hw3]; exact (Mods.refl _ _).alloc _
  have rB : Boxed w3 w2.heap.size 51 (.slice ao n cap) := by rw [← hw3]; exact Boxed.new w2 _ _
  obtain ⟨B, hB⟩ : ∃ b, w2.heap.size = b := ⟨_, rfl⟩
  rw [hB] at rB hlt ⊢
  replace rP := hA.heap rP id
  replace r0 := hA.heap r0 id
  replace hN0 := hN0.trans hA
  clear hw3 hB hA HH
  have hwB : w.heap.size ≤ B := by omega
  have hB3 : B < w3.heap.size := (Array.getElem?_eq_some_iff.1 rB).1
  refine wp_rangeListA (gf := 135) (lb := #[.pointer (some ⟨B, 0, none⟩)]) rfl (enters_of Tryz.func135 (by kernel_rfl) rfl) ((hL d).map enc2) (fun b => b = P)
    (fun W hW => by
      rw [← heard_list]
      exact heard_iter B _ d w HD.out HFt.out _ W (hN0.trans hW) (hW.boxed rB id) (by omega) (fun b hb => by have := hW.size; omega)) ?hps
    (fun k W => W.heap[P]? = some (.cells #[.int .u8 (((hL d).take k).foldl stP (3, false)).1, .bool (((hL d).take k).foldl stP (3, false)).2] 31 (0, 0)) ∧ Mods (fun b => b = P) w3 W)
    (fun c k W => False) ?hI (fun c k => .pure _) ⟨rP, .refl _ _⟩ ?round ?done (fun c k W hk hf => hf.elim)
  case hps =>
    intro x hx
    obtain ⟨p, _, rfl⟩ := List.mem_map.1 hx
    rfl
  case hI => exact fun k W W' h q => ⟨q.block P _ h.1 (.inr rfl), Stab.mods (Nat.le_refl _) _ _ h.2 q⟩
  case round =>
    rintro l k x W hx hl hlr ⟨rPk, hm⟩
    rw [List.getElem?_map] at hx
    obtain ⟨⟨c, b⟩, hp, rfl⟩ := Option.map_eq_some_iff.1 hx
    have hkey := hL_key (List.mem_of_getElem? hp)
    have hfold : ((hL d).take (k + 1)).foldl stP (3, false) = stP (((hL d).take k).foldl stP (3, false)) (c, b) := by
      rw [List.take_add_one, hp]; simp
    obtain ⟨⟨u, i⟩, hst⟩ : ∃ s, ((hL d).take k).foldl stP (3, false) = s := ⟨_, rfl⟩
    rw [hst] at rPk hfold
    have HFold := Lib.hid hfold
    clear hx hp hfold hst
    simp only at hkey rPk
    have hcl : ∃ fid, (∀ args w, (callFunc fid args).run Tryz.prog w = .ok (.enter fid args) w) ∧ cntF (c : Int) = some (.func (.func fid) #[] #[]) ∧ ∀ W : World, W.heap[P]? = some (.cells #[.int .u8 u, .bool i] 31 (0, 0)) → Calls Tryz.prog fid #[.pointer (some ⟨P, 0, none⟩), bv b] W fun e w' => (∃ v, e = .returned v) ∧ w'.heap[P]? = some (.cells #[.int .u8 (stP (u, i) (c, b)).1, .bool (stP (u, i) (c, b)).2] 31 (0, 0)) ∧ Mods (fun x => x = P) W w' := by
      rcases hkey with ⟨rfl, hh⟩ | ⟨rfl, hh⟩
      · exact ⟨136, enters_of Tryz.func136 (by kernel_rfl) rfl, cntF_u, fun W hW => counts_u P b u i (hi b hh) W hW⟩
      · exact ⟨137, enters_of Tryz.func137 (by kernel_rfl) rfl, cntF_i, fun W hW => counts_i P b u i W hW⟩
    obtain ⟨fid, hent, hcf, hcl⟩ := hcl
    have HC := Lib.hid hcl
    have HE := Lib.hid hent
    clear hkey hcl hent
    obtain ⟨⟨u', i'⟩, hst⟩ : ∃ s, stP (u, i) (c, b) = s := ⟨_, rfl⟩
    rw [hst] at HC HFold
    clear hst
    obtain ⟨q, nn, t, y⟩ := b
    unfold enc2 k1
    unfold bv bcs at HC ⊢
    simp only at HC ⊢
    obtain ⟨s, hs⟩ : ∃ s, tx t = s := ⟨_, rfl⟩
    rw [hs] at HC ⊢
    clear hs
    have hA1 : New W (W.alloc (.cells #[.int .u8 c] 128)) := (Mods.refl _ _).alloc _
    have r4 := World.alloc_heap_new W (.cells #[.int .u8 c] 128)
    have hlW : P < W.heap.size := (Array.getElem?_eq_some_iff.1 rPk).1
    gi_upto_region 4 with fail
    obtain ⟨V1, hV1⟩ : ∃ V, W.alloc (.cells #[.int .u8 c] 128) = V := ⟨_, rfl⟩
    obtain ⟨C, hC⟩ : ∃ b, W.heap.size = b := ⟨_, rfl⟩
    rw [hV1] at hA1 r4 ⊢
    rw [hC] at r4 hlW ⊢
    have hA2 : New V1 (V1.alloc (.cells #[.int .u8 q, .int .i64 nn, .string s, .bool y] 66)) := (Mods.refl _ _).alloc _
    have r5 := World.alloc_heap_new V1 (.cells #[.int .u8 q, .int .i64 nn, .string s, .bool y] 66)
    gi_wp2_with fail
    obtain ⟨V2, hV2⟩ : ∃ V, V1.alloc (.cells #[.int .u8 q, .int .i64 nn, .string s, .bool y] 66) = V := ⟨_, rfl⟩
    have hlD : P < V1.heap.size := by have := hA1.size; omega
    obtain ⟨D, hD⟩ : ∃ b, V1.heap.size = b := ⟨_, rfl⟩
    rw [hV2] at hA2 r5 ⊢
    rw [hD] at r5 hlD ⊢
    replace r4 := hA2.heap r4 id
    have hmV : Mods (fun b => b = P) W V2 := Mods.ofNew (hA1.trans hA2)
    replace rPk := (hA1.trans hA2).heap rPk id
    refine ⟨hmV, fun V3 hq hlr3 => ?_⟩
    clear hV1 hC hV2 hD hA1 hA2
    replace r4 := hq.block C _ r4 (.inr rfl)
    replace r5 := hq.block D _ r5 (.inr rfl)
    replace rPk := hq.block P _ rPk (.inr rfl)
    have k0 := cell_of_row _ _ 0 _ _ _ r4
    have h0 := cell_of_row _ _ 0 _ _ _ r5
    have h1 := cell_of_row _ _ 1 _ _ _ r5
    have h2 := cell_of_row _ _ 2 _ _ _ r5
    have h3 := cell_of_row _ _ 3 _ _ _ r5
    simp only [List.getElem?_toArray, List.getElem?_cons_succ, List.getElem?_cons_zero] at k0 h0 h1 h2 h3
    have hm3 := Stab.mods (Nat.le_refl _) _ _ (hm.trans hmV) hq
    have hCP : ¬ C = P := by omega
    have hDP : ¬ D = P := by omega
    clear r4 r5 hq hlr3 hlr hm hmV
    refine wpIn_block ?_
    refine wpIn_mono (of5 _ rfl V3 rfl rfl rfl rPk k0 h0 h1 h2 h3 hCP hDP HE.out hcf HC) ?_
    rintro e a' W' he
    cases e <;> try exact he.elim
    obtain ⟨-, hp, hm4⟩ := he
    exact ⟨hm4, by show W'.heap[P]? = _; rw [HFold.out]; exact hp, hm3.trans hm4⟩
  case done =>
    rintro W ⟨rPk, hm⟩ hDf
    rw [List.length_map, List.take_length, st_end] at rPk
    simp only at rPk
    have hRP : ¬ R = P := by omega
    have rR := hm.heap r0 hRP
    have hDR : ¬ w3.heap.size = R := by have := (Array.getElem?_eq_some_iff.1 r0).1; omega
    have hRR : ¬ R = w3.heap.size := fun e => hDR e.symm
    have hN3 : New w W := ((Mods.ofNew hN0).trans hm).new (by rintro b rfl; exact hwP)
    obtain ⟨u, hu⟩ : ∃ u, Bare.urgOf d = u := ⟨_, rfl⟩
    obtain ⟨i, hi'⟩ : ∃ u, Bare.incOf d = u := ⟨_, rfl⟩
    rw [hu, hi'] at rPk
    have Hu := Lib.hid hu
    have Hi := Lib.hid hi'
    clear hu hi'
    have hD3 : w.heap.size ≤ w3.heap.size := by omega
    obtain ⟨D, hD⟩ : ∃ b, w3.heap.size = b := ⟨_, rfl⟩
    rw [hD] at hDf hDR hRR hD3 ⊢
    simp only [Exit.inBlock, Exit.then]
    go_wp2_with (first | (refine op_value rfl (run_load_row 31 (.tmp 3) rfl P rfl 31 _ (0, 0) _ rPk Tryz.underlying31 rfl sizePr) ?_) | (refine op_skip rfl (run_store_row 31 (.tmp 2) (.tmp 16) rfl R rfl 31 [.int .u8 0, .bool false] [.int .u8 u, .bool i] rfl rR sizePr rfl (by simp [Value.oneCell'])) ?_))
    have hrow := setRow_heap W R _ #[.int .u8 u, .bool i] _ _ rR
    have hDf2 := (mods_setRow rR #[.int .u8 u, .bool i]).heap hDf hDR
    have hrow2 : ((W.setRow R #[.int .u8 u, .bool i]).putObj D (.deferred none)).heap[R]? = some (.cells #[.int .u8 u, .bool i] 31 (0, 0)) := (World.putObj_heap_other hRR).trans hrow
    refine marks_one rfl hDf2 (v := .agg #[.int .u8 u, .bool i]) (results_cell_row rfl _ _ R 31 _ (0, 0) _ rfl hrow2 Tryz.underlying31 rfl sizePr) ?_
    exact ⟨by rw [Hu.out, Hi.out]; rfl, (hN3.setRow (by omega) _).putObj hD3 _⟩
end Go.Proofs.YtkiiameibdhdfaaGreatDoor
/- Sizes of what is parsed, plainly. -/
namespace Go.Proofs.YtkiiameibdhdfaaGreatDoor
set_option linter.unusedVariables false
set_option linter.unusedSimpArgs false
theorem quoted_txt : ∀ (n : Nat) (s acc rest : Bare.Bs) (b : Bare.It), s.length ≤ n → Bare.quoted acc s = some (b, rest) → b.text.length ≤ acc.length + s.length
  | _, [], _, _, _, _, h => by cases h
  | 0, c :: r, _, _, _, hn, _ => by simp at hn
  | n + 1, c :: r, acc, rest, b, hn, h => by
    rw [Bare.quoted_cons] at h
    split at h
    · cases h
    · split at h
      · cases h
        simp
      · split at h
        · cases r with
          | nil => cases h
          | cons d r' =>
            simp only at h
            split at h
            · have := quoted_txt n r' (acc ++ [d]) rest b (by simp at hn; omega) h
              simp at this ⊢
              omega
            · cases h
        · have := quoted_txt n r (acc ++ [c]) rest b (by simp at hn; omega) h
          simp at this ⊢
          omega
theorem number_txt {s rest : Bare.Bs} {b : Bare.It} (h : Bare.number s = some (b, rest)) : b.text = [] := by
  unfold Bare.number at h
  simp only at h
  split at h
  · split at h
    · cases h
    · split at h
      · cases h; rfl
      · split at h
        · cases h
        · cases h; rfl
  · split at h
    · cases h
    · split at h
      · cases h; rfl
      · split at h
        · cases h
        · cases h; rfl
theorem unsix_ln {l t : Bare.Bs} (h : Bare.unsix l = some t) : t.length ≤ l.length := by
  have := Bare.sixes_len t
  rw [Bare.sixes_unsix h] at this
  omega
theorem parse_txt {s rest : Bare.Bs} {b : Bare.It} (h : Bare.parseI s = some (b, rest)) : b.text.length ≤ s.length := by
  cases s with
  | nil => cases h
  | cons c r =>
    rw [Bare.parseI_cons] at h
    split at h
    · rw [number_txt h]; simp
    split at h
    · simp only [Option.some.injEq, Prod.mk.injEq] at h
      obtain ⟨rfl, rfl⟩ := h
      exact Bare.takeWhile_len _ _
    split at h
    · have := quoted_txt r.length r [] rest b (Nat.le_refl _) h
      simp at this ⊢
      omega
    split at h
    · unfold Bare.packed at h
      have hl := Bare.takeWhile_len (· != 58) r
      obtain ⟨i, hi⟩ : ∃ x, r.takeWhile (· != 58) = x := ⟨_, rfl⟩
      rw [hi] at hl
      simp only [hi] at h
      split at h
      · cases h
      · cases hu : Bare.unsix i with
        | none => rw [hu] at h; cases h
        | some t =>
          rw [hu] at h
          simp only [Option.map_some, Option.some.injEq, Prod.mk.injEq] at h
          obtain ⟨rfl, rfl⟩ := h
          have := unsix_ln hu
          simp
          omega
    split at h
    · cases r with
      | nil => cases h
      | cons d r' =>
        simp only at h
        split at h
        · simp only [Option.some.injEq, Prod.mk.injEq] at h
          obtain ⟨rfl, rfl⟩ := h
          simp
        · cases h
    · cases h

def SzP (n : Nat) (ps : List Bare.Par) : Prop := ps.length ≤ n ∧ ∀ p ∈ ps, p.key.length ≤ n ∧ p.bare.text.length ≤ n
def SzX (n : Nat) (x : Bare.Itm) : Prop := x.bare.text.length ≤ n ∧ SzP n x.params
def SzM (n : Nat) (m : Bare.Mem) : Prop := m.key.length ≤ n ∧ m.items.length ≤ n ∧ SzP n m.params ∧ ∀ x ∈ m.items, SzX n x
def SzD (n : Nat) (d : List Bare.Mem) : Prop := d.length ≤ n ∧ ∀ m ∈ d, SzM n m
theorem readKey_txt {s k r : Bare.Bs} (h : Bare.readKey s = some (k, r)) : k.length ≤ s.length := by
  unfold Bare.readKey at h
  simp only at h
  split at h
  · cases h
  · cases h
    cases s with
    | nil => simp [Bare.keyOf]
    | cons c l =>
      show (if Bare.smlB c then c :: l.takeWhile Bare.inKey else []).length ≤ _
      split
      · have := Bare.takeWhile_len Bare.inKey l
        simp
        omega
      · simp
theorem readVal_txt {s r : Bare.Bs} {b : Bare.It} (h : Bare.readVal s = some (b, r)) : b.text.length ≤ s.length := by
  unfold Bare.readVal at h
  split at h
  · have := parse_txt h
    simp
    omega
  · cases h; simp [Bare.yesI]
theorem setP_sz (l : List Bare.Par) (p : Bare.Par) : (Bare.setP l p).length ≤ l.length + 1 ∧ ∀ q ∈ Bare.setP l p, q ∈ l ∨ q = p := by
  unfold Bare.setP
  split
  · refine ⟨by simp, fun q hq => ?_⟩
    obtain ⟨x, hx, e⟩ := List.mem_map.1 hq
    split at e
    · exact .inr e.symm
    · exact .inl (e ▸ hx)
  · exact ⟨by simp, fun q hq => by simpa [or_comm] using hq⟩
theorem setM_sz (l : List Bare.Mem) (p : Bare.Mem) : (Bare.setM l p).length ≤ l.length + 1 ∧ ∀ q ∈ Bare.setM l p, q ∈ l ∨ q = p := by
  unfold Bare.setM
  split
  · refine ⟨by simp, fun q hq => ?_⟩
    obtain ⟨x, hx, e⟩ := List.mem_map.1 hq
    split at e
    · exact .inr e.symm
    · exact .inl (e ▸ hx)
  · exact ⟨by simp, fun q hq => by simpa [or_comm] using hq⟩
theorem readParams_sz (N : Nat) : ∀ (n : Nat) (s : Bare.Bs) (l ps : List Bare.Par) (r : Bare.Bs), s.length ≤ n → s.length ≤ N → (∀ p ∈ l, p.key.length ≤ N ∧ p.bare.text.length ≤ N) → Bare.readParams l s = some (ps, r) →
    ps.length + r.length ≤ l.length + s.length ∧ ∀ p ∈ ps, p.key.length ≤ N ∧ p.bare.text.length ≤ N := by
  intro n
  induction n with
  | zero =>
    intro s l ps r hn hN hl h
    have : s = [] := List.length_eq_zero_iff.1 (by omega)
    subst this
    rw [Bare.readParams_end l [] (by simp)] at h
    cases h; exact ⟨Nat.le_refl _, hl⟩
  | succ n ih =>
    intro s l ps r hn hN hl h
    rw [Bare.readParams.eq_def] at h
    split at h
    · rename_i r0
      split at h
      · cases h
      · rename_i k r1 h1
        split at h
        · cases h
        · rename_i b r2 h2
          have a1 := Bare.readKey_len h1
          have a2 := Bare.readVal_len h2
          have a3 := Bare.skip_len [32] r0
          have t1 := readKey_txt h1
          have t2 := readVal_txt h2
          simp only [List.length_cons] at hn hN
          obtain ⟨s1, s2⟩ := setP_sz l ⟨k, b⟩
          obtain ⟨i1, i2⟩ := ih r2 _ ps r (by omega) (by omega) (fun p hp => by
            rcases s2 p hp with hp | rfl
            · exact hl p hp
            · exact ⟨by show k.length ≤ N; omega, by show b.text.length ≤ N; omega⟩) h
          exact ⟨by simp only [List.length_cons]; omega, i2⟩
    · cases h; exact ⟨Nat.le_refl _, hl⟩
theorem readParams_nil (N : Nat) {s r : Bare.Bs} {ps : List Bare.Par} (hN : s.length ≤ N) (h : Bare.readParams [] s = some (ps, r)) : SzP N ps := by
  obtain ⟨h1, h2⟩ := readParams_sz N _ s [] ps r (Nat.le_refl _) hN (fun p hp => by cases hp) h
  simp at h1
  exact ⟨by omega, h2⟩
theorem readItem_sz (N : Nat) {s r : Bare.Bs} {x : Bare.Itm} (hN : s.length ≤ N) (h : Bare.readItem s = some (x, r)) : SzX N x := by
  unfold Bare.readItem at h
  split at h
  · cases h
  · rename_i b r1 h1
    split at h
    · cases h
    · rename_i ps r2 h2
      cases h
      have t1 := parse_txt h1
      have a1 := Bare.parseI_len h1
      exact ⟨by show b.text.length ≤ N; omega, readParams_nil N (by omega) h2⟩
theorem readInner_sz (N : Nat) : ∀ (n : Nat) (s : Bare.Bs) (l ps : List Bare.Itm) (r : Bare.Bs), s.length ≤ n → s.length ≤ N → (∀ x ∈ l, SzX N x) → Bare.readInner l s = some (ps, r) →
    ps.length + r.length ≤ l.length + s.length ∧ ∀ x ∈ ps, SzX N x := by
  intro n
  induction n with
  | zero =>
    intro s l ps r hn hN hl h
    have : s = [] := List.length_eq_zero_iff.1 (by omega)
    subst this
    rw [Bare.readInner.eq_def] at h
    simp [Bare.skipB, Bare.readItem, Bare.parseI] at h
  | succ n ih =>
    intro s l ps r hn hN hl h
    have a2 := Bare.skip_len [32] s
    rw [Bare.readInner.eq_def] at h
    split at h
    · rename_i r0 h0
      cases h
      rw [h0] at a2
      simp only [List.length_cons] at a2
      exact ⟨by omega, hl⟩
    · split at h
      · cases h
      · rename_i x r1 h1
        have a1 := Bare.readItem_len h1
        have b1 := readItem_sz N (by omega) h1
        split at h
        · obtain ⟨i1, i2⟩ := ih r1 _ ps r (by omega) (by omega) (fun y hy => by
            rcases List.mem_append.1 hy with hy | hy
            · exact hl y hy
            · rw [List.mem_singleton] at hy; exact hy ▸ b1) h
          rw [List.length_append] at i1
          simp only [List.length_singleton] at i1
          exact ⟨by omega, i2⟩
        · cases h
theorem readMem_sz (N : Nat) {s r : Bare.Bs} {m : Bare.Mem} (h1 : 1 ≤ N) (hN : s.length ≤ N) (h : Bare.readMem s = some (m, r)) : SzM N m := by
  unfold Bare.readMem at h
  split at h
  · cases h
  · rename_i k r0 h0
    have a0 := Bare.readKey_len h0
    have t0 := readKey_txt h0
    unfold Bare.readRest at h
    split at h
    · rename_i r1
      split at h
      · cases h
      · rename_i items r2 h2
        split at h
        · cases h
        · rename_i ps r3 h3
          cases h
          simp only [List.length_cons] at a0
          obtain ⟨i1, i2⟩ := readInner_sz N _ r1 [] items r2 (Nat.le_refl _) (by omega) (fun x hx => by cases hx) h2
          simp at i1
          exact ⟨by show k.length ≤ N; omega, by show items.length ≤ N; omega, readParams_nil N (by omega) h3, i2⟩
    · rename_i r1 _
      split at h
      · cases h
      · rename_i x r2 h2
        cases h
        simp only [List.length_cons] at a0
        refine ⟨by show k.length ≤ N; omega, by show 1 ≤ N; omega, ⟨Nat.zero_le _, fun p hp => by cases hp⟩, fun y hy => ?_⟩
        rw [List.mem_singleton] at hy
        exact hy ▸ readItem_sz N (by omega) h2
    · split at h
      · cases h
      · rename_i ps r2 h2
        cases h
        refine ⟨by show k.length ≤ N; omega, by show 1 ≤ N; omega, ⟨Nat.zero_le _, fun p hp => by cases hp⟩, fun y hy => ?_⟩
        rw [List.mem_singleton] at hy
        exact hy ▸ ⟨by simp [Bare.yesI], readParams_nil N (by omega) h2⟩
theorem readD_sz (N : Nat) (h1 : 1 ≤ N) : ∀ (n : Nat) (s : Bare.Bs) (d e : List Bare.Mem), s.length ≤ n → s.length ≤ N → (∀ m ∈ d, SzM N m) → Bare.readD d s = some e → e.length ≤ d.length + s.length ∧ ∀ m ∈ e, SzM N m := by
  intro n
  induction n with
  | zero =>
    intro s d e hn hN hd h
    have : s = [] := List.length_eq_zero_iff.1 (by omega)
    subst this
    rw [Bare.readD.eq_def] at h
    cases h; exact ⟨Nat.le_refl _, hd⟩
  | succ n ih =>
    intro s d e hn hN hd h
    rw [Bare.readD.eq_def] at h
    split at h
    · cases h; exact ⟨Nat.le_refl _, hd⟩
    · rename_i c l
      split at h
      · cases h
      · rename_i m r h2
        have hm := readMem_sz N h1 hN h2
        have a1 := Bare.readMem_len h2
        obtain ⟨s1, s2⟩ := setM_sz d m
        have hset : ∀ q ∈ Bare.setM d m, SzM N q := fun q hq => by
          rcases s2 q hq with hq | rfl
          · exact hd q hq
          · exact hm
        split at h
        · cases h
          simp only [List.length_cons] at a1 ⊢
          exact ⟨by omega, hset⟩
        · split at h
          · rename_i r2 h3
            simp only at h
            split at h
            · cases h
            · have a2 := Bare.skip_len [32, 9] r
              rw [h3] at a2
              have a3 := Bare.skip_len [32, 9] r2
              simp only [List.length_cons] at a1 a2 hn hN
              obtain ⟨i1, i2⟩ := ih _ _ e (by omega) (by omega) hset h
              exact ⟨by simp only [List.length_cons]; omega, i2⟩
          · cases h
theorem parse_sz {N : Nat} {s : Bare.Bs} {d : List Bare.Mem} (h1 : 1 ≤ N) (hN : s.length ≤ N) (h : Bare.parseD s = some d) : SzD N d := by
  unfold Bare.parseD at h
  have a1 := Bare.skip_len [32] s
  have a2 : (Bare.trimR 32 (Bare.skipB [32] s)).length ≤ (Bare.skipB [32] s).length := by
    have : ∀ l : Bare.Bs, (Bare.trimR 32 l).length ≤ l.length := fun l => by
      unfold Bare.trimR
      simp only [List.length_reverse]
      have := Bare.drop_len (fun x => x == 32) l.reverse
      simp at this
      exact this
    exact this _
  obtain ⟨i1, i2⟩ := readD_sz N h1 _ _ [] d (Nat.le_refl _) (by omega) (fun m hm => by cases hm) h
  simp at i1
  exact ⟨by omega, i2⟩
end Go.Proofs.YtkiiameibdhdfaaGreatDoor
/- A text's priority (the program). -/
namespace Go.Proofs.YtkiiameibdhdfaaGreatDoor
open Go.RowKit Go.Shelf Go.Cs
attribute [local go_sem] Oper.semAt_some
set_option linter.unusedVariables false
set_option linter.unusedSimpArgs false
theorem fits_of_sz {n : Nat} {d : List Bare.Mem} (hn : n ≤ 1000000) (h : SzD n d) : ∀ m ∈ d, Fits m := fun m hm => by
  obtain ⟨-, h2, h3, h4⟩ := h.2 m hm
  refine ⟨by omega, by have := h3.1; omega, fun i hi => ?_⟩
  have := (h4 _ (getD_mem (d := Bare.noI) hi)).2.1
  omega
theorem int_right {b : Bare.It} (h : Bare.rightI b = true) : ItI b := by
  unfold Bare.rightI Bare.most at h
  unfold ItI
  split at h
  · simp at h; omega
  · have : b.int = 0 := by
      split at h
      · simp at h; exact h.1
      · split at h
        · simp at h; exact h.1
        · split at h
          · simp at h; exact h.1
          · split at h
            · simp at h; exact h.1
            · cases h
    omega
theorem heard_right {d : List Bare.Mem} (h : Bare.rightD d = true) {k : Bare.Bs} {b : Bare.It} (hb : Bare.heard d k = some b) : Bare.rightI b = true := by
  unfold Bare.heard at hb
  split at hb
  · rename_i m hm
    split at hb
    · rename_i hc
      cases hb
      have hmm := List.mem_of_find?_eq_some hm
      have hd := (Bool.and_eq_true_iff.1 h).2
      have hM := List.all_eq_true.1 hd m hmm
      obtain ⟨-, -, -, hi⟩ := Bare.mem_parts hM
      have hx := List.all_eq_true.1 hi (m.items.headD Bare.noI) (by
        cases hl : m.items with
        | nil => rw [hl] at hc; exact absurd hc.2 (by decide)
        | cons x r => simp)
      exact (Bare.item_parts hx).1
    · cases hb
  · cases hb
set_option maxHeartbeats 2000000 in
theorem read_u (s : ByteArray) (w : World) (hs : s.size ≤ 1000000) (hT : Tab w) :
    Calls Tryz.prog 38 #[.string s] w fun e w' => (e = match Bare.parseD (bl s) with
      | some d => .returned (.tuple #[prV (Bare.urgOf d) (Bare.incOf d), .bool true])
      | none => .returned (.tuple #[prV 3 false, .bool false])) ∧ New w w' := by
  have hN0 : New w (w.alloc (.cells #[.int .u8 0, .bool false] 31)) := (Mods.refl _ _).alloc _
  have r0 := World.alloc_heap_new w (.cells #[.int .u8 0, .bool false] 31)
  have H1 := Lib.hid (fun W (hN : New w W) => parse_d s W hs (hT.new hN))
  have hsz : (bl s).length = s.size := bl_len s
  obtain ⟨E, hE⟩ : ∃ E : Ending, (match Bare.parseD (bl s) with
      | some d => .returned (.tuple #[prV (Bare.urgOf d) (Bare.incOf d), .bool true])
      | none => .returned (.tuple #[prV 3 false, .bool false])) = E := ⟨_, rfl⟩
  rw [hE]
  have HE := Lib.hid hE
  clear hE
  go_enter Tryz.func38, Tryz.ntmps38
  go_upto_region 1 with fail
  obtain ⟨w1, hw1⟩ : ∃ W, w.alloc (.cells #[.int .u8 0, .bool false] 31) = W := ⟨_, rfl⟩
  obtain ⟨R, hR⟩ : ∃ b, w.heap.size = b := ⟨_, rfl⟩
  have hwR : w.heap.size ≤ R := by omega
  rw [hw1] at hN0 r0 ⊢
  rw [hR] at r0 ⊢
  clear hw1 hR
  cases hp : Bare.parseD (bl s) with
  | none =>
    have H1 := Lib.hid (fun W (hN : New w W) => (H1.out W hN).mono (R' := fun e w' => e = .returned (.tuple #[.slice none 0 0, .int .i64 130]) ∧ New W w') (by
      rintro e w' ⟨v, z, rfl, hN', h⟩
      rw [hp] at h
      obtain ⟨rfl, rfl⟩ := h
      exact ⟨rfl, hN'⟩))
    have HE' : Hid (E = .returned (.tuple #[prV 3 false, .bool false])) := Lib.hid (by have := HE.out; rw [hp] at this; exact this.symm)
    clear hp
    go_wp2_with fail
    refine (H1.out _ hN0).mono ?_
    rintro e w2 ⟨rfl, hN2⟩
    replace hN0 := hN0.trans hN2
    replace r0 := hN2.heap r0 id
    go_wp2_with fail
    refine (first_u _).mono ?_
    rintro e w3 ⟨rfl, hN3⟩
    unfold prV
    replace hN0 := hN0.trans hN3
    replace r0 := hN3.heap r0 id
    go_wp2_with (refine op_skip rfl (run_store_row 31 (.tmp 2) (.tmp 13) rfl R rfl 31 [.int .u8 0, .bool false] [.int .u8 3, .bool false] rfl r0 sizePr rfl (by decide)) ?_)
    have hrow := setRow_heap w3 R _ #[.int .u8 3, .bool false] _ _ r0
    refine bodyPost_ret (v := .tuple #[.agg #[.int .u8 3, .bool false], .bool false]) (results_row2 rfl _ _ R 31 _ (0, 0) _ rfl hrow Tryz.underlying31 rfl sizePr rfl) rfl ?_
    exact ⟨HE'.out.symm, hN0.setRow hwR _⟩
  | some d =>
    have hbl : (bl s).length ≤ 1000000 := by omega
    have hsd := parse_sz (by decide) hbl hp
    have hr := (Bare.dict_may hp).1
    have H1 := Lib.hid (fun W (hN : New w W) => (H1.out W hN).mono (R' := fun e w' => ∃ v, e = .returned (.tuple #[v, .int .i64 0]) ∧ RdD true w' v d ∧ New W w') (by
      rintro e w' ⟨v, z, rfl, hN', h⟩
      rw [hp] at h
      obtain ⟨rfl, h, -⟩ := h
      exact ⟨v, rfl, h, hN'⟩))
    have HO := Lib.hid (fun v W (h : RdD true W v d) => of_any v d W h (fits_of_sz (Nat.le_refl _) hsd) (fun b hb => int_right (heard_right hr hb)))
    have HE' : Hid (E = .returned (.tuple #[prV (Bare.urgOf d) (Bare.incOf d), .bool true])) := Lib.hid (by have := HE.out; rw [hp] at this; exact this.symm)
    clear hp hsd hr
    obtain ⟨u, hu⟩ : ∃ u, Bare.urgOf d = u := ⟨_, rfl⟩
    obtain ⟨i, hi'⟩ : ∃ u, Bare.incOf d = u := ⟨_, rfl⟩
    rw [hu, hi'] at HO
    rw [hu, hi'] at HE'
    clear hu hi'
    go_wp2_with fail
    refine (H1.out _ hN0).mono ?_
    rintro e w2 ⟨v, rfl, hv, hN2⟩
    replace hN0 := hN0.trans hN2
    replace r0 := hN2.heap r0 id
    go_wp2_with fail
    refine (HO.out v _ hv).mono ?_
    rintro e w3 ⟨rfl, hN3⟩
    unfold prV
    replace hN0 := hN0.trans hN3
    replace r0 := hN3.heap r0 id
    go_wp2_with (refine op_skip rfl (run_store_row 31 (.tmp 2) (.tmp 15) rfl R rfl 31 [.int .u8 0, .bool false] [.int .u8 u, .bool i] rfl r0 sizePr rfl (by simp [Value.oneCell'])) ?_)
    have hrow := setRow_heap w3 R _ #[.int .u8 u, .bool i] _ _ r0
    refine bodyPost_ret (v := .tuple #[.agg #[.int .u8 u, .bool i], .bool true]) (results_row2 rfl _ _ R 31 _ (0, 0) _ rfl hrow Tryz.underlying31 rfl sizePr rfl) rfl ?_
    exact ⟨HE'.out.symm, hN0.setRow hwR _⟩
end Go.Proofs.YtkiiameibdhdfaaGreatDoor
/- Dictionaries' texts: a member's text laid to those ahead (the program). -/
namespace Go.Proofs.YtkiiameibdhdfaaGreatDoor
open Go.RowKit Go.Shelf Go.Cs
attribute [local go_sem] Oper.semAt_some
set_option linter.unusedVariables false
set_option linter.unusedSimpArgs false
theorem lit82 (t : Array Value) (h : t.size = 82) : ∃ u : Nat → Value, t = (u 0 :: u 1 :: u 2 :: u 3 :: u 4 :: u 5 :: u 6 :: u 7 :: u 8 :: u 9 :: u 10 :: u 11 :: u 12 :: u 13 :: u 14 :: u 15 :: u 16 :: u 17 :: u 18 :: u 19 :: u 20 :: u 21 :: u 22 :: u 23 :: u 24 :: u 25 :: u 26 :: u 27 :: u 28 :: u 29 :: u 30 :: u 31 :: u 32 :: u 33 :: u 34 :: u 35 :: u 36 :: u 37 :: u 38 :: u 39 :: u 40 :: u 41 :: u 42 :: u 43 :: u 44 :: u 45 :: u 46 :: u 47 :: u 48 :: u 49 :: u 50 :: u 51 :: u 52 :: u 53 :: u 54 :: u 55 :: u 56 :: u 57 :: u 58 :: u 59 :: u 60 :: u 61 :: u 62 :: u 63 :: u 64 :: u 65 :: u 66 :: u 67 :: u 68 :: u 69 :: u 70 :: u 71 :: u 72 :: u 73 :: u 74 :: u 75 :: u 76 :: u 77 :: u 78 :: u 79 :: u 80 :: u 81 :: ([] : List Value)).toArray := ⟨fun i => t.getD i undef, range_lit t 82 h⟩
noncomputable def reg_dict_Print_8 : Code := ((Tryz.f26.body.bind (regionOf 8)).getD .skip)
set_option maxHeartbeats 4000000 in
set_option maxRecDepth 100000 in
theorem print8 (t : Array Value) (hs : t.size = 82) (w : World) {base B ib io ic xl xc : Nat} {xa : Option Addr} {v x0 x1 x2 x3 x5 x8 x12 x13 x14 x15 x16 x17 x80 x81 : Value} {q s vl td : ByteArray} {yy : Bool} {k n : Int} {L : List Bare.Bs} {l : Bare.Bs}
    (hq4 : t.getD 4 undef = v)
    (hq6 : t.getD 6 undef = .pointer (some ⟨B, 0, none⟩))
    (hq0 : t.getD 0 undef = x0)
    (hq1 : t.getD 1 undef = x1)
    (hq2 : t.getD 2 undef = x2)
    (hq3 : t.getD 3 undef = x3)
    (hq5 : t.getD 5 undef = x5)
    (hq8 : t.getD 8 undef = x8)
    (hq12 : t.getD 12 undef = x12)
    (hq13 : t.getD 13 undef = x13)
    (hq14 : t.getD 14 undef = x14)
    (hq15 : t.getD 15 undef = x15)
    (hq16 : t.getD 16 undef = x16)
    (hq17 : t.getD 17 undef = x17)
    (hq80 : t.getD 80 undef = x80)
    (hq81 : t.getD 81 undef = x81)
    (k0 : w.cell? ⟨B, 0, none⟩ = some (.string q)) (k2 : w.cell? ⟨B, 2, none⟩ = some (.slice (some ⟨ib, io, none⟩) 1 ic))
    (i0 : w.cell? ⟨ib, io, none⟩ = some (.int .u8 k)) (i1 : w.cell? ⟨ib, io + 1, none⟩ = some (.int .i64 n)) (i2 : w.cell? ⟨ib, io + 2, none⟩ = some (.string s)) (i3 : w.cell? ⟨ib, io + 3, none⟩ = some (.bool yy)) (i4 : w.cell? ⟨ib, io + 4, none⟩ = some (.slice xa xl xc))
    (hBv : v.ownBlock ≠ some B) (hIv : v.ownBlock ≠ some ib)
    (HVal : Hid (∀ W, New w W → Calls Tryz.prog 59 #[.agg #[.int .u8 k, .int .i64 n, .string s, .bool yy]] W fun e w' => e = .returned (.string vl) ∧ New W w'))
    (HTold : Hid (∀ W, New w W → Calls Tryz.prog 60 #[.slice xa xl xc] W fun e w' => e = .returned (.string td) ∧ New W w'))
    (Hx : Hid (q ++ vl ++ td = tx l)) (hown : OwS base w v L) (hln : L.length ≤ 2000000) (hbase : base ≤ w.heap.size)
    (hqs : q.size ≤ 100000) (hvs : vl.size ≤ 50000) (hts : td.size ≤ 400000000000) :
    reg_dict_Print_8.wp Tryz.prog (Only fun a' W' => ∃ v', (a'.tmps.size = 82 ∧ a'.defers = [] ∧ a'.tmps.getD 4 undef = v' ∧ a'.tmps.getD 6 undef = .pointer (some ⟨B, 0, none⟩) ∧ a'.tmps.getD 0 undef = x0 ∧ a'.tmps.getD 1 undef = x1 ∧ a'.tmps.getD 2 undef = x2 ∧ a'.tmps.getD 3 undef = x3 ∧ a'.tmps.getD 5 undef = x5 ∧ a'.tmps.getD 8 undef = x8 ∧ a'.tmps.getD 12 undef = x12 ∧ a'.tmps.getD 13 undef = x13 ∧ a'.tmps.getD 14 undef = x14 ∧ a'.tmps.getD 15 undef = x15 ∧ a'.tmps.getD 16 undef = x16 ∧ a'.tmps.getD 17 undef = x17 ∧ a'.tmps.getD 80 undef = x80 ∧ a'.tmps.getD 81 undef = x81) ∧ OwS base W' v' (L ++ [l]) ∧ ∀ w0 : World, New w0 w → w0.heap.size ≤ base → New w0 W') ⟨t, []⟩ w := by
  conv => arg 2; whnf
  obtain ⟨u, rfl⟩ := lit82 t hs
  have hq4 : u 4 = v := hq4
  have hq6 : u 6 = .pointer (some ⟨B, 0, none⟩) := hq6
  have hq0 : u 0 = x0 := hq0
  have hq1 : u 1 = x1 := hq1
  have hq2 : u 2 = x2 := hq2
  have hq3 : u 3 = x3 := hq3
  have hq5 : u 5 = x5 := hq5
  have hq8 : u 8 = x8 := hq8
  have hq12 : u 12 = x12 := hq12
  have hq13 : u 13 = x13 := hq13
  have hq14 : u 14 = x14 := hq14
  have hq15 : u 15 = x15 := hq15
  have hq16 : u 16 = x16 := hq16
  have hq17 : u 17 = x17 := hq17
  have hq80 : u 80 = x80 := hq80
  have hq81 : u 81 = x81 := hq81
  rw [hq4, hq6, hq0, hq1, hq2, hq3, hq5, hq8, hq12, hq13, hq14, hq15, hq16, hq17, hq80, hq81]
  clear hq4 hq6 hq0 hq1 hq2 hq3 hq5 hq8 hq12 hq13 hq14 hq15 hq16 hq17 hq80 hq81 hs
  have z1 : ¬ 9223372036854775807 < q.size + vl.size := by omega
  have z2 : ¬ 9223372036854775807 < q.size + vl.size + td.size := by omega
  refine wp_region_held (S := fun W => Mods (fun b => v.ownBlock = some b) w W) (by kernel_rfl) ?_
  show wpAnyH _ _ _ _ _ 20 _ _ w.drew
  have hN : New w w.drew := (Mods.refl _ _).drew
  have hS : Mods (fun b => v.ownBlock = some b) w w.drew := (Mods.refl _ _).drew
  refine anyH_take 0 (some 24) (v) rfl rfl (by kernel_rfl) (by kernel_rfl) (by kernel_rfl) (fun _ _ _ h => h.elim) (.inl ⟨by rfl, fun W hW => by go_simp⟩) hS ?_
  simp only [Act.put, List.setIfInBounds_toArray, List.set_cons_succ, List.set_cons_zero]
  refine anyH_take 1 (some 25) (.pointer (some ⟨B, 0, none⟩)) rfl rfl (by kernel_rfl) (by kernel_rfl) (by kernel_rfl) (fun _ _ _ h => h.elim) (.inl ⟨by rfl, fun W hW => by go_simp⟩) hS ?_
  simp only [Act.put, List.setIfInBounds_toArray, List.set_cons_succ, List.set_cons_zero]
  refine anyH_take 2 (some 26) (.string q) rfl rfl (by kernel_rfl) (by kernel_rfl) (by kernel_rfl) (fun _ _ _ h => h.elim) (.inl ⟨by rfl, fun W hW => by have hh : Mods (fun b => v.ownBlock = some b) w W := hW; have q := hh.cell k0 hBv; go_simp⟩) hS ?_
  simp only [Act.put, List.setIfInBounds_toArray, List.set_cons_succ, List.set_cons_zero]
  refine anyH_take 3 (some 27) (.pointer (some ⟨B, 2, none⟩)) rfl rfl (by kernel_rfl) (by kernel_rfl) (by kernel_rfl) (fun _ _ _ h => h.elim) (.inl ⟨by rfl, fun W hW => by go_simp⟩) hS ?_
  simp only [Act.put, List.setIfInBounds_toArray, List.set_cons_succ, List.set_cons_zero]
  refine anyH_take 4 (some 28) (.slice (some ⟨ib, io, none⟩) 1 ic) rfl rfl (by kernel_rfl) (by kernel_rfl) (by kernel_rfl) (fun _ _ _ h => h.elim) (.inl ⟨by rfl, fun W hW => by have hh : Mods (fun b => v.ownBlock = some b) w W := hW; have q := hh.cell k2 hBv; go_simp⟩) hS ?_
  simp only [Act.put, List.setIfInBounds_toArray, List.set_cons_succ, List.set_cons_zero]
  refine anyH_take 5 (some 29) (.pointer (some ⟨ib, io, none⟩)) rfl rfl (by kernel_rfl) (by kernel_rfl) (by kernel_rfl) (fun _ _ _ h => h.elim) (.inl ⟨by rfl, fun W hW => by go_simp⟩) hS ?_
  simp only [Act.put, List.setIfInBounds_toArray, List.set_cons_succ, List.set_cons_zero]
  refine anyH_take 6 (some 30) (.pointer (some ⟨ib, io, none⟩)) rfl rfl (by kernel_rfl) (by kernel_rfl) (by kernel_rfl) (fun _ _ _ h => h.elim) (.inl ⟨by rfl, fun W hW => by go_simp⟩) hS ?_
  simp only [Act.put, List.setIfInBounds_toArray, List.set_cons_succ, List.set_cons_zero]
  refine anyH_take 7 (some 31) (.agg #[.int .u8 k, .int .i64 n, .string s, .bool yy]) rfl rfl (by kernel_rfl) (by kernel_rfl) (by kernel_rfl) (fun _ _ _ h => h.elim) (.inl ⟨by rfl, fun W hW => by have hh : Mods (fun b => v.ownBlock = some b) w W := hW; have q0 := hh.cell i0 hIv; have q1 := hh.cell i1 hIv; have q2 := hh.cell i2 hIv; have q3 := hh.cell i3 hIv; go_simp⟩) hS ?_
  simp only [Act.put, List.setIfInBounds_toArray, List.set_cons_succ, List.set_cons_zero]
  refine anyH_take 10 (some 34) (.pointer (some ⟨B, 2, none⟩)) rfl rfl (by kernel_rfl) (by kernel_rfl) (by kernel_rfl) (fun _ _ _ h => h.elim) (.inl ⟨by rfl, fun W hW => by go_simp⟩) hS ?_
  simp only [Act.put, List.setIfInBounds_toArray, List.set_cons_succ, List.set_cons_zero]
  refine anyH_take 11 (some 35) (.slice (some ⟨ib, io, none⟩) 1 ic) rfl rfl (by kernel_rfl) (by kernel_rfl) (by kernel_rfl) (fun _ _ _ h => h.elim) (.inl ⟨by rfl, fun W hW => by have hh : Mods (fun b => v.ownBlock = some b) w W := hW; have q := hh.cell k2 hBv; go_simp⟩) hS ?_
  simp only [Act.put, List.setIfInBounds_toArray, List.set_cons_succ, List.set_cons_zero]
  refine anyH_take 12 (some 36) (.pointer (some ⟨ib, io, none⟩)) rfl rfl (by kernel_rfl) (by kernel_rfl) (by kernel_rfl) (fun _ _ _ h => h.elim) (.inl ⟨by rfl, fun W hW => by go_simp⟩) hS ?_
  simp only [Act.put, List.setIfInBounds_toArray, List.set_cons_succ, List.set_cons_zero]
  refine anyH_take 13 (some 37) (.pointer (some ⟨ib, io + 4, none⟩)) rfl rfl (by kernel_rfl) (by kernel_rfl) (by kernel_rfl) (fun _ _ _ h => h.elim) (.inl ⟨by rfl, fun W hW => by go_simp⟩) hS ?_
  simp only [Act.put, List.setIfInBounds_toArray, List.set_cons_succ, List.set_cons_zero]
  refine anyH_take 14 (some 38) (.slice xa xl xc) rfl rfl (by kernel_rfl) (by kernel_rfl) (by kernel_rfl) (fun _ _ _ h => h.elim) (.inl ⟨by rfl, fun W hW => by have hh : Mods (fun b => v.ownBlock = some b) w W := hW; have q := hh.cell i4 hIv; go_simp⟩) hS ?_
  simp only [Act.put, List.setIfInBounds_toArray, List.set_cons_succ, List.set_cons_zero]
  refine wpAnyH_all (rs := [8]) (by kernel_rfl) (by simp) ?_
  simp only [List.mem_cons, List.not_mem_nil, or_false, forall_eq]
  refine opH_call (some 32) rfl (by rfl) rfl 59 #[.agg #[.int .u8 k, .int .i64 n, .string s, .bool yy]] (by go_simp) ((HVal.out _ hN).mono ?_)
  rintro e w1 ⟨rfl, hk⟩
  have hS := hS.trans (Mods.ofNew hk)
  have hN := hN.trans hk
  clear hk
  refine ⟨_, rfl, hS, ?_⟩
  simp only [Act.put, List.setIfInBounds_toArray, List.set_cons_succ, List.set_cons_zero]
  refine anyH_take 9 (some 33) (.string (q ++ vl)) rfl rfl (by kernel_rfl) (by kernel_rfl) (by kernel_rfl) (fun _ _ _ h => h.elim) (.inl ⟨by rfl, fun W hW => by go_simp⟩) hS ?_
  simp only [Act.put, List.setIfInBounds_toArray, List.set_cons_succ, List.set_cons_zero]
  refine wpAnyH_all (rs := [15]) (by kernel_rfl) (by simp) ?_
  simp only [List.mem_cons, List.not_mem_nil, or_false, forall_eq]
  refine opH_call (some 39) rfl (by rfl) rfl 60 #[.slice xa xl xc] (by go_simp) ((HTold.out _ hN).mono ?_)
  rintro e w2 ⟨rfl, hk⟩
  have hS := hS.trans (Mods.ofNew hk)
  have hN := hN.trans hk
  clear hk
  refine ⟨_, rfl, hS, ?_⟩
  simp only [Act.put, List.setIfInBounds_toArray, List.set_cons_succ, List.set_cons_zero]
  refine anyH_take 16 (some 40) (.string ((q ++ vl) ++ td)) rfl rfl (by kernel_rfl) (by kernel_rfl) (by kernel_rfl) (fun _ _ _ h => h.elim) (.inl ⟨by rfl, fun W hW => by go_simp⟩) hS ?_
  simp only [Act.put, List.setIfInBounds_toArray, List.set_cons_succ, List.set_cons_zero]
  refine wpAnyH_all (rs := [17]) (by kernel_rfl) (by simp) ?_
  simp only [List.mem_cons, List.not_mem_nil, or_false, forall_eq]
  refine opH_value (some 41) (v := .slice (some ⟨w2.heap.size, 0, none⟩) 1 1) (w' := w2.alloc (.cells #[.string (q ++ vl ++ td)] 9)) rfl rfl rfl (by go_simp) ?_
  refine ⟨hS.alloc _, ?_⟩
  simp only [Act.put, List.setIfInBounds_toArray, List.set_cons_succ, List.set_cons_zero]
  refine wpAnyH_all (rs := [18]) (by kernel_rfl) (by simp) ?_
  simp only [List.mem_cons, List.not_mem_nil, or_false, forall_eq]
  refine wpOp_append_S (l := l) (some 42) rfl rfl rfl (.tmp 24) (.tmp 41) rfl rfl rfl (by rw [← Hx.out]) (hown.new hN) hln (Nat.le_trans hbase hN.size) ?_
  intro v' W' hown' hnew
  have hS := hnew _ _ hS (fun g hg => .inr hg)
  refine ⟨hS, ?_⟩
  simp only [Act.put, List.setIfInBounds_toArray, List.set_cons_succ, List.set_cons_zero]
  refine anyH_take 19 (some 4) (v') rfl rfl (by kernel_rfl) (by kernel_rfl) (by kernel_rfl) (fun _ _ _ h => h.elim) (.inl ⟨by rfl, fun W hW => by go_simp⟩) hS ?_
  simp only [Act.put, List.setIfInBounds_toArray, List.set_cons_succ, List.set_cons_zero]
  refine wpAnyH_done (by kernel_rfl) ?_ _
  exact ⟨v', ⟨rfl, rfl, rfl, rfl, rfl, rfl, rfl, rfl, rfl, rfl, rfl, rfl, rfl, rfl, rfl, rfl, rfl, rfl⟩, hown', fun w0 h1 h2 => hnew w0 _ (h1.trans hN) (fun g hg => .inl (Nat.le_trans h2 (hown.lt g hg).1))⟩
theorem joinW_join (sep : Bare.Bs) : ∀ L : List Bare.Bs, Bare.joinW sep L = Lib.join L sep
  | [] => rfl
  | [a] => (Lib.join_one a sep).symm
  | a :: b :: r => by
    have ih := joinW_join sep (b :: r)
    rw [Lib.join_cons] at ih ⊢
    simp only [Bare.joinW]
    rw [ih]
    simp [Lib.joinTail]
theorem joinW_len (sep : Bare.Bs) (c : Nat) : ∀ L : List Bare.Bs, (∀ l ∈ L, l.length + sep.length ≤ c) → (Bare.joinW sep L).length ≤ L.length * c
  | [], _ => by simp [Bare.joinW]
  | [a], h => by have := h a (by simp); simp [Bare.joinW]; omega
  | a :: b :: r, h => by
    have ih := joinW_len sep c (b :: r) (fun l hl => h l (List.mem_cons_of_mem _ hl))
    have := h a (by simp)
    simp only [Bare.joinW, List.length_append, List.length_cons] at ih ⊢
    rw [Nat.add_mul, Nat.one_mul]
    omega
/-- strings.Join of a row of texts of the call's own. -/
theorem join_any {base : Nat} (v : Value) (L : List Bare.Bs) (sep : Bare.Bs) (w : World) (h : OwS base w v L) (hn : L.length ≤ 2000000) (hl : (Bare.joinW sep L).length ≤ 140737488355328) :
    Calls Tryz.prog 62 #[v, .string (tx sep)] w fun e w' => e = .returned (.string (tx (Bare.joinW sep L))) ∧ New w w' := by
  rcases h.2 with ⟨rfl, h0⟩ | ⟨g, cap, cur, rfl, hb, hg, h1, h2, h3, h4⟩
  · obtain rfl : L = [] := List.length_eq_zero_iff.1 h0
    refine (Tryz.strings_Join_none none 0 (tx sep) w).mono ?_
    rintro e w' ⟨rfl, rfl⟩
    exact ⟨rfl, Mods.refl _ _⟩
  · have hx : (L.map tx).map (·.data.toList) = L := by rw [List.map_map]; conv => rhs; rw [← List.map_id L]
                                                       exact List.map_congr_left fun l _ => rfl
    have := Tryz.strings_Join g 0 cap (L.map tx) (tx sep) w (fun j x hj => by
      rw [Nat.zero_add, cell_of_row _ _ _ _ _ _ hg]
      have e : (strs L)[j]? = some (.string x) := by
        unfold strs
        rw [List.getElem?_map] at hj ⊢
        obtain ⟨l, hl, rfl⟩ := Option.map_eq_some_iff.1 hj
        rw [hl]; rfl
      rw [← h4, List.getElem?_take] at e
      split at e
      · rw [← Array.getElem?_toList]; exact e
      · cases e) (Array.getElem?_eq_some_iff.1 hg).1 (by rw [List.length_map]; omega) (by rw [List.length_map]; omega) (by rw [hx]; show (Lib.join L sep).length ≤ _; rw [← joinW_join]; exact hl)
    rw [hx, List.length_map] at this
    rw [joinW_join]
    exact this.mono fun e w' ⟨he, hB⟩ => ⟨he, Mods.below hB (Nat.le_refl _)⟩
noncomputable def reg_dict_Print_16 : Code := ((Tryz.f26.body.bind (regionOf 16)).getD .skip)
set_option maxHeartbeats 4000000 in
set_option maxRecDepth 100000 in
theorem print16 (t : Array Value) (hs : t.size = 82) (w : World) {base B pl pc : Nat} {pa : Option Addr} {v uv x0 x1 x2 x3 x5 x8 x12 x13 x14 x15 x16 x17 x80 x81 : Value} {q jn td : ByteArray} {L : List Bare.Bs} {l : Bare.Bs}
    (hq4 : t.getD 4 undef = v)
    (hq6 : t.getD 6 undef = .pointer (some ⟨B, 0, none⟩))
    (hq0 : t.getD 0 undef = x0)
    (hq1 : t.getD 1 undef = x1)
    (hq2 : t.getD 2 undef = x2)
    (hq3 : t.getD 3 undef = x3)
    (hq5 : t.getD 5 undef = x5)
    (hq8 : t.getD 8 undef = x8)
    (hq12 : t.getD 12 undef = x12)
    (hq13 : t.getD 13 undef = x13)
    (hq14 : t.getD 14 undef = x14)
    (hq15 : t.getD 15 undef = x15)
    (hq16 : t.getD 16 undef = x16)
    (hq17 : t.getD 17 undef = x17)
    (hq80 : t.getD 80 undef = x80)
    (hq81 : t.getD 81 undef = x81)
    (hq7 : t.getD 7 undef = uv)
    (k0 : w.cell? ⟨B, 0, none⟩ = some (.string q)) (k3 : w.cell? ⟨B, 3, none⟩ = some (.slice pa pl pc))
    (hBv : v.ownBlock ≠ some B)
    (HJoin : Hid (∀ W, New w W → Calls Tryz.prog 62 #[uv, .string ⟨#[32]⟩] W fun e w' => e = .returned (.string jn) ∧ New W w'))
    (HTold : Hid (∀ W, New w W → Calls Tryz.prog 60 #[.slice pa pl pc] W fun e w' => e = .returned (.string td) ∧ New W w'))
    (Hx : Hid (q ++ ⟨#[61, 40]⟩ ++ jn ++ ⟨#[41]⟩ ++ td = tx l)) (hown : OwS base w v L) (hln : L.length ≤ 2000000) (hbase : base ≤ w.heap.size)
    (hqs : q.size ≤ 100000) (hjs : jn.size ≤ 140737488355328) (hts : td.size ≤ 400000000000) :
    reg_dict_Print_16.wp Tryz.prog (Only fun a' W' => ∃ v', (a'.tmps.size = 82 ∧ a'.defers = [] ∧ a'.tmps.getD 4 undef = v' ∧ a'.tmps.getD 6 undef = .pointer (some ⟨B, 0, none⟩) ∧ a'.tmps.getD 0 undef = x0 ∧ a'.tmps.getD 1 undef = x1 ∧ a'.tmps.getD 2 undef = x2 ∧ a'.tmps.getD 3 undef = x3 ∧ a'.tmps.getD 5 undef = x5 ∧ a'.tmps.getD 8 undef = x8 ∧ a'.tmps.getD 12 undef = x12 ∧ a'.tmps.getD 13 undef = x13 ∧ a'.tmps.getD 14 undef = x14 ∧ a'.tmps.getD 15 undef = x15 ∧ a'.tmps.getD 16 undef = x16 ∧ a'.tmps.getD 17 undef = x17 ∧ a'.tmps.getD 80 undef = x80 ∧ a'.tmps.getD 81 undef = x81) ∧ OwS base W' v' (L ++ [l]) ∧ ∀ w0 : World, New w0 w → w0.heap.size ≤ base → New w0 W') ⟨t, []⟩ w := by
  conv => arg 2; whnf
  obtain ⟨u, rfl⟩ := lit82 t hs
  have hq4 : u 4 = v := hq4
  have hq6 : u 6 = .pointer (some ⟨B, 0, none⟩) := hq6
  have hq0 : u 0 = x0 := hq0
  have hq1 : u 1 = x1 := hq1
  have hq2 : u 2 = x2 := hq2
  have hq3 : u 3 = x3 := hq3
  have hq5 : u 5 = x5 := hq5
  have hq8 : u 8 = x8 := hq8
  have hq12 : u 12 = x12 := hq12
  have hq13 : u 13 = x13 := hq13
  have hq14 : u 14 = x14 := hq14
  have hq15 : u 15 = x15 := hq15
  have hq16 : u 16 = x16 := hq16
  have hq17 : u 17 = x17 := hq17
  have hq80 : u 80 = x80 := hq80
  have hq81 : u 81 = x81 := hq81
  have hq7 : u 7 = uv := hq7
  rw [hq4, hq6, hq0, hq1, hq2, hq3, hq5, hq8, hq12, hq13, hq14, hq15, hq16, hq17, hq80, hq81, hq7]
  clear hq4 hq6 hq0 hq1 hq2 hq3 hq5 hq8 hq12 hq13 hq14 hq15 hq16 hq17 hq80 hq81 hq7 hs
  have z1 : ¬ 9223372036854775807 < q.size + 2 := by omega
  have z2 : ¬ 9223372036854775807 < q.size + 2 + jn.size := by omega
  have z3 : ¬ 9223372036854775807 < q.size + 2 + jn.size + 1 := by omega
  have z4 : ¬ 9223372036854775807 < q.size + 2 + jn.size + 1 + td.size := by omega
  refine wp_region_held (S := fun W => Mods (fun b => v.ownBlock = some b) w W) (by kernel_rfl) ?_
  show wpAnyH _ _ _ _ _ 15 _ _ w.drew
  have hN : New w w.drew := (Mods.refl _ _).drew
  have hS : Mods (fun b => v.ownBlock = some b) w w.drew := (Mods.refl _ _).drew
  refine anyH_take 0 (some 65) (v) rfl rfl (by kernel_rfl) (by kernel_rfl) (by kernel_rfl) (fun _ _ _ h => h.elim) (.inl ⟨by rfl, fun W hW => by go_simp⟩) hS ?_
  simp only [Act.put, List.setIfInBounds_toArray, List.set_cons_succ, List.set_cons_zero]
  refine anyH_take 1 (some 66) (.pointer (some ⟨B, 0, none⟩)) rfl rfl (by kernel_rfl) (by kernel_rfl) (by kernel_rfl) (fun _ _ _ h => h.elim) (.inl ⟨by rfl, fun W hW => by go_simp⟩) hS ?_
  simp only [Act.put, List.setIfInBounds_toArray, List.set_cons_succ, List.set_cons_zero]
  refine anyH_take 2 (some 67) (.string q) rfl rfl (by kernel_rfl) (by kernel_rfl) (by kernel_rfl) (fun _ _ _ h => h.elim) (.inl ⟨by rfl, fun W hW => by have hh : Mods (fun b => v.ownBlock = some b) w W := hW; have q := hh.cell k0 hBv; go_simp⟩) hS ?_
  simp only [Act.put, List.setIfInBounds_toArray, List.set_cons_succ, List.set_cons_zero]
  refine anyH_take 3 (some 68) (.string (q ++ ⟨#[61, 40]⟩)) rfl rfl (by kernel_rfl) (by kernel_rfl) (by kernel_rfl) (fun _ _ _ h => h.elim) (.inl ⟨by rfl, fun W hW => by go_simp⟩) hS ?_
  simp only [Act.put, List.setIfInBounds_toArray, List.set_cons_succ, List.set_cons_zero]
  refine anyH_take 4 (some 69) (uv) rfl rfl (by kernel_rfl) (by kernel_rfl) (by kernel_rfl) (fun _ _ _ h => h.elim) (.inl ⟨by rfl, fun W hW => by go_simp⟩) hS ?_
  simp only [Act.put, List.setIfInBounds_toArray, List.set_cons_succ, List.set_cons_zero]
  refine anyH_take 8 (some 73) (.pointer (some ⟨B, 3, none⟩)) rfl rfl (by kernel_rfl) (by kernel_rfl) (by kernel_rfl) (fun _ _ _ h => h.elim) (.inl ⟨by rfl, fun W hW => by go_simp⟩) hS ?_
  simp only [Act.put, List.setIfInBounds_toArray, List.set_cons_succ, List.set_cons_zero]
  refine anyH_take 9 (some 74) (.slice pa pl pc) rfl rfl (by kernel_rfl) (by kernel_rfl) (by kernel_rfl) (fun _ _ _ h => h.elim) (.inl ⟨by rfl, fun W hW => by have hh : Mods (fun b => v.ownBlock = some b) w W := hW; have q := hh.cell k3 hBv; go_simp⟩) hS ?_
  simp only [Act.put, List.setIfInBounds_toArray, List.set_cons_succ, List.set_cons_zero]
  refine wpAnyH_all (rs := [5]) (by kernel_rfl) (by simp) ?_
  simp only [List.mem_cons, List.not_mem_nil, or_false, forall_eq]
  refine opH_call (some 70) rfl (by rfl) rfl 62 #[uv, .string ⟨#[32]⟩] (by go_simp) ((HJoin.out _ hN).mono ?_)
  rintro e w1 ⟨rfl, hk⟩
  have hS := hS.trans (Mods.ofNew hk)
  have hN := hN.trans hk
  clear hk
  refine ⟨_, rfl, hS, ?_⟩
  simp only [Act.put, List.setIfInBounds_toArray, List.set_cons_succ, List.set_cons_zero]
  refine anyH_take 6 (some 71) (.string ((q ++ ⟨#[61, 40]⟩) ++ jn)) rfl rfl (by kernel_rfl) (by kernel_rfl) (by kernel_rfl) (fun _ _ _ h => h.elim) (.inl ⟨by rfl, fun W hW => by go_simp⟩) hS ?_
  simp only [Act.put, List.setIfInBounds_toArray, List.set_cons_succ, List.set_cons_zero]
  refine anyH_take 7 (some 72) (.string (((q ++ ⟨#[61, 40]⟩) ++ jn) ++ ⟨#[41]⟩)) rfl rfl (by kernel_rfl) (by kernel_rfl) (by kernel_rfl) (fun _ _ _ h => h.elim) (.inl ⟨by rfl, fun W hW => by go_simp⟩) hS ?_
  simp only [Act.put, List.setIfInBounds_toArray, List.set_cons_succ, List.set_cons_zero]
  refine wpAnyH_all (rs := [10]) (by kernel_rfl) (by simp) ?_
  simp only [List.mem_cons, List.not_mem_nil, or_false, forall_eq]
  refine opH_call (some 75) rfl (by rfl) rfl 60 #[.slice pa pl pc] (by go_simp) ((HTold.out _ hN).mono ?_)
  rintro e w2 ⟨rfl, hk⟩
  have hS := hS.trans (Mods.ofNew hk)
  have hN := hN.trans hk
  clear hk
  refine ⟨_, rfl, hS, ?_⟩
  simp only [Act.put, List.setIfInBounds_toArray, List.set_cons_succ, List.set_cons_zero]
  refine anyH_take 11 (some 76) (.string ((((q ++ ⟨#[61, 40]⟩) ++ jn) ++ ⟨#[41]⟩) ++ td)) rfl rfl (by kernel_rfl) (by kernel_rfl) (by kernel_rfl) (fun _ _ _ h => h.elim) (.inl ⟨by rfl, fun W hW => by go_simp⟩) hS ?_
  simp only [Act.put, List.setIfInBounds_toArray, List.set_cons_succ, List.set_cons_zero]
  refine wpAnyH_all (rs := [12]) (by kernel_rfl) (by simp) ?_
  simp only [List.mem_cons, List.not_mem_nil, or_false, forall_eq]
  refine opH_value (some 77) (v := .slice (some ⟨w2.heap.size, 0, none⟩) 1 1) (w' := w2.alloc (.cells #[.string (q ++ ⟨#[61, 40]⟩ ++ jn ++ ⟨#[41]⟩ ++ td)] 9)) rfl rfl rfl (by go_simp) ?_
  refine ⟨hS.alloc _, ?_⟩
  simp only [Act.put, List.setIfInBounds_toArray, List.set_cons_succ, List.set_cons_zero]
  refine wpAnyH_all (rs := [13]) (by kernel_rfl) (by simp) ?_
  simp only [List.mem_cons, List.not_mem_nil, or_false, forall_eq]
  refine wpOp_append_S (l := l) (some 78) rfl rfl rfl (.tmp 65) (.tmp 77) rfl rfl rfl (by rw [← Hx.out]) (hown.new hN) hln (Nat.le_trans hbase hN.size) ?_
  intro v' W' hown' hnew
  have hS := hnew _ _ hS (fun g hg => .inr hg)
  refine ⟨hS, ?_⟩
  simp only [Act.put, List.setIfInBounds_toArray, List.set_cons_succ, List.set_cons_zero]
  refine anyH_take 14 (some 4) (v') rfl rfl (by kernel_rfl) (by kernel_rfl) (by kernel_rfl) (fun _ _ _ h => h.elim) (.inl ⟨by rfl, fun W hW => by go_simp⟩) hS ?_
  simp only [Act.put, List.setIfInBounds_toArray, List.set_cons_succ, List.set_cons_zero]
  refine wpAnyH_done (by kernel_rfl) ?_ _
  exact ⟨v', ⟨rfl, rfl, rfl, rfl, rfl, rfl, rfl, rfl, rfl, rfl, rfl, rfl, rfl, rfl, rfl, rfl, rfl, rfl⟩, hown', fun w0 h1 h2 => hnew w0 _ (h1.trans hN) (fun g hg => .inl (Nat.le_trans h2 (hown.lt g hg).1))⟩
end Go.Proofs.YtkiiameibdhdfaaGreatDoor
