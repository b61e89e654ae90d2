/- Regions whose order is open: what yields one value in whatever world is taken first; an append to a row of the call's own. -/
import Derived.Test.YtihmnkbkigkjjaaDoorBase
import Derived.OrdersIn
import Derived.Still
import Derived.Laws.OwnMore
namespace Go.Cs
open Go.RowKit

variable {P : Program} {ops : Array Oper} {Q : Exit → Act → World → Prop} {md : Region.Mode} {r : Option Nat}

def plainOp (o : Oper) : Bool := match o.op with | .select .. => false | .defer _ => false | _ => true

theorem plainOp_sel {o : Oper} (h : plainOp o = true) : ∀ cs b, o.op ≠ .select cs b := fun cs b e => by simp [plainOp, e] at h
theorem plainOp_def {o : Oper} (h : plainOp o = true) : ∀ c, o.op ≠ .defer c := fun c e => by simp [plainOp, e] at h

theorem semAt_plain {o : Oper} (h : plainOp o = true) (F : Option Nat) (ev : Operand → Value) : o.semAt F ev = execOp ev o := by
  cases F with
  | none => exact Oper.semAt_none _ _
  | some l => exact Oper.semAt_eq _ _ _ (fun c e => absurd e (plainOp_def h c))

/-- It yields v in whatever world, and leaves that as it is. -/
def Sure (P : Program) (ops : Array Oper) (o : Oper) (v : Value) (a : Act) : Prop := ∀ w, YieldsAt P ops w o v a

theorem Sure.of_same {o : Oper} {v : Value} {a a' : Act} (hy : Sure P ops o v a) (he : execOp a'.eval o = execOp a.eval o)
    (hw : Region.wanted o (yielded ops a'.tmps) = Region.wanted o (yielded ops a.tmps)) : Sure P ops o v a' := fun w => (hy w).of_same he hw

theorem Sure.opIn {i : Nat} {o : Oper} {v : Value} {a : Act} (hp : plainOp o = true) (hi : ops[i]? = some o) (hy : Sure P ops o v a)
    {K : Act → World → Prop} {w : World} (h : K (a.put o.dst v) w) : wpOpIn (Fr r) 0 P ops Q i K a w := by
  unfold Go.wpOpIn
  simp only [hi]
  rcases hy w with ⟨hw, hv⟩ | ⟨hw, rfl⟩
  · simp only [hw, if_true, Oper.wpIn, semAt_plain hp]
    refine ⟨fun _ _ => trivial, ?_⟩
    rcases hv with hv | ⟨hv, rfl⟩ | ⟨f, args, hv, hc⟩
    · rw [hv]; exact h
    · rw [hv]; exact h
    · rw [hv]
      refine ⟨fun h => by simp [Fence.wide] at h, (callsIn_wide (n := 0)).2 (hc.mono ?_)⟩
      rintro e w' ⟨rfl, rfl⟩
      exact h
  · simp only [hw, Bool.false_eq_true, if_false]; exact ⟨fun _ _ => trivial, h⟩

theorem opIn_put {j : Nat} {oi oj : Oper} {v : Value} (hj : ops[j]? = some oj) (hap : oi.apart ops oj = true) (hpi : plainOp oi = true) (hpj : plainOp oj = true)
    (hQ : ∀ c a w, Q (.panic c) (a.put oi.dst v) w → Q (.panic c) a w) {K : Act → World → Prop} {a : Act} {w : World}
    (hy : Sure P ops oi v a) (h : wpOpIn (Fr r) 0 P ops Q j K (a.put oi.dst v) w) :
    wpOpIn (Fr r) 0 P ops Q j (fun a' w' => Sure P ops oi v a' ∧ K (a'.put oi.dst v) w') a w := by
  obtain ⟨h1, h2, h3⟩ := Oper.apart_spec hap
  have hsi := plainOp_sel hpi
  have hsj := plainOp_sel hpj
  have keep : ∀ (a : Act), Sure P ops oi v a → ∀ u, Sure P ops oi v (a.put oj.dst u) := fun a hy u =>
    hy.of_same (execOp_put oi hsi a oj.dst u h3) (wanted_put oi a oj.dst u h3)
  have keepD : ∀ d, Sure P ops oi v { a with defers := d :: a.defers } := fun d => hy.of_same rfl rfl
  unfold wpOpIn at *
  simp only [hj] at *
  rw [wanted_put oj a oi.dst v h1, about_put oj w a oi.dst v h1] at h
  split
  · rename_i hw
    simp only [hw, if_true] at h
    unfold Oper.wpIn at *
    rw [about_put oj w a oi.dst v h1] at h
    refine ⟨h.1, ?_⟩
    have h := h.2
    rw [semAt_plain hpj, execOp_put oj hsj a oi.dst v h1] at h
    rw [semAt_plain hpj]
    generalize (execOp a.eval oj).run P w = r at *
    cases r with
    | ok x w' =>
      cases x <;> simp only [Oper.uponIn] at h ⊢
      case value u => exact ⟨keep a hy u, by rw [← Act.put_comm a v u h2]; exact h⟩
      case skip => exact ⟨keep a hy _, by rw [← Act.put_comm a v undef h2]; exact h⟩
      case defer d =>
        refine ⟨keep _ (keepD d) _, ?_⟩
        rw [← Act.put_comm _ v undef h2, ← Act.put_defers]
        exact h
      case enter f args =>
        refine ⟨h.1, CallsIn.mono h.2 fun e w'' he => ?_⟩
        cases e with
        | returned u => exact ⟨keep a hy u, by rw [← Act.put_comm a v u h2]; exact he⟩
        | panicked c => exact hQ _ _ _ he
        | outgrown => exact he
      case row row args => exact ⟨h.1, RowsIn.mono h.2 fun u w'' he => ⟨keep a hy u, by rw [← Act.put_comm a v u h2]; exact he⟩⟩
      case round l f tmps assign body =>
        refine ⟨h.1, RoundIn.mono h.2 fun e w'' he => ?_⟩
        cases e with
        | returned u => exact ⟨keep a hy u, by rw [← Act.put_comm a v u h2]; exact he⟩
        | panicked c => exact hQ _ _ _ he
        | outgrown => exact he
    | halt x w' =>
      cases x <;> simp only [Oper.uponIn] at h ⊢
      case panic u => exact hQ _ _ _ h
  · rename_i hw
    simp only [hw] at h
    exact ⟨h.1, keep a hy _, by rw [← Act.put_comm a v undef h2]; exact h.2⟩

theorem any_first {i : Nat} {oi : Oper} {v : Value} (hi : ops[i]? = some oi) (hpl : ∀ (j : Nat) (o : Oper), ops[j]? = some o → plainOp o = true)
    (hQ : ∀ c a w, Q (.panic c) (a.put oi.dst v) w → Q (.panic c) a w) :
    ∀ (fuel : Nat) (listed : Array Bool) (a : Act) (w : World),
      (∀ j oj, ops[j]? = some oj → j ≠ i → listed.getD j true = false → (∀ e ∈ oj.after, Region.binds md e = true → e.on ≠ i) → oi.apart ops oj = true) →
      i ∈ Region.ready md ops listed → Sure P ops oi v a →
      wpAnyIn (Fr r) 0 P md ops Q fuel (listed.setIfInBounds i true) (a.put oi.dst v) w → wpAnyIn (Fr r) 0 P md ops Q (fuel + 1) listed a w := by
  intro fuel
  induction fuel with
  | zero =>
    intro listed a w _ hr hy H
    refine ⟨fun h => (by rw [h] at hr; cases hr), fun j hj => ?_⟩
    by_cases hji : j = i
    · subst hji; exact hy.opIn (hpl _ _ hi) hi H
    · have := ready_mono hj hji
      rw [H.1] at this
      cases this
  | succ fuel ih =>
    intro listed a w hfree hr hy H
    refine ⟨fun h => (by rw [h] at hr; cases hr), fun j hj => ?_⟩
    by_cases hji : j = i
    · subst hji; exact hy.opIn (hpl _ _ hi) hi H
    · have h1 := H.2 j (ready_mono hj hji)
      obtain ⟨hjun, oj, hoj, hall⟩ := mem_ready.1 hj
      have hnot : ∀ e ∈ oj.after, Region.binds md e = true → e.on ≠ i := fun e he hb heq => by
        have h1 := hall e he hb
        have h0 := (mem_ready.1 hr).1
        rw [heq] at h1
        rcases Nat.lt_or_ge i listed.size with h' | h'
        · simp [h'] at h0 h1; rw [h0] at h1; cases h1
        · simp [Array.getElem?_eq_none h'] at h1
      have h2 := opIn_put hoj (hfree j oj hoj hji hjun hnot) (hpl i oi hi) (hpl j oj hoj) hQ hy h1
      have hfree' : ∀ k ok, ops[k]? = some ok → k ≠ i → (listed.setIfInBounds j true).getD k true = false →
          (∀ e ∈ ok.after, Region.binds md e = true → e.on ≠ i) → oi.apart ops ok = true := fun k ok hk hki hun hno => by
        refine hfree k ok hk hki ?_ hno
        by_cases hjk : j = k
        · subst hjk; exact hjun
        · rw [getD_set_ne true hjk] at hun; exact hun
      refine wpOpIn_mono (fun a' w' h3 => ih (listed.setIfInBounds j true) a' w' hfree' (ready_mono hr (Ne.symm hji)) h3.1 ?_) h2
      rw [Array.setIfInBounds_comm _ _ hji]
      exact h3.2

/-- An operation that yields v in whatever world goes first. -/
theorem any_take (i : Nat) {oi : Oper} (d : Option Tmp) (v : Value) {fuel : Nat} {listed : Array Bool} {a : Act} {w : World} (hi : ops[i]? = some oi) (hd : oi.dst = d)
    (hpl : ops.all plainOp = true) (hf : Region.free md ops listed i = true) (hr : (Region.ready md ops listed).contains i = true)
    (hQ : ∀ c a w, Q (.panic c) (a.put d v) w → Q (.panic c) a w) (hy : Sure P ops oi v a)
    (h : wpAnyIn (Fr r) 0 P md ops Q fuel (listed.setIfInBounds i true) (a.put d v) w) : wpAnyIn (Fr r) 0 P md ops Q (fuel + 1) listed a w := by
  subst hd
  exact any_first hi (fun j o hj => by
    rw [Array.all_eq_true] at hpl
    obtain ⟨hlt, rfl⟩ := Array.getElem?_eq_some_iff.1 hj
    exact hpl j hlt) hQ fuel listed a w (Region.free_spec hi hf) (by simpa using hr) hy h

/-- A value, reckoned. -/
theorem Sure.value {o : Oper} {v : Value} {a : Act} (hg : o.guard = none) (h : ∀ w, (execOp a.eval o).run P w = .ok (.value v) w) : Sure P ops o v a :=
  fun w => .inl ⟨by simp [Region.wanted, hg], .inl (h w)⟩
/-- A call that leaves the world as it is. -/
theorem Sure.call {o : Oper} {v : Value} {a : Act} (hg : o.guard = none) (f : FuncId) (args : Array Value) (h : ∀ w, (execOp a.eval o).run P w = .ok (.enter f args) w)
    (hc : ∀ w, Calls P f args w fun e w' => e = .returned v ∧ w = w') : Sure P ops o v a :=
  fun w => .inl ⟨by simp [Region.wanted, hg], .inr (.inr ⟨f, args, h w, (hc w).mono fun _ _ h => ⟨h.1, h.2.symm⟩⟩)⟩

/-- One operation of a region, run. -/
theorem opIn_value {i : Nat} {o : Oper} (d : Option Tmp) {v : Value} {a : Act} {w w' : World} {K : Act → World → Prop} (hp : plainOp o = true) (hi : ops[i]? = some o) (hg : o.guard = none) (hd : o.dst = d)
    (h : (execOp a.eval o).run P w = .ok (.value v) w') (hK : K (a.put d v) w') : wpOpIn (Fr r) 0 P ops Q i K a w := by
  subst hd
  unfold Go.wpOpIn
  simp only [hi, Region.wanted, hg, if_true, Oper.wpIn, semAt_plain hp, h]
  exact ⟨fun _ _ => trivial, hK⟩
theorem opIn_skip {i : Nat} {o : Oper} (d : Option Tmp) {a : Act} {w w' : World} {K : Act → World → Prop} (hp : plainOp o = true) (hi : ops[i]? = some o) (hg : o.guard = none) (hd : o.dst = d)
    (h : (execOp a.eval o).run P w = .ok .skip w') (hK : K (a.put d undef) w') : wpOpIn (Fr r) 0 P ops Q i K a w := by
  subst hd
  unfold Go.wpOpIn
  simp only [hi, Region.wanted, hg, if_true, Oper.wpIn, semAt_plain hp, h]
  exact ⟨fun _ _ => trivial, hK⟩

/-- Where the row lies behind an append: where it lay, or in the next new block. -/
theorem append_block {base : Nat} {t ty e : TypeId} {i : TypeInfo} {z : Value} {size bytes : Nat} {w w' : World} {v v' : Value}
    (ht : P.underlying t = some (.slice e)) (hi : P.info? e = some i) (hz : i.zero = some z) (hsize : i.size = size) (hby : i.bytes = bytes)
    (n : Nat) (xs : List Value) (hown : w.ownsRow base e size v n xs)
    (ad : Addr) (m c : Nat) (news : List Value) (hl : news.length = m * size) (hnews : ∀ j u, news[j]? = some u → w.cell? (ad.add j) = some u) (h1 : ∀ u ∈ news, u.oneCell' = true)
    (h63 : n + m ≤ maxLen) (hbytes : (n + m) * bytes ≤ 140737488355328) (hm : m ≠ 0)
    (hr : (Builtin.append_ #[t, t] ty #[v, .slice (some ad) m c]).run P w = .ok v' w') : v'.ownBlock = v.ownBlock ∨ v'.ownBlock = some w.heap.size := by
  subst hsize hby
  have hs : n + m ≤ 9223372036854775807 := by simp only [maxLen] at h63; omega
  obtain ⟨hx, (⟨rfl, rfl⟩ | ⟨g, cap, cur, rfl, _, hg, hnc, _, hcs, _⟩)⟩ := hown
  · have hr' := run_append_nil (P := P) w t ty e i z ht hi hz ad m c news hl hnews (by omega) (by omega) (by simp at hbytes; omega)
    rw [hr] at hr'
    simp only [Result.ok.injEq] at hr'
    rw [hr'.1]
    exact .inr rfl
  · by_cases hroom : n + m ≤ cap
    · have hr' := run_append_room (P := P) w t ty e i ht hi g n cap cur hg ad m c news hl hnews h1 hroom (by rw [hl, hcs, ← Nat.add_mul]; exact Nat.mul_le_mul_right _ hroom)
      rw [hr] at hr'
      simp only [Result.ok.injEq] at hr'
      rw [hr'.1]
      exact .inl rfl
    · have hc : ∀ j u, xs[j]? = some u → w.cell? ((⟨g, 0, none⟩ : Addr).add j) = some u := (World.ownsRow.cells (w := w) (base := 0) (n := n) (v := .slice (some ⟨g, 0, none⟩) n cap) ⟨hx, .inr ⟨g, cap, cur, rfl, Nat.zero_le _, hg, hnc, by assumption, hcs, by assumption⟩⟩) rfl
      have hr' := run_append_grow (P := P) w t ty e i z ht hi hz ⟨g, 0, none⟩ n cap xs hx hc ad m c news hl hnews (by omega) (by omega) (growslice_fits (by omega) hbytes)
      rw [hr] at hr'
      simp only [Result.ok.injEq] at hr'
      rw [hr'.1]
      exact .inr rfl
/-- An append to a row of the call's own, run. -/
theorem run_append {base : Nat} {s x : Operand} {t e : TypeId} {i : TypeInfo} {z : Value} {size bytes : Nat} {o : Oper} {a : Act} {w : World}
    (hop : o.op = .call { callee := .builtin .append, args := #[s, x], argTypes := #[t, t] })
    (ht : P.underlying t = some (.slice e)) (hi : P.info? e = some i) (hz : i.zero = some z) (hsize : i.size = size) (hby : i.bytes = bytes) (hzs : z.cells.size = size) (hsz : 0 < size)
    (v : Value) (n : Nat) (xs : List Value) (hs : a.eval s = v) (hown : w.ownsRow base e size v n xs)
    (ad : Addr) (m c : Nat) (news : List Value) (hx : a.eval x = .slice (some ad) m c) (hl : news.length = m * size) (hnews : ∀ j u, news[j]? = some u → w.cell? (ad.add j) = some u) (h1 : ∀ u ∈ news, u.oneCell' = true)
    (h63 : n + m ≤ maxLen) (hbytes : (n + m) * bytes ≤ 140737488355328) (hbase : base ≤ w.heap.size) (hm : m ≠ 0) :
    ∃ v' w', (execOp a.eval o).run P w = .ok (.value v') w' ∧ w'.ownsRow base e size v' (n + m) (xs ++ news) ∧ w.grownBy w' v.ownBlock ∧ (v'.ownBlock = v.ownBlock ∨ v'.ownBlock = some w.heap.size) := by
  obtain ⟨v', w', hr, h2, h3, _⟩ := run_append_own (P := P) w base t o.type e i z size bytes ht hi hz hsize hby hzs hsz v n xs hown ad m c news hl hnews h1 h63 hbytes hbase
  refine ⟨v', w', ?_, h2, h3, append_block ht hi hz hsize hby n xs hown ad m c news hl hnews h1 h63 hbytes hm hr⟩
  simp [execOp, hop, resolve, invoke, builtin, hs, hx, hr, Result.andThen]

/-- The same, at an operation of a region. -/
theorem opIn_append {j : Nat} (d : Option Tmp) {base : Nat} {s x : Operand} {t e : TypeId} {i : TypeInfo} {z : Value} {size bytes : Nat} {o : Oper} {a : Act} {w : World} {K : Act → World → Prop} (hp : plainOp o = true) (hj : ops[j]? = some o) (hgd : o.guard = none) (hd : o.dst = d)
    (hop : o.op = .call { callee := .builtin .append, args := #[s, x], argTypes := #[t, t] })
    (ht : P.underlying t = some (.slice e)) (hi : P.info? e = some i) (hz : i.zero = some z) (hsize : i.size = size) (hby : i.bytes = bytes) (hzs : z.cells.size = size) (hsz : 0 < size)
    (v : Value) (n : Nat) (xs : List Value) (hs : a.eval s = v) (hown : w.ownsRow base e size v n xs)
    (ad : Addr) (m c : Nat) (news : List Value) (hx : a.eval x = .slice (some ad) m c) (hl : news.length = m * size) (hnews : ∀ j u, news[j]? = some u → w.cell? (ad.add j) = some u) (h1 : ∀ u ∈ news, u.oneCell' = true)
    (h63 : n + m ≤ maxLen) (hbytes : (n + m) * bytes ≤ 140737488355328) (hbase : base ≤ w.heap.size) (hm : m ≠ 0)
    (hK : ∀ v' w', w'.ownsRow base e size v' (n + m) (xs ++ news) → w.grownBy w' v.ownBlock → (v'.ownBlock = v.ownBlock ∨ v'.ownBlock = some w.heap.size) → K (a.put d v') w') : wpOpIn (Fr r) 0 P ops Q j K a w := by
  obtain ⟨v', w', hr, h2, h3, h4⟩ := run_append (P := P) hop ht hi hz hsize hby hzs hsz v n xs hs hown ad m c news hx hl hnews h1 h63 hbytes hbase hm
  exact opIn_value d hp hj hgd hd hr (hK v' w' h2 h3 h4)

/-- Eight rows of numbers, each in a block of its own, in an array variable. -/
def Own8 (n0 B : Nat) (T e : TypeId) (X : Nat → List Int) (W : World) : Prop :=
  ∃ vs : List Value, vs.length = 8 ∧ W.heap[B]? = some (.cells vs.toArray T (0, 0)) ∧
    (∀ u, u < 8 → W.ownsRow n0 e 1 (vs.getD u undef) (X u).length ((X u).map (Value.int .i64))) ∧
    (∀ u u' g, u < 8 → u' < 8 → (vs.getD u undef).ownBlock = some g → (vs.getD u' undef).ownBlock = some g → u = u')

theorem Own8.lt {n0 B : Nat} {T e : TypeId} {X : Nat → List Int} {W : World} (h : Own8 n0 B T e X W) : B < W.heap.size := by
  obtain ⟨vs, _, hb, _⟩ := h
  exact (Array.getElem?_eq_some_iff.1 hb).1

/-- No row lies in the array's own block, or in one that holds other cells. -/
theorem ownsRow_ne {W : World} {n0 g : Nat} {e t : TypeId} {v : Value} {n : Nat} {xs : List Value} {c : Array Value} {f : Nat × Nat} (h : W.ownsRow n0 e 1 v n xs) (hg : W.heap[g]? = some (.cells c t f)) (hte : t ≠ e) : v.ownBlock ≠ some g := by
  intro hv
  rcases h.2 with ⟨rfl, _⟩ | ⟨g', cap, cur, rfl, _, hh, _⟩
  · cases hv
  · simp only [Value.ownBlock, Option.some.injEq] at hv
    subst hv
    rw [hg] at hh
    simp only [Option.some.injEq, Obj.cells.injEq] at hh
    exact hte hh.2.1

theorem Own8.kept {n0 B : Nat} {T e : TypeId} {X : Nat → List Int} {W W' : World} {S : Nat → Prop} (h : Own8 n0 B T e X W) (hm : Mods S W W') (hB : ¬ S B) (hS : ∀ g, n0 ≤ g → ¬ S g) : Own8 n0 B T e X W' := by
  obtain ⟨vs, hl, hb, ho, hd⟩ := h
  exact ⟨vs, hl, hm.heap hb hB, fun u hu => hm.ownsRow (ho u hu) fun g hg => hS g ((ho u hu).lt g hg).1, hd⟩

theorem Stab.own8 {C : Nat} (n0 B : Nat) (T e : TypeId) (X : Nat → List Int) : Stab C (Own8 n0 B T e X) :=
  .ex fun _ => .and (.pure _) (.and (fun _ _ h k => k.block _ _ h (.inr rfl)) (.and (fun W W' h k u hu => Stab.ownsRow _ _ _ _ _ _ W W' (h u hu) k) (.pure _)))

/-- An array of eight rows of numbers, as a value. -/
def Told8 (n0 : Nat) (e : TypeId) (X : Nat → List Int) (v : Value) (W : World) : Prop :=
  ∃ vs : List Value, v = .agg vs.toArray ∧ vs.length = 8 ∧ ∀ u, u < 8 → W.ownsRow n0 e 1 (vs.getD u undef) (X u).length ((X u).map (Value.int .i64))
def Ret8 (w : World) (e : TypeId) (X : Nat → List Int) (en : Ending) (w' : World) : Prop := ∃ v, en = .returned v ∧ Told8 w.heap.size e X v w' ∧ New w w'
theorem Own8.told {n0 B : Nat} {T e : TypeId} {X : Nat → List Int} {W : World} (h : Own8 n0 B T e X W) : ∃ vs : List Value, W.heap[B]? = some (.cells vs.toArray T (0, 0)) ∧ vs.length = 8 ∧ Told8 n0 e X (.agg vs.toArray) W ∧ ∀ v ∈ vs, v.oneCell' = true := by
  obtain ⟨vs, hl, hb, ho, _⟩ := h
  refine ⟨vs, hb, hl, ⟨vs, rfl, hl, ho⟩, fun v hv => ?_⟩
  obtain ⟨i, hi, rfl⟩ := List.mem_iff_getElem.1 hv
  have := ho i (by omega)
  have e : vs.getD i undef = vs[i] := by simp [List.getD, hi]
  rw [e] at this
  rcases this.2 with ⟨h, _⟩ | ⟨g, cap, cur, h, _⟩ <;> rw [h] <;> rfl
theorem Told8.mono {n0 n1 : Nat} {e : TypeId} {X : Nat → List Int} {v : Value} {W : World} (h : Told8 n1 e X v W) (hn : n0 ≤ n1) : Told8 n0 e X v W := by
  obtain ⟨vs, hv, hl, ho⟩ := h
  refine ⟨vs, hv, hl, fun u hu => ?_⟩
  have := ho u hu
  exact ⟨this.1, this.2.imp id fun ⟨g, cap, cur, h1, h2, r⟩ => ⟨g, cap, cur, h1, by omega, r⟩⟩
theorem told8_putObj {n0 : Nat} {e : TypeId} {X : Nat → List Int} {v : Value} {W : World} (h : Told8 n0 e X v W) {D : Nat} {o o' : Obj} (hD : W.heap[D]? = some o) (ho : o.isCells = false) : Told8 n0 e X v (W.putObj D o') := by
  obtain ⟨vs, hv, hl, hr⟩ := h
  exact ⟨vs, hv, hl, fun u hu => ownsRow_putObj (hr u hu) o' hD ho⟩
theorem Told8.nil (n0 : Nat) (e : TypeId) (W : World) : Told8 n0 e (fun _ => []) (.agg #[.slice none 0 0, .slice none 0 0, .slice none 0 0, .slice none 0 0, .slice none 0 0, .slice none 0 0, .slice none 0 0, .slice none 0 0]) W := by
  refine ⟨_, rfl, rfl, fun u hu => ?_⟩
  match u, hu with
  | 0, _ => exact World.ownsRow_nil _ _ _ _
  | 1, _ => exact World.ownsRow_nil _ _ _ _
  | 2, _ => exact World.ownsRow_nil _ _ _ _
  | 3, _ => exact World.ownsRow_nil _ _ _ _
  | 4, _ => exact World.ownsRow_nil _ _ _ _
  | 5, _ => exact World.ownsRow_nil _ _ _ _
  | 6, _ => exact World.ownsRow_nil _ _ _ _
  | 7, _ => exact World.ownsRow_nil _ _ _ _
theorem Own8.nil (n0 B : Nat) (T e : TypeId) (W : World) (hb : W.heap[B]? = some (.cells #[.slice none 0 0, .slice none 0 0, .slice none 0 0, .slice none 0 0, .slice none 0 0, .slice none 0 0, .slice none 0 0, .slice none 0 0] T (0, 0))) : Own8 n0 B T e (fun _ => []) W := by
  have ho : ∀ u, u < 8 → ([.slice none 0 0, .slice none 0 0, .slice none 0 0, .slice none 0 0, .slice none 0 0, .slice none 0 0, .slice none 0 0, .slice none 0 0] : List Value).getD u undef = .slice none 0 0 := fun u hu => by
    match u, hu with
    | 0, _ => rfl
    | 1, _ => rfl
    | 2, _ => rfl
    | 3, _ => rfl
    | 4, _ => rfl
    | 5, _ => rfl
    | 6, _ => rfl
    | 7, _ => rfl
  refine ⟨_, rfl, hb, fun u hu => ?_, fun u u' g hu _ h1 _ => ?_⟩
  · rw [ho u hu]; exact World.ownsRow_nil _ _ _ _
  · rw [ho u hu] at h1; cases h1
theorem nil8_one : ∀ v ∈ ([.slice none 0 0, .slice none 0 0, .slice none 0 0, .slice none 0 0, .slice none 0 0, .slice none 0 0, .slice none 0 0, .slice none 0 0] : List Value), v.oneCell' = true := fun v hv => by simp at hv; subst hv; rfl

/-- One row of them told: its value, where it stands. -/
theorem Own8.row {n0 B : Nat} {T e : TypeId} {X : Nat → List Int} {W : World} (h : Own8 n0 B T e X W) (u : Nat) (hu : u < 8) :
    ∃ v, W.cell? ⟨B, u, none⟩ = some v ∧ W.frozen? ⟨B, u, none⟩ = false ∧ W.ownsRow n0 e 1 v (X u).length ((X u).map (Value.int .i64)) ∧
      (∀ (W1 W2 : World) (v' : Value) (x : Int), W.heap.size ≤ W1.heap.size → (∀ k, k < W.heap.size → W1.heap[k]? = W.heap[k]?) → W1.grownBy W2 v.ownBlock → (v'.ownBlock = v.ownBlock ∨ v'.ownBlock = some W1.heap.size) →
        W2.ownsRow n0 e 1 v' ((X u).length + 1) ((X u).map (Value.int .i64) ++ [.int .i64 x]) → T ≠ e → n0 ≤ W.heap.size →
        Own8 n0 B T e (fun k => if k = u then X u ++ [x] else X k) (W2.setCell ⟨B, u, none⟩ v') ∧ W2.cell? ⟨B, u, none⟩ = some v ∧ W2.frozen? ⟨B, u, none⟩ = false) := by
  obtain ⟨vs, hl, hb, ho, hd⟩ := h
  have hlt := (Array.getElem?_eq_some_iff.1 hb).1
  have hvu : vs[u]? = some (vs.getD u undef) := by simp [List.getD, show u < vs.length by omega]
  have hcell : ∀ A : World, A.heap[B]? = some (.cells vs.toArray T (0, 0)) → A.cell? ⟨B, u, none⟩ = some (vs.getD u undef) ∧ A.frozen? ⟨B, u, none⟩ = false := fun A hA => by
    constructor
    · unfold World.cell?
      rw [hA]
      show vs.toArray[u]? = _
      rw [List.getElem?_toArray]
      exact hvu
    · simp [World.frozen?, hA]
  refine ⟨vs.getD u undef, (hcell W hb).1, (hcell W hb).2, ho u hu, ?_⟩
  intro W1 W2 v' x hsz hsame hg hv' hown hTe hn0
  have hb1 : W1.heap[B]? = some (.cells vs.toArray T (0, 0)) := (hsame B hlt).trans hb
  have hne : (vs.getD u undef).ownBlock ≠ some B := ownsRow_ne (ho u hu) hb hTe
  have hb2 : W2.heap[B]? = some (.cells vs.toArray T (0, 0)) := (hg.block B (by omega) (fun e => hne e.symm)).trans hb1
  refine ⟨⟨vs.set u v', by simp [hl], ?_, ?_, ?_⟩, (hcell W2 hb2).1, (hcell W2 hb2).2⟩
  · have hB2 := (Array.getElem?_eq_some_iff.1 hb2).1
    simp only [World.setCell, Array.getElem?_modify, if_pos, hb2, Option.map_some]
    simp
  · intro k hk
    have hkeep : ∀ {n xs} , k ≠ u → W.ownsRow n0 e 1 (vs.getD k undef) n xs → W2.ownsRow n0 e 1 (vs.getD k undef) n xs := fun {n xs} hku h => by
      refine ⟨h.1, h.2.imp id ?_⟩
      rintro ⟨g, cap, cur, hv, hbg, hgg, rest⟩
      refine ⟨g, cap, cur, hv, hbg, ?_, rest⟩
      have hgl := (Array.getElem?_eq_some_iff.1 hgg).1
      refine (hg.block g (by omega) ?_).trans ((hsame g hgl).trans hgg)
      intro e
      exact hku (hd k u g hk hu (by rw [hv]; rfl) e.symm)
    have hstore : ∀ {v n xs}, W2.ownsRow n0 e 1 v n xs → (W2.setCell ⟨B, u, none⟩ v').ownsRow n0 e 1 v n xs := fun {v n xs} h => by
      refine ⟨h.1, h.2.imp id ?_⟩
      rintro ⟨g, cap, cur, hv, hbg, hgg, rest⟩
      refine ⟨g, cap, cur, hv, hbg, ?_, rest⟩
      rw [Below.heap_setCell _ _ _ _ (show g ≠ B from ?_)]
      · exact hgg
      · rintro rfl
        rw [hb2] at hgg
        simp only [Option.some.injEq, Obj.cells.injEq] at hgg
        exact hTe hgg.2.1
    by_cases hku : k = u
    · subst hku
      have e1 : (vs.set k v').getD k undef = v' := by simp [List.getD, show k < vs.length by omega]
      rw [e1]
      simp only [if_true, List.length_append, List.length_singleton, List.map_append, List.map_cons, List.map_nil]
      exact hstore hown
    · have e1 : (vs.set u v').getD k undef = vs.getD k undef := by simp [List.getD, Ne.symm hku]
      rw [e1]
      simp only [hku, if_false]
      exact hstore (hkeep hku (ho k hk))
  · intro k k' g hk hk' h1 h2
    have e1 : ∀ k, (vs.set u v').getD k undef = if k = u ∧ u < vs.length then v' else vs.getD k undef := fun k => by
      simp only [List.getD, List.getElem?_set]
      split
      · rename_i h; subst h; simp [show u < vs.length by omega]
      · rename_i h; simp [Ne.symm h]
    have old : ∀ k, k < 8 → k ≠ u → (vs.getD k undef).ownBlock = some g → v'.ownBlock = some g → False := fun k hk hku hg1 hg2 => by
      rcases hv' with h | h
      · exact hku (hd k u g hk hu hg1 (by rw [← h]; exact hg2))
      · rw [h] at hg2
        simp only [Option.some.injEq] at hg2
        have := ((ho k hk).lt g hg1).2
        omega
    rw [e1] at h1 h2
    by_cases c1 : k = u <;> by_cases c2 : k' = u
    · rw [c1, c2]
    · simp only [c1, show u < vs.length by omega, and_self, if_true, c2, false_and, if_false] at h1 h2
      exact (old k' hk' c2 h2 h1).elim
    · simp only [c1, show u < vs.length by omega, c2, and_self, if_true, false_and, if_false] at h1 h2
      exact (old k hk c1 h1 h2).elim
    · simp only [c1, c2, false_and, if_false] at h1 h2
      exact hd k k' g hk hk' h1 h2
end Go.Cs
