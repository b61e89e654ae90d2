/- Bytes, three by three (the program). -/
import Derived.Test.YtihmnkbkigkjjaaDoorZ8
import Derived.Test.YtihmnkbkigkjjaaDoorQT
import Derived.Test.YtihmnkbkigkjjaaDoorShelf2
import Derived.OwnWalkIn
import Derived.TacticsInMore
import Derived.LoopNIn
import Derived.LoopIn
import Derived.WalkLawsBesides
namespace Go.Proofs.YtihmnkbkigkjjaaDoor
open Go.RowKit Go.Shelf Go.Cs
attribute [local go_sem] Oper.semAt_some
set_option linter.unusedVariables false
set_option linter.unusedSimpArgs false
theorem min_if (x y : Int) : (if y < x then y else x) = min x y := by
  rw [Int.min_def]
  split <;> split <;> omega
theorem max_if (x y : Int) : (if y > x then y else x) = max x y := by
  rw [Int.max_def]
  split <;> split <;> omega
theorem run_min2' (x y : Int) (W : World) (ts : Array TypeId) (t : TypeId) : (Builtin.min_ ts t #[.int .i64 x, .int .i64 y]).run Tryd.prog W = .ok (.int .i64 (min x y)) W := by
  rw [run_min_int2, min_if]
def encC (p : Nat × Nat) : Array Value := #[.int .u32 (p.1 : Nat), .int .i64 (p.2 : Nat)]
/-- The first bytes as one number. -/
def cv (l : Bare.Bs) : Nat → Nat
  | 0 => 0
  | i + 1 => cv l i * 256 + (l.getD i 0).toNat
theorem cv_lt (l : Bare.Bs) : ∀ i, cv l i < 256 ^ i
  | 0 => by simp [cv]
  | i + 1 => by
    have := cv_lt l i
    have h2 := UInt8.toNat_lt (l.getD i 0)
    rw [cv, Nat.pow_succ]
    omega
theorem cv_chunk (l : Bare.Bs) : cv l 3 = (Bare.chunk l).1 := by
  unfold Bare.chunk
  simp only [cv]
  omega
theorem or256 (n c : Nat) (hn : n < 65536) (hc : c < 256) : bits BinOp.or IntKind.u32 ((n : Int) * 256) ((c : Int) % 4294967296) = ((n * 256 + c : Nat) : Int) := by
  have e : ((n : Int) * 256) = ((n * 256 : Nat) : Int) := by omega
  have e3 : ((c : Int) % 4294967296) = ((c : Nat) : Int) := by omega
  rw [e3]
  have e2 : n * 256 = n <<< 8 := by rw [Nat.shiftLeft_eq]
  rw [e, u32_or_nat _ _ (by omega) (by omega), e2, ← Nat.shiftLeft_add_eq_or_of_lt (by omega : c < 2 ^ 8)]
/-- What turning the box of B leaves. -/
def Kx (B : Nat) (A A' : World) : Prop := Mods (fun b => b = B) A A' ∧ ∀ c t fr, A.heap[B]? = some (.cells c t fr) → ∃ c', A'.heap[B]? = some (.cells c' t fr)
theorem Kx.keeps {B : Nat} : ∀ A A', Kx B A A' → ∀ (k : Nat) (o : Obj), A.heap[k]? = some o → o.isCells = false → A'.heap[k]? = some o := fun A A' h k o hk ho => h.1.block k o hk (.inr ho)
theorem Kx.set (B : Nat) (A : World) (v : Value) : Kx B A (A.setCell ⟨B, 0, none⟩ v) :=
  ⟨setMods A B 0 v, fun c t fr h => ⟨_, setCell_heap h v⟩⟩
/-- How much is left in the box. -/
def left (B : Nat) (w : World) : Nat := match w.cell? ⟨B, 0, none⟩ with
  | some (.string s) => s.size
  | _ => 0
set_option maxHeartbeats 4000000 in
set_option maxRecDepth 100000 in
theorem threes1_iter (B : Nat) (l : Bare.Bs) (hl : l.length ≤ 1000000) (S : Nat → Prop) (hSB : ¬ S B) (W : World) (hB : Boxed W B 9 (.string (tx l))) :
    IterAtK Tryd.prog 43 #[.pointer (some ⟨B, 0, none⟩)] ((Bare.chunks l).map encC) S (Kx B) (fun _ => True) W := by
  intro l0 J Jx hJ hJx hY h0
  refine (callsIn_wide (n := 0)).1 (callsIn_of_wp Tryd.func43 rfl trivial ?_ rfl)
  simp only [Tryd.ntmps43, List.size_toArray, List.length_cons, List.length_nil, Nat.reduceAdd, Nat.reduceSub, Array.replicate_succ, Array.replicate_zero, List.push_toArray, List.append_toArray, List.nil_append, List.cons_append]
  gi_wp2
  gi_loopw [] (fun wr => ∃ (k : Nat) (d : Bare.Bs), J k wr ∧ Boxed wr B 9 (.string (tx d)) ∧ Hid ((Bare.chunks l).drop k = Bare.chunks d) ∧ d.length ≤ 1000000 ∧ k ≤ (Bare.chunks l).length) (fun wr => left B wr)
  case atStart => exact ⟨0, l, h0, hB, Lib.hid rfl, hl, Nat.zero_le _⟩
  case round =>
    obtain ⟨k, d, hJk, hbx, Hd, hdl, hkl⟩ := hrel
    obtain ⟨c1, f1⟩ := hbx.both
    have hem := tx_empty d
    obtain ⟨s, hs⟩ : ∃ s, tx d = s := ⟨_, rfl⟩
    have hss : s.size = d.length := by rw [← hs, tx_size]
    rw [hs] at hbx c1 hem
    by_cases hd : d = []
    · subst hd
      have he : k = (Bare.chunks l).length := by
        have := congrArg List.length Hd.out
        rw [List.length_drop] at this
        simp [Bare.chunks] at this
        omega
      have hem2 : s.toList.isEmpty = true := hem
      subst he
      clear hem hs hss Hd hdl
      gi_wp2
      go_end0
      exact ⟨⟨_, rfl⟩, .inl ⟨by rw [List.length_map]; exact hJk, trivial⟩⟩
    · have hem2 : s.toList.isEmpty = false := by rw [hem]; cases d with | nil => exact absurd rfl hd | cons a b => rfl
      clear hem
      have hcc := Bare.chunks_cons hd
      have hch := cv_chunk d
      have hc2 : (Bare.chunk d).2 = min 3 d.length := rfl
      have hget : (Bare.chunks l)[k]? = some (Bare.chunk d) := by
        have h := congrArg List.head? Hd.out
        rw [List.head?_drop, hcc] at h
        exact h
      have Hn : Hid ((Bare.chunks l).drop (k + 1) = Bare.chunks (d.drop 3)) := Lib.hid (by
        have h := congrArg List.tail Hd.out
        rw [List.tail_drop, hcc] at h
        exact h)
      gi_wp2
      gi_loop [3, 12] (fun n c => ∃ i : Nat, i ≤ 3 ∧ n = .int .u32 (cv d i : Nat) ∧ c = .int .i64 i) (fun _ c => 3 - (intOf c).toNat)
      case atStart => exact ⟨0, by omega, rfl, rfl⟩
      case round =>
        obtain ⟨i, hi, rfl, rfl⟩ := hrel
        by_cases hi3 : i < 3
        · have hlt := cv_lt d i
          have hp : 256 ^ i ≤ 65536 := by
            have : i = 0 ∨ i = 1 ∨ i = 2 := by omega
            rcases this with rfl | rfl | rfl <;> decide
          have hcs : cv d (i + 1) = cv d i * 256 + (d.getD i 0).toNat := rfl
          obtain ⟨n, hn⟩ : ∃ n, cv d i = n := ⟨_, rfl⟩
          rw [hn] at hlt hcs ⊢
          have hn6 : n < 65536 := by omega
          by_cases his : i < s.size
          · have hix := run_idx s i his
            have hgb : gb s i = d.getD i 0 := by rw [← hs]; rfl
            rw [hgb] at hix
            have hor := or256 n (d.getD i 0).toNat hn6 (UInt8.toNat_lt _)
            rw [← hcs] at hor
            obtain ⟨c, hc⟩ : ∃ c, (d.getD i 0).toNat = c := ⟨_, rfl⟩
            rw [hc] at hix hor
            have his' : decide ((i : Int) < (s.size : Int)) = true := decide_eq_true (by omega)
            clear hn hcs hc hgb hlt
            gi_wp2
            go_round
            case rel => exact ⟨i + 1, by omega, rfl, by go_num⟩
            case measure => simp [intOf]; omega
          · have hg0 : d.getD i 0 = 0 := by rw [List.getD_eq_getElem?_getD, List.getElem?_eq_none (by omega)]; rfl
            rw [hg0, show (0 : UInt8).toNat = 0 from rfl, Nat.add_zero] at hcs
            have his' : decide ((i : Int) < (s.size : Int)) = false := decide_eq_false (by omega)
            have HE : Hid (((n : Int) * 256) = ((cv d (i + 1) : Nat) : Int)) := Lib.hid (by rw [hcs]; omega)
            clear hn hg0 hlt hcs
            gi_wp2
            go_round
            case rel => exact ⟨i + 1, by omega, by rw [← HE.out], by go_num⟩
            case measure => simp [intOf]; omega
        · obtain rfl : i = 3 := by omega
          rw [hch]
          have hmin : ∀ W ts t, (Builtin.min_ ts t #[.int .i64 3, .int .i64 (s.size : Int)]).run Tryd.prog W = .ok (.int .i64 (min 3 (s.size : Int))) W := fun W ts t => run_min2' _ _ W ts t
          have hmn : min 3 (s.size : Int) = (((Bare.chunk d).2 : Nat) : Int) := by rw [hc2, hss]; omega
          rw [hmn] at hmin
          have h2l : (Bare.chunk d).2 ≤ s.size := by rw [hc2, hss]; omega
          have h2p : 0 < (Bare.chunk d).2 := by rw [hc2]; have := List.length_pos_iff.2 hd; omega
          have hsl := run_sl_l s (Bare.chunk d).2 h2l
          have hdd : (bl s).drop (Bare.chunk d).2 = d.drop 3 := by
            rw [← hs, bl_tx, hc2]
            by_cases h : 3 ≤ d.length
            · rw [Nat.min_eq_left h]
            · rw [List.drop_eq_nil_of_le (by omega : d.length ≤ 3), List.drop_eq_nil_of_le (by omega)]
          rw [hdd] at hsl
          have hnx : (d.drop 3).length < s.size := by rw [List.length_drop, hss]; have := List.length_pos_iff.2 hd; omega
          obtain ⟨nx, hnxe⟩ : ∃ x, tx (d.drop 3) = x := ⟨_, rfl⟩
          have Hnxe := Lib.hid hnxe
          have hnxs : nx.size < s.size := by rw [← hnxe, tx_size]; exact hnx
          have hk1 : k + 1 ≤ (Bare.chunks l).length := (List.getElem?_eq_some_iff.1 hget).1
          rw [hnxe] at hsl
          obtain ⟨fn, tmps, assign, body, hy, hR⟩ := hY k (encC (Bare.chunk d)) wr (by rw [List.getElem?_map, hget]; rfl) hJk
          clear hY
          dsimp only [encC] at hy
          obtain ⟨n, hn⟩ : ∃ n, (Bare.chunk d).1 = n := ⟨_, rfl⟩
          obtain ⟨m, hm⟩ : ∃ m, (Bare.chunk d).2 = m := ⟨_, rfl⟩
          rw [hn, hm] at hy
          rw [hm] at hmin hsl
          rw [hn]
          clear hmn hc2 hdd hch hget hss hs hnxe hnx
          gi_wp2
          refine ⟨rfl, hR.mono ?_⟩
          rintro e W3 (⟨rfl, hJ3, hm3⟩ | ⟨rfl, hJx3⟩)
          · have hb3 := hm3.boxed hbx hSB
            obtain ⟨c3, f3⟩ := hb3.both
            gi_wp2
            go_roundw
            case rel => exact ⟨k + 1, d.drop 3, hJ _ _ _ hJ3 (Kx.set B _ _), by rw [Hnxe.out]; exact hb3.set _, Hn, by rw [List.length_drop]; omega, hk1⟩
            case measure =>
              have e1 : left B wr = s.size := by unfold left; rw [c1]
              have e2 : left B (W3.setCell ⟨B, 0, none⟩ (.string nx)) = nx.size := by unfold left; rw [(hb3.set _).cell]
              rw [e1, e2]
              exact hnxs
          · gi_wp2
            refine bodyPost_ret (results_none rfl _ _ _) rfl ?_
            exact ⟨⟨_, rfl⟩, .inr ⟨k + 1, by rw [List.length_map]; exact hk1, hJx3⟩⟩
end Go.Proofs.YtihmnkbkigkjjaaDoor
