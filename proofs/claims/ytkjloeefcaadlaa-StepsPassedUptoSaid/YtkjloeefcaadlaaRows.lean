/-
  No cell of these rows narrows 'for every input' (looked for: loops, veiled, ifaces, maps, wideKeys, modest, calm, conditions, laid).
  DERIVED. THE GIVEN ROWS OF THIS SEAT. 14 by the template 'for every input the law returns true; each argument reads behind the call as it read before'; 0 by the template 'total and deterministic' (their statements: YtkjloeefcaadlaaTotals.lean).
  GIVEN WITH THE SEED: the statements are not yours to turn. If you find one false, say at which input.
  Laid BY PROGRAM, IN A SANDBOX (cutbox-rows.mjs): the forced cells as the released guide's own fill.sh prints them over the translation eb7893cca3889857… (all of the seat's roots in one cut). By AI agents, Wed Nov 11 2026. No macro, syntax, notation, axiom, sorry.
-/
import Derived.Test.YtkjloeefcaadlaaChecked
import GoSem.Claim
import GoSem.ClaimJoined
import GoSem.ClaimMapViews
import Derived.JoinedTies
import Derived.KernelRfl
namespace Go.Proofs.Ytkjloeefcaadlaa
/- THE CELL 'sum', in the pinned program and in every row, IS THE sha256 OF THE DUMP (.gsa) THAT YtkjloeefcaadlaaProg.lean LOADS. Nothing in Lean hashes anything: it is a label: what it is worth is what the hold of that sum in a sandbox is worth. -/
noncomputable def Try.pinned : Pinned := { name := "ytkjloeefcaadlaa", sum := "eb7893cca38898577fd1114fa584be8a5278d384b26ea62df7fdb86ab7c551ff", checked := Try.checked }
namespace Rows
def none {H : Type} : Left H := { results := [], args := [] }

/-- 'causeylaw19.QueueTells': WHATEVER THE INPUT: true; the input reads as it did. -/
def queueTellsSpec : ChangeSpec := { name := "queueTells", fn := fun _ => fun
  | [d1, d2] => { results := [.lit (.bool true)], args := [d1, d2] }
  | _ => none }
def queueTellsRow : OpenClaim := { program := "ytkjloeefcaadlaa", sum := "eb7893cca38898577fd1114fa584be8a5278d384b26ea62df7fdb86ab7c551ff", func := "causey/causeylaw19.QueueTells", spec := "queueTells", inPlace := ["sync/atomic.LoadUint64", "sync/atomic.CompareAndSwapUint64", "sync/atomic.StoreUint64"], unfollowed := true, recurses := true, leaving := true, apart := false }
def QueueTellsSaid : Prop := queueTellsRow.holds Try.pinned (OpenSpec.ofChange queueTellsSpec)

/-- ITS FALSE NEIGHBOUR: 'it returns false'. Refute it at one input. -/
def queueTellsWrong : ChangeSpec := { name := "queueTells", fn := fun _ => fun
  | [d1, d2] => { results := [.lit (.bool false)], args := [d1, d2] }
  | _ => none }
def QueueTellsWrongFalsely : Prop := queueTellsRow.holds Try.pinned (OpenSpec.ofChange queueTellsWrong)

/-- 'causeylaw19.QueueNil': WHATEVER THE INPUT: true; the input reads as it did. -/
def queueNilSpec : ChangeSpec := { name := "queueNil", fn := fun _ => fun
  | [d1, d2] => { results := [.lit (.bool true)], args := [d1, d2] }
  | _ => none }
def queueNilRow : OpenClaim := { program := "ytkjloeefcaadlaa", sum := "eb7893cca38898577fd1114fa584be8a5278d384b26ea62df7fdb86ab7c551ff", func := "causey/causeylaw19.QueueNil", spec := "queueNil", inPlace := ["sync/atomic.LoadUint64", "sync/atomic.CompareAndSwapUint64", "sync/atomic.StoreUint64"], unfollowed := true, recurses := true, leaving := true, apart := false }
def QueueNilSaid : Prop := queueNilRow.holds Try.pinned (OpenSpec.ofChange queueNilSpec)

/-- ITS FALSE NEIGHBOUR: 'it returns false'. Refute it at one input. -/
def queueNilWrong : ChangeSpec := { name := "queueNil", fn := fun _ => fun
  | [d1, d2] => { results := [.lit (.bool false)], args := [d1, d2] }
  | _ => none }
def QueueNilWrongFalsely : Prop := queueNilRow.holds Try.pinned (OpenSpec.ofChange queueNilWrong)

/-- 'causeylaw25.TurnBest': WHATEVER THE INPUT: true; the input reads as it did. -/
def turnBestSpec : ChangeSpec := { name := "turnBest", fn := fun _ => fun
  | [d] => { results := [.lit (.bool true)], args := [d] }
  | _ => none }
def turnBestRow : OpenClaim := { program := "ytkjloeefcaadlaa", sum := "eb7893cca38898577fd1114fa584be8a5278d384b26ea62df7fdb86ab7c551ff", func := "causey/causeylaw25.TurnBest", spec := "turnBest", unfollowed := true, recurses := true, leaving := true, apart := false }
def TurnBestSaid : Prop := turnBestRow.holds Try.pinned (OpenSpec.ofChange turnBestSpec)

/-- ITS FALSE NEIGHBOUR: 'it returns false'. Refute it at one input. -/
def turnBestWrong : ChangeSpec := { name := "turnBest", fn := fun _ => fun
  | [d] => { results := [.lit (.bool false)], args := [d] }
  | _ => none }
def TurnBestWrongFalsely : Prop := turnBestRow.holds Try.pinned (OpenSpec.ofChange turnBestWrong)

/-- 'causeylaw25.TurnShares': WHATEVER THE INPUT: true; the input reads as it did. -/
def turnSharesSpec : ChangeSpec := { name := "turnShares", fn := fun _ => fun
  | [d1, d2] => { results := [.lit (.bool true)], args := [d1, d2] }
  | _ => none }
def turnSharesRow : OpenClaim := { program := "ytkjloeefcaadlaa", sum := "eb7893cca38898577fd1114fa584be8a5278d384b26ea62df7fdb86ab7c551ff", func := "causey/causeylaw25.TurnShares", spec := "turnShares", unfollowed := true, recurses := true, leaving := true, apart := false }
def TurnSharesSaid : Prop := turnSharesRow.holds Try.pinned (OpenSpec.ofChange turnSharesSpec)

/-- ITS FALSE NEIGHBOUR: 'it returns false'. Refute it at one input. -/
def turnSharesWrong : ChangeSpec := { name := "turnShares", fn := fun _ => fun
  | [d1, d2] => { results := [.lit (.bool false)], args := [d1, d2] }
  | _ => none }
def TurnSharesWrongFalsely : Prop := turnSharesRow.holds Try.pinned (OpenSpec.ofChange turnSharesWrong)

/-- 'causeylaw25.TurnHolds': WHATEVER THE INPUT: true; the input reads as it did. -/
def turnHoldsSpec : ChangeSpec := { name := "turnHolds", fn := fun _ => fun
  | [d1, d2, d3, d4] => { results := [.lit (.bool true)], args := [d1, d2, d3, d4] }
  | _ => none }
def turnHoldsRow : OpenClaim := { program := "ytkjloeefcaadlaa", sum := "eb7893cca38898577fd1114fa584be8a5278d384b26ea62df7fdb86ab7c551ff", func := "causey/causeylaw25.TurnHolds", spec := "turnHolds", unfollowed := true, recurses := true, leaving := true, apart := false }
def TurnHoldsSaid : Prop := turnHoldsRow.holds Try.pinned (OpenSpec.ofChange turnHoldsSpec)

/-- ITS FALSE NEIGHBOUR: 'it returns false'. Refute it at one input. -/
def turnHoldsWrong : ChangeSpec := { name := "turnHolds", fn := fun _ => fun
  | [d1, d2, d3, d4] => { results := [.lit (.bool false)], args := [d1, d2, d3, d4] }
  | _ => none }
def TurnHoldsWrongFalsely : Prop := turnHoldsRow.holds Try.pinned (OpenSpec.ofChange turnHoldsWrong)

/-- 'causeylaw25.TurnOut': WHATEVER THE INPUT: true; the input reads as it did. -/
def turnOutSpec : ChangeSpec := { name := "turnOut", fn := fun _ => fun
  | [d1, d2, d3] => { results := [.lit (.bool true)], args := [d1, d2, d3] }
  | _ => none }
def turnOutRow : OpenClaim := { program := "ytkjloeefcaadlaa", sum := "eb7893cca38898577fd1114fa584be8a5278d384b26ea62df7fdb86ab7c551ff", func := "causey/causeylaw25.TurnOut", spec := "turnOut", unfollowed := true, recurses := true, leaving := true, apart := false }
def TurnOutSaid : Prop := turnOutRow.holds Try.pinned (OpenSpec.ofChange turnOutSpec)

/-- ITS FALSE NEIGHBOUR: 'it returns false'. Refute it at one input. -/
def turnOutWrong : ChangeSpec := { name := "turnOut", fn := fun _ => fun
  | [d1, d2, d3] => { results := [.lit (.bool false)], args := [d1, d2, d3] }
  | _ => none }
def TurnOutWrongFalsely : Prop := turnOutRow.holds Try.pinned (OpenSpec.ofChange turnOutWrong)

/-- 'causeylaw18.StepsLinear': WHATEVER THE INPUT: true; the input reads as it did. -/
def stepsLinearSpec : ChangeSpec := { name := "stepsLinear", fn := fun _ => fun
  | [d1, d2, d3] => { results := [.lit (.bool true)], args := [d1, d2, d3] }
  | _ => none }
def stepsLinearRow : OpenClaim := { program := "ytkjloeefcaadlaa", sum := "eb7893cca38898577fd1114fa584be8a5278d384b26ea62df7fdb86ab7c551ff", func := "causey/causeylaw18.StepsLinear", spec := "stepsLinear", unfollowed := true, recurses := true, leaving := true, apart := false }
def StepsLinearSaid : Prop := stepsLinearRow.holds Try.pinned (OpenSpec.ofChange stepsLinearSpec)

/-- ITS FALSE NEIGHBOUR: 'it returns false'. Refute it at one input. -/
def stepsLinearWrong : ChangeSpec := { name := "stepsLinear", fn := fun _ => fun
  | [d1, d2, d3] => { results := [.lit (.bool false)], args := [d1, d2, d3] }
  | _ => none }
def StepsLinearWrongFalsely : Prop := stepsLinearRow.holds Try.pinned (OpenSpec.ofChange stepsLinearWrong)

/-- 'causeylaw18.StepsAlone': WHATEVER THE INPUT: true; the input reads as it did. -/
def stepsAloneSpec : ChangeSpec := { name := "stepsAlone", fn := fun _ => fun
  | [d1, d2] => { results := [.lit (.bool true)], args := [d1, d2] }
  | _ => none }
def stepsAloneRow : OpenClaim := { program := "ytkjloeefcaadlaa", sum := "eb7893cca38898577fd1114fa584be8a5278d384b26ea62df7fdb86ab7c551ff", func := "causey/causeylaw18.StepsAlone", spec := "stepsAlone", unfollowed := true, recurses := true, leaving := true, apart := false }
def StepsAloneSaid : Prop := stepsAloneRow.holds Try.pinned (OpenSpec.ofChange stepsAloneSpec)

/-- ITS FALSE NEIGHBOUR: 'it returns false'. Refute it at one input. -/
def stepsAloneWrong : ChangeSpec := { name := "stepsAlone", fn := fun _ => fun
  | [d1, d2] => { results := [.lit (.bool false)], args := [d1, d2] }
  | _ => none }
def StepsAloneWrongFalsely : Prop := stepsAloneRow.holds Try.pinned (OpenSpec.ofChange stepsAloneWrong)

/-- 'causeylaw18.StepsPassed': WHATEVER THE INPUT: true; the input reads as it did. -/
def stepsPassedSpec : ChangeSpec := { name := "stepsPassed", fn := fun _ => fun
  | [d1, d2, d3] => { results := [.lit (.bool true)], args := [d1, d2, d3] }
  | _ => none }
def stepsPassedRow : OpenClaim := { program := "ytkjloeefcaadlaa", sum := "eb7893cca38898577fd1114fa584be8a5278d384b26ea62df7fdb86ab7c551ff", func := "causey/causeylaw18.StepsPassed", spec := "stepsPassed", unfollowed := true, recurses := true, leaving := true, apart := false }
def StepsPassedSaid : Prop := stepsPassedRow.holds Try.pinned (OpenSpec.ofChange stepsPassedSpec)

/-- ITS FALSE NEIGHBOUR: 'it returns false'. Refute it at one input. -/
def stepsPassedWrong : ChangeSpec := { name := "stepsPassed", fn := fun _ => fun
  | [d1, d2, d3] => { results := [.lit (.bool false)], args := [d1, d2, d3] }
  | _ => none }
def StepsPassedWrongFalsely : Prop := stepsPassedRow.holds Try.pinned (OpenSpec.ofChange stepsPassedWrong)

/-- 'causeylaw18.StepsOrder': WHATEVER THE INPUT: true; the input reads as it did. -/
def stepsOrderSpec : ChangeSpec := { name := "stepsOrder", fn := fun _ => fun
  | [d1, d2, d3] => { results := [.lit (.bool true)], args := [d1, d2, d3] }
  | _ => none }
def stepsOrderRow : OpenClaim := { program := "ytkjloeefcaadlaa", sum := "eb7893cca38898577fd1114fa584be8a5278d384b26ea62df7fdb86ab7c551ff", func := "causey/causeylaw18.StepsOrder", spec := "stepsOrder", unfollowed := true, recurses := true, leaving := true, apart := false }
def StepsOrderSaid : Prop := stepsOrderRow.holds Try.pinned (OpenSpec.ofChange stepsOrderSpec)

/-- ITS FALSE NEIGHBOUR: 'it returns false'. Refute it at one input. -/
def stepsOrderWrong : ChangeSpec := { name := "stepsOrder", fn := fun _ => fun
  | [d1, d2, d3] => { results := [.lit (.bool false)], args := [d1, d2, d3] }
  | _ => none }
def StepsOrderWrongFalsely : Prop := stepsOrderRow.holds Try.pinned (OpenSpec.ofChange stepsOrderWrong)

/-- 'causeylaw18.StepsParts': WHATEVER THE INPUT: true; the input reads as it did. -/
def stepsPartsSpec : ChangeSpec := { name := "stepsParts", fn := fun _ => fun
  | [d1, d2, d3] => { results := [.lit (.bool true)], args := [d1, d2, d3] }
  | _ => none }
def stepsPartsRow : OpenClaim := { program := "ytkjloeefcaadlaa", sum := "eb7893cca38898577fd1114fa584be8a5278d384b26ea62df7fdb86ab7c551ff", func := "causey/causeylaw18.StepsParts", spec := "stepsParts", unfollowed := true, recurses := true, leaving := true, apart := false }
def StepsPartsSaid : Prop := stepsPartsRow.holds Try.pinned (OpenSpec.ofChange stepsPartsSpec)

/-- ITS FALSE NEIGHBOUR: 'it returns false'. Refute it at one input. -/
def stepsPartsWrong : ChangeSpec := { name := "stepsParts", fn := fun _ => fun
  | [d1, d2, d3] => { results := [.lit (.bool false)], args := [d1, d2, d3] }
  | _ => none }
def StepsPartsWrongFalsely : Prop := stepsPartsRow.holds Try.pinned (OpenSpec.ofChange stepsPartsWrong)

/-- 'causeylaw19.QueuePushes': WHATEVER THE INPUT: true; the input reads as it did. -/
def queuePushesSpec : ChangeSpec := { name := "queuePushes", fn := fun _ => fun
  | [d1, d2] => { results := [.lit (.bool true)], args := [d1, d2] }
  | _ => none }
def queuePushesRow : OpenClaim := { program := "ytkjloeefcaadlaa", sum := "eb7893cca38898577fd1114fa584be8a5278d384b26ea62df7fdb86ab7c551ff", func := "causey/causeylaw19.QueuePushes", spec := "queuePushes", inPlace := ["sync/atomic.LoadUint64", "sync/atomic.CompareAndSwapUint64", "(*sync.WaitGroup).Go", "(*sync.WaitGroup).Add", "internal/race.ReleaseMerge", "internal/race.Disable", "internal/race.Enable", "internal/synctest.IsInBubble", "internal/synctest.Associate[sync.WaitGroup]", "sync.fatal", "sync/atomic.OrUint64", "sync/atomic.AddUint64", "internal/race.Read", "sync/atomic.StoreUint64", "internal/synctest.Disassociate[sync.WaitGroup]", "sync.runtime_Semrelease", "(*sync.WaitGroup).Go$1", "(*sync.WaitGroup).Go$1$1", "(*sync.WaitGroup).Done", "(*sync.WaitGroup).Wait", "internal/race.Acquire", "internal/synctest.IsAssociated[sync.WaitGroup]", "internal/race.Write", "sync.runtime_SemacquireWaitGroup"], unfollowed := true, recurses := true, leaving := true, apart := false }
def QueuePushesSaid : Prop := queuePushesRow.holds Try.pinned (OpenSpec.ofChange queuePushesSpec)

/-- ITS FALSE NEIGHBOUR: 'it returns false'. Refute it at one input. -/
def queuePushesWrong : ChangeSpec := { name := "queuePushes", fn := fun _ => fun
  | [d1, d2] => { results := [.lit (.bool false)], args := [d1, d2] }
  | _ => none }
def QueuePushesWrongFalsely : Prop := queuePushesRow.holds Try.pinned (OpenSpec.ofChange queuePushesWrong)

/-- 'causeylaw19.QueueTakes': WHATEVER THE INPUT: true; the input reads as it did. -/
def queueTakesSpec : ChangeSpec := { name := "queueTakes", fn := fun _ => fun
  | [d1, d2] => { results := [.lit (.bool true)], args := [d1, d2] }
  | _ => none }
def queueTakesRow : OpenClaim := { program := "ytkjloeefcaadlaa", sum := "eb7893cca38898577fd1114fa584be8a5278d384b26ea62df7fdb86ab7c551ff", func := "causey/causeylaw19.QueueTakes", spec := "queueTakes", inPlace := ["sync/atomic.StoreUint64", "sync/atomic.LoadUint64", "sync/atomic.CompareAndSwapUint64", "(*sync.WaitGroup).Go", "(*sync.WaitGroup).Add", "internal/race.ReleaseMerge", "internal/race.Disable", "internal/race.Enable", "internal/synctest.IsInBubble", "internal/synctest.Associate[sync.WaitGroup]", "sync.fatal", "sync/atomic.OrUint64", "sync/atomic.AddUint64", "internal/race.Read", "internal/synctest.Disassociate[sync.WaitGroup]", "sync.runtime_Semrelease", "(*sync.WaitGroup).Go$1", "(*sync.WaitGroup).Go$1$1", "(*sync.WaitGroup).Done", "(*sync.WaitGroup).Wait", "internal/race.Acquire", "internal/synctest.IsAssociated[sync.WaitGroup]", "internal/race.Write", "sync.runtime_SemacquireWaitGroup"], unfollowed := true, recurses := true, leaving := true, apart := false }
def QueueTakesSaid : Prop := queueTakesRow.holds Try.pinned (OpenSpec.ofChange queueTakesSpec)

/-- ITS FALSE NEIGHBOUR: 'it returns false'. Refute it at one input. -/
def queueTakesWrong : ChangeSpec := { name := "queueTakes", fn := fun _ => fun
  | [d1, d2] => { results := [.lit (.bool false)], args := [d1, d2] }
  | _ => none }
def QueueTakesWrongFalsely : Prop := queueTakesRow.holds Try.pinned (OpenSpec.ofChange queueTakesWrong)

/-- 'causeylaw19.QueueTurns': WHATEVER THE INPUT: true; the input reads as it did. -/
def queueTurnsSpec : ChangeSpec := { name := "queueTurns", fn := fun _ => fun
  | [d1, d2, d3] => { results := [.lit (.bool true)], args := [d1, d2, d3] }
  | _ => none }
def queueTurnsRow : OpenClaim := { program := "ytkjloeefcaadlaa", sum := "eb7893cca38898577fd1114fa584be8a5278d384b26ea62df7fdb86ab7c551ff", func := "causey/causeylaw19.QueueTurns", spec := "queueTurns", inPlace := ["sync/atomic.LoadUint64", "sync/atomic.CompareAndSwapUint64", "(*sync.WaitGroup).Go", "(*sync.WaitGroup).Add", "internal/race.ReleaseMerge", "internal/race.Disable", "internal/race.Enable", "internal/synctest.IsInBubble", "internal/synctest.Associate[sync.WaitGroup]", "sync.fatal", "sync/atomic.OrUint64", "sync/atomic.AddUint64", "internal/race.Read", "sync/atomic.StoreUint64", "internal/synctest.Disassociate[sync.WaitGroup]", "sync.runtime_Semrelease", "(*sync.WaitGroup).Go$1", "(*sync.WaitGroup).Go$1$1", "(*sync.WaitGroup).Done", "(*sync.WaitGroup).Wait", "internal/race.Acquire", "internal/synctest.IsAssociated[sync.WaitGroup]", "internal/race.Write", "sync.runtime_SemacquireWaitGroup"], unfollowed := true, recurses := true, leaving := true, apart := false }
def QueueTurnsSaid : Prop := queueTurnsRow.holds Try.pinned (OpenSpec.ofChange queueTurnsSpec)

/-- ITS FALSE NEIGHBOUR: 'it returns false'. Refute it at one input. -/
def queueTurnsWrong : ChangeSpec := { name := "queueTurns", fn := fun _ => fun
  | [d1, d2, d3] => { results := [.lit (.bool false)], args := [d1, d2, d3] }
  | _ => none }
def QueueTurnsWrongFalsely : Prop := queueTurnsRow.holds Try.pinned (OpenSpec.ofChange queueTurnsWrong)

/- THE SECOND FORM. 'bulk': how many values and letters a reading holds, each counted each time it is reached (what is shared counts as often as it is met; a slice's spare places count too). A statement '..UptoSaid' is the law's where the arguments, and the package variables that the reading takes, are together of bulk at most 1048576: NARROWER than '..Said'. Prove '..Said' where nothing that the law and all that it calls make is longer than what came in: it says more and counts as full. Else prove '..UptoSaid'. A law counts once. -/
mutual
def uptoBulk {H : Type} : DataW H → Nat
  | .lit (.string bytes) => bytes.length + 1
  | .lit _ => 1
  | .nil => 1
  | .ptr d => uptoBulk d + 1
  | .slice elems spare => uptoBulkAll elems + uptoBulkAll spare + 1
  | .agg parts => uptoBulkAll parts + 1
  | .iface _ d => uptoBulk d + 1
  | .map entries => uptoBulkEntries entries + 1
  | .held _ => 1
def uptoBulkAll {H : Type} : List (DataW H) → Nat
  | [] => 0
  | d :: r => uptoBulk d + uptoBulkAll r
def uptoBulkEntries {H : Type} : List (Lit × DataW H) → Nat
  | [] => 0
  | x :: r => uptoBulkEntry x + uptoBulkEntries r
def uptoBulkEntry {H : Type} : Lit × DataW H → Nat
  | (.string bytes, d) => bytes.length + uptoBulk d + 1
  | (_, d) => uptoBulk d + 1
 end
def uptoSmall : (H : Type) → List (DataW H) → Bool := fun _ ds => decide (uptoBulkAll ds ≤ 1048576)
def OpenSpec.upto (s : _root_.Go.ChangeSpec) : _root_.Go.OpenSpec := { _root_.Go.OpenSpec.ofChange s with cond := some uptoSmall }

/-- 'causeylaw19.QueueTells', WHERE WHAT IT READS IS OF BULK AT MOST 1048576: true; the input reads as it did. -/
def queueTellsUptoRow : OpenClaim := { program := "ytkjloeefcaadlaa", sum := "eb7893cca38898577fd1114fa584be8a5278d384b26ea62df7fdb86ab7c551ff", func := "causey/causeylaw19.QueueTells", spec := "queueTells", inPlace := ["sync/atomic.LoadUint64", "sync/atomic.CompareAndSwapUint64", "sync/atomic.StoreUint64"], unfollowed := true, recurses := true, leaving := true, apart := false, narrowed := true }
def QueueTellsUptoSaid : Prop := queueTellsUptoRow.holds Try.pinned (OpenSpec.upto queueTellsSpec)

/-- 'causeylaw19.QueueNil', WHERE WHAT IT READS IS OF BULK AT MOST 1048576: true; the input reads as it did. -/
def queueNilUptoRow : OpenClaim := { program := "ytkjloeefcaadlaa", sum := "eb7893cca38898577fd1114fa584be8a5278d384b26ea62df7fdb86ab7c551ff", func := "causey/causeylaw19.QueueNil", spec := "queueNil", inPlace := ["sync/atomic.LoadUint64", "sync/atomic.CompareAndSwapUint64", "sync/atomic.StoreUint64"], unfollowed := true, recurses := true, leaving := true, apart := false, narrowed := true }
def QueueNilUptoSaid : Prop := queueNilUptoRow.holds Try.pinned (OpenSpec.upto queueNilSpec)

/-- 'causeylaw25.TurnBest', WHERE WHAT IT READS IS OF BULK AT MOST 1048576: true; the input reads as it did. -/
def turnBestUptoRow : OpenClaim := { program := "ytkjloeefcaadlaa", sum := "eb7893cca38898577fd1114fa584be8a5278d384b26ea62df7fdb86ab7c551ff", func := "causey/causeylaw25.TurnBest", spec := "turnBest", unfollowed := true, recurses := true, leaving := true, apart := false, narrowed := true }
def TurnBestUptoSaid : Prop := turnBestUptoRow.holds Try.pinned (OpenSpec.upto turnBestSpec)

/-- 'causeylaw25.TurnShares', WHERE WHAT IT READS IS OF BULK AT MOST 1048576: true; the input reads as it did. -/
def turnSharesUptoRow : OpenClaim := { program := "ytkjloeefcaadlaa", sum := "eb7893cca38898577fd1114fa584be8a5278d384b26ea62df7fdb86ab7c551ff", func := "causey/causeylaw25.TurnShares", spec := "turnShares", unfollowed := true, recurses := true, leaving := true, apart := false, narrowed := true }
def TurnSharesUptoSaid : Prop := turnSharesUptoRow.holds Try.pinned (OpenSpec.upto turnSharesSpec)

/-- 'causeylaw25.TurnHolds', WHERE WHAT IT READS IS OF BULK AT MOST 1048576: true; the input reads as it did. -/
def turnHoldsUptoRow : OpenClaim := { program := "ytkjloeefcaadlaa", sum := "eb7893cca38898577fd1114fa584be8a5278d384b26ea62df7fdb86ab7c551ff", func := "causey/causeylaw25.TurnHolds", spec := "turnHolds", unfollowed := true, recurses := true, leaving := true, apart := false, narrowed := true }
def TurnHoldsUptoSaid : Prop := turnHoldsUptoRow.holds Try.pinned (OpenSpec.upto turnHoldsSpec)

/-- 'causeylaw25.TurnOut', WHERE WHAT IT READS IS OF BULK AT MOST 1048576: true; the input reads as it did. -/
def turnOutUptoRow : OpenClaim := { program := "ytkjloeefcaadlaa", sum := "eb7893cca38898577fd1114fa584be8a5278d384b26ea62df7fdb86ab7c551ff", func := "causey/causeylaw25.TurnOut", spec := "turnOut", unfollowed := true, recurses := true, leaving := true, apart := false, narrowed := true }
def TurnOutUptoSaid : Prop := turnOutUptoRow.holds Try.pinned (OpenSpec.upto turnOutSpec)

/-- 'causeylaw18.StepsLinear', WHERE WHAT IT READS IS OF BULK AT MOST 1048576: true; the input reads as it did. -/
def stepsLinearUptoRow : OpenClaim := { program := "ytkjloeefcaadlaa", sum := "eb7893cca38898577fd1114fa584be8a5278d384b26ea62df7fdb86ab7c551ff", func := "causey/causeylaw18.StepsLinear", spec := "stepsLinear", unfollowed := true, recurses := true, leaving := true, apart := false, narrowed := true }
def StepsLinearUptoSaid : Prop := stepsLinearUptoRow.holds Try.pinned (OpenSpec.upto stepsLinearSpec)

/-- 'causeylaw18.StepsAlone', WHERE WHAT IT READS IS OF BULK AT MOST 1048576: true; the input reads as it did. -/
def stepsAloneUptoRow : OpenClaim := { program := "ytkjloeefcaadlaa", sum := "eb7893cca38898577fd1114fa584be8a5278d384b26ea62df7fdb86ab7c551ff", func := "causey/causeylaw18.StepsAlone", spec := "stepsAlone", unfollowed := true, recurses := true, leaving := true, apart := false, narrowed := true }
def StepsAloneUptoSaid : Prop := stepsAloneUptoRow.holds Try.pinned (OpenSpec.upto stepsAloneSpec)

/-- 'causeylaw18.StepsPassed', WHERE WHAT IT READS IS OF BULK AT MOST 1048576: true; the input reads as it did. -/
def stepsPassedUptoRow : OpenClaim := { program := "ytkjloeefcaadlaa", sum := "eb7893cca38898577fd1114fa584be8a5278d384b26ea62df7fdb86ab7c551ff", func := "causey/causeylaw18.StepsPassed", spec := "stepsPassed", unfollowed := true, recurses := true, leaving := true, apart := false, narrowed := true }
def StepsPassedUptoSaid : Prop := stepsPassedUptoRow.holds Try.pinned (OpenSpec.upto stepsPassedSpec)

/-- 'causeylaw18.StepsOrder', WHERE WHAT IT READS IS OF BULK AT MOST 1048576: true; the input reads as it did. -/
def stepsOrderUptoRow : OpenClaim := { program := "ytkjloeefcaadlaa", sum := "eb7893cca38898577fd1114fa584be8a5278d384b26ea62df7fdb86ab7c551ff", func := "causey/causeylaw18.StepsOrder", spec := "stepsOrder", unfollowed := true, recurses := true, leaving := true, apart := false, narrowed := true }
def StepsOrderUptoSaid : Prop := stepsOrderUptoRow.holds Try.pinned (OpenSpec.upto stepsOrderSpec)

/-- 'causeylaw18.StepsParts', WHERE WHAT IT READS IS OF BULK AT MOST 1048576: true; the input reads as it did. -/
def stepsPartsUptoRow : OpenClaim := { program := "ytkjloeefcaadlaa", sum := "eb7893cca38898577fd1114fa584be8a5278d384b26ea62df7fdb86ab7c551ff", func := "causey/causeylaw18.StepsParts", spec := "stepsParts", unfollowed := true, recurses := true, leaving := true, apart := false, narrowed := true }
def StepsPartsUptoSaid : Prop := stepsPartsUptoRow.holds Try.pinned (OpenSpec.upto stepsPartsSpec)

/-- 'causeylaw19.QueuePushes', WHERE WHAT IT READS IS OF BULK AT MOST 1048576: true; the input reads as it did. -/
def queuePushesUptoRow : OpenClaim := { program := "ytkjloeefcaadlaa", sum := "eb7893cca38898577fd1114fa584be8a5278d384b26ea62df7fdb86ab7c551ff", func := "causey/causeylaw19.QueuePushes", spec := "queuePushes", inPlace := ["sync/atomic.LoadUint64", "sync/atomic.CompareAndSwapUint64", "(*sync.WaitGroup).Go", "(*sync.WaitGroup).Add", "internal/race.ReleaseMerge", "internal/race.Disable", "internal/race.Enable", "internal/synctest.IsInBubble", "internal/synctest.Associate[sync.WaitGroup]", "sync.fatal", "sync/atomic.OrUint64", "sync/atomic.AddUint64", "internal/race.Read", "sync/atomic.StoreUint64", "internal/synctest.Disassociate[sync.WaitGroup]", "sync.runtime_Semrelease", "(*sync.WaitGroup).Go$1", "(*sync.WaitGroup).Go$1$1", "(*sync.WaitGroup).Done", "(*sync.WaitGroup).Wait", "internal/race.Acquire", "internal/synctest.IsAssociated[sync.WaitGroup]", "internal/race.Write", "sync.runtime_SemacquireWaitGroup"], unfollowed := true, recurses := true, leaving := true, apart := false, narrowed := true }
def QueuePushesUptoSaid : Prop := queuePushesUptoRow.holds Try.pinned (OpenSpec.upto queuePushesSpec)

/-- 'causeylaw19.QueueTakes', WHERE WHAT IT READS IS OF BULK AT MOST 1048576: true; the input reads as it did. -/
def queueTakesUptoRow : OpenClaim := { program := "ytkjloeefcaadlaa", sum := "eb7893cca38898577fd1114fa584be8a5278d384b26ea62df7fdb86ab7c551ff", func := "causey/causeylaw19.QueueTakes", spec := "queueTakes", inPlace := ["sync/atomic.StoreUint64", "sync/atomic.LoadUint64", "sync/atomic.CompareAndSwapUint64", "(*sync.WaitGroup).Go", "(*sync.WaitGroup).Add", "internal/race.ReleaseMerge", "internal/race.Disable", "internal/race.Enable", "internal/synctest.IsInBubble", "internal/synctest.Associate[sync.WaitGroup]", "sync.fatal", "sync/atomic.OrUint64", "sync/atomic.AddUint64", "internal/race.Read", "internal/synctest.Disassociate[sync.WaitGroup]", "sync.runtime_Semrelease", "(*sync.WaitGroup).Go$1", "(*sync.WaitGroup).Go$1$1", "(*sync.WaitGroup).Done", "(*sync.WaitGroup).Wait", "internal/race.Acquire", "internal/synctest.IsAssociated[sync.WaitGroup]", "internal/race.Write", "sync.runtime_SemacquireWaitGroup"], unfollowed := true, recurses := true, leaving := true, apart := false, narrowed := true }
def QueueTakesUptoSaid : Prop := queueTakesUptoRow.holds Try.pinned (OpenSpec.upto queueTakesSpec)

/-- 'causeylaw19.QueueTurns', WHERE WHAT IT READS IS OF BULK AT MOST 1048576: true; the input reads as it did. -/
def queueTurnsUptoRow : OpenClaim := { program := "ytkjloeefcaadlaa", sum := "eb7893cca38898577fd1114fa584be8a5278d384b26ea62df7fdb86ab7c551ff", func := "causey/causeylaw19.QueueTurns", spec := "queueTurns", inPlace := ["sync/atomic.LoadUint64", "sync/atomic.CompareAndSwapUint64", "(*sync.WaitGroup).Go", "(*sync.WaitGroup).Add", "internal/race.ReleaseMerge", "internal/race.Disable", "internal/race.Enable", "internal/synctest.IsInBubble", "internal/synctest.Associate[sync.WaitGroup]", "sync.fatal", "sync/atomic.OrUint64", "sync/atomic.AddUint64", "internal/race.Read", "sync/atomic.StoreUint64", "internal/synctest.Disassociate[sync.WaitGroup]", "sync.runtime_Semrelease", "(*sync.WaitGroup).Go$1", "(*sync.WaitGroup).Go$1$1", "(*sync.WaitGroup).Done", "(*sync.WaitGroup).Wait", "internal/race.Acquire", "internal/synctest.IsAssociated[sync.WaitGroup]", "internal/race.Write", "sync.runtime_SemacquireWaitGroup"], unfollowed := true, recurses := true, leaving := true, apart := false, narrowed := true }
def QueueTurnsUptoSaid : Prop := queueTurnsUptoRow.holds Try.pinned (OpenSpec.upto queueTurnsSpec)

end Rows
end Go.Proofs.Ytkjloeefcaadlaa
