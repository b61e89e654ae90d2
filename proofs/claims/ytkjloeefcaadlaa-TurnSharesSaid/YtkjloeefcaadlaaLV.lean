/- A row that says 'leaving', from a run of one goroutine. -/
import Derived.Test.YtkjloeefcaadlaaBase
import Derived.Conc.Holds
import Derived.ProofKit
namespace Go.Cs
open Go.RowKit
/-- Nobody else is there: so everybody else is only leaving. -/
theorem leaving_of_handed {a : Assume} {C : Checked} {os : Os} {f : FuncId} {r : Reach} {Pre : World → Array Value → Prop} {Post : World → Array Value → Value → World → Prop} (h : ReturnsInHanded a C os f r Pre Post) : ReturnsInLeavingWide a C os f r Pre Post := fun enter => by
  obtain ⟨e, o, s, wit, runs⟩ := h enter
  refine ⟨e, o, s, wit, fun w tape i hf => ?_⟩
  obtain ⟨n, v, w', h1, h2, h3, h4, ⟨j, last, h5, h6, hq, hh, he⟩, h7⟩ := runs w tape i hf
  refine ⟨n, v, w', h1, h2, h3, h4, ⟨j, last, h5, h6, hh, ⟨fun g hg => ⟨0, ?_⟩, hq.2⟩, he⟩, h7⟩
  have := hq.1
  unfold Machine.othersDone at this
  rw [List.all_eq_true] at this
  exact eq_of_beq (this g hg)
end Go.Cs
