/-
  DERIVED. GIVEN WITH THE SEED: THE CARDS: each row of YtkjghojdfjhhkaaDoorRows.lean that lists a variable, with what it lists TIED to the program's text (the seventh form; the later family's looks); each row that meets fmt, with fmt's text TOLD by the authors' own Lean function (tested against real Go, not proved from fmt's source: count such statements apart). THE CARD IS WHAT COUNTS. Prove the row's statement (the work); the ties are given (YtkjghojdfjhhkaaDoorTie.lean); close each card by the builder's one call (the guide's Derived/Test/ToyasCard.lean, 'card_holds'). Laid BY PROGRAM, IN A SANDBOX (cutbox-door.mjs). By AI agents, Wed Nov 11 2026. No macro, syntax, notation, axiom, sorry.
-/
import Derived.Test.YtkjghojdfjhhkaaDoorRows
import GoSem.ClaimSeven
namespace Go.Proofs.YtkjghojdfjhhkaaDoor
namespace Rows

/-- THE TIED CARD OF 'causeylaw27.HandlerTells'. -/
def handlerTellsCard : Claim7 := { stood := { row := handlerTellsRow, standIns := [], harness := (true, "fb9811653d6ee27d0307b7eeda0e0628076fed11dbca9693f0eb3a1f8f1fc2fb"), looks := false }, kinds := [], alts := [], laidByText := true, laidKinds := [.data, .data, .data, .data, .pinned], laidTests := true, laidLooks := .later }
def HandlerTellsCardSaid : Prop := Claim7.holds Tryd.pinned (.plain (OpenSpec.ofChange handlerTellsSpec)) handlerTellsCard

/-- THE TIED CARD OF 'causeylaw27.HandlerWhole'. -/
def handlerWholeCard : Claim7 := { stood := { row := handlerWholeRow, standIns := [], harness := (true, "fb9811653d6ee27d0307b7eeda0e0628076fed11dbca9693f0eb3a1f8f1fc2fb"), looks := false }, kinds := [], alts := [], laidByText := true, laidKinds := [.data, .data, .data, .data, .pinned], laidTests := true, laidLooks := .later }
def HandlerWholeCardSaid : Prop := Claim7.holds Tryd.pinned (.plain (OpenSpec.ofChange handlerWholeSpec)) handlerWholeCard

/-- THE TIED CARD OF 'causeylaw27.HandlerSends'. -/
def handlerSendsCard : Claim7 := { stood := { row := handlerSendsRow, standIns := [], harness := (true, "fb9811653d6ee27d0307b7eeda0e0628076fed11dbca9693f0eb3a1f8f1fc2fb"), looks := false }, kinds := [], alts := [], laidByText := true, laidKinds := [.data, .data, .data, .data, .pinned], laidTests := true, laidLooks := .later }
def HandlerSendsCardSaid : Prop := Claim7.holds Tryd.pinned (.plain (OpenSpec.ofChange handlerSendsSpec)) handlerSendsCard

/-- THE TIED CARD OF 'causeylaw27.HandlerMay'. -/
def handlerMayCard : Claim7 := { stood := { row := handlerMayRow, standIns := [], harness := (true, "fb9811653d6ee27d0307b7eeda0e0628076fed11dbca9693f0eb3a1f8f1fc2fb"), looks := false }, kinds := [], alts := [], laidByText := true, laidKinds := [.data, .data, .data, .data, .pinned], laidTests := true, laidLooks := .later }
def HandlerMayCardSaid : Prop := Claim7.holds Tryd.pinned (.plain (OpenSpec.ofChange handlerMaySpec)) handlerMayCard

/-- THE TIED CARD OF 'causeylaw27.HandlerOwn'. -/
def handlerOwnCard : Claim7 := { stood := { row := handlerOwnRow, standIns := [], harness := (true, "fb9811653d6ee27d0307b7eeda0e0628076fed11dbca9693f0eb3a1f8f1fc2fb"), looks := false }, kinds := [], alts := [], laidByText := true, laidKinds := [.data, .data, .data, .data, .pinned], laidTests := true, laidLooks := .later }
def HandlerOwnCardSaid : Prop := Claim7.holds Tryd.pinned (.plain (OpenSpec.ofChange handlerOwnSpec)) handlerOwnCard

/-- THE TIED CARD OF 'causeylaw15.RequestTells'. -/
def requestTellsCard : Claim7 := { stood := { row := requestTellsRow, standIns := [], harness := (true, "fb9811653d6ee27d0307b7eeda0e0628076fed11dbca9693f0eb3a1f8f1fc2fb"), looks := false }, kinds := [], alts := [], laidByText := true, laidKinds := [.data, .data, .data, .data, .pinned], laidTests := true, laidLooks := .later }
def RequestTellsCardSaid : Prop := Claim7.holds Tryd.pinned (.plain (OpenSpec.ofChange requestTellsSpec)) requestTellsCard

/-- THE TIED CARD OF 'causeylaw15.RequestNeeds'. -/
def requestNeedsCard : Claim7 := { stood := { row := requestNeedsRow, standIns := [], harness := (true, "fb9811653d6ee27d0307b7eeda0e0628076fed11dbca9693f0eb3a1f8f1fc2fb"), looks := false }, kinds := [], alts := [], laidByText := true, laidKinds := [.data, .data, .data, .data, .pinned], laidTests := true, laidLooks := .later }
def RequestNeedsCardSaid : Prop := Claim7.holds Tryd.pinned (.plain (OpenSpec.ofChange requestNeedsSpec)) requestNeedsCard

/-- THE TIED CARD OF 'causeylaw15.RequestBytes'. -/
def requestBytesCard : Claim7 := { stood := { row := requestBytesRow, standIns := [], harness := (true, "fb9811653d6ee27d0307b7eeda0e0628076fed11dbca9693f0eb3a1f8f1fc2fb"), looks := false }, kinds := [], alts := [], laidByText := true, laidKinds := [.data, .data, .data, .data, .pinned], laidTests := true, laidLooks := .later }
def RequestBytesCardSaid : Prop := Claim7.holds Tryd.pinned (.plain (OpenSpec.ofChange requestBytesSpec)) requestBytesCard

/-- THE TIED CARD OF 'causeylaw15.RequestAnswers'. -/
def requestAnswersCard : Claim7 := { stood := { row := requestAnswersRow, standIns := [], harness := (true, "fb9811653d6ee27d0307b7eeda0e0628076fed11dbca9693f0eb3a1f8f1fc2fb"), looks := false }, kinds := [], alts := [], laidByText := true, laidKinds := [.data, .data, .data, .data, .pinned], laidTests := true, laidLooks := .later }
def RequestAnswersCardSaid : Prop := Claim7.holds Tryd.pinned (.plain (OpenSpec.ofChange requestAnswersSpec)) requestAnswersCard

/-- THE SECOND FORM's CARD OF 'causeylaw27.HandlerTells'. -/
def handlerTellsUptoCard : Claim7 := { stood := { row := handlerTellsUptoRow, standIns := [], harness := (true, "fb9811653d6ee27d0307b7eeda0e0628076fed11dbca9693f0eb3a1f8f1fc2fb"), looks := false }, kinds := [], alts := [], laidByText := true, laidKinds := [.data, .data, .data, .data, .pinned], laidTests := true, laidLooks := .later }
def HandlerTellsUptoCardSaid : Prop := Claim7.holds Tryd.pinned (.plain (OpenSpec.upto handlerTellsSpec)) handlerTellsUptoCard

/-- THE SECOND FORM's CARD OF 'causeylaw27.HandlerWhole'. -/
def handlerWholeUptoCard : Claim7 := { stood := { row := handlerWholeUptoRow, standIns := [], harness := (true, "fb9811653d6ee27d0307b7eeda0e0628076fed11dbca9693f0eb3a1f8f1fc2fb"), looks := false }, kinds := [], alts := [], laidByText := true, laidKinds := [.data, .data, .data, .data, .pinned], laidTests := true, laidLooks := .later }
def HandlerWholeUptoCardSaid : Prop := Claim7.holds Tryd.pinned (.plain (OpenSpec.upto handlerWholeSpec)) handlerWholeUptoCard

/-- THE SECOND FORM's CARD OF 'causeylaw27.HandlerSends'. -/
def handlerSendsUptoCard : Claim7 := { stood := { row := handlerSendsUptoRow, standIns := [], harness := (true, "fb9811653d6ee27d0307b7eeda0e0628076fed11dbca9693f0eb3a1f8f1fc2fb"), looks := false }, kinds := [], alts := [], laidByText := true, laidKinds := [.data, .data, .data, .data, .pinned], laidTests := true, laidLooks := .later }
def HandlerSendsUptoCardSaid : Prop := Claim7.holds Tryd.pinned (.plain (OpenSpec.upto handlerSendsSpec)) handlerSendsUptoCard

/-- THE SECOND FORM's CARD OF 'causeylaw27.HandlerMay'. -/
def handlerMayUptoCard : Claim7 := { stood := { row := handlerMayUptoRow, standIns := [], harness := (true, "fb9811653d6ee27d0307b7eeda0e0628076fed11dbca9693f0eb3a1f8f1fc2fb"), looks := false }, kinds := [], alts := [], laidByText := true, laidKinds := [.data, .data, .data, .data, .pinned], laidTests := true, laidLooks := .later }
def HandlerMayUptoCardSaid : Prop := Claim7.holds Tryd.pinned (.plain (OpenSpec.upto handlerMaySpec)) handlerMayUptoCard

/-- THE SECOND FORM's CARD OF 'causeylaw27.HandlerOwn'. -/
def handlerOwnUptoCard : Claim7 := { stood := { row := handlerOwnUptoRow, standIns := [], harness := (true, "fb9811653d6ee27d0307b7eeda0e0628076fed11dbca9693f0eb3a1f8f1fc2fb"), looks := false }, kinds := [], alts := [], laidByText := true, laidKinds := [.data, .data, .data, .data, .pinned], laidTests := true, laidLooks := .later }
def HandlerOwnUptoCardSaid : Prop := Claim7.holds Tryd.pinned (.plain (OpenSpec.upto handlerOwnSpec)) handlerOwnUptoCard

/-- THE SECOND FORM's CARD OF 'causeylaw15.RequestTells'. -/
def requestTellsUptoCard : Claim7 := { stood := { row := requestTellsUptoRow, standIns := [], harness := (true, "fb9811653d6ee27d0307b7eeda0e0628076fed11dbca9693f0eb3a1f8f1fc2fb"), looks := false }, kinds := [], alts := [], laidByText := true, laidKinds := [.data, .data, .data, .data, .pinned], laidTests := true, laidLooks := .later }
def RequestTellsUptoCardSaid : Prop := Claim7.holds Tryd.pinned (.plain (OpenSpec.upto requestTellsSpec)) requestTellsUptoCard

/-- THE SECOND FORM's CARD OF 'causeylaw15.RequestNeeds'. -/
def requestNeedsUptoCard : Claim7 := { stood := { row := requestNeedsUptoRow, standIns := [], harness := (true, "fb9811653d6ee27d0307b7eeda0e0628076fed11dbca9693f0eb3a1f8f1fc2fb"), looks := false }, kinds := [], alts := [], laidByText := true, laidKinds := [.data, .data, .data, .data, .pinned], laidTests := true, laidLooks := .later }
def RequestNeedsUptoCardSaid : Prop := Claim7.holds Tryd.pinned (.plain (OpenSpec.upto requestNeedsSpec)) requestNeedsUptoCard

/-- THE SECOND FORM's CARD OF 'causeylaw15.RequestBytes'. -/
def requestBytesUptoCard : Claim7 := { stood := { row := requestBytesUptoRow, standIns := [], harness := (true, "fb9811653d6ee27d0307b7eeda0e0628076fed11dbca9693f0eb3a1f8f1fc2fb"), looks := false }, kinds := [], alts := [], laidByText := true, laidKinds := [.data, .data, .data, .data, .pinned], laidTests := true, laidLooks := .later }
def RequestBytesUptoCardSaid : Prop := Claim7.holds Tryd.pinned (.plain (OpenSpec.upto requestBytesSpec)) requestBytesUptoCard

/-- THE SECOND FORM's CARD OF 'causeylaw15.RequestAnswers'. -/
def requestAnswersUptoCard : Claim7 := { stood := { row := requestAnswersUptoRow, standIns := [], harness := (true, "fb9811653d6ee27d0307b7eeda0e0628076fed11dbca9693f0eb3a1f8f1fc2fb"), looks := false }, kinds := [], alts := [], laidByText := true, laidKinds := [.data, .data, .data, .data, .pinned], laidTests := true, laidLooks := .later }
def RequestAnswersUptoCardSaid : Prop := Claim7.holds Tryd.pinned (.plain (OpenSpec.upto requestAnswersSpec)) requestAnswersUptoCard
end Rows
end Go.Proofs.YtkjghojdfjhhkaaDoor
