/-
  DERIVED. GIVEN WITH THE SEED: THE CARDS: each row of YtihmnkbkigkjjaaDoorRows.lean that lists a variable, with what it lists TIED to the program's text (the seventh form; the later family's looks); each row that meets fmt, with fmt's text TOLD by the authors' own Lean function (tested against real Go, not proved from fmt's source: count such statements apart). THE CARD IS WHAT COUNTS. Prove the row's statement (the work); the ties are given (YtihmnkbkigkjjaaDoorTie.lean); close each card by the builder's one call (the guide's Derived/Test/ToyasCard.lean, 'card_holds'). Laid BY PROGRAM, IN A SANDBOX (cutbox-door.mjs). By AI agents, Wed Nov 11 2026. No macro, syntax, notation, axiom, sorry.
-/
import Derived.Test.YtihmnkbkigkjjaaDoorRows
import GoSem.ClaimSeven
namespace Go.Proofs.YtihmnkbkigkjjaaDoor
namespace Rows

/-- THE TIED CARD OF 'causeylaw12.BareBack'. -/
def bareBackCard : Claim7 := { stood := { row := bareBackRow, standIns := [], harness := (true, "8c3272a1e132b31e2567df4133ee0d5c4ebc1436a6907f3deab1b1fdb33e6a92"), looks := true }, kinds := [], alts := [], laidByText := true, laidKinds := [.data, .data, .data, .data, .sentinel, .sentinel, .pinned], laidTests := true, laidLooks := .later }
def BareBackCardSaid : Prop := Claim7.holds Tryd.pinned (.plain (OpenSpec.ofChange bareBackSpec)) bareBackCard

/-- THE TIED CARD OF 'causeylaw12.BareMay'. -/
def bareMayCard : Claim7 := { stood := { row := bareMayRow, standIns := [], harness := (true, "8c3272a1e132b31e2567df4133ee0d5c4ebc1436a6907f3deab1b1fdb33e6a92"), looks := true }, kinds := [], alts := [], laidByText := true, laidKinds := [.data, .data, .data, .data, .sentinel, .sentinel, .pinned], laidTests := true, laidLooks := .later }
def BareMayCardSaid : Prop := Claim7.holds Tryd.pinned (.plain (OpenSpec.ofChange bareMaySpec)) bareMayCard

/-- THE TIED CARD OF 'causeylaw12.BareSixes'. -/
def bareSixesCard : Claim7 := { stood := { row := bareSixesRow, standIns := [], harness := (true, "8c3272a1e132b31e2567df4133ee0d5c4ebc1436a6907f3deab1b1fdb33e6a92"), looks := true }, kinds := [], alts := [], laidByText := true, laidKinds := [.data, .data, .data, .data, .sentinel, .sentinel, .pinned], laidTests := true, laidLooks := .later }
def BareSixesCardSaid : Prop := Claim7.holds Tryd.pinned (.plain (OpenSpec.ofChange bareSixesSpec)) bareSixesCard

/-- THE TIED CARD OF 'causeylaw12.BareNumbers'. -/
def bareNumbersCard : Claim7 := { stood := { row := bareNumbersRow, standIns := [], harness := (true, "8c3272a1e132b31e2567df4133ee0d5c4ebc1436a6907f3deab1b1fdb33e6a92"), looks := true }, kinds := [], alts := [], laidByText := true, laidKinds := [.data, .data, .data, .data, .sentinel, .sentinel, .pinned], laidTests := true, laidLooks := .later }
def BareNumbersCardSaid : Prop := Claim7.holds Tryd.pinned (.plain (OpenSpec.ofChange bareNumbersSpec)) bareNumbersCard

/-- THE SECOND FORM's CARD OF 'causeylaw12.BareBack'. -/
def bareBackUptoCard : Claim7 := { stood := { row := bareBackUptoRow, standIns := [], harness := (true, "8c3272a1e132b31e2567df4133ee0d5c4ebc1436a6907f3deab1b1fdb33e6a92"), looks := true }, kinds := [], alts := [], laidByText := true, laidKinds := [.data, .data, .data, .data, .sentinel, .sentinel, .pinned], laidTests := true, laidLooks := .later }
def BareBackUptoCardSaid : Prop := Claim7.holds Tryd.pinned (.plain (OpenSpec.upto bareBackSpec)) bareBackUptoCard

/-- THE SECOND FORM's CARD OF 'causeylaw12.BareMay'. -/
def bareMayUptoCard : Claim7 := { stood := { row := bareMayUptoRow, standIns := [], harness := (true, "8c3272a1e132b31e2567df4133ee0d5c4ebc1436a6907f3deab1b1fdb33e6a92"), looks := true }, kinds := [], alts := [], laidByText := true, laidKinds := [.data, .data, .data, .data, .sentinel, .sentinel, .pinned], laidTests := true, laidLooks := .later }
def BareMayUptoCardSaid : Prop := Claim7.holds Tryd.pinned (.plain (OpenSpec.upto bareMaySpec)) bareMayUptoCard

/-- THE SECOND FORM's CARD OF 'causeylaw12.BareSixes'. -/
def bareSixesUptoCard : Claim7 := { stood := { row := bareSixesUptoRow, standIns := [], harness := (true, "8c3272a1e132b31e2567df4133ee0d5c4ebc1436a6907f3deab1b1fdb33e6a92"), looks := true }, kinds := [], alts := [], laidByText := true, laidKinds := [.data, .data, .data, .data, .sentinel, .sentinel, .pinned], laidTests := true, laidLooks := .later }
def BareSixesUptoCardSaid : Prop := Claim7.holds Tryd.pinned (.plain (OpenSpec.upto bareSixesSpec)) bareSixesUptoCard

/-- THE SECOND FORM's CARD OF 'causeylaw12.BareNumbers'. -/
def bareNumbersUptoCard : Claim7 := { stood := { row := bareNumbersUptoRow, standIns := [], harness := (true, "8c3272a1e132b31e2567df4133ee0d5c4ebc1436a6907f3deab1b1fdb33e6a92"), looks := true }, kinds := [], alts := [], laidByText := true, laidKinds := [.data, .data, .data, .data, .sentinel, .sentinel, .pinned], laidTests := true, laidLooks := .later }
def BareNumbersUptoCardSaid : Prop := Claim7.holds Tryd.pinned (.plain (OpenSpec.upto bareNumbersSpec)) bareNumbersUptoCard
end Rows
end Go.Proofs.YtihmnkbkigkjjaaDoor
