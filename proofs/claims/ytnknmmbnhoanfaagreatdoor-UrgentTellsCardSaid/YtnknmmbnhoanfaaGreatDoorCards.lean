/-
  DERIVED. GIVEN WITH THE SEED: THE CARDS: each row of YtnknmmbnhoanfaaGreatDoorRows.lean that lists a variable, with what it lists TIED to the program's text (the seventh form; the later family's looks); each row that meets fmt, with fmt's text TOLD by the authors' own Lean function (tested against real Go, not proved from fmt's source: count such statements apart). THE CARD IS WHAT COUNTS. Prove the row's statement (the work); the ties are given (YtnknmmbnhoanfaaGreatDoorTie.lean); close each card by the builder's one call (the guide's Derived/Test/ToyasCard.lean, 'card_holds'). Laid BY PROGRAM, IN A SANDBOX (cutbox-door.mjs). By AI agents, Wed Nov 11 2026. No macro, syntax, notation, axiom, sorry.
-/
import Derived.Test.YtnknmmbnhoanfaaGreatDoorRows
import GoSem.ClaimSeven
namespace Go.Proofs.YtnknmmbnhoanfaaGreatDoor
namespace Rows

/-- THE TIED CARD OF 'causeylaw12.BareTells'. -/
def bareTellsCard : Claim7 := { stood := { row := bareTellsRow, standIns := [], harness := (true, "9cb53282b8c7f0fc318da8bacc3db013eeebaaee13199782952cce661eeedfa8"), looks := true }, kinds := [], alts := [], laidByText := true, laidKinds := [.data, .data, .data, .data, .sentinel, .sentinel, .pinned], laidTests := true, laidLooks := .later }
def BareTellsCardSaid : Prop := Claim7.holds Tryz.pinned (.plain (OpenSpec.ofChange bareTellsSpec)) bareTellsCard

/-- THE TIED CARD OF 'causeylaw13.DictTells'. -/
def dictTellsCard : Claim7 := { stood := { row := dictTellsRow, standIns := [], harness := (true, "9cb53282b8c7f0fc318da8bacc3db013eeebaaee13199782952cce661eeedfa8"), looks := true }, kinds := [], alts := [], laidByText := true, laidKinds := [.data, .data, .data, .data, .sentinel, .sentinel, .pinned], laidTests := true, laidLooks := .later }
def DictTellsCardSaid : Prop := Claim7.holds Tryz.pinned (.plain (OpenSpec.ofChange dictTellsSpec)) dictTellsCard

/-- THE TIED CARD OF 'causeylaw14.UrgentTells'. -/
def urgentTellsCard : Claim7 := { stood := { row := urgentTellsRow, standIns := [], harness := (true, "9cb53282b8c7f0fc318da8bacc3db013eeebaaee13199782952cce661eeedfa8"), looks := true }, kinds := [], alts := [], laidByText := true, laidKinds := [.data, .data, .data, .data, .sentinel, .sentinel, .pinned], laidTests := true, laidLooks := .later }
def UrgentTellsCardSaid : Prop := Claim7.holds Tryz.pinned (.plain (OpenSpec.ofChange urgentTellsSpec)) urgentTellsCard

/-- THE SECOND FORM's CARD OF 'causeylaw12.BareTells'. -/
def bareTellsUptoCard : Claim7 := { stood := { row := bareTellsUptoRow, standIns := [], harness := (true, "9cb53282b8c7f0fc318da8bacc3db013eeebaaee13199782952cce661eeedfa8"), looks := true }, kinds := [], alts := [], laidByText := true, laidKinds := [.data, .data, .data, .data, .sentinel, .sentinel, .pinned], laidTests := true, laidLooks := .later }
def BareTellsUptoCardSaid : Prop := Claim7.holds Tryz.pinned (.plain (OpenSpec.upto bareTellsSpec)) bareTellsUptoCard

/-- THE SECOND FORM's CARD OF 'causeylaw13.DictTells'. -/
def dictTellsUptoCard : Claim7 := { stood := { row := dictTellsUptoRow, standIns := [], harness := (true, "9cb53282b8c7f0fc318da8bacc3db013eeebaaee13199782952cce661eeedfa8"), looks := true }, kinds := [], alts := [], laidByText := true, laidKinds := [.data, .data, .data, .data, .sentinel, .sentinel, .pinned], laidTests := true, laidLooks := .later }
def DictTellsUptoCardSaid : Prop := Claim7.holds Tryz.pinned (.plain (OpenSpec.upto dictTellsSpec)) dictTellsUptoCard

/-- THE SECOND FORM's CARD OF 'causeylaw14.UrgentTells'. -/
def urgentTellsUptoCard : Claim7 := { stood := { row := urgentTellsUptoRow, standIns := [], harness := (true, "9cb53282b8c7f0fc318da8bacc3db013eeebaaee13199782952cce661eeedfa8"), looks := true }, kinds := [], alts := [], laidByText := true, laidKinds := [.data, .data, .data, .data, .sentinel, .sentinel, .pinned], laidTests := true, laidLooks := .later }
def UrgentTellsUptoCardSaid : Prop := Claim7.holds Tryz.pinned (.plain (OpenSpec.upto urgentTellsSpec)) urgentTellsUptoCard
end Rows
end Go.Proofs.YtnknmmbnhoanfaaGreatDoor
