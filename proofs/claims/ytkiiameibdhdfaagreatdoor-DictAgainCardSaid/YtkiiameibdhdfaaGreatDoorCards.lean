/-
  DERIVED. GIVEN WITH THE SEED: THE CARDS: each row of YtkiiameibdhdfaaGreatDoorRows.lean that lists a variable, with what it lists TIED to the program's text (the seventh form; the later family's looks); each row that meets fmt, with fmt's text TOLD by the authors' own Lean function (tested against real Go, not proved from fmt's source: count such statements apart). THE CARD IS WHAT COUNTS. Prove the row's statement (the work); the ties are given (YtkiiameibdhdfaaGreatDoorTie.lean); close each card by the builder's one call (the guide's Derived/Test/ToyasCard.lean, 'card_holds'). Laid BY PROGRAM, IN A SANDBOX (cutbox-door.mjs). By AI agents, Wed Nov 11 2026. No macro, syntax, notation, axiom, sorry.
-/
import Derived.Test.YtkiiameibdhdfaaGreatDoorRows
import GoSem.ClaimSeven
namespace Go.Proofs.YtkiiameibdhdfaaGreatDoor
namespace Rows

/-- THE TIED CARD OF 'causeylaw24.PrioLast'. -/
def prioLastCard : Claim7 := { stood := { row := prioLastRow, standIns := [], harness := (true, "df3bdb0830763970f2e43b876ec85f790baad750610c261fcb8852bd4d468612"), looks := true }, kinds := [], alts := [], laidByText := true, laidKinds := [.data, .data, .data, .data, .sentinel, .sentinel, .pinned], laidTests := true, laidLooks := .later }
def PrioLastCardSaid : Prop := Claim7.holds Tryz.pinned (.plain (OpenSpec.ofChange prioLastSpec)) prioLastCard

/-- THE TIED CARD OF 'causeylaw24.PrioBound'. -/
def prioBoundCard : Claim7 := { stood := { row := prioBoundRow, standIns := [], harness := (true, "df3bdb0830763970f2e43b876ec85f790baad750610c261fcb8852bd4d468612"), looks := true }, kinds := [], alts := [], laidByText := true, laidKinds := [.data, .data, .data, .data, .sentinel, .sentinel, .pinned], laidTests := true, laidLooks := .later }
def PrioBoundCardSaid : Prop := Claim7.holds Tryz.pinned (.plain (OpenSpec.ofChange prioBoundSpec)) prioBoundCard

/-- THE TIED CARD OF 'causeylaw24.PrioOpens'. -/
def prioOpensCard : Claim7 := { stood := { row := prioOpensRow, standIns := [], harness := (true, "df3bdb0830763970f2e43b876ec85f790baad750610c261fcb8852bd4d468612"), looks := true }, kinds := [], alts := [], laidByText := true, laidKinds := [.data, .data, .data, .data, .sentinel, .sentinel, .pinned], laidTests := true, laidLooks := .later }
def PrioOpensCardSaid : Prop := Claim7.holds Tryz.pinned (.plain (OpenSpec.ofChange prioOpensSpec)) prioOpensCard

/-- THE TIED CARD OF 'causeylaw13.DictBack'. -/
def dictBackCard : Claim7 := { stood := { row := dictBackRow, standIns := [], harness := (true, "df3bdb0830763970f2e43b876ec85f790baad750610c261fcb8852bd4d468612"), looks := true }, kinds := [], alts := [], laidByText := true, laidKinds := [.data, .data, .data, .data, .sentinel, .sentinel, .pinned], laidTests := true, laidLooks := .later }
def DictBackCardSaid : Prop := Claim7.holds Tryz.pinned (.plain (OpenSpec.ofChange dictBackSpec)) dictBackCard

/-- THE TIED CARD OF 'causeylaw13.DictJoins'. -/
def dictJoinsCard : Claim7 := { stood := { row := dictJoinsRow, standIns := [], harness := (true, "df3bdb0830763970f2e43b876ec85f790baad750610c261fcb8852bd4d468612"), looks := true }, kinds := [], alts := [], laidByText := true, laidKinds := [.data, .data, .data, .data, .sentinel, .sentinel, .pinned], laidTests := true, laidLooks := .later }
def DictJoinsCardSaid : Prop := Claim7.holds Tryz.pinned (.plain (OpenSpec.ofChange dictJoinsSpec)) dictJoinsCard

/-- THE TIED CARD OF 'causeylaw13.DictAgain'. -/
def dictAgainCard : Claim7 := { stood := { row := dictAgainRow, standIns := [], harness := (true, "df3bdb0830763970f2e43b876ec85f790baad750610c261fcb8852bd4d468612"), looks := true }, kinds := [], alts := [], laidByText := true, laidKinds := [.data, .data, .data, .data, .sentinel, .sentinel, .pinned], laidTests := true, laidLooks := .later }
def DictAgainCardSaid : Prop := Claim7.holds Tryz.pinned (.plain (OpenSpec.ofChange dictAgainSpec)) dictAgainCard

/-- THE TIED CARD OF 'causeylaw13.DictOwn'. -/
def dictOwnCard : Claim7 := { stood := { row := dictOwnRow, standIns := [], harness := (true, "df3bdb0830763970f2e43b876ec85f790baad750610c261fcb8852bd4d468612"), looks := true }, kinds := [], alts := [], laidByText := true, laidKinds := [.data, .data, .data, .data, .sentinel, .sentinel, .pinned], laidTests := true, laidLooks := .later }
def DictOwnCardSaid : Prop := Claim7.holds Tryz.pinned (.plain (OpenSpec.ofChange dictOwnSpec)) dictOwnCard

/-- THE TIED CARD OF 'causeylaw14.UrgentBack'. -/
def urgentBackCard : Claim7 := { stood := { row := urgentBackRow, standIns := [], harness := (true, "df3bdb0830763970f2e43b876ec85f790baad750610c261fcb8852bd4d468612"), looks := true }, kinds := [], alts := [], laidByText := true, laidKinds := [.data, .data, .data, .data, .sentinel, .sentinel, .pinned], laidTests := true, laidLooks := .later }
def UrgentBackCardSaid : Prop := Claim7.holds Tryz.pinned (.plain (OpenSpec.ofChange urgentBackSpec)) urgentBackCard

/-- THE TIED CARD OF 'causeylaw14.UrgentOf'. -/
def urgentOfCard : Claim7 := { stood := { row := urgentOfRow, standIns := [], harness := (true, "df3bdb0830763970f2e43b876ec85f790baad750610c261fcb8852bd4d468612"), looks := true }, kinds := [], alts := [], laidByText := true, laidKinds := [.data, .data, .data, .data, .sentinel, .sentinel, .pinned], laidTests := true, laidLooks := .later }
def UrgentOfCardSaid : Prop := Claim7.holds Tryz.pinned (.plain (OpenSpec.ofChange urgentOfSpec)) urgentOfCard

/-- THE TIED CARD OF 'causeylaw14.UrgentEach'. -/
def urgentEachCard : Claim7 := { stood := { row := urgentEachRow, standIns := [], harness := (true, "df3bdb0830763970f2e43b876ec85f790baad750610c261fcb8852bd4d468612"), looks := true }, kinds := [], alts := [], laidByText := true, laidKinds := [.data, .data, .data, .data, .sentinel, .sentinel, .pinned], laidTests := true, laidLooks := .later }
def UrgentEachCardSaid : Prop := Claim7.holds Tryz.pinned (.plain (OpenSpec.ofChange urgentEachSpec)) urgentEachCard

/-- THE SECOND FORM's CARD OF 'causeylaw24.PrioLast'. -/
def prioLastUptoCard : Claim7 := { stood := { row := prioLastUptoRow, standIns := [], harness := (true, "df3bdb0830763970f2e43b876ec85f790baad750610c261fcb8852bd4d468612"), looks := true }, kinds := [], alts := [], laidByText := true, laidKinds := [.data, .data, .data, .data, .sentinel, .sentinel, .pinned], laidTests := true, laidLooks := .later }
def PrioLastUptoCardSaid : Prop := Claim7.holds Tryz.pinned (.plain (OpenSpec.upto prioLastSpec)) prioLastUptoCard

/-- THE SECOND FORM's CARD OF 'causeylaw24.PrioBound'. -/
def prioBoundUptoCard : Claim7 := { stood := { row := prioBoundUptoRow, standIns := [], harness := (true, "df3bdb0830763970f2e43b876ec85f790baad750610c261fcb8852bd4d468612"), looks := true }, kinds := [], alts := [], laidByText := true, laidKinds := [.data, .data, .data, .data, .sentinel, .sentinel, .pinned], laidTests := true, laidLooks := .later }
def PrioBoundUptoCardSaid : Prop := Claim7.holds Tryz.pinned (.plain (OpenSpec.upto prioBoundSpec)) prioBoundUptoCard

/-- THE SECOND FORM's CARD OF 'causeylaw24.PrioOpens'. -/
def prioOpensUptoCard : Claim7 := { stood := { row := prioOpensUptoRow, standIns := [], harness := (true, "df3bdb0830763970f2e43b876ec85f790baad750610c261fcb8852bd4d468612"), looks := true }, kinds := [], alts := [], laidByText := true, laidKinds := [.data, .data, .data, .data, .sentinel, .sentinel, .pinned], laidTests := true, laidLooks := .later }
def PrioOpensUptoCardSaid : Prop := Claim7.holds Tryz.pinned (.plain (OpenSpec.upto prioOpensSpec)) prioOpensUptoCard

/-- THE SECOND FORM's CARD OF 'causeylaw13.DictBack'. -/
def dictBackUptoCard : Claim7 := { stood := { row := dictBackUptoRow, standIns := [], harness := (true, "df3bdb0830763970f2e43b876ec85f790baad750610c261fcb8852bd4d468612"), looks := true }, kinds := [], alts := [], laidByText := true, laidKinds := [.data, .data, .data, .data, .sentinel, .sentinel, .pinned], laidTests := true, laidLooks := .later }
def DictBackUptoCardSaid : Prop := Claim7.holds Tryz.pinned (.plain (OpenSpec.upto dictBackSpec)) dictBackUptoCard

/-- THE SECOND FORM's CARD OF 'causeylaw13.DictJoins'. -/
def dictJoinsUptoCard : Claim7 := { stood := { row := dictJoinsUptoRow, standIns := [], harness := (true, "df3bdb0830763970f2e43b876ec85f790baad750610c261fcb8852bd4d468612"), looks := true }, kinds := [], alts := [], laidByText := true, laidKinds := [.data, .data, .data, .data, .sentinel, .sentinel, .pinned], laidTests := true, laidLooks := .later }
def DictJoinsUptoCardSaid : Prop := Claim7.holds Tryz.pinned (.plain (OpenSpec.upto dictJoinsSpec)) dictJoinsUptoCard

/-- THE SECOND FORM's CARD OF 'causeylaw13.DictAgain'. -/
def dictAgainUptoCard : Claim7 := { stood := { row := dictAgainUptoRow, standIns := [], harness := (true, "df3bdb0830763970f2e43b876ec85f790baad750610c261fcb8852bd4d468612"), looks := true }, kinds := [], alts := [], laidByText := true, laidKinds := [.data, .data, .data, .data, .sentinel, .sentinel, .pinned], laidTests := true, laidLooks := .later }
def DictAgainUptoCardSaid : Prop := Claim7.holds Tryz.pinned (.plain (OpenSpec.upto dictAgainSpec)) dictAgainUptoCard

/-- THE SECOND FORM's CARD OF 'causeylaw13.DictOwn'. -/
def dictOwnUptoCard : Claim7 := { stood := { row := dictOwnUptoRow, standIns := [], harness := (true, "df3bdb0830763970f2e43b876ec85f790baad750610c261fcb8852bd4d468612"), looks := true }, kinds := [], alts := [], laidByText := true, laidKinds := [.data, .data, .data, .data, .sentinel, .sentinel, .pinned], laidTests := true, laidLooks := .later }
def DictOwnUptoCardSaid : Prop := Claim7.holds Tryz.pinned (.plain (OpenSpec.upto dictOwnSpec)) dictOwnUptoCard

/-- THE SECOND FORM's CARD OF 'causeylaw14.UrgentBack'. -/
def urgentBackUptoCard : Claim7 := { stood := { row := urgentBackUptoRow, standIns := [], harness := (true, "df3bdb0830763970f2e43b876ec85f790baad750610c261fcb8852bd4d468612"), looks := true }, kinds := [], alts := [], laidByText := true, laidKinds := [.data, .data, .data, .data, .sentinel, .sentinel, .pinned], laidTests := true, laidLooks := .later }
def UrgentBackUptoCardSaid : Prop := Claim7.holds Tryz.pinned (.plain (OpenSpec.upto urgentBackSpec)) urgentBackUptoCard

/-- THE SECOND FORM's CARD OF 'causeylaw14.UrgentOf'. -/
def urgentOfUptoCard : Claim7 := { stood := { row := urgentOfUptoRow, standIns := [], harness := (true, "df3bdb0830763970f2e43b876ec85f790baad750610c261fcb8852bd4d468612"), looks := true }, kinds := [], alts := [], laidByText := true, laidKinds := [.data, .data, .data, .data, .sentinel, .sentinel, .pinned], laidTests := true, laidLooks := .later }
def UrgentOfUptoCardSaid : Prop := Claim7.holds Tryz.pinned (.plain (OpenSpec.upto urgentOfSpec)) urgentOfUptoCard

/-- THE SECOND FORM's CARD OF 'causeylaw14.UrgentEach'. -/
def urgentEachUptoCard : Claim7 := { stood := { row := urgentEachUptoRow, standIns := [], harness := (true, "df3bdb0830763970f2e43b876ec85f790baad750610c261fcb8852bd4d468612"), looks := true }, kinds := [], alts := [], laidByText := true, laidKinds := [.data, .data, .data, .data, .sentinel, .sentinel, .pinned], laidTests := true, laidLooks := .later }
def UrgentEachUptoCardSaid : Prop := Claim7.holds Tryz.pinned (.plain (OpenSpec.upto urgentEachSpec)) urgentEachUptoCard
end Rows
end Go.Proofs.YtkiiameibdhdfaaGreatDoor
