/-
  DERIVED. GIVEN WITH THE SEED: THE CARDS: each row of YtoddjofckbfkhaaDoorRows.lean that lists a variable, with what it lists TIED to the program's text (the seventh form; the later family's looks); each row that meets fmt, with fmt's text TOLD by the authors' own Lean function (tested against real Go, not proved from fmt's source: count such statements apart). THE CARD IS WHAT COUNTS. Prove the row's statement (the work); the ties are given (YtoddjofckbfkhaaDoorTie.lean); close each card by the builder's one call (the guide's Derived/Test/ToyasCard.lean, 'card_holds'). Laid BY PROGRAM, IN A SANDBOX (cutbox-door.mjs). By AI agents, Wed Nov 11 2026. No macro, syntax, notation, axiom, sorry.
-/
import Derived.Test.YtoddjofckbfkhaaDoorRows
import GoSem.ClaimSeven
namespace Go.Proofs.YtoddjofckbfkhaaDoor
namespace Rows

/-- THE TIED CARD OF 'estuarylaw13.WayJoins'. -/
def wayJoinsCard : Claim7 := { stood := { row := wayJoinsRow, standIns := [], harness := (true, "78375ec5da6aa3c2e9c90767c425c3c6f579323b4195057b8f71bfd707c05702"), looks := true }, kinds := [], alts := [], laidByText := true, laidKinds := [.data, .pinned], laidTests := true, laidLooks := .later }
def WayJoinsCardSaid : Prop := Claim7.holds Tryd.pinned (.plain (OpenSpec.ofChange wayJoinsSpec)) wayJoinsCard

/-- THE TIED CARD OF 'estuarylaw13.WayUnder'. -/
def wayUnderCard : Claim7 := { stood := { row := wayUnderRow, standIns := [], harness := (true, "78375ec5da6aa3c2e9c90767c425c3c6f579323b4195057b8f71bfd707c05702"), looks := true }, kinds := [], alts := [], laidByText := true, laidKinds := [.data, .pinned], laidTests := true, laidLooks := .later }
def WayUnderCardSaid : Prop := Claim7.holds Tryd.pinned (.plain (OpenSpec.ofChange wayUnderSpec)) wayUnderCard

/-- THE TIED CARD OF 'estuarylaw13.WayPrints'. -/
def wayPrintsCard : Claim7 := { stood := { row := wayPrintsRow, standIns := [], harness := (true, "78375ec5da6aa3c2e9c90767c425c3c6f579323b4195057b8f71bfd707c05702"), looks := true }, kinds := [], alts := [], laidByText := true, laidKinds := [.data, .data, .data, .data, .pinned], laidTests := true, laidLooks := .later }
def WayPrintsCardSaid : Prop := Claim7.holds Tryd.pinned (.plain (OpenSpec.ofChange wayPrintsSpec)) wayPrintsCard

/-- THE TIED CARD OF 'estuarylaw13.WayParses'. -/
def wayParsesCard : Claim7 := { stood := { row := wayParsesRow, standIns := [], harness := (true, "78375ec5da6aa3c2e9c90767c425c3c6f579323b4195057b8f71bfd707c05702"), looks := true }, kinds := [], alts := [], laidByText := true, laidKinds := [.data, .handle, .sentinel, .pinned], laidTests := true, laidLooks := .later }
def WayParsesCardSaid : Prop := Claim7.holds Tryd.pinned (.plain (OpenSpec.ofChange wayParsesSpec)) wayParsesCard

/-- THE TIED CARD OF 'estuarylaw13.WayFront'. -/
def wayFrontCard : Claim7 := { stood := { row := wayFrontRow, standIns := [], harness := (true, "78375ec5da6aa3c2e9c90767c425c3c6f579323b4195057b8f71bfd707c05702"), looks := true }, kinds := [], alts := [], laidByText := true, laidKinds := [.data, .handle, .sentinel, .pinned], laidTests := true, laidLooks := .later }
def WayFrontCardSaid : Prop := Claim7.holds Tryd.pinned (.plain (OpenSpec.ofChange wayFrontSpec)) wayFrontCard

/-- THE TIED CARD OF 'estuarylaw13.WayBack'. -/
def wayBackCard : Claim7 := { stood := { row := wayBackRow, standIns := [], harness := (true, "78375ec5da6aa3c2e9c90767c425c3c6f579323b4195057b8f71bfd707c05702"), looks := true }, kinds := [], alts := [], laidByText := true, laidKinds := [.data, .data, .data, .data, .handle, .sentinel, .pinned], laidTests := true, laidLooks := .later }
def WayBackCardSaid : Prop := Claim7.holds Tryd.pinned (.plain (OpenSpec.ofChange wayBackSpec)) wayBackCard

/-- THE TIED CARD OF 'estuarylaw13.WayOnly'. -/
def wayOnlyCard : Claim7 := { stood := { row := wayOnlyRow, standIns := [], harness := (true, "78375ec5da6aa3c2e9c90767c425c3c6f579323b4195057b8f71bfd707c05702"), looks := true }, kinds := [], alts := [], laidByText := true, laidKinds := [.data, .data, .data, .data, .handle, .sentinel, .pinned], laidTests := true, laidLooks := .later }
def WayOnlyCardSaid : Prop := Claim7.holds Tryd.pinned (.plain (OpenSpec.ofChange wayOnlySpec)) wayOnlyCard

/-- THE TIED CARD OF 'estuarylaw13.WayOwn'. -/
def wayOwnCard : Claim7 := { stood := { row := wayOwnRow, standIns := [], harness := (true, "78375ec5da6aa3c2e9c90767c425c3c6f579323b4195057b8f71bfd707c05702"), looks := true }, kinds := [], alts := [], laidByText := true, laidKinds := [.data, .data, .data, .data, .handle, .sentinel, .pinned], laidTests := true, laidLooks := .later }
def WayOwnCardSaid : Prop := Claim7.holds Tryd.pinned (.plain (OpenSpec.ofChange wayOwnSpec)) wayOwnCard

/-- THE SECOND FORM's CARD OF 'estuarylaw13.WayJoins'. -/
def wayJoinsUptoCard : Claim7 := { stood := { row := wayJoinsUptoRow, standIns := [], harness := (true, "78375ec5da6aa3c2e9c90767c425c3c6f579323b4195057b8f71bfd707c05702"), looks := true }, kinds := [], alts := [], laidByText := true, laidKinds := [.data, .pinned], laidTests := true, laidLooks := .later }
def WayJoinsUptoCardSaid : Prop := Claim7.holds Tryd.pinned (.plain (OpenSpec.upto wayJoinsSpec)) wayJoinsUptoCard

/-- THE SECOND FORM's CARD OF 'estuarylaw13.WayUnder'. -/
def wayUnderUptoCard : Claim7 := { stood := { row := wayUnderUptoRow, standIns := [], harness := (true, "78375ec5da6aa3c2e9c90767c425c3c6f579323b4195057b8f71bfd707c05702"), looks := true }, kinds := [], alts := [], laidByText := true, laidKinds := [.data, .pinned], laidTests := true, laidLooks := .later }
def WayUnderUptoCardSaid : Prop := Claim7.holds Tryd.pinned (.plain (OpenSpec.upto wayUnderSpec)) wayUnderUptoCard

/-- THE SECOND FORM's CARD OF 'estuarylaw13.WayPrints'. -/
def wayPrintsUptoCard : Claim7 := { stood := { row := wayPrintsUptoRow, standIns := [], harness := (true, "78375ec5da6aa3c2e9c90767c425c3c6f579323b4195057b8f71bfd707c05702"), looks := true }, kinds := [], alts := [], laidByText := true, laidKinds := [.data, .data, .data, .data, .pinned], laidTests := true, laidLooks := .later }
def WayPrintsUptoCardSaid : Prop := Claim7.holds Tryd.pinned (.plain (OpenSpec.upto wayPrintsSpec)) wayPrintsUptoCard

/-- THE SECOND FORM's CARD OF 'estuarylaw13.WayParses'. -/
def wayParsesUptoCard : Claim7 := { stood := { row := wayParsesUptoRow, standIns := [], harness := (true, "78375ec5da6aa3c2e9c90767c425c3c6f579323b4195057b8f71bfd707c05702"), looks := true }, kinds := [], alts := [], laidByText := true, laidKinds := [.data, .handle, .sentinel, .pinned], laidTests := true, laidLooks := .later }
def WayParsesUptoCardSaid : Prop := Claim7.holds Tryd.pinned (.plain (OpenSpec.upto wayParsesSpec)) wayParsesUptoCard

/-- THE SECOND FORM's CARD OF 'estuarylaw13.WayFront'. -/
def wayFrontUptoCard : Claim7 := { stood := { row := wayFrontUptoRow, standIns := [], harness := (true, "78375ec5da6aa3c2e9c90767c425c3c6f579323b4195057b8f71bfd707c05702"), looks := true }, kinds := [], alts := [], laidByText := true, laidKinds := [.data, .handle, .sentinel, .pinned], laidTests := true, laidLooks := .later }
def WayFrontUptoCardSaid : Prop := Claim7.holds Tryd.pinned (.plain (OpenSpec.upto wayFrontSpec)) wayFrontUptoCard

/-- THE SECOND FORM's CARD OF 'estuarylaw13.WayBack'. -/
def wayBackUptoCard : Claim7 := { stood := { row := wayBackUptoRow, standIns := [], harness := (true, "78375ec5da6aa3c2e9c90767c425c3c6f579323b4195057b8f71bfd707c05702"), looks := true }, kinds := [], alts := [], laidByText := true, laidKinds := [.data, .data, .data, .data, .handle, .sentinel, .pinned], laidTests := true, laidLooks := .later }
def WayBackUptoCardSaid : Prop := Claim7.holds Tryd.pinned (.plain (OpenSpec.upto wayBackSpec)) wayBackUptoCard

/-- THE SECOND FORM's CARD OF 'estuarylaw13.WayOnly'. -/
def wayOnlyUptoCard : Claim7 := { stood := { row := wayOnlyUptoRow, standIns := [], harness := (true, "78375ec5da6aa3c2e9c90767c425c3c6f579323b4195057b8f71bfd707c05702"), looks := true }, kinds := [], alts := [], laidByText := true, laidKinds := [.data, .data, .data, .data, .handle, .sentinel, .pinned], laidTests := true, laidLooks := .later }
def WayOnlyUptoCardSaid : Prop := Claim7.holds Tryd.pinned (.plain (OpenSpec.upto wayOnlySpec)) wayOnlyUptoCard

/-- THE SECOND FORM's CARD OF 'estuarylaw13.WayOwn'. -/
def wayOwnUptoCard : Claim7 := { stood := { row := wayOwnUptoRow, standIns := [], harness := (true, "78375ec5da6aa3c2e9c90767c425c3c6f579323b4195057b8f71bfd707c05702"), looks := true }, kinds := [], alts := [], laidByText := true, laidKinds := [.data, .data, .data, .data, .handle, .sentinel, .pinned], laidTests := true, laidLooks := .later }
def WayOwnUptoCardSaid : Prop := Claim7.holds Tryd.pinned (.plain (OpenSpec.upto wayOwnSpec)) wayOwnUptoCard
end Rows
end Go.Proofs.YtoddjofckbfkhaaDoor
