/-
  DERIVED. GIVEN WITH THE SEED: THE CARDS: each row of YtodjcgkbcbaadaaDoorRows.lean that lists a variable, with what it lists TIED to the program's text (the seventh form; the later family's looks); each row that meets fmt, with fmt's text TOLD by the authors' own Lean function (tested against real Go, not proved from fmt's source: count such statements apart). THE CARD IS WHAT COUNTS. Prove the row's statement (the work); the ties are given (YtodjcgkbcbaadaaDoorTie.lean); close each card by the builder's one call (the guide's Derived/Test/ToyasCard.lean, 'card_holds'). Laid BY PROGRAM, IN A SANDBOX (cutbox-door.mjs). By AI agents, Wed Nov 11 2026. No macro, syntax, notation, axiom, sorry.
-/
import Derived.Test.YtodjcgkbcbaadaaDoorRows
import GoSem.ClaimSeven
namespace Go.Proofs.YtodjcgkbcbaadaaDoor
namespace Rows

/-- THE TIED CARD OF 'estuarylaw03.ValueQuotes'. -/
def valueQuotesCard : Claim7 := { stood := { row := valueQuotesRow, standIns := [], harness := (true, "13cc39bd3c5cb3ac6f9dae3014281d6afa0f4049a9643b1e759b999832081960"), looks := false }, kinds := [], alts := [], laidByText := true, laidKinds := [.data, .pinned], laidTests := true, laidLooks := .later }
def ValueQuotesCardSaid : Prop := Claim7.holds Tryd.pinned (.plain (OpenSpec.ofChange valueQuotesSpec)) valueQuotesCard

/-- THE TIED CARD OF 'estuarylaw03.ValueRights'. -/
def valueRightsCard : Claim7 := { stood := { row := valueRightsRow, standIns := [], harness := (true, "13cc39bd3c5cb3ac6f9dae3014281d6afa0f4049a9643b1e759b999832081960"), looks := false }, kinds := [], alts := [], laidByText := true, laidKinds := [.data, .pinned], laidTests := true, laidLooks := .later }
def ValueRightsCardSaid : Prop := Claim7.holds Tryd.pinned (.plain (OpenSpec.ofChange valueRightsSpec)) valueRightsCard

/-- THE TIED CARD OF 'estuarylaw03.ValueSums'. -/
def valueSumsCard : Claim7 := { stood := { row := valueSumsRow, standIns := [], harness := (true, "13cc39bd3c5cb3ac6f9dae3014281d6afa0f4049a9643b1e759b999832081960"), looks := false }, kinds := [], alts := [], laidByText := true, laidKinds := [.data, .data, .data, .pinned], laidTests := true, laidLooks := .later }
def ValueSumsCardSaid : Prop := Claim7.holds Tryd.pinned (.plain (OpenSpec.ofChange valueSumsSpec)) valueSumsCard

/-- THE TIED CARD OF 'estuarylaw03.ValueUnquotes'. -/
def valueUnquotesCard : Claim7 := { stood := { row := valueUnquotesRow, standIns := [], harness := (true, "13cc39bd3c5cb3ac6f9dae3014281d6afa0f4049a9643b1e759b999832081960"), looks := false }, kinds := [], alts := [], laidByText := true, laidKinds := [.data, .pinned], laidTests := true, laidLooks := .later }
def ValueUnquotesCardSaid : Prop := Claim7.holds Tryd.pinned (.plain (OpenSpec.ofChange valueUnquotesSpec)) valueUnquotesCard

/-- THE TIED CARD OF 'estuarylaw03.ValueCompares'. -/
def valueComparesCard : Claim7 := { stood := { row := valueComparesRow, standIns := [], harness := (true, "13cc39bd3c5cb3ac6f9dae3014281d6afa0f4049a9643b1e759b999832081960"), looks := false }, kinds := [], alts := [], laidByText := true, laidKinds := [.data, .pinned], laidTests := true, laidLooks := .later }
def ValueComparesCardSaid : Prop := Claim7.holds Tryd.pinned (.plain (OpenSpec.ofChange valueComparesSpec)) valueComparesCard

/-- THE TIED CARD OF 'estuarylaw03.ValueOrder'. -/
def valueOrderCard : Claim7 := { stood := { row := valueOrderRow, standIns := [], harness := (true, "13cc39bd3c5cb3ac6f9dae3014281d6afa0f4049a9643b1e759b999832081960"), looks := false }, kinds := [], alts := [], laidByText := true, laidKinds := [.data, .pinned], laidTests := true, laidLooks := .later }
def ValueOrderCardSaid : Prop := Claim7.holds Tryd.pinned (.plain (OpenSpec.ofChange valueOrderSpec)) valueOrderCard

/-- THE TIED CARD OF 'estuarylaw03.ValueWrites'. -/
def valueWritesCard : Claim7 := { stood := { row := valueWritesRow, standIns := [], harness := (true, "13cc39bd3c5cb3ac6f9dae3014281d6afa0f4049a9643b1e759b999832081960"), looks := false }, kinds := [], alts := [], laidByText := true, laidKinds := [.data, .pinned], laidTests := true, laidLooks := .later }
def ValueWritesCardSaid : Prop := Claim7.holds Tryd.pinned (.plain (OpenSpec.ofChange valueWritesSpec)) valueWritesCard

/-- THE TIED CARD OF 'estuarylaw03.ValueReads'. -/
def valueReadsCard : Claim7 := { stood := { row := valueReadsRow, standIns := [], harness := (true, "13cc39bd3c5cb3ac6f9dae3014281d6afa0f4049a9643b1e759b999832081960"), looks := false }, kinds := [], alts := [], laidByText := true, laidKinds := [.data, .pinned], laidTests := true, laidLooks := .later }
def ValueReadsCardSaid : Prop := Claim7.holds Tryd.pinned (.plain (OpenSpec.ofChange valueReadsSpec)) valueReadsCard

/-- THE SECOND FORM's CARD OF 'estuarylaw03.ValueQuotes'. -/
def valueQuotesUptoCard : Claim7 := { stood := { row := valueQuotesUptoRow, standIns := [], harness := (true, "13cc39bd3c5cb3ac6f9dae3014281d6afa0f4049a9643b1e759b999832081960"), looks := false }, kinds := [], alts := [], laidByText := true, laidKinds := [.data, .pinned], laidTests := true, laidLooks := .later }
def ValueQuotesUptoCardSaid : Prop := Claim7.holds Tryd.pinned (.plain (OpenSpec.upto valueQuotesSpec)) valueQuotesUptoCard

/-- THE SECOND FORM's CARD OF 'estuarylaw03.ValueRights'. -/
def valueRightsUptoCard : Claim7 := { stood := { row := valueRightsUptoRow, standIns := [], harness := (true, "13cc39bd3c5cb3ac6f9dae3014281d6afa0f4049a9643b1e759b999832081960"), looks := false }, kinds := [], alts := [], laidByText := true, laidKinds := [.data, .pinned], laidTests := true, laidLooks := .later }
def ValueRightsUptoCardSaid : Prop := Claim7.holds Tryd.pinned (.plain (OpenSpec.upto valueRightsSpec)) valueRightsUptoCard

/-- THE SECOND FORM's CARD OF 'estuarylaw03.ValueSums'. -/
def valueSumsUptoCard : Claim7 := { stood := { row := valueSumsUptoRow, standIns := [], harness := (true, "13cc39bd3c5cb3ac6f9dae3014281d6afa0f4049a9643b1e759b999832081960"), looks := false }, kinds := [], alts := [], laidByText := true, laidKinds := [.data, .data, .data, .pinned], laidTests := true, laidLooks := .later }
def ValueSumsUptoCardSaid : Prop := Claim7.holds Tryd.pinned (.plain (OpenSpec.upto valueSumsSpec)) valueSumsUptoCard

/-- THE SECOND FORM's CARD OF 'estuarylaw03.ValueUnquotes'. -/
def valueUnquotesUptoCard : Claim7 := { stood := { row := valueUnquotesUptoRow, standIns := [], harness := (true, "13cc39bd3c5cb3ac6f9dae3014281d6afa0f4049a9643b1e759b999832081960"), looks := false }, kinds := [], alts := [], laidByText := true, laidKinds := [.data, .pinned], laidTests := true, laidLooks := .later }
def ValueUnquotesUptoCardSaid : Prop := Claim7.holds Tryd.pinned (.plain (OpenSpec.upto valueUnquotesSpec)) valueUnquotesUptoCard

/-- THE SECOND FORM's CARD OF 'estuarylaw03.ValueCompares'. -/
def valueComparesUptoCard : Claim7 := { stood := { row := valueComparesUptoRow, standIns := [], harness := (true, "13cc39bd3c5cb3ac6f9dae3014281d6afa0f4049a9643b1e759b999832081960"), looks := false }, kinds := [], alts := [], laidByText := true, laidKinds := [.data, .pinned], laidTests := true, laidLooks := .later }
def ValueComparesUptoCardSaid : Prop := Claim7.holds Tryd.pinned (.plain (OpenSpec.upto valueComparesSpec)) valueComparesUptoCard

/-- THE SECOND FORM's CARD OF 'estuarylaw03.ValueOrder'. -/
def valueOrderUptoCard : Claim7 := { stood := { row := valueOrderUptoRow, standIns := [], harness := (true, "13cc39bd3c5cb3ac6f9dae3014281d6afa0f4049a9643b1e759b999832081960"), looks := false }, kinds := [], alts := [], laidByText := true, laidKinds := [.data, .pinned], laidTests := true, laidLooks := .later }
def ValueOrderUptoCardSaid : Prop := Claim7.holds Tryd.pinned (.plain (OpenSpec.upto valueOrderSpec)) valueOrderUptoCard

/-- THE SECOND FORM's CARD OF 'estuarylaw03.ValueWrites'. -/
def valueWritesUptoCard : Claim7 := { stood := { row := valueWritesUptoRow, standIns := [], harness := (true, "13cc39bd3c5cb3ac6f9dae3014281d6afa0f4049a9643b1e759b999832081960"), looks := false }, kinds := [], alts := [], laidByText := true, laidKinds := [.data, .pinned], laidTests := true, laidLooks := .later }
def ValueWritesUptoCardSaid : Prop := Claim7.holds Tryd.pinned (.plain (OpenSpec.upto valueWritesSpec)) valueWritesUptoCard

/-- THE SECOND FORM's CARD OF 'estuarylaw03.ValueReads'. -/
def valueReadsUptoCard : Claim7 := { stood := { row := valueReadsUptoRow, standIns := [], harness := (true, "13cc39bd3c5cb3ac6f9dae3014281d6afa0f4049a9643b1e759b999832081960"), looks := false }, kinds := [], alts := [], laidByText := true, laidKinds := [.data, .pinned], laidTests := true, laidLooks := .later }
def ValueReadsUptoCardSaid : Prop := Claim7.holds Tryd.pinned (.plain (OpenSpec.upto valueReadsSpec)) valueReadsUptoCard
end Rows
end Go.Proofs.YtodjcgkbcbaadaaDoor
