/-
  NARROWER THAN 'FOR EVERY INPUT', by the rows' own cells (each row's printed sentence says how): ValueQuotes: laid · ValueRights: laid · ValueSums: laid · ValueUnquotes: laid · ValueCompares: laid · ValueOrder: laid · ValueWrites: laid · ValueReads: laid.
  DERIVED. THE GIVEN ROWS OF THIS SEAT. 8 by the template 'for every input the law returns true; each argument reads behind the call as it read before'; 0 by the template 'total and deterministic' (their statements: YtodjcgkbcbaadaaDoorTotals.lean).
  GIVEN WITH THE SEED: the statements are not yours to turn. If you find one false, say at which input.
  Laid BY PROGRAM, IN A SANDBOX (cutbox-rows.mjs): the forced cells as the released guide's own fill.sh prints them over the translation 6aac9e79daa39447… (all of the seat's roots in one cut). By AI agents, Wed Nov 11 2026. No macro, syntax, notation, axiom, sorry.
-/
import Derived.Test.YtodjcgkbcbaadaaDoorChecked
import GoSem.PinnedTables
import GoSem.Claim
import GoSem.ClaimJoined
import GoSem.ClaimMapViews
import Derived.JoinedTies
import Derived.KernelRfl
namespace Go.Proofs.YtodjcgkbcbaadaaDoor
/- THE CELL 'sum', in the pinned program and in every row, IS THE sha256 OF THE DUMP (.gsa) THAT YtodjcgkbcbaadaaDoorProg.lean LOADS. Nothing in Lean hashes anything: it is a label: what it is worth is what the hold of that sum in a sandbox is worth. -/
noncomputable def Tryd.pinned : Pinned := { name := "ytodjcgkbcbaadaadoor", sum := "6aac9e79daa394479466d08fb1056055b8475bba5f3395a7885defc650762ba3", checked := Tryd.checked }
namespace Rows
def none {H : Type} : Left H := { results := [], args := [] }

/- WHAT THE LISTED PACKAGE-LEVEL VARIABLES READ AS WHEN THE CALL BEGINS. Each datum BY PROGRAM (the guide's laid-datum.mjs) off the statement by which the dump's own 'gosem.cut.vars' lays the variable. In a bare row this is a premise. The card (YtodjcgkbcbaadaaDoorCards.lean) ties it to the program's text. -/
def laid_unicode_utf8_acceptRanges {H : Type} : DataW H := .agg [.agg [.lit (.int .u8 128), .lit (.int .u8 191)], .agg [.lit (.int .u8 160), .lit (.int .u8 191)], .agg [.lit (.int .u8 128), .lit (.int .u8 159)], .agg [.lit (.int .u8 144), .lit (.int .u8 191)], .agg [.lit (.int .u8 128), .lit (.int .u8 143)], .agg [.lit (.int .u8 0), .lit (.int .u8 0)], .agg [.lit (.int .u8 0), .lit (.int .u8 0)], .agg [.lit (.int .u8 0), .lit (.int .u8 0)], .agg [.lit (.int .u8 0), .lit (.int .u8 0)], .agg [.lit (.int .u8 0), .lit (.int .u8 0)], .agg [.lit (.int .u8 0), .lit (.int .u8 0)], .agg [.lit (.int .u8 0), .lit (.int .u8 0)], .agg [.lit (.int .u8 0), .lit (.int .u8 0)], .agg [.lit (.int .u8 0), .lit (.int .u8 0)], .agg [.lit (.int .u8 0), .lit (.int .u8 0)], .agg [.lit (.int .u8 0), .lit (.int .u8 0)]]
/-- One of Go's own tables, pinned by name: the form's constant. -/
def laid_unicode_utf8_first : DataW Unit := Go.Pinned.utf8First
def laid_estuary_estuaryref03_names {H : Type} : DataW H := .agg [.lit (.string [110, 117, 108, 108]), .lit (.string [98, 111, 111, 108]), .lit (.string [105, 110, 116]), .lit (.string [102, 108, 111, 97, 116]), .lit (.string [116, 101, 120, 116]), .lit (.string [98, 121, 116, 101, 115]), .lit (.string [116, 105, 109, 101]), .lit (.string [99, 111, 117, 110, 116, 101, 114]), .lit (.string [109, 97, 112]), .lit (.string [108, 105, 115, 116]), .lit (.string [115, 116, 114, 105, 110, 103]), .lit (.string [111, 117, 116, 108, 105, 110, 101])]
def laid_estuary_value_names {H : Type} : DataW H := .agg [.lit (.string [110, 117, 108, 108]), .lit (.string [98, 111, 111, 108]), .lit (.string [105, 110, 116]), .lit (.string [102, 108, 111, 97, 116]), .lit (.string [116, 101, 120, 116]), .lit (.string [98, 121, 116, 101, 115]), .lit (.string [116, 105, 109, 101]), .lit (.string [99, 111, 117, 110, 116, 101, 114]), .lit (.string [109, 97, 112]), .lit (.string [108, 105, 115, 116]), .lit (.string [115, 116, 114, 105, 110, 103]), .lit (.string [111, 117, 116, 108, 105, 110, 101])]

/-- 'estuarylaw03.ValueQuotes': WHATEVER THE INPUT: true; the input reads as it did. -/
def valueQuotesSpec : ChangeSpec := { name := "valueQuotes", fn := fun _ => fun
  | [d] => { results := [.lit (.bool true)], args := [d] }
  | _ => none }
def valueQuotesRow : OpenClaim := { program := "ytodjcgkbcbaadaadoor", sum := "6aac9e79daa394479466d08fb1056055b8475bba5f3395a7885defc650762ba3", func := "estuary/estuarylaw03.ValueQuotes", spec := "valueQuotes", named := ["unicode/utf8.first", "unicode/utf8.acceptRanges"], apart := false, laid := [("unicode/utf8.acceptRanges", laid_unicode_utf8_acceptRanges), ("unicode/utf8.first", laid_unicode_utf8_first)] }
def ValueQuotesSaid : Prop := valueQuotesRow.holds Tryd.pinned (OpenSpec.ofChange valueQuotesSpec)

/-- ITS FALSE NEIGHBOUR: 'it returns false'. Refute it at one input. -/
def valueQuotesWrong : ChangeSpec := { name := "valueQuotes", fn := fun _ => fun
  | [d] => { results := [.lit (.bool false)], args := [d] }
  | _ => none }
def ValueQuotesWrongFalsely : Prop := valueQuotesRow.holds Tryd.pinned (OpenSpec.ofChange valueQuotesWrong)

/-- 'estuarylaw03.ValueRights': WHATEVER THE INPUT: true; the input reads as it did. -/
def valueRightsSpec : ChangeSpec := { name := "valueRights", fn := fun _ => fun
  | [d1, d2] => { results := [.lit (.bool true)], args := [d1, d2] }
  | _ => none }
def valueRightsRow : OpenClaim := { program := "ytodjcgkbcbaadaadoor", sum := "6aac9e79daa394479466d08fb1056055b8475bba5f3395a7885defc650762ba3", func := "estuary/estuarylaw03.ValueRights", spec := "valueRights", inPlace := ["math.Float64bits", "math.Float64frombits"], named := ["unicode/utf8.first", "unicode/utf8.acceptRanges"], apart := false, laid := [("unicode/utf8.acceptRanges", laid_unicode_utf8_acceptRanges), ("unicode/utf8.first", laid_unicode_utf8_first)] }
def ValueRightsSaid : Prop := valueRightsRow.holds Tryd.pinned (OpenSpec.ofChange valueRightsSpec)

/-- ITS FALSE NEIGHBOUR: 'it returns false'. Refute it at one input. -/
def valueRightsWrong : ChangeSpec := { name := "valueRights", fn := fun _ => fun
  | [d1, d2] => { results := [.lit (.bool false)], args := [d1, d2] }
  | _ => none }
def ValueRightsWrongFalsely : Prop := valueRightsRow.holds Tryd.pinned (OpenSpec.ofChange valueRightsWrong)

/-- 'estuarylaw03.ValueSums': WHATEVER THE INPUT: true; the input reads as it did. -/
def valueSumsSpec : ChangeSpec := { name := "valueSums", fn := fun _ => fun
  | [d1, d2, d3] => { results := [.lit (.bool true)], args := [d1, d2, d3] }
  | _ => none }
def valueSumsRow : OpenClaim := { program := "ytodjcgkbcbaadaadoor", sum := "6aac9e79daa394479466d08fb1056055b8475bba5f3395a7885defc650762ba3", func := "estuary/estuarylaw03.ValueSums", spec := "valueSums", inPlace := ["math.Float64bits", "math.Float64frombits"], named := ["estuary/value.names", "estuary/estuaryref03.names", "unicode/utf8.first", "unicode/utf8.acceptRanges"], apart := false, laid := [("unicode/utf8.acceptRanges", laid_unicode_utf8_acceptRanges), ("estuary/estuaryref03.names", laid_estuary_estuaryref03_names), ("estuary/value.names", laid_estuary_value_names), ("unicode/utf8.first", laid_unicode_utf8_first)] }
def ValueSumsSaid : Prop := valueSumsRow.holds Tryd.pinned (OpenSpec.ofChange valueSumsSpec)

/-- ITS FALSE NEIGHBOUR: 'it returns false'. Refute it at one input. -/
def valueSumsWrong : ChangeSpec := { name := "valueSums", fn := fun _ => fun
  | [d1, d2, d3] => { results := [.lit (.bool false)], args := [d1, d2, d3] }
  | _ => none }
def ValueSumsWrongFalsely : Prop := valueSumsRow.holds Tryd.pinned (OpenSpec.ofChange valueSumsWrong)

/-- 'estuarylaw03.ValueUnquotes': WHATEVER THE INPUT: true; the input reads as it did. -/
def valueUnquotesSpec : ChangeSpec := { name := "valueUnquotes", fn := fun _ => fun
  | [d] => { results := [.lit (.bool true)], args := [d] }
  | _ => none }
def valueUnquotesRow : OpenClaim := { program := "ytodjcgkbcbaadaadoor", sum := "6aac9e79daa394479466d08fb1056055b8475bba5f3395a7885defc650762ba3", func := "estuary/estuarylaw03.ValueUnquotes", spec := "valueUnquotes", named := ["unicode/utf8.first", "unicode/utf8.acceptRanges"], apart := false, laid := [("unicode/utf8.acceptRanges", laid_unicode_utf8_acceptRanges), ("unicode/utf8.first", laid_unicode_utf8_first)] }
def ValueUnquotesSaid : Prop := valueUnquotesRow.holds Tryd.pinned (OpenSpec.ofChange valueUnquotesSpec)

/-- ITS FALSE NEIGHBOUR: 'it returns false'. Refute it at one input. -/
def valueUnquotesWrong : ChangeSpec := { name := "valueUnquotes", fn := fun _ => fun
  | [d] => { results := [.lit (.bool false)], args := [d] }
  | _ => none }
def ValueUnquotesWrongFalsely : Prop := valueUnquotesRow.holds Tryd.pinned (OpenSpec.ofChange valueUnquotesWrong)

/-- 'estuarylaw03.ValueCompares': WHATEVER THE INPUT: true; the input reads as it did. -/
def valueComparesSpec : ChangeSpec := { name := "valueCompares", fn := fun _ => fun
  | [d1, d2] => { results := [.lit (.bool true)], args := [d1, d2] }
  | _ => none }
def valueComparesRow : OpenClaim := { program := "ytodjcgkbcbaadaadoor", sum := "6aac9e79daa394479466d08fb1056055b8475bba5f3395a7885defc650762ba3", func := "estuary/estuarylaw03.ValueCompares", spec := "valueCompares", inPlace := ["math.Float64bits", "math.Float64frombits"], named := ["unicode/utf8.first", "unicode/utf8.acceptRanges"], apart := false, laid := [("unicode/utf8.acceptRanges", laid_unicode_utf8_acceptRanges), ("unicode/utf8.first", laid_unicode_utf8_first)] }
def ValueComparesSaid : Prop := valueComparesRow.holds Tryd.pinned (OpenSpec.ofChange valueComparesSpec)

/-- ITS FALSE NEIGHBOUR: 'it returns false'. Refute it at one input. -/
def valueComparesWrong : ChangeSpec := { name := "valueCompares", fn := fun _ => fun
  | [d1, d2] => { results := [.lit (.bool false)], args := [d1, d2] }
  | _ => none }
def ValueComparesWrongFalsely : Prop := valueComparesRow.holds Tryd.pinned (OpenSpec.ofChange valueComparesWrong)

/-- 'estuarylaw03.ValueOrder': WHATEVER THE INPUT: true; the input reads as it did. -/
def valueOrderSpec : ChangeSpec := { name := "valueOrder", fn := fun _ => fun
  | [d1, d2, d3] => { results := [.lit (.bool true)], args := [d1, d2, d3] }
  | _ => none }
def valueOrderRow : OpenClaim := { program := "ytodjcgkbcbaadaadoor", sum := "6aac9e79daa394479466d08fb1056055b8475bba5f3395a7885defc650762ba3", func := "estuary/estuarylaw03.ValueOrder", spec := "valueOrder", inPlace := ["math.Float64bits", "math.Float64frombits"], named := ["unicode/utf8.first", "unicode/utf8.acceptRanges"], apart := false, laid := [("unicode/utf8.acceptRanges", laid_unicode_utf8_acceptRanges), ("unicode/utf8.first", laid_unicode_utf8_first)] }
def ValueOrderSaid : Prop := valueOrderRow.holds Tryd.pinned (OpenSpec.ofChange valueOrderSpec)

/-- ITS FALSE NEIGHBOUR: 'it returns false'. Refute it at one input. -/
def valueOrderWrong : ChangeSpec := { name := "valueOrder", fn := fun _ => fun
  | [d1, d2, d3] => { results := [.lit (.bool false)], args := [d1, d2, d3] }
  | _ => none }
def ValueOrderWrongFalsely : Prop := valueOrderRow.holds Tryd.pinned (OpenSpec.ofChange valueOrderWrong)

/-- 'estuarylaw03.ValueWrites': WHATEVER THE INPUT: true; the input reads as it did. -/
def valueWritesSpec : ChangeSpec := { name := "valueWrites", fn := fun _ => fun
  | [d] => { results := [.lit (.bool true)], args := [d] }
  | _ => none }
def valueWritesRow : OpenClaim := { program := "ytodjcgkbcbaadaadoor", sum := "6aac9e79daa394479466d08fb1056055b8475bba5f3395a7885defc650762ba3", func := "estuary/estuarylaw03.ValueWrites", spec := "valueWrites", inPlace := ["math.Float64bits", "math.Float64frombits"], named := ["unicode/utf8.first", "unicode/utf8.acceptRanges"], apart := false, laid := [("unicode/utf8.acceptRanges", laid_unicode_utf8_acceptRanges), ("unicode/utf8.first", laid_unicode_utf8_first)] }
def ValueWritesSaid : Prop := valueWritesRow.holds Tryd.pinned (OpenSpec.ofChange valueWritesSpec)

/-- ITS FALSE NEIGHBOUR: 'it returns false'. Refute it at one input. -/
def valueWritesWrong : ChangeSpec := { name := "valueWrites", fn := fun _ => fun
  | [d] => { results := [.lit (.bool false)], args := [d] }
  | _ => none }
def ValueWritesWrongFalsely : Prop := valueWritesRow.holds Tryd.pinned (OpenSpec.ofChange valueWritesWrong)

/-- 'estuarylaw03.ValueReads': WHATEVER THE INPUT: true; the input reads as it did. -/
def valueReadsSpec : ChangeSpec := { name := "valueReads", fn := fun _ => fun
  | [d1, d2] => { results := [.lit (.bool true)], args := [d1, d2] }
  | _ => none }
def valueReadsRow : OpenClaim := { program := "ytodjcgkbcbaadaadoor", sum := "6aac9e79daa394479466d08fb1056055b8475bba5f3395a7885defc650762ba3", func := "estuary/estuarylaw03.ValueReads", spec := "valueReads", inPlace := ["math.Float64frombits", "math.Float64bits"], named := ["unicode/utf8.first", "unicode/utf8.acceptRanges"], apart := false, laid := [("unicode/utf8.acceptRanges", laid_unicode_utf8_acceptRanges), ("unicode/utf8.first", laid_unicode_utf8_first)] }
def ValueReadsSaid : Prop := valueReadsRow.holds Tryd.pinned (OpenSpec.ofChange valueReadsSpec)

/-- ITS FALSE NEIGHBOUR: 'it returns false'. Refute it at one input. -/
def valueReadsWrong : ChangeSpec := { name := "valueReads", fn := fun _ => fun
  | [d1, d2] => { results := [.lit (.bool false)], args := [d1, d2] }
  | _ => none }
def ValueReadsWrongFalsely : Prop := valueReadsRow.holds Tryd.pinned (OpenSpec.ofChange valueReadsWrong)

/- THE SECOND FORM. 'bulk': how many values and letters a reading holds, each counted each time it is reached (what is shared counts as often as it is met; a slice's spare places count too). A statement '..UptoSaid' is the law's where the arguments, and the package variables that the reading takes, are together of bulk at most 1048576: NARROWER than '..Said'. Prove '..Said' where nothing that the law and all that it calls make is longer than what came in: it says more and counts as full. Else prove '..UptoSaid'. A law counts once. -/
mutual
def uptoBulk {H : Type} : DataW H → Nat
  | .lit (.string bytes) => bytes.length + 1
  | .lit _ => 1
  | .nil => 1
  | .ptr d => uptoBulk d + 1
  | .slice elems spare => uptoBulkAll elems + uptoBulkAll spare + 1
  | .agg parts => uptoBulkAll parts + 1
  | .iface _ d => uptoBulk d + 1
  | .map entries => uptoBulkEntries entries + 1
  | .held _ => 1
def uptoBulkAll {H : Type} : List (DataW H) → Nat
  | [] => 0
  | d :: r => uptoBulk d + uptoBulkAll r
def uptoBulkEntries {H : Type} : List (Lit × DataW H) → Nat
  | [] => 0
  | x :: r => uptoBulkEntry x + uptoBulkEntries r
def uptoBulkEntry {H : Type} : Lit × DataW H → Nat
  | (.string bytes, d) => bytes.length + uptoBulk d + 1
  | (_, d) => uptoBulk d + 1
 end
def uptoSmall : (H : Type) → List (DataW H) → Bool := fun _ ds => decide (uptoBulkAll ds ≤ 1048576)
def OpenSpec.upto (s : _root_.Go.ChangeSpec) : _root_.Go.OpenSpec := { _root_.Go.OpenSpec.ofChange s with cond := some uptoSmall }

/-- 'estuarylaw03.ValueQuotes', WHERE WHAT IT READS IS OF BULK AT MOST 1048576: true; the input reads as it did. -/
def valueQuotesUptoRow : OpenClaim := { program := "ytodjcgkbcbaadaadoor", sum := "6aac9e79daa394479466d08fb1056055b8475bba5f3395a7885defc650762ba3", func := "estuary/estuarylaw03.ValueQuotes", spec := "valueQuotes", named := ["unicode/utf8.first", "unicode/utf8.acceptRanges"], apart := false, laid := [("unicode/utf8.acceptRanges", laid_unicode_utf8_acceptRanges), ("unicode/utf8.first", laid_unicode_utf8_first)], narrowed := true }
def ValueQuotesUptoSaid : Prop := valueQuotesUptoRow.holds Tryd.pinned (OpenSpec.upto valueQuotesSpec)

/-- 'estuarylaw03.ValueRights', WHERE WHAT IT READS IS OF BULK AT MOST 1048576: true; the input reads as it did. -/
def valueRightsUptoRow : OpenClaim := { program := "ytodjcgkbcbaadaadoor", sum := "6aac9e79daa394479466d08fb1056055b8475bba5f3395a7885defc650762ba3", func := "estuary/estuarylaw03.ValueRights", spec := "valueRights", inPlace := ["math.Float64bits", "math.Float64frombits"], named := ["unicode/utf8.first", "unicode/utf8.acceptRanges"], apart := false, laid := [("unicode/utf8.acceptRanges", laid_unicode_utf8_acceptRanges), ("unicode/utf8.first", laid_unicode_utf8_first)], narrowed := true }
def ValueRightsUptoSaid : Prop := valueRightsUptoRow.holds Tryd.pinned (OpenSpec.upto valueRightsSpec)

/-- 'estuarylaw03.ValueSums', WHERE WHAT IT READS IS OF BULK AT MOST 1048576: true; the input reads as it did. -/
def valueSumsUptoRow : OpenClaim := { program := "ytodjcgkbcbaadaadoor", sum := "6aac9e79daa394479466d08fb1056055b8475bba5f3395a7885defc650762ba3", func := "estuary/estuarylaw03.ValueSums", spec := "valueSums", inPlace := ["math.Float64bits", "math.Float64frombits"], named := ["estuary/value.names", "estuary/estuaryref03.names", "unicode/utf8.first", "unicode/utf8.acceptRanges"], apart := false, laid := [("unicode/utf8.acceptRanges", laid_unicode_utf8_acceptRanges), ("estuary/estuaryref03.names", laid_estuary_estuaryref03_names), ("estuary/value.names", laid_estuary_value_names), ("unicode/utf8.first", laid_unicode_utf8_first)], narrowed := true }
def ValueSumsUptoSaid : Prop := valueSumsUptoRow.holds Tryd.pinned (OpenSpec.upto valueSumsSpec)

/-- 'estuarylaw03.ValueUnquotes', WHERE WHAT IT READS IS OF BULK AT MOST 1048576: true; the input reads as it did. -/
def valueUnquotesUptoRow : OpenClaim := { program := "ytodjcgkbcbaadaadoor", sum := "6aac9e79daa394479466d08fb1056055b8475bba5f3395a7885defc650762ba3", func := "estuary/estuarylaw03.ValueUnquotes", spec := "valueUnquotes", named := ["unicode/utf8.first", "unicode/utf8.acceptRanges"], apart := false, laid := [("unicode/utf8.acceptRanges", laid_unicode_utf8_acceptRanges), ("unicode/utf8.first", laid_unicode_utf8_first)], narrowed := true }
def ValueUnquotesUptoSaid : Prop := valueUnquotesUptoRow.holds Tryd.pinned (OpenSpec.upto valueUnquotesSpec)

/-- 'estuarylaw03.ValueCompares', WHERE WHAT IT READS IS OF BULK AT MOST 1048576: true; the input reads as it did. -/
def valueComparesUptoRow : OpenClaim := { program := "ytodjcgkbcbaadaadoor", sum := "6aac9e79daa394479466d08fb1056055b8475bba5f3395a7885defc650762ba3", func := "estuary/estuarylaw03.ValueCompares", spec := "valueCompares", inPlace := ["math.Float64bits", "math.Float64frombits"], named := ["unicode/utf8.first", "unicode/utf8.acceptRanges"], apart := false, laid := [("unicode/utf8.acceptRanges", laid_unicode_utf8_acceptRanges), ("unicode/utf8.first", laid_unicode_utf8_first)], narrowed := true }
def ValueComparesUptoSaid : Prop := valueComparesUptoRow.holds Tryd.pinned (OpenSpec.upto valueComparesSpec)

/-- 'estuarylaw03.ValueOrder', WHERE WHAT IT READS IS OF BULK AT MOST 1048576: true; the input reads as it did. -/
def valueOrderUptoRow : OpenClaim := { program := "ytodjcgkbcbaadaadoor", sum := "6aac9e79daa394479466d08fb1056055b8475bba5f3395a7885defc650762ba3", func := "estuary/estuarylaw03.ValueOrder", spec := "valueOrder", inPlace := ["math.Float64bits", "math.Float64frombits"], named := ["unicode/utf8.first", "unicode/utf8.acceptRanges"], apart := false, laid := [("unicode/utf8.acceptRanges", laid_unicode_utf8_acceptRanges), ("unicode/utf8.first", laid_unicode_utf8_first)], narrowed := true }
def ValueOrderUptoSaid : Prop := valueOrderUptoRow.holds Tryd.pinned (OpenSpec.upto valueOrderSpec)

/-- 'estuarylaw03.ValueWrites', WHERE WHAT IT READS IS OF BULK AT MOST 1048576: true; the input reads as it did. -/
def valueWritesUptoRow : OpenClaim := { program := "ytodjcgkbcbaadaadoor", sum := "6aac9e79daa394479466d08fb1056055b8475bba5f3395a7885defc650762ba3", func := "estuary/estuarylaw03.ValueWrites", spec := "valueWrites", inPlace := ["math.Float64bits", "math.Float64frombits"], named := ["unicode/utf8.first", "unicode/utf8.acceptRanges"], apart := false, laid := [("unicode/utf8.acceptRanges", laid_unicode_utf8_acceptRanges), ("unicode/utf8.first", laid_unicode_utf8_first)], narrowed := true }
def ValueWritesUptoSaid : Prop := valueWritesUptoRow.holds Tryd.pinned (OpenSpec.upto valueWritesSpec)

/-- 'estuarylaw03.ValueReads', WHERE WHAT IT READS IS OF BULK AT MOST 1048576: true; the input reads as it did. -/
def valueReadsUptoRow : OpenClaim := { program := "ytodjcgkbcbaadaadoor", sum := "6aac9e79daa394479466d08fb1056055b8475bba5f3395a7885defc650762ba3", func := "estuary/estuarylaw03.ValueReads", spec := "valueReads", inPlace := ["math.Float64frombits", "math.Float64bits"], named := ["unicode/utf8.first", "unicode/utf8.acceptRanges"], apart := false, laid := [("unicode/utf8.acceptRanges", laid_unicode_utf8_acceptRanges), ("unicode/utf8.first", laid_unicode_utf8_first)], narrowed := true }
def ValueReadsUptoSaid : Prop := valueReadsUptoRow.holds Tryd.pinned (OpenSpec.upto valueReadsSpec)

end Rows
end Go.Proofs.YtodjcgkbcbaadaaDoor
