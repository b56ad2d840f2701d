/-
  NARROWER THAN 'FOR EVERY INPUT', by the rows' own cells (each row's printed sentence says how): WayJoins: laid · WayUnder: laid · WayPrints: laid · WayParses: laid · WayFront: laid · WayBack: laid · WayOnly: laid · WayOwn: laid.
  DERIVED. THE GIVEN ROWS OF THIS SEAT. 8 by the template 'for every input the law returns true; each argument reads behind the call as it read before'; 0 by the template 'total and deterministic' (their statements: YtoddjofckbfkhaaDoorTotals.lean).
  GIVEN WITH THE SEED: the statements are not yours to turn. If you find one false, say at which input.
  Laid BY PROGRAM, IN A SANDBOX (cutbox-rows.mjs): the forced cells as the released guide's own fill.sh prints them over the translation 77c4d894a025a12c… (all of the seat's roots in one cut). By AI agents, Wed Nov 11 2026. No macro, syntax, notation, axiom, sorry.
-/
import Derived.Test.YtoddjofckbfkhaaDoorChecked
import GoSem.PinnedTables
import GoSem.Claim
import GoSem.ClaimJoined
import GoSem.ClaimMapViews
import Derived.JoinedTies
import Derived.KernelRfl
namespace Go.Proofs.YtoddjofckbfkhaaDoor
/- THE CELL 'sum', in the pinned program and in every row, IS THE sha256 OF THE DUMP (.gsa) THAT YtoddjofckbfkhaaDoorProg.lean LOADS. Nothing in Lean hashes anything: it is a label: what it is worth is what the hold of that sum in a sandbox is worth. -/
noncomputable def Tryd.pinned : Pinned := { name := "ytoddjofckbfkhaadoor", sum := "77c4d894a025a12c805c7fdc3df47fcd698128eabbeae4400df02a17ebf0b89a", checked := Tryd.checked }
namespace Rows
def none {H : Type} : Left H := { results := [], args := [] }

/- WHAT THE LISTED PACKAGE-LEVEL VARIABLES READ AS WHEN THE CALL BEGINS. Each datum BY PROGRAM (the guide's laid-datum.mjs) off the statement by which the dump's own 'gosem.cut.vars' lays the variable. In a bare row this is a premise. The card (YtoddjofckbfkhaaDoorCards.lean) ties it to the program's text. -/
def laid_unicode_utf8_acceptRanges {H : Type} : DataW H := .agg [.agg [.lit (.int .u8 128), .lit (.int .u8 191)], .agg [.lit (.int .u8 160), .lit (.int .u8 191)], .agg [.lit (.int .u8 128), .lit (.int .u8 159)], .agg [.lit (.int .u8 144), .lit (.int .u8 191)], .agg [.lit (.int .u8 128), .lit (.int .u8 143)], .agg [.lit (.int .u8 0), .lit (.int .u8 0)], .agg [.lit (.int .u8 0), .lit (.int .u8 0)], .agg [.lit (.int .u8 0), .lit (.int .u8 0)], .agg [.lit (.int .u8 0), .lit (.int .u8 0)], .agg [.lit (.int .u8 0), .lit (.int .u8 0)], .agg [.lit (.int .u8 0), .lit (.int .u8 0)], .agg [.lit (.int .u8 0), .lit (.int .u8 0)], .agg [.lit (.int .u8 0), .lit (.int .u8 0)], .agg [.lit (.int .u8 0), .lit (.int .u8 0)], .agg [.lit (.int .u8 0), .lit (.int .u8 0)], .agg [.lit (.int .u8 0), .lit (.int .u8 0)]]
/-- One of Go's own tables, pinned by name: the form's constant. -/
def laid_unicode_utf8_first : DataW Unit := Go.Pinned.utf8First
def laid_math_bits_deBruijn32tab {H : Type} : DataW H := .agg [.lit (.int .u8 0), .lit (.int .u8 1), .lit (.int .u8 28), .lit (.int .u8 2), .lit (.int .u8 29), .lit (.int .u8 14), .lit (.int .u8 24), .lit (.int .u8 3), .lit (.int .u8 30), .lit (.int .u8 22), .lit (.int .u8 20), .lit (.int .u8 15), .lit (.int .u8 25), .lit (.int .u8 17), .lit (.int .u8 4), .lit (.int .u8 8), .lit (.int .u8 31), .lit (.int .u8 27), .lit (.int .u8 13), .lit (.int .u8 23), .lit (.int .u8 21), .lit (.int .u8 19), .lit (.int .u8 16), .lit (.int .u8 7), .lit (.int .u8 26), .lit (.int .u8 12), .lit (.int .u8 18), .lit (.int .u8 6), .lit (.int .u8 11), .lit (.int .u8 5), .lit (.int .u8 10), .lit (.int .u8 9)]
def laid_math_bits_deBruijn64tab {H : Type} : DataW H := .agg [.lit (.int .u8 0), .lit (.int .u8 1), .lit (.int .u8 56), .lit (.int .u8 2), .lit (.int .u8 57), .lit (.int .u8 49), .lit (.int .u8 28), .lit (.int .u8 3), .lit (.int .u8 61), .lit (.int .u8 58), .lit (.int .u8 42), .lit (.int .u8 50), .lit (.int .u8 38), .lit (.int .u8 29), .lit (.int .u8 17), .lit (.int .u8 4), .lit (.int .u8 62), .lit (.int .u8 47), .lit (.int .u8 59), .lit (.int .u8 36), .lit (.int .u8 45), .lit (.int .u8 43), .lit (.int .u8 51), .lit (.int .u8 22), .lit (.int .u8 53), .lit (.int .u8 39), .lit (.int .u8 33), .lit (.int .u8 30), .lit (.int .u8 24), .lit (.int .u8 18), .lit (.int .u8 12), .lit (.int .u8 5), .lit (.int .u8 63), .lit (.int .u8 55), .lit (.int .u8 48), .lit (.int .u8 27), .lit (.int .u8 60), .lit (.int .u8 41), .lit (.int .u8 37), .lit (.int .u8 16), .lit (.int .u8 46), .lit (.int .u8 35), .lit (.int .u8 44), .lit (.int .u8 21), .lit (.int .u8 52), .lit (.int .u8 32), .lit (.int .u8 23), .lit (.int .u8 11), .lit (.int .u8 54), .lit (.int .u8 26), .lit (.int .u8 40), .lit (.int .u8 15), .lit (.int .u8 34), .lit (.int .u8 20), .lit (.int .u8 31), .lit (.int .u8 10), .lit (.int .u8 25), .lit (.int .u8 14), .lit (.int .u8 19), .lit (.int .u8 9), .lit (.int .u8 13), .lit (.int .u8 8), .lit (.int .u8 7), .lit (.int .u8 6)]
def laid_internal_strconv_uint64pow10 {H : Type} : DataW H := .agg [.lit (.int .u64 1), .lit (.int .u64 10), .lit (.int .u64 100), .lit (.int .u64 1000), .lit (.int .u64 10000), .lit (.int .u64 100000), .lit (.int .u64 1000000), .lit (.int .u64 10000000), .lit (.int .u64 100000000), .lit (.int .u64 1000000000), .lit (.int .u64 10000000000), .lit (.int .u64 100000000000), .lit (.int .u64 1000000000000), .lit (.int .u64 10000000000000), .lit (.int .u64 100000000000000), .lit (.int .u64 1000000000000000), .lit (.int .u64 10000000000000000), .lit (.int .u64 100000000000000000), .lit (.int .u64 1000000000000000000), .lit (.int .u64 10000000000000000000)]
def laid_errors_errorType {H : Type} : DataW H := .iface "internal/reflectlite.rtype" (.agg [.ptr (.lit (.string [101, 114, 114, 111, 114]))])
def laid_estuary_way_errWay {H : Type} : DataW H := .iface "*errors.errorString" (.ptr (.agg [.lit (.string [110, 111, 32, 119, 97, 121])]))

/-- 'estuarylaw13.WayJoins': WHATEVER THE INPUT: true; the input reads as it did. -/
def wayJoinsSpec : ChangeSpec := { name := "wayJoins", fn := fun _ => fun
  | [d1, d2] => { results := [.lit (.bool true)], args := [d1, d2] }
  | _ => none }
def wayJoinsRow : OpenClaim := { program := "ytoddjofckbfkhaadoor", sum := "77c4d894a025a12c805c7fdc3df47fcd698128eabbeae4400df02a17ebf0b89a", func := "estuary/estuarylaw13.WayJoins", spec := "wayJoins", named := ["unicode/utf8.first", "unicode/utf8.acceptRanges"], apart := false, laid := [("unicode/utf8.acceptRanges", laid_unicode_utf8_acceptRanges), ("unicode/utf8.first", laid_unicode_utf8_first)] }
def WayJoinsSaid : Prop := wayJoinsRow.holds Tryd.pinned (OpenSpec.ofChange wayJoinsSpec)

/-- ITS FALSE NEIGHBOUR: 'it returns false'. Refute it at one input. -/
def wayJoinsWrong : ChangeSpec := { name := "wayJoins", fn := fun _ => fun
  | [d1, d2] => { results := [.lit (.bool false)], args := [d1, d2] }
  | _ => none }
def WayJoinsWrongFalsely : Prop := wayJoinsRow.holds Tryd.pinned (OpenSpec.ofChange wayJoinsWrong)

/-- 'estuarylaw13.WayUnder': WHATEVER THE INPUT: true; the input reads as it did. -/
def wayUnderSpec : ChangeSpec := { name := "wayUnder", fn := fun _ => fun
  | [d1, d2] => { results := [.lit (.bool true)], args := [d1, d2] }
  | _ => none }
def wayUnderRow : OpenClaim := { program := "ytoddjofckbfkhaadoor", sum := "77c4d894a025a12c805c7fdc3df47fcd698128eabbeae4400df02a17ebf0b89a", func := "estuary/estuarylaw13.WayUnder", spec := "wayUnder", named := ["unicode/utf8.first", "unicode/utf8.acceptRanges"], apart := false, laid := [("unicode/utf8.acceptRanges", laid_unicode_utf8_acceptRanges), ("unicode/utf8.first", laid_unicode_utf8_first)] }
def WayUnderSaid : Prop := wayUnderRow.holds Tryd.pinned (OpenSpec.ofChange wayUnderSpec)

/-- ITS FALSE NEIGHBOUR: 'it returns false'. Refute it at one input. -/
def wayUnderWrong : ChangeSpec := { name := "wayUnder", fn := fun _ => fun
  | [d1, d2] => { results := [.lit (.bool false)], args := [d1, d2] }
  | _ => none }
def WayUnderWrongFalsely : Prop := wayUnderRow.holds Tryd.pinned (OpenSpec.ofChange wayUnderWrong)

/-- 'estuarylaw13.WayPrints': WHATEVER THE INPUT: true; the input reads as it did. -/
def wayPrintsSpec : ChangeSpec := { name := "wayPrints", fn := fun _ => fun
  | [d] => { results := [.lit (.bool true)], args := [d] }
  | _ => none }
def wayPrintsRow : OpenClaim := { program := "ytoddjofckbfkhaadoor", sum := "77c4d894a025a12c805c7fdc3df47fcd698128eabbeae4400df02a17ebf0b89a", func := "estuary/estuarylaw13.WayPrints", spec := "wayPrints", named := ["unicode/utf8.first", "unicode/utf8.acceptRanges", "internal/strconv.uint64pow10", "math/bits.deBruijn32tab", "math/bits.deBruijn64tab"], apart := false, laid := [("math/bits.deBruijn32tab", laid_math_bits_deBruijn32tab), ("math/bits.deBruijn64tab", laid_math_bits_deBruijn64tab), ("internal/strconv.uint64pow10", laid_internal_strconv_uint64pow10), ("unicode/utf8.acceptRanges", laid_unicode_utf8_acceptRanges), ("unicode/utf8.first", laid_unicode_utf8_first)] }
def WayPrintsSaid : Prop := wayPrintsRow.holds Tryd.pinned (OpenSpec.ofChange wayPrintsSpec)

/-- ITS FALSE NEIGHBOUR: 'it returns false'. Refute it at one input. -/
def wayPrintsWrong : ChangeSpec := { name := "wayPrints", fn := fun _ => fun
  | [d] => { results := [.lit (.bool false)], args := [d] }
  | _ => none }
def WayPrintsWrongFalsely : Prop := wayPrintsRow.holds Tryd.pinned (OpenSpec.ofChange wayPrintsWrong)

/-- 'estuarylaw13.WayParses': WHATEVER THE INPUT: true; the input reads as it did. -/
def wayParsesSpec : ChangeSpec := { name := "wayParses", fn := fun _ => fun
  | [d] => { results := [.lit (.bool true)], args := [d] }
  | _ => none }
def wayParsesRow : OpenClaim := { program := "ytoddjofckbfkhaadoor", sum := "77c4d894a025a12c805c7fdc3df47fcd698128eabbeae4400df02a17ebf0b89a", func := "estuary/estuarylaw13.WayParses", spec := "wayParses", inPlace := ["internal/reflectlite.TypeOf", "internal/reflectlite.ValueOf", "(internal/reflectlite.Value).Type", "(internal/reflectlite.Value).IsNil", "(internal/reflectlite.Value).Elem", "(internal/reflectlite.Value).Set"], unfollowed := true, recurses := true, named := ["estuary/way.errWay", "unicode/utf8.first", "unicode/utf8.acceptRanges", "errors.errorType"], apart := false, laid := [("unicode/utf8.acceptRanges", laid_unicode_utf8_acceptRanges), ("errors.errorType", laid_errors_errorType), ("estuary/way.errWay", laid_estuary_way_errWay), ("unicode/utf8.first", laid_unicode_utf8_first)] }
def WayParsesSaid : Prop := wayParsesRow.holds Tryd.pinned (OpenSpec.ofChange wayParsesSpec)

/-- ITS FALSE NEIGHBOUR: 'it returns false'. Refute it at one input. -/
def wayParsesWrong : ChangeSpec := { name := "wayParses", fn := fun _ => fun
  | [d] => { results := [.lit (.bool false)], args := [d] }
  | _ => none }
def WayParsesWrongFalsely : Prop := wayParsesRow.holds Tryd.pinned (OpenSpec.ofChange wayParsesWrong)

/-- 'estuarylaw13.WayFront': WHATEVER THE INPUT: true; the input reads as it did. -/
def wayFrontSpec : ChangeSpec := { name := "wayFront", fn := fun _ => fun
  | [d] => { results := [.lit (.bool true)], args := [d] }
  | _ => none }
def wayFrontRow : OpenClaim := { program := "ytoddjofckbfkhaadoor", sum := "77c4d894a025a12c805c7fdc3df47fcd698128eabbeae4400df02a17ebf0b89a", func := "estuary/estuarylaw13.WayFront", spec := "wayFront", inPlace := ["internal/reflectlite.TypeOf", "internal/reflectlite.ValueOf", "(internal/reflectlite.Value).Type", "(internal/reflectlite.Value).IsNil", "(internal/reflectlite.Value).Elem", "(internal/reflectlite.Value).Set"], unfollowed := true, recurses := true, named := ["estuary/way.errWay", "unicode/utf8.first", "unicode/utf8.acceptRanges", "errors.errorType"], apart := false, laid := [("unicode/utf8.acceptRanges", laid_unicode_utf8_acceptRanges), ("errors.errorType", laid_errors_errorType), ("estuary/way.errWay", laid_estuary_way_errWay), ("unicode/utf8.first", laid_unicode_utf8_first)] }
def WayFrontSaid : Prop := wayFrontRow.holds Tryd.pinned (OpenSpec.ofChange wayFrontSpec)

/-- ITS FALSE NEIGHBOUR: 'it returns false'. Refute it at one input. -/
def wayFrontWrong : ChangeSpec := { name := "wayFront", fn := fun _ => fun
  | [d] => { results := [.lit (.bool false)], args := [d] }
  | _ => none }
def WayFrontWrongFalsely : Prop := wayFrontRow.holds Tryd.pinned (OpenSpec.ofChange wayFrontWrong)

/-- 'estuarylaw13.WayBack': WHATEVER THE INPUT: true; the input reads as it did. -/
def wayBackSpec : ChangeSpec := { name := "wayBack", fn := fun _ => fun
  | [d] => { results := [.lit (.bool true)], args := [d] }
  | _ => none }
def wayBackRow : OpenClaim := { program := "ytoddjofckbfkhaadoor", sum := "77c4d894a025a12c805c7fdc3df47fcd698128eabbeae4400df02a17ebf0b89a", func := "estuary/estuarylaw13.WayBack", spec := "wayBack", inPlace := ["internal/reflectlite.TypeOf", "internal/reflectlite.ValueOf", "(internal/reflectlite.Value).Type", "(internal/reflectlite.Value).IsNil", "(internal/reflectlite.Value).Elem", "(internal/reflectlite.Value).Set"], unfollowed := true, recurses := true, named := ["unicode/utf8.first", "unicode/utf8.acceptRanges", "internal/strconv.uint64pow10", "math/bits.deBruijn32tab", "math/bits.deBruijn64tab", "estuary/way.errWay", "errors.errorType"], apart := false, laid := [("math/bits.deBruijn32tab", laid_math_bits_deBruijn32tab), ("math/bits.deBruijn64tab", laid_math_bits_deBruijn64tab), ("internal/strconv.uint64pow10", laid_internal_strconv_uint64pow10), ("unicode/utf8.acceptRanges", laid_unicode_utf8_acceptRanges), ("errors.errorType", laid_errors_errorType), ("estuary/way.errWay", laid_estuary_way_errWay), ("unicode/utf8.first", laid_unicode_utf8_first)] }
def WayBackSaid : Prop := wayBackRow.holds Tryd.pinned (OpenSpec.ofChange wayBackSpec)

/-- ITS FALSE NEIGHBOUR: 'it returns false'. Refute it at one input. -/
def wayBackWrong : ChangeSpec := { name := "wayBack", fn := fun _ => fun
  | [d] => { results := [.lit (.bool false)], args := [d] }
  | _ => none }
def WayBackWrongFalsely : Prop := wayBackRow.holds Tryd.pinned (OpenSpec.ofChange wayBackWrong)

/-- 'estuarylaw13.WayOnly': WHATEVER THE INPUT: true; the input reads as it did. -/
def wayOnlySpec : ChangeSpec := { name := "wayOnly", fn := fun _ => fun
  | [d] => { results := [.lit (.bool true)], args := [d] }
  | _ => none }
def wayOnlyRow : OpenClaim := { program := "ytoddjofckbfkhaadoor", sum := "77c4d894a025a12c805c7fdc3df47fcd698128eabbeae4400df02a17ebf0b89a", func := "estuary/estuarylaw13.WayOnly", spec := "wayOnly", inPlace := ["internal/reflectlite.TypeOf", "internal/reflectlite.ValueOf", "(internal/reflectlite.Value).Type", "(internal/reflectlite.Value).IsNil", "(internal/reflectlite.Value).Elem", "(internal/reflectlite.Value).Set"], unfollowed := true, recurses := true, named := ["estuary/way.errWay", "unicode/utf8.first", "unicode/utf8.acceptRanges", "errors.errorType", "internal/strconv.uint64pow10", "math/bits.deBruijn32tab", "math/bits.deBruijn64tab"], apart := false, laid := [("math/bits.deBruijn32tab", laid_math_bits_deBruijn32tab), ("math/bits.deBruijn64tab", laid_math_bits_deBruijn64tab), ("internal/strconv.uint64pow10", laid_internal_strconv_uint64pow10), ("unicode/utf8.acceptRanges", laid_unicode_utf8_acceptRanges), ("errors.errorType", laid_errors_errorType), ("estuary/way.errWay", laid_estuary_way_errWay), ("unicode/utf8.first", laid_unicode_utf8_first)] }
def WayOnlySaid : Prop := wayOnlyRow.holds Tryd.pinned (OpenSpec.ofChange wayOnlySpec)

/-- ITS FALSE NEIGHBOUR: 'it returns false'. Refute it at one input. -/
def wayOnlyWrong : ChangeSpec := { name := "wayOnly", fn := fun _ => fun
  | [d] => { results := [.lit (.bool false)], args := [d] }
  | _ => none }
def WayOnlyWrongFalsely : Prop := wayOnlyRow.holds Tryd.pinned (OpenSpec.ofChange wayOnlyWrong)

/-- 'estuarylaw13.WayOwn': WHATEVER THE INPUT: true; the input reads as it did. -/
def wayOwnSpec : ChangeSpec := { name := "wayOwn", fn := fun _ => fun
  | [d1, d2] => { results := [.lit (.bool true)], args := [d1, d2] }
  | _ => none }
def wayOwnRow : OpenClaim := { program := "ytoddjofckbfkhaadoor", sum := "77c4d894a025a12c805c7fdc3df47fcd698128eabbeae4400df02a17ebf0b89a", func := "estuary/estuarylaw13.WayOwn", spec := "wayOwn", inPlace := ["internal/reflectlite.TypeOf", "internal/reflectlite.ValueOf", "(internal/reflectlite.Value).Type", "(internal/reflectlite.Value).IsNil", "(internal/reflectlite.Value).Elem", "(internal/reflectlite.Value).Set"], unfollowed := true, recurses := true, named := ["estuary/way.errWay", "unicode/utf8.first", "unicode/utf8.acceptRanges", "errors.errorType", "internal/strconv.uint64pow10", "math/bits.deBruijn32tab", "math/bits.deBruijn64tab"], apart := false, laid := [("math/bits.deBruijn32tab", laid_math_bits_deBruijn32tab), ("math/bits.deBruijn64tab", laid_math_bits_deBruijn64tab), ("internal/strconv.uint64pow10", laid_internal_strconv_uint64pow10), ("unicode/utf8.acceptRanges", laid_unicode_utf8_acceptRanges), ("errors.errorType", laid_errors_errorType), ("estuary/way.errWay", laid_estuary_way_errWay), ("unicode/utf8.first", laid_unicode_utf8_first)] }
def WayOwnSaid : Prop := wayOwnRow.holds Tryd.pinned (OpenSpec.ofChange wayOwnSpec)

/-- ITS FALSE NEIGHBOUR: 'it returns false'. Refute it at one input. -/
def wayOwnWrong : ChangeSpec := { name := "wayOwn", fn := fun _ => fun
  | [d1, d2] => { results := [.lit (.bool false)], args := [d1, d2] }
  | _ => none }
def WayOwnWrongFalsely : Prop := wayOwnRow.holds Tryd.pinned (OpenSpec.ofChange wayOwnWrong)

/- THE SECOND FORM. 'bulk': how many values and letters a reading holds, each counted each time it is reached (what is shared counts as often as it is met; a slice's spare places count too). A statement '..UptoSaid' is the law's where the arguments, and the package variables that the reading takes, are together of bulk at most 1048576: NARROWER than '..Said'. Prove '..Said' where nothing that the law and all that it calls make is longer than what came in: it says more and counts as full. Else prove '..UptoSaid'. A law counts once. -/
mutual
def uptoBulk {H : Type} : DataW H → Nat
  | .lit (.string bytes) => bytes.length + 1
  | .lit _ => 1
  | .nil => 1
  | .ptr d => uptoBulk d + 1
  | .slice elems spare => uptoBulkAll elems + uptoBulkAll spare + 1
  | .agg parts => uptoBulkAll parts + 1
  | .iface _ d => uptoBulk d + 1
  | .map entries => uptoBulkEntries entries + 1
  | .held _ => 1
def uptoBulkAll {H : Type} : List (DataW H) → Nat
  | [] => 0
  | d :: r => uptoBulk d + uptoBulkAll r
def uptoBulkEntries {H : Type} : List (Lit × DataW H) → Nat
  | [] => 0
  | x :: r => uptoBulkEntry x + uptoBulkEntries r
def uptoBulkEntry {H : Type} : Lit × DataW H → Nat
  | (.string bytes, d) => bytes.length + uptoBulk d + 1
  | (_, d) => uptoBulk d + 1
 end
def uptoSmall : (H : Type) → List (DataW H) → Bool := fun _ ds => decide (uptoBulkAll ds ≤ 1048576)
def OpenSpec.upto (s : _root_.Go.ChangeSpec) : _root_.Go.OpenSpec := { _root_.Go.OpenSpec.ofChange s with cond := some uptoSmall }

/-- 'estuarylaw13.WayJoins', WHERE WHAT IT READS IS OF BULK AT MOST 1048576: true; the input reads as it did. -/
def wayJoinsUptoRow : OpenClaim := { program := "ytoddjofckbfkhaadoor", sum := "77c4d894a025a12c805c7fdc3df47fcd698128eabbeae4400df02a17ebf0b89a", func := "estuary/estuarylaw13.WayJoins", spec := "wayJoins", named := ["unicode/utf8.first", "unicode/utf8.acceptRanges"], apart := false, laid := [("unicode/utf8.acceptRanges", laid_unicode_utf8_acceptRanges), ("unicode/utf8.first", laid_unicode_utf8_first)], narrowed := true }
def WayJoinsUptoSaid : Prop := wayJoinsUptoRow.holds Tryd.pinned (OpenSpec.upto wayJoinsSpec)

/-- 'estuarylaw13.WayUnder', WHERE WHAT IT READS IS OF BULK AT MOST 1048576: true; the input reads as it did. -/
def wayUnderUptoRow : OpenClaim := { program := "ytoddjofckbfkhaadoor", sum := "77c4d894a025a12c805c7fdc3df47fcd698128eabbeae4400df02a17ebf0b89a", func := "estuary/estuarylaw13.WayUnder", spec := "wayUnder", named := ["unicode/utf8.first", "unicode/utf8.acceptRanges"], apart := false, laid := [("unicode/utf8.acceptRanges", laid_unicode_utf8_acceptRanges), ("unicode/utf8.first", laid_unicode_utf8_first)], narrowed := true }
def WayUnderUptoSaid : Prop := wayUnderUptoRow.holds Tryd.pinned (OpenSpec.upto wayUnderSpec)

/-- 'estuarylaw13.WayPrints', WHERE WHAT IT READS IS OF BULK AT MOST 1048576: true; the input reads as it did. -/
def wayPrintsUptoRow : OpenClaim := { program := "ytoddjofckbfkhaadoor", sum := "77c4d894a025a12c805c7fdc3df47fcd698128eabbeae4400df02a17ebf0b89a", func := "estuary/estuarylaw13.WayPrints", spec := "wayPrints", named := ["unicode/utf8.first", "unicode/utf8.acceptRanges", "internal/strconv.uint64pow10", "math/bits.deBruijn32tab", "math/bits.deBruijn64tab"], apart := false, laid := [("math/bits.deBruijn32tab", laid_math_bits_deBruijn32tab), ("math/bits.deBruijn64tab", laid_math_bits_deBruijn64tab), ("internal/strconv.uint64pow10", laid_internal_strconv_uint64pow10), ("unicode/utf8.acceptRanges", laid_unicode_utf8_acceptRanges), ("unicode/utf8.first", laid_unicode_utf8_first)], narrowed := true }
def WayPrintsUptoSaid : Prop := wayPrintsUptoRow.holds Tryd.pinned (OpenSpec.upto wayPrintsSpec)

/-- 'estuarylaw13.WayParses', WHERE WHAT IT READS IS OF BULK AT MOST 1048576: true; the input reads as it did. -/
def wayParsesUptoRow : OpenClaim := { program := "ytoddjofckbfkhaadoor", sum := "77c4d894a025a12c805c7fdc3df47fcd698128eabbeae4400df02a17ebf0b89a", func := "estuary/estuarylaw13.WayParses", spec := "wayParses", inPlace := ["internal/reflectlite.TypeOf", "internal/reflectlite.ValueOf", "(internal/reflectlite.Value).Type", "(internal/reflectlite.Value).IsNil", "(internal/reflectlite.Value).Elem", "(internal/reflectlite.Value).Set"], unfollowed := true, recurses := true, named := ["estuary/way.errWay", "unicode/utf8.first", "unicode/utf8.acceptRanges", "errors.errorType"], apart := false, laid := [("unicode/utf8.acceptRanges", laid_unicode_utf8_acceptRanges), ("errors.errorType", laid_errors_errorType), ("estuary/way.errWay", laid_estuary_way_errWay), ("unicode/utf8.first", laid_unicode_utf8_first)], narrowed := true }
def WayParsesUptoSaid : Prop := wayParsesUptoRow.holds Tryd.pinned (OpenSpec.upto wayParsesSpec)

/-- 'estuarylaw13.WayFront', WHERE WHAT IT READS IS OF BULK AT MOST 1048576: true; the input reads as it did. -/
def wayFrontUptoRow : OpenClaim := { program := "ytoddjofckbfkhaadoor", sum := "77c4d894a025a12c805c7fdc3df47fcd698128eabbeae4400df02a17ebf0b89a", func := "estuary/estuarylaw13.WayFront", spec := "wayFront", inPlace := ["internal/reflectlite.TypeOf", "internal/reflectlite.ValueOf", "(internal/reflectlite.Value).Type", "(internal/reflectlite.Value).IsNil", "(internal/reflectlite.Value).Elem", "(internal/reflectlite.Value).Set"], unfollowed := true, recurses := true, named := ["estuary/way.errWay", "unicode/utf8.first", "unicode/utf8.acceptRanges", "errors.errorType"], apart := false, laid := [("unicode/utf8.acceptRanges", laid_unicode_utf8_acceptRanges), ("errors.errorType", laid_errors_errorType), ("estuary/way.errWay", laid_estuary_way_errWay), ("unicode/utf8.first", laid_unicode_utf8_first)], narrowed := true }
def WayFrontUptoSaid : Prop := wayFrontUptoRow.holds Tryd.pinned (OpenSpec.upto wayFrontSpec)

/-- 'estuarylaw13.WayBack', WHERE WHAT IT READS IS OF BULK AT MOST 1048576: true; the input reads as it did. -/
def wayBackUptoRow : OpenClaim := { program := "ytoddjofckbfkhaadoor", sum := "77c4d894a025a12c805c7fdc3df47fcd698128eabbeae4400df02a17ebf0b89a", func := "estuary/estuarylaw13.WayBack", spec := "wayBack", inPlace := ["internal/reflectlite.TypeOf", "internal/reflectlite.ValueOf", "(internal/reflectlite.Value).Type", "(internal/reflectlite.Value).IsNil", "(internal/reflectlite.Value).Elem", "(internal/reflectlite.Value).Set"], unfollowed := true, recurses := true, named := ["unicode/utf8.first", "unicode/utf8.acceptRanges", "internal/strconv.uint64pow10", "math/bits.deBruijn32tab", "math/bits.deBruijn64tab", "estuary/way.errWay", "errors.errorType"], apart := false, laid := [("math/bits.deBruijn32tab", laid_math_bits_deBruijn32tab), ("math/bits.deBruijn64tab", laid_math_bits_deBruijn64tab), ("internal/strconv.uint64pow10", laid_internal_strconv_uint64pow10), ("unicode/utf8.acceptRanges", laid_unicode_utf8_acceptRanges), ("errors.errorType", laid_errors_errorType), ("estuary/way.errWay", laid_estuary_way_errWay), ("unicode/utf8.first", laid_unicode_utf8_first)], narrowed := true }
def WayBackUptoSaid : Prop := wayBackUptoRow.holds Tryd.pinned (OpenSpec.upto wayBackSpec)

/-- 'estuarylaw13.WayOnly', WHERE WHAT IT READS IS OF BULK AT MOST 1048576: true; the input reads as it did. -/
def wayOnlyUptoRow : OpenClaim := { program := "ytoddjofckbfkhaadoor", sum := "77c4d894a025a12c805c7fdc3df47fcd698128eabbeae4400df02a17ebf0b89a", func := "estuary/estuarylaw13.WayOnly", spec := "wayOnly", inPlace := ["internal/reflectlite.TypeOf", "internal/reflectlite.ValueOf", "(internal/reflectlite.Value).Type", "(internal/reflectlite.Value).IsNil", "(internal/reflectlite.Value).Elem", "(internal/reflectlite.Value).Set"], unfollowed := true, recurses := true, named := ["estuary/way.errWay", "unicode/utf8.first", "unicode/utf8.acceptRanges", "errors.errorType", "internal/strconv.uint64pow10", "math/bits.deBruijn32tab", "math/bits.deBruijn64tab"], apart := false, laid := [("math/bits.deBruijn32tab", laid_math_bits_deBruijn32tab), ("math/bits.deBruijn64tab", laid_math_bits_deBruijn64tab), ("internal/strconv.uint64pow10", laid_internal_strconv_uint64pow10), ("unicode/utf8.acceptRanges", laid_unicode_utf8_acceptRanges), ("errors.errorType", laid_errors_errorType), ("estuary/way.errWay", laid_estuary_way_errWay), ("unicode/utf8.first", laid_unicode_utf8_first)], narrowed := true }
def WayOnlyUptoSaid : Prop := wayOnlyUptoRow.holds Tryd.pinned (OpenSpec.upto wayOnlySpec)

/-- 'estuarylaw13.WayOwn', WHERE WHAT IT READS IS OF BULK AT MOST 1048576: true; the input reads as it did. -/
def wayOwnUptoRow : OpenClaim := { program := "ytoddjofckbfkhaadoor", sum := "77c4d894a025a12c805c7fdc3df47fcd698128eabbeae4400df02a17ebf0b89a", func := "estuary/estuarylaw13.WayOwn", spec := "wayOwn", inPlace := ["internal/reflectlite.TypeOf", "internal/reflectlite.ValueOf", "(internal/reflectlite.Value).Type", "(internal/reflectlite.Value).IsNil", "(internal/reflectlite.Value).Elem", "(internal/reflectlite.Value).Set"], unfollowed := true, recurses := true, named := ["estuary/way.errWay", "unicode/utf8.first", "unicode/utf8.acceptRanges", "errors.errorType", "internal/strconv.uint64pow10", "math/bits.deBruijn32tab", "math/bits.deBruijn64tab"], apart := false, laid := [("math/bits.deBruijn32tab", laid_math_bits_deBruijn32tab), ("math/bits.deBruijn64tab", laid_math_bits_deBruijn64tab), ("internal/strconv.uint64pow10", laid_internal_strconv_uint64pow10), ("unicode/utf8.acceptRanges", laid_unicode_utf8_acceptRanges), ("errors.errorType", laid_errors_errorType), ("estuary/way.errWay", laid_estuary_way_errWay), ("unicode/utf8.first", laid_unicode_utf8_first)], narrowed := true }
def WayOwnUptoSaid : Prop := wayOwnUptoRow.holds Tryd.pinned (OpenSpec.upto wayOwnSpec)

end Rows
end Go.Proofs.YtoddjofckbfkhaaDoor
