/-
  No cell of these rows narrows 'for every input' (looked for: loops, veiled, ifaces, maps, wideKeys, modest, calm, conditions, laid).
  DERIVED. THE GIVEN ROWS OF THIS SEAT. 5 by the template 'for every input the law returns true; each argument reads behind the call as it read before'; 0 by the template 'total and deterministic' (their statements: YtdanbjpfojgmiaaTotals.lean).
  GIVEN WITH THE SEED: the statements are not yours to turn. If you find one false, say at which input.
  Laid BY PROGRAM, IN A SANDBOX (cutbox-rows.mjs): the forced cells as the released guide's own fill.sh prints them over the translation 1e1c0c68e7b5b467… (all of the seat's roots in one cut). By AI agents, Wed Nov 11 2026. No macro, syntax, notation, axiom, sorry.
-/
import Derived.Test.YtdanbjpfojgmiaaChecked
import GoSem.Claim
import GoSem.ClaimJoined
import GoSem.ClaimMapViews
import Derived.JoinedTies
import Derived.KernelRfl
namespace Go.Proofs.Ytdanbjpfojgmiaa
/- THE CELL 'sum', in the pinned program and in every row, IS THE sha256 OF THE DUMP (.gsa) THAT YtdanbjpfojgmiaaProg.lean LOADS. Nothing in Lean hashes anything: it is a label: what it is worth is what the hold of that sum in a sandbox is worth. -/
noncomputable def Try.pinned : Pinned := { name := "ytdanbjpfojgmiaa", sum := "1e1c0c68e7b5b467c0cf34dc6ef2c5f63b17d4603966663509be01f8359c3016", checked := Try.checked }
namespace Rows
def none {H : Type} : Left H := { results := [], args := [] }

/-- 'estuarylaw01.DigestLinear': WHATEVER THE INPUT: true; the input reads as it did. -/
def digestLinearSpec : ChangeSpec := { name := "digestLinear", fn := fun _ => fun
  | [d1, d2, d3] => { results := [.lit (.bool true)], args := [d1, d2, d3] }
  | _ => none }
def digestLinearRow : OpenClaim := { program := "ytdanbjpfojgmiaa", sum := "1e1c0c68e7b5b467c0cf34dc6ef2c5f63b17d4603966663509be01f8359c3016", func := "estuary/estuarylaw01.DigestLinear", spec := "digestLinear", apart := false }
def DigestLinearSaid : Prop := digestLinearRow.holds Try.pinned (OpenSpec.ofChange digestLinearSpec)

/-- ITS FALSE NEIGHBOUR: 'it returns false'. Refute it at one input. -/
def digestLinearWrong : ChangeSpec := { name := "digestLinear", fn := fun _ => fun
  | [d1, d2, d3] => { results := [.lit (.bool false)], args := [d1, d2, d3] }
  | _ => none }
def DigestLinearWrongFalsely : Prop := digestLinearRow.holds Try.pinned (OpenSpec.ofChange digestLinearWrong)

/-- 'estuarylaw01.DigestBack': WHATEVER THE INPUT: true; the input reads as it did. -/
def digestBackSpec : ChangeSpec := { name := "digestBack", fn := fun _ => fun
  | [d1, d2] => { results := [.lit (.bool true)], args := [d1, d2] }
  | _ => none }
def digestBackRow : OpenClaim := { program := "ytdanbjpfojgmiaa", sum := "1e1c0c68e7b5b467c0cf34dc6ef2c5f63b17d4603966663509be01f8359c3016", func := "estuary/estuarylaw01.DigestBack", spec := "digestBack", inPlace := ["internal/bytealg.IndexByteString"], apart := false }
def DigestBackSaid : Prop := digestBackRow.holds Try.pinned (OpenSpec.ofChange digestBackSpec)

/-- ITS FALSE NEIGHBOUR: 'it returns false'. Refute it at one input. -/
def digestBackWrong : ChangeSpec := { name := "digestBack", fn := fun _ => fun
  | [d1, d2] => { results := [.lit (.bool false)], args := [d1, d2] }
  | _ => none }
def DigestBackWrongFalsely : Prop := digestBackRow.holds Try.pinned (OpenSpec.ofChange digestBackWrong)

/-- 'estuarylaw01.DigestDigits': WHATEVER THE INPUT: true; the input reads as it did. -/
def digestDigitsSpec : ChangeSpec := { name := "digestDigits", fn := fun _ => fun
  | [d1, d2, d3] => { results := [.lit (.bool true)], args := [d1, d2, d3] }
  | _ => none }
def digestDigitsRow : OpenClaim := { program := "ytdanbjpfojgmiaa", sum := "1e1c0c68e7b5b467c0cf34dc6ef2c5f63b17d4603966663509be01f8359c3016", func := "estuary/estuarylaw01.DigestDigits", spec := "digestDigits", inPlace := ["internal/bytealg.IndexByteString"], apart := false }
def DigestDigitsSaid : Prop := digestDigitsRow.holds Try.pinned (OpenSpec.ofChange digestDigitsSpec)

/-- ITS FALSE NEIGHBOUR: 'it returns false'. Refute it at one input. -/
def digestDigitsWrong : ChangeSpec := { name := "digestDigits", fn := fun _ => fun
  | [d1, d2, d3] => { results := [.lit (.bool false)], args := [d1, d2, d3] }
  | _ => none }
def DigestDigitsWrongFalsely : Prop := digestDigitsRow.holds Try.pinned (OpenSpec.ofChange digestDigitsWrong)

/-- 'estuarylaw01.DigestFinds': WHATEVER THE INPUT: true; the input reads as it did. -/
def digestFindsSpec : ChangeSpec := { name := "digestFinds", fn := fun _ => fun
  | [d1, d2] => { results := [.lit (.bool true)], args := [d1, d2] }
  | _ => none }
def digestFindsRow : OpenClaim := { program := "ytdanbjpfojgmiaa", sum := "1e1c0c68e7b5b467c0cf34dc6ef2c5f63b17d4603966663509be01f8359c3016", func := "estuary/estuarylaw01.DigestFinds", spec := "digestFinds", inPlace := ["internal/bytealg.IndexByteString"], apart := false }
def DigestFindsSaid : Prop := digestFindsRow.holds Try.pinned (OpenSpec.ofChange digestFindsSpec)

/-- ITS FALSE NEIGHBOUR: 'it returns false'. Refute it at one input. -/
def digestFindsWrong : ChangeSpec := { name := "digestFinds", fn := fun _ => fun
  | [d1, d2] => { results := [.lit (.bool false)], args := [d1, d2] }
  | _ => none }
def DigestFindsWrongFalsely : Prop := digestFindsRow.holds Try.pinned (OpenSpec.ofChange digestFindsWrong)

/-- 'estuarylaw01.DigestTells': WHATEVER THE INPUT: true; the input reads as it did. -/
def digestTellsSpec : ChangeSpec := { name := "digestTells", fn := fun _ => fun
  | [d] => { results := [.lit (.bool true)], args := [d] }
  | _ => none }
def digestTellsRow : OpenClaim := { program := "ytdanbjpfojgmiaa", sum := "1e1c0c68e7b5b467c0cf34dc6ef2c5f63b17d4603966663509be01f8359c3016", func := "estuary/estuarylaw01.DigestTells", spec := "digestTells", inPlace := ["internal/bytealg.IndexByteString"], apart := false }
def DigestTellsSaid : Prop := digestTellsRow.holds Try.pinned (OpenSpec.ofChange digestTellsSpec)

/-- ITS FALSE NEIGHBOUR: 'it returns false'. Refute it at one input. -/
def digestTellsWrong : ChangeSpec := { name := "digestTells", fn := fun _ => fun
  | [d] => { results := [.lit (.bool false)], args := [d] }
  | _ => none }
def DigestTellsWrongFalsely : Prop := digestTellsRow.holds Try.pinned (OpenSpec.ofChange digestTellsWrong)

/- THE SECOND FORM. 'bulk': how many values and letters a reading holds, each counted each time it is reached (what is shared counts as often as it is met; a slice's spare places count too). A statement '..UptoSaid' is the law's where the arguments, and the package variables that the reading takes, are together of bulk at most 1048576: NARROWER than '..Said'. Prove '..Said' where nothing that the law and all that it calls make is longer than what came in: it says more and counts as full. Else prove '..UptoSaid'. A law counts once. -/
mutual
def uptoBulk {H : Type} : DataW H → Nat
  | .lit (.string bytes) => bytes.length + 1
  | .lit _ => 1
  | .nil => 1
  | .ptr d => uptoBulk d + 1
  | .slice elems spare => uptoBulkAll elems + uptoBulkAll spare + 1
  | .agg parts => uptoBulkAll parts + 1
  | .iface _ d => uptoBulk d + 1
  | .map entries => uptoBulkEntries entries + 1
  | .held _ => 1
def uptoBulkAll {H : Type} : List (DataW H) → Nat
  | [] => 0
  | d :: r => uptoBulk d + uptoBulkAll r
def uptoBulkEntries {H : Type} : List (Lit × DataW H) → Nat
  | [] => 0
  | x :: r => uptoBulkEntry x + uptoBulkEntries r
def uptoBulkEntry {H : Type} : Lit × DataW H → Nat
  | (.string bytes, d) => bytes.length + uptoBulk d + 1
  | (_, d) => uptoBulk d + 1
 end
def uptoSmall : (H : Type) → List (DataW H) → Bool := fun _ ds => decide (uptoBulkAll ds ≤ 1048576)
def OpenSpec.upto (s : _root_.Go.ChangeSpec) : _root_.Go.OpenSpec := { _root_.Go.OpenSpec.ofChange s with cond := some uptoSmall }

/-- 'estuarylaw01.DigestLinear', WHERE WHAT IT READS IS OF BULK AT MOST 1048576: true; the input reads as it did. -/
def digestLinearUptoRow : OpenClaim := { program := "ytdanbjpfojgmiaa", sum := "1e1c0c68e7b5b467c0cf34dc6ef2c5f63b17d4603966663509be01f8359c3016", func := "estuary/estuarylaw01.DigestLinear", spec := "digestLinear", apart := false, narrowed := true }
def DigestLinearUptoSaid : Prop := digestLinearUptoRow.holds Try.pinned (OpenSpec.upto digestLinearSpec)

/-- 'estuarylaw01.DigestBack', WHERE WHAT IT READS IS OF BULK AT MOST 1048576: true; the input reads as it did. -/
def digestBackUptoRow : OpenClaim := { program := "ytdanbjpfojgmiaa", sum := "1e1c0c68e7b5b467c0cf34dc6ef2c5f63b17d4603966663509be01f8359c3016", func := "estuary/estuarylaw01.DigestBack", spec := "digestBack", inPlace := ["internal/bytealg.IndexByteString"], apart := false, narrowed := true }
def DigestBackUptoSaid : Prop := digestBackUptoRow.holds Try.pinned (OpenSpec.upto digestBackSpec)

/-- 'estuarylaw01.DigestDigits', WHERE WHAT IT READS IS OF BULK AT MOST 1048576: true; the input reads as it did. -/
def digestDigitsUptoRow : OpenClaim := { program := "ytdanbjpfojgmiaa", sum := "1e1c0c68e7b5b467c0cf34dc6ef2c5f63b17d4603966663509be01f8359c3016", func := "estuary/estuarylaw01.DigestDigits", spec := "digestDigits", inPlace := ["internal/bytealg.IndexByteString"], apart := false, narrowed := true }
def DigestDigitsUptoSaid : Prop := digestDigitsUptoRow.holds Try.pinned (OpenSpec.upto digestDigitsSpec)

/-- 'estuarylaw01.DigestFinds', WHERE WHAT IT READS IS OF BULK AT MOST 1048576: true; the input reads as it did. -/
def digestFindsUptoRow : OpenClaim := { program := "ytdanbjpfojgmiaa", sum := "1e1c0c68e7b5b467c0cf34dc6ef2c5f63b17d4603966663509be01f8359c3016", func := "estuary/estuarylaw01.DigestFinds", spec := "digestFinds", inPlace := ["internal/bytealg.IndexByteString"], apart := false, narrowed := true }
def DigestFindsUptoSaid : Prop := digestFindsUptoRow.holds Try.pinned (OpenSpec.upto digestFindsSpec)

/-- 'estuarylaw01.DigestTells', WHERE WHAT IT READS IS OF BULK AT MOST 1048576: true; the input reads as it did. -/
def digestTellsUptoRow : OpenClaim := { program := "ytdanbjpfojgmiaa", sum := "1e1c0c68e7b5b467c0cf34dc6ef2c5f63b17d4603966663509be01f8359c3016", func := "estuary/estuarylaw01.DigestTells", spec := "digestTells", inPlace := ["internal/bytealg.IndexByteString"], apart := false, narrowed := true }
def DigestTellsUptoSaid : Prop := digestTellsUptoRow.holds Try.pinned (OpenSpec.upto digestTellsSpec)

end Rows
end Go.Proofs.Ytdanbjpfojgmiaa
