/-
  No cell of these rows narrows 'for every input' (looked for: loops, veiled, ifaces, maps, wideKeys, modest, calm, conditions, laid).
  DERIVED. THE GIVEN ROWS OF THIS SEAT. 2 by the template 'for every input the law returns true; each argument reads behind the call as it read before'; 0 by the template 'total and deterministic' (their statements: YtoddjofckbfkhaaTotals.lean).
  GIVEN WITH THE SEED: the statements are not yours to turn. If you find one false, say at which input.
  Laid BY PROGRAM, IN A SANDBOX (cutbox-rows.mjs): the forced cells as the released guide's own fill.sh prints them over the translation 7e94ffd6586c0638… (all of the seat's roots in one cut). By AI agents, Wed Nov 11 2026. No macro, syntax, notation, axiom, sorry.
-/
import Derived.Test.YtoddjofckbfkhaaChecked
import GoSem.Claim
import GoSem.ClaimJoined
import GoSem.ClaimMapViews
import Derived.JoinedTies
import Derived.KernelRfl
namespace Go.Proofs.Ytoddjofckbfkhaa
/- THE CELL 'sum', in the pinned program and in every row, IS THE sha256 OF THE DUMP (.gsa) THAT YtoddjofckbfkhaaProg.lean LOADS. Nothing in Lean hashes anything: it is a label: what it is worth is what the hold of that sum in a sandbox is worth. -/
noncomputable def Try.pinned : Pinned := { name := "ytoddjofckbfkhaa", sum := "7e94ffd6586c0638fdc7191ada428e57b20274a91b3471ada965a781078b98e3", checked := Try.checked }
namespace Rows
def none {H : Type} : Left H := { results := [], args := [] }

/-- 'estuarylaw13.WayOrder': WHATEVER THE INPUT: true; the input reads as it did. -/
def wayOrderSpec : ChangeSpec := { name := "wayOrder", fn := fun _ => fun
  | [d1, d2, d3] => { results := [.lit (.bool true)], args := [d1, d2, d3] }
  | _ => none }
def wayOrderRow : OpenClaim := { program := "ytoddjofckbfkhaa", sum := "7e94ffd6586c0638fdc7191ada428e57b20274a91b3471ada965a781078b98e3", func := "estuary/estuarylaw13.WayOrder", spec := "wayOrder", unfollowed := true, recurses := true, apart := false }
def WayOrderSaid : Prop := wayOrderRow.holds Try.pinned (OpenSpec.ofChange wayOrderSpec)

/-- ITS FALSE NEIGHBOUR: 'it returns false'. Refute it at one input. -/
def wayOrderWrong : ChangeSpec := { name := "wayOrder", fn := fun _ => fun
  | [d1, d2, d3] => { results := [.lit (.bool false)], args := [d1, d2, d3] }
  | _ => none }
def WayOrderWrongFalsely : Prop := wayOrderRow.holds Try.pinned (OpenSpec.ofChange wayOrderWrong)

/-- 'estuarylaw13.WayCompares': WHATEVER THE INPUT: true; the input reads as it did. -/
def wayComparesSpec : ChangeSpec := { name := "wayCompares", fn := fun _ => fun
  | [d1, d2] => { results := [.lit (.bool true)], args := [d1, d2] }
  | _ => none }
def wayComparesRow : OpenClaim := { program := "ytoddjofckbfkhaa", sum := "7e94ffd6586c0638fdc7191ada428e57b20274a91b3471ada965a781078b98e3", func := "estuary/estuarylaw13.WayCompares", spec := "wayCompares", unfollowed := true, recurses := true, apart := false }
def WayComparesSaid : Prop := wayComparesRow.holds Try.pinned (OpenSpec.ofChange wayComparesSpec)

/-- ITS FALSE NEIGHBOUR: 'it returns false'. Refute it at one input. -/
def wayComparesWrong : ChangeSpec := { name := "wayCompares", fn := fun _ => fun
  | [d1, d2] => { results := [.lit (.bool false)], args := [d1, d2] }
  | _ => none }
def WayComparesWrongFalsely : Prop := wayComparesRow.holds Try.pinned (OpenSpec.ofChange wayComparesWrong)

/- THE SECOND FORM. 'bulk': how many values and letters a reading holds, each counted each time it is reached (what is shared counts as often as it is met; a slice's spare places count too). A statement '..UptoSaid' is the law's where the arguments, and the package variables that the reading takes, are together of bulk at most 1048576: NARROWER than '..Said'. Prove '..Said' where nothing that the law and all that it calls make is longer than what came in: it says more and counts as full. Else prove '..UptoSaid'. A law counts once. -/
mutual
def uptoBulk {H : Type} : DataW H → Nat
  | .lit (.string bytes) => bytes.length + 1
  | .lit _ => 1
  | .nil => 1
  | .ptr d => uptoBulk d + 1
  | .slice elems spare => uptoBulkAll elems + uptoBulkAll spare + 1
  | .agg parts => uptoBulkAll parts + 1
  | .iface _ d => uptoBulk d + 1
  | .map entries => uptoBulkEntries entries + 1
  | .held _ => 1
def uptoBulkAll {H : Type} : List (DataW H) → Nat
  | [] => 0
  | d :: r => uptoBulk d + uptoBulkAll r
def uptoBulkEntries {H : Type} : List (Lit × DataW H) → Nat
  | [] => 0
  | x :: r => uptoBulkEntry x + uptoBulkEntries r
def uptoBulkEntry {H : Type} : Lit × DataW H → Nat
  | (.string bytes, d) => bytes.length + uptoBulk d + 1
  | (_, d) => uptoBulk d + 1
 end
def uptoSmall : (H : Type) → List (DataW H) → Bool := fun _ ds => decide (uptoBulkAll ds ≤ 1048576)
def OpenSpec.upto (s : _root_.Go.ChangeSpec) : _root_.Go.OpenSpec := { _root_.Go.OpenSpec.ofChange s with cond := some uptoSmall }

/-- 'estuarylaw13.WayOrder', WHERE WHAT IT READS IS OF BULK AT MOST 1048576: true; the input reads as it did. -/
def wayOrderUptoRow : OpenClaim := { program := "ytoddjofckbfkhaa", sum := "7e94ffd6586c0638fdc7191ada428e57b20274a91b3471ada965a781078b98e3", func := "estuary/estuarylaw13.WayOrder", spec := "wayOrder", unfollowed := true, recurses := true, apart := false, narrowed := true }
def WayOrderUptoSaid : Prop := wayOrderUptoRow.holds Try.pinned (OpenSpec.upto wayOrderSpec)

/-- 'estuarylaw13.WayCompares', WHERE WHAT IT READS IS OF BULK AT MOST 1048576: true; the input reads as it did. -/
def wayComparesUptoRow : OpenClaim := { program := "ytoddjofckbfkhaa", sum := "7e94ffd6586c0638fdc7191ada428e57b20274a91b3471ada965a781078b98e3", func := "estuary/estuarylaw13.WayCompares", spec := "wayCompares", unfollowed := true, recurses := true, apart := false, narrowed := true }
def WayComparesUptoSaid : Prop := wayComparesUptoRow.holds Try.pinned (OpenSpec.upto wayComparesSpec)

end Rows
end Go.Proofs.Ytoddjofckbfkhaa
