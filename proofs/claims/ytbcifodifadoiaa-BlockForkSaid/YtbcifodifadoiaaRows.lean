/-
  No cell of these rows narrows 'for every input' (looked for: loops, veiled, ifaces, maps, wideKeys, modest, calm, conditions, laid).
  DERIVED. THE GIVEN ROWS OF THIS SEAT. 4 by the template 'for every input the law returns true; each argument reads behind the call as it read before'; 0 by the template 'total and deterministic' (their statements: YtbcifodifadoiaaTotals.lean).
  GIVEN WITH THE SEED: the statements are not yours to turn. If you find one false, say at which input.
  Laid BY PROGRAM, IN A SANDBOX (cutbox-rows.mjs): the forced cells as the released guide's own fill.sh prints them over the translation f06e2d00c1b4cf89… (all of the seat's roots in one cut). By AI agents, Wed Nov 11 2026. No macro, syntax, notation, axiom, sorry.
-/
import Derived.Test.YtbcifodifadoiaaChecked
import GoSem.Claim
import GoSem.ClaimJoined
import GoSem.ClaimMapViews
import Derived.JoinedTies
import Derived.KernelRfl
namespace Go.Proofs.Ytbcifodifadoiaa
/- THE CELL 'sum', in the pinned program and in every row, IS THE sha256 OF THE DUMP (.gsa) THAT YtbcifodifadoiaaProg.lean LOADS. Nothing in Lean hashes anything: it is a label: what it is worth is what the hold of that sum in a sandbox is worth. -/
noncomputable def Try.pinned : Pinned := { name := "ytbcifodifadoiaa", sum := "f06e2d00c1b4cf89205a5188b14c54f72640b8ddaecccb5bf4a9643e19e69007", checked := Try.checked }
namespace Rows
def none {H : Type} : Left H := { results := [], args := [] }

/-- 'bruitlaw22.BlockSays': WHATEVER THE INPUT: true; the input reads as it did. -/
def blockSaysSpec : ChangeSpec := { name := "blockSays", fn := fun _ => fun
  | [d1, d2, d3] => { results := [.lit (.bool true)], args := [d1, d2, d3] }
  | _ => none }
def blockSaysRow : OpenClaim := { program := "ytbcifodifadoiaa", sum := "f06e2d00c1b4cf89205a5188b14c54f72640b8ddaecccb5bf4a9643e19e69007", func := "bruit/bruitlaw22.BlockSays", spec := "blockSays", recurses := true, apart := false }
def BlockSaysSaid : Prop := blockSaysRow.holds Try.pinned (OpenSpec.ofChange blockSaysSpec)

/-- ITS FALSE NEIGHBOUR: 'it returns false'. Refute it at one input. -/
def blockSaysWrong : ChangeSpec := { name := "blockSays", fn := fun _ => fun
  | [d1, d2, d3] => { results := [.lit (.bool false)], args := [d1, d2, d3] }
  | _ => none }
def BlockSaysWrongFalsely : Prop := blockSaysRow.holds Try.pinned (OpenSpec.ofChange blockSaysWrong)

/-- 'bruitlaw22.BlockOrdered': WHATEVER THE INPUT: true; the input reads as it did. -/
def blockOrderedSpec : ChangeSpec := { name := "blockOrdered", fn := fun _ => fun
  | [d1, d2, d3] => { results := [.lit (.bool true)], args := [d1, d2, d3] }
  | _ => none }
def blockOrderedRow : OpenClaim := { program := "ytbcifodifadoiaa", sum := "f06e2d00c1b4cf89205a5188b14c54f72640b8ddaecccb5bf4a9643e19e69007", func := "bruit/bruitlaw22.BlockOrdered", spec := "blockOrdered", recurses := true, apart := false }
def BlockOrderedSaid : Prop := blockOrderedRow.holds Try.pinned (OpenSpec.ofChange blockOrderedSpec)

/-- ITS FALSE NEIGHBOUR: 'it returns false'. Refute it at one input. -/
def blockOrderedWrong : ChangeSpec := { name := "blockOrdered", fn := fun _ => fun
  | [d1, d2, d3] => { results := [.lit (.bool false)], args := [d1, d2, d3] }
  | _ => none }
def BlockOrderedWrongFalsely : Prop := blockOrderedRow.holds Try.pinned (OpenSpec.ofChange blockOrderedWrong)

/-- 'bruitlaw22.BlockFork': WHATEVER THE INPUT: true; the input reads as it did. -/
def blockForkSpec : ChangeSpec := { name := "blockFork", fn := fun _ => fun
  | [d1, d2] => { results := [.lit (.bool true)], args := [d1, d2] }
  | _ => none }
def blockForkRow : OpenClaim := { program := "ytbcifodifadoiaa", sum := "f06e2d00c1b4cf89205a5188b14c54f72640b8ddaecccb5bf4a9643e19e69007", func := "bruit/bruitlaw22.BlockFork", spec := "blockFork", recurses := true, apart := false }
def BlockForkSaid : Prop := blockForkRow.holds Try.pinned (OpenSpec.ofChange blockForkSpec)

/-- ITS FALSE NEIGHBOUR: 'it returns false'. Refute it at one input. -/
def blockForkWrong : ChangeSpec := { name := "blockFork", fn := fun _ => fun
  | [d1, d2] => { results := [.lit (.bool false)], args := [d1, d2] }
  | _ => none }
def BlockForkWrongFalsely : Prop := blockForkRow.holds Try.pinned (OpenSpec.ofChange blockForkWrong)

/-- 'bruitlaw22.BlockWhole': WHATEVER THE INPUT: true; the input reads as it did. -/
def blockWholeSpec : ChangeSpec := { name := "blockWhole", fn := fun _ => fun
  | [d1, d2, d3] => { results := [.lit (.bool true)], args := [d1, d2, d3] }
  | _ => none }
def blockWholeRow : OpenClaim := { program := "ytbcifodifadoiaa", sum := "f06e2d00c1b4cf89205a5188b14c54f72640b8ddaecccb5bf4a9643e19e69007", func := "bruit/bruitlaw22.BlockWhole", spec := "blockWhole", recurses := true, apart := false }
def BlockWholeSaid : Prop := blockWholeRow.holds Try.pinned (OpenSpec.ofChange blockWholeSpec)

/-- ITS FALSE NEIGHBOUR: 'it returns false'. Refute it at one input. -/
def blockWholeWrong : ChangeSpec := { name := "blockWhole", fn := fun _ => fun
  | [d1, d2, d3] => { results := [.lit (.bool false)], args := [d1, d2, d3] }
  | _ => none }
def BlockWholeWrongFalsely : Prop := blockWholeRow.holds Try.pinned (OpenSpec.ofChange blockWholeWrong)

/- THE SECOND FORM. 'bulk': how many values and letters a reading holds, each counted each time it is reached (what is shared counts as often as it is met; a slice's spare places count too). A statement '..UptoSaid' is the law's where the arguments, and the package variables that the reading takes, are together of bulk at most 1048576: NARROWER than '..Said'. Prove '..Said' where nothing that the law and all that it calls make is longer than what came in: it says more and counts as full. Else prove '..UptoSaid'. A law counts once. -/
mutual
def uptoBulk {H : Type} : DataW H → Nat
  | .lit (.string bytes) => bytes.length + 1
  | .lit _ => 1
  | .nil => 1
  | .ptr d => uptoBulk d + 1
  | .slice elems spare => uptoBulkAll elems + uptoBulkAll spare + 1
  | .agg parts => uptoBulkAll parts + 1
  | .iface _ d => uptoBulk d + 1
  | .map entries => uptoBulkEntries entries + 1
  | .held _ => 1
def uptoBulkAll {H : Type} : List (DataW H) → Nat
  | [] => 0
  | d :: r => uptoBulk d + uptoBulkAll r
def uptoBulkEntries {H : Type} : List (Lit × DataW H) → Nat
  | [] => 0
  | x :: r => uptoBulkEntry x + uptoBulkEntries r
def uptoBulkEntry {H : Type} : Lit × DataW H → Nat
  | (.string bytes, d) => bytes.length + uptoBulk d + 1
  | (_, d) => uptoBulk d + 1
 end
def uptoSmall : (H : Type) → List (DataW H) → Bool := fun _ ds => decide (uptoBulkAll ds ≤ 1048576)
def OpenSpec.upto (s : _root_.Go.ChangeSpec) : _root_.Go.OpenSpec := { _root_.Go.OpenSpec.ofChange s with cond := some uptoSmall }

/-- 'bruitlaw22.BlockSays', WHERE WHAT IT READS IS OF BULK AT MOST 1048576: true; the input reads as it did. -/
def blockSaysUptoRow : OpenClaim := { program := "ytbcifodifadoiaa", sum := "f06e2d00c1b4cf89205a5188b14c54f72640b8ddaecccb5bf4a9643e19e69007", func := "bruit/bruitlaw22.BlockSays", spec := "blockSays", recurses := true, apart := false, narrowed := true }
def BlockSaysUptoSaid : Prop := blockSaysUptoRow.holds Try.pinned (OpenSpec.upto blockSaysSpec)

/-- 'bruitlaw22.BlockOrdered', WHERE WHAT IT READS IS OF BULK AT MOST 1048576: true; the input reads as it did. -/
def blockOrderedUptoRow : OpenClaim := { program := "ytbcifodifadoiaa", sum := "f06e2d00c1b4cf89205a5188b14c54f72640b8ddaecccb5bf4a9643e19e69007", func := "bruit/bruitlaw22.BlockOrdered", spec := "blockOrdered", recurses := true, apart := false, narrowed := true }
def BlockOrderedUptoSaid : Prop := blockOrderedUptoRow.holds Try.pinned (OpenSpec.upto blockOrderedSpec)

/-- 'bruitlaw22.BlockFork', WHERE WHAT IT READS IS OF BULK AT MOST 1048576: true; the input reads as it did. -/
def blockForkUptoRow : OpenClaim := { program := "ytbcifodifadoiaa", sum := "f06e2d00c1b4cf89205a5188b14c54f72640b8ddaecccb5bf4a9643e19e69007", func := "bruit/bruitlaw22.BlockFork", spec := "blockFork", recurses := true, apart := false, narrowed := true }
def BlockForkUptoSaid : Prop := blockForkUptoRow.holds Try.pinned (OpenSpec.upto blockForkSpec)

/-- 'bruitlaw22.BlockWhole', WHERE WHAT IT READS IS OF BULK AT MOST 1048576: true; the input reads as it did. -/
def blockWholeUptoRow : OpenClaim := { program := "ytbcifodifadoiaa", sum := "f06e2d00c1b4cf89205a5188b14c54f72640b8ddaecccb5bf4a9643e19e69007", func := "bruit/bruitlaw22.BlockWhole", spec := "blockWhole", recurses := true, apart := false, narrowed := true }
def BlockWholeUptoSaid : Prop := blockWholeUptoRow.holds Try.pinned (OpenSpec.upto blockWholeSpec)

end Rows
end Go.Proofs.Ytbcifodifadoiaa
