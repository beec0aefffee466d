/-
  No cell of these rows narrows 'for every input' (looked for: loops, veiled, ifaces, maps, wideKeys, modest, calm, conditions, laid).
  DERIVED. THE GIVEN ROWS OF THIS SEAT. 11 by the template 'for every input the law returns true; each argument reads behind the call as it read before'; 0 by the template 'total and deterministic' (their statements: YtfmaicjgndbffaaTotals.lean).
  GIVEN WITH THE SEED: the statements are not yours to turn. If you find one false, say at which input.
  Laid BY PROGRAM, IN A SANDBOX (cutbox-rows.mjs): the forced cells as the released guide's own fill.sh prints them over the translation e7f053092a408f57… (all of the seat's roots in one cut). By AI agents, Wed Nov 11 2026. No macro, syntax, notation, axiom, sorry.
-/
import Derived.Test.YtfmaicjgndbffaaChecked
import GoSem.Claim
import GoSem.ClaimJoined
import GoSem.ClaimMapViews
import Derived.JoinedTies
import Derived.KernelRfl
namespace Go.Proofs.Ytfmaicjgndbffaa
/- THE CELL 'sum', in the pinned program and in every row, IS THE sha256 OF THE DUMP (.gsa) THAT YtfmaicjgndbffaaProg.lean LOADS. Nothing in Lean hashes anything: it is a label: what it is worth is what the hold of that sum in a sandbox is worth. -/
noncomputable def Try.pinned : Pinned := { name := "ytfmaicjgndbffaa", sum := "e7f053092a408f576ef0dc3d13edd16015d190a585514c7179c7bf4b3e349e33", checked := Try.checked }
namespace Rows
def none {H : Type} : Left H := { results := [], args := [] }

/-- 'bruitlaw03.VarintWrites': WHATEVER THE INPUT: true; the input reads as it did. -/
def varintWritesSpec : ChangeSpec := { name := "varintWrites", fn := fun _ => fun
  | [d] => { results := [.lit (.bool true)], args := [d] }
  | _ => none }
def varintWritesRow : OpenClaim := { program := "ytfmaicjgndbffaa", sum := "e7f053092a408f576ef0dc3d13edd16015d190a585514c7179c7bf4b3e349e33", func := "bruit/bruitlaw03.VarintWrites", spec := "varintWrites", apart := false }
def VarintWritesSaid : Prop := varintWritesRow.holds Try.pinned (OpenSpec.ofChange varintWritesSpec)

/-- ITS FALSE NEIGHBOUR: 'it returns false'. Refute it at one input. -/
def varintWritesWrong : ChangeSpec := { name := "varintWrites", fn := fun _ => fun
  | [d] => { results := [.lit (.bool false)], args := [d] }
  | _ => none }
def VarintWritesWrongFalsely : Prop := varintWritesRow.holds Try.pinned (OpenSpec.ofChange varintWritesWrong)

/-- 'bruitlaw03.VarintReads': WHATEVER THE INPUT: true; the input reads as it did. -/
def varintReadsSpec : ChangeSpec := { name := "varintReads", fn := fun _ => fun
  | [d] => { results := [.lit (.bool true)], args := [d] }
  | _ => none }
def varintReadsRow : OpenClaim := { program := "ytfmaicjgndbffaa", sum := "e7f053092a408f576ef0dc3d13edd16015d190a585514c7179c7bf4b3e349e33", func := "bruit/bruitlaw03.VarintReads", spec := "varintReads", apart := false }
def VarintReadsSaid : Prop := varintReadsRow.holds Try.pinned (OpenSpec.ofChange varintReadsSpec)

/-- ITS FALSE NEIGHBOUR: 'it returns false'. Refute it at one input. -/
def varintReadsWrong : ChangeSpec := { name := "varintReads", fn := fun _ => fun
  | [d] => { results := [.lit (.bool false)], args := [d] }
  | _ => none }
def VarintReadsWrongFalsely : Prop := varintReadsRow.holds Try.pinned (OpenSpec.ofChange varintReadsWrong)

/-- 'bruitlaw03.VarintBack': WHATEVER THE INPUT: true; the input reads as it did. -/
def varintBackSpec : ChangeSpec := { name := "varintBack", fn := fun _ => fun
  | [d1, d2, d3] => { results := [.lit (.bool true)], args := [d1, d2, d3] }
  | _ => none }
def varintBackRow : OpenClaim := { program := "ytfmaicjgndbffaa", sum := "e7f053092a408f576ef0dc3d13edd16015d190a585514c7179c7bf4b3e349e33", func := "bruit/bruitlaw03.VarintBack", spec := "varintBack", apart := false }
def VarintBackSaid : Prop := varintBackRow.holds Try.pinned (OpenSpec.ofChange varintBackSpec)

/-- ITS FALSE NEIGHBOUR: 'it returns false'. Refute it at one input. -/
def varintBackWrong : ChangeSpec := { name := "varintBack", fn := fun _ => fun
  | [d1, d2, d3] => { results := [.lit (.bool false)], args := [d1, d2, d3] }
  | _ => none }
def VarintBackWrongFalsely : Prop := varintBackRow.holds Try.pinned (OpenSpec.ofChange varintBackWrong)

/-- 'bruitlaw03.VarintOnce': WHATEVER THE INPUT: true; the input reads as it did. -/
def varintOnceSpec : ChangeSpec := { name := "varintOnce", fn := fun _ => fun
  | [d] => { results := [.lit (.bool true)], args := [d] }
  | _ => none }
def varintOnceRow : OpenClaim := { program := "ytfmaicjgndbffaa", sum := "e7f053092a408f576ef0dc3d13edd16015d190a585514c7179c7bf4b3e349e33", func := "bruit/bruitlaw03.VarintOnce", spec := "varintOnce", apart := false }
def VarintOnceSaid : Prop := varintOnceRow.holds Try.pinned (OpenSpec.ofChange varintOnceSpec)

/-- ITS FALSE NEIGHBOUR: 'it returns false'. Refute it at one input. -/
def varintOnceWrong : ChangeSpec := { name := "varintOnce", fn := fun _ => fun
  | [d] => { results := [.lit (.bool false)], args := [d] }
  | _ => none }
def VarintOnceWrongFalsely : Prop := varintOnceRow.holds Try.pinned (OpenSpec.ofChange varintOnceWrong)

/-- 'bruitlaw04.BufWrites': WHATEVER THE INPUT: true; the input reads as it did. -/
def bufWritesSpec : ChangeSpec := { name := "bufWrites", fn := fun _ => fun
  | [d1, d2, d3] => { results := [.lit (.bool true)], args := [d1, d2, d3] }
  | _ => none }
def bufWritesRow : OpenClaim := { program := "ytfmaicjgndbffaa", sum := "e7f053092a408f576ef0dc3d13edd16015d190a585514c7179c7bf4b3e349e33", func := "bruit/bruitlaw04.BufWrites", spec := "bufWrites", apart := false }
def BufWritesSaid : Prop := bufWritesRow.holds Try.pinned (OpenSpec.ofChange bufWritesSpec)

/-- ITS FALSE NEIGHBOUR: 'it returns false'. Refute it at one input. -/
def bufWritesWrong : ChangeSpec := { name := "bufWrites", fn := fun _ => fun
  | [d1, d2, d3] => { results := [.lit (.bool false)], args := [d1, d2, d3] }
  | _ => none }
def BufWritesWrongFalsely : Prop := bufWritesRow.holds Try.pinned (OpenSpec.ofChange bufWritesWrong)

/-- 'bruitlaw04.BufReads': WHATEVER THE INPUT: true; the input reads as it did. -/
def bufReadsSpec : ChangeSpec := { name := "bufReads", fn := fun _ => fun
  | [d1, d2] => { results := [.lit (.bool true)], args := [d1, d2] }
  | _ => none }
def bufReadsRow : OpenClaim := { program := "ytfmaicjgndbffaa", sum := "e7f053092a408f576ef0dc3d13edd16015d190a585514c7179c7bf4b3e349e33", func := "bruit/bruitlaw04.BufReads", spec := "bufReads", apart := false }
def BufReadsSaid : Prop := bufReadsRow.holds Try.pinned (OpenSpec.ofChange bufReadsSpec)

/-- ITS FALSE NEIGHBOUR: 'it returns false'. Refute it at one input. -/
def bufReadsWrong : ChangeSpec := { name := "bufReads", fn := fun _ => fun
  | [d1, d2] => { results := [.lit (.bool false)], args := [d1, d2] }
  | _ => none }
def BufReadsWrongFalsely : Prop := bufReadsRow.holds Try.pinned (OpenSpec.ofChange bufReadsWrong)

/-- 'bruitlaw04.BufBack': WHATEVER THE INPUT: true; the input reads as it did. -/
def bufBackSpec : ChangeSpec := { name := "bufBack", fn := fun _ => fun
  | [d] => { results := [.lit (.bool true)], args := [d] }
  | _ => none }
def bufBackRow : OpenClaim := { program := "ytfmaicjgndbffaa", sum := "e7f053092a408f576ef0dc3d13edd16015d190a585514c7179c7bf4b3e349e33", func := "bruit/bruitlaw04.BufBack", spec := "bufBack", apart := false }
def BufBackSaid : Prop := bufBackRow.holds Try.pinned (OpenSpec.ofChange bufBackSpec)

/-- ITS FALSE NEIGHBOUR: 'it returns false'. Refute it at one input. -/
def bufBackWrong : ChangeSpec := { name := "bufBack", fn := fun _ => fun
  | [d] => { results := [.lit (.bool false)], args := [d] }
  | _ => none }
def BufBackWrongFalsely : Prop := bufBackRow.holds Try.pinned (OpenSpec.ofChange bufBackWrong)

/-- 'bruitlaw04.BufNil': WHATEVER THE INPUT: true; the input reads as it did. -/
def bufNilSpec : ChangeSpec := { name := "bufNil", fn := fun _ => fun
  | [d1, d2] => { results := [.lit (.bool true)], args := [d1, d2] }
  | _ => none }
def bufNilRow : OpenClaim := { program := "ytfmaicjgndbffaa", sum := "e7f053092a408f576ef0dc3d13edd16015d190a585514c7179c7bf4b3e349e33", func := "bruit/bruitlaw04.BufNil", spec := "bufNil", apart := false }
def BufNilSaid : Prop := bufNilRow.holds Try.pinned (OpenSpec.ofChange bufNilSpec)

/-- ITS FALSE NEIGHBOUR: 'it returns false'. Refute it at one input. -/
def bufNilWrong : ChangeSpec := { name := "bufNil", fn := fun _ => fun
  | [d1, d2] => { results := [.lit (.bool false)], args := [d1, d2] }
  | _ => none }
def BufNilWrongFalsely : Prop := bufNilRow.holds Try.pinned (OpenSpec.ofChange bufNilWrong)

/-- 'bruitlaw16.TcodeSays': WHATEVER THE INPUT: true; the input reads as it did. -/
def tcodeSaysSpec : ChangeSpec := { name := "tcodeSays", fn := fun _ => fun
  | [d1, d2] => { results := [.lit (.bool true)], args := [d1, d2] }
  | _ => none }
def tcodeSaysRow : OpenClaim := { program := "ytfmaicjgndbffaa", sum := "e7f053092a408f576ef0dc3d13edd16015d190a585514c7179c7bf4b3e349e33", func := "bruit/bruitlaw16.TcodeSays", spec := "tcodeSays", unfollowed := true, recurses := true, apart := false }
def TcodeSaysSaid : Prop := tcodeSaysRow.holds Try.pinned (OpenSpec.ofChange tcodeSaysSpec)

/-- ITS FALSE NEIGHBOUR: 'it returns false'. Refute it at one input. -/
def tcodeSaysWrong : ChangeSpec := { name := "tcodeSays", fn := fun _ => fun
  | [d1, d2] => { results := [.lit (.bool false)], args := [d1, d2] }
  | _ => none }
def TcodeSaysWrongFalsely : Prop := tcodeSaysRow.holds Try.pinned (OpenSpec.ofChange tcodeSaysWrong)

/-- 'bruitlaw16.TcodeBack': WHATEVER THE INPUT: true; the input reads as it did. -/
def tcodeBackSpec : ChangeSpec := { name := "tcodeBack", fn := fun _ => fun
  | [d1, d2] => { results := [.lit (.bool true)], args := [d1, d2] }
  | _ => none }
def tcodeBackRow : OpenClaim := { program := "ytfmaicjgndbffaa", sum := "e7f053092a408f576ef0dc3d13edd16015d190a585514c7179c7bf4b3e349e33", func := "bruit/bruitlaw16.TcodeBack", spec := "tcodeBack", unfollowed := true, recurses := true, apart := false }
def TcodeBackSaid : Prop := tcodeBackRow.holds Try.pinned (OpenSpec.ofChange tcodeBackSpec)

/-- ITS FALSE NEIGHBOUR: 'it returns false'. Refute it at one input. -/
def tcodeBackWrong : ChangeSpec := { name := "tcodeBack", fn := fun _ => fun
  | [d1, d2] => { results := [.lit (.bool false)], args := [d1, d2] }
  | _ => none }
def TcodeBackWrongFalsely : Prop := tcodeBackRow.holds Try.pinned (OpenSpec.ofChange tcodeBackWrong)

/-- 'bruitlaw16.TcodeLong': WHATEVER THE INPUT: true; the input reads as it did. -/
def tcodeLongSpec : ChangeSpec := { name := "tcodeLong", fn := fun _ => fun
  | [d] => { results := [.lit (.bool true)], args := [d] }
  | _ => none }
def tcodeLongRow : OpenClaim := { program := "ytfmaicjgndbffaa", sum := "e7f053092a408f576ef0dc3d13edd16015d190a585514c7179c7bf4b3e349e33", func := "bruit/bruitlaw16.TcodeLong", spec := "tcodeLong", unfollowed := true, recurses := true, apart := false }
def TcodeLongSaid : Prop := tcodeLongRow.holds Try.pinned (OpenSpec.ofChange tcodeLongSpec)

/-- ITS FALSE NEIGHBOUR: 'it returns false'. Refute it at one input. -/
def tcodeLongWrong : ChangeSpec := { name := "tcodeLong", fn := fun _ => fun
  | [d] => { results := [.lit (.bool false)], args := [d] }
  | _ => none }
def TcodeLongWrongFalsely : Prop := tcodeLongRow.holds Try.pinned (OpenSpec.ofChange tcodeLongWrong)

/- THE SECOND FORM. 'bulk': how many values and letters a reading holds, each counted each time it is reached (what is shared counts as often as it is met; a slice's spare places count too). A statement '..UptoSaid' is the law's where the arguments, and the package variables that the reading takes, are together of bulk at most 1048576: NARROWER than '..Said'. Prove '..Said' where nothing that the law and all that it calls make is longer than what came in: it says more and counts as full. Else prove '..UptoSaid'. A law counts once. -/
mutual
def uptoBulk {H : Type} : DataW H → Nat
  | .lit (.string bytes) => bytes.length + 1
  | .lit _ => 1
  | .nil => 1
  | .ptr d => uptoBulk d + 1
  | .slice elems spare => uptoBulkAll elems + uptoBulkAll spare + 1
  | .agg parts => uptoBulkAll parts + 1
  | .iface _ d => uptoBulk d + 1
  | .map entries => uptoBulkEntries entries + 1
  | .held _ => 1
def uptoBulkAll {H : Type} : List (DataW H) → Nat
  | [] => 0
  | d :: r => uptoBulk d + uptoBulkAll r
def uptoBulkEntries {H : Type} : List (Lit × DataW H) → Nat
  | [] => 0
  | x :: r => uptoBulkEntry x + uptoBulkEntries r
def uptoBulkEntry {H : Type} : Lit × DataW H → Nat
  | (.string bytes, d) => bytes.length + uptoBulk d + 1
  | (_, d) => uptoBulk d + 1
 end
def uptoSmall : (H : Type) → List (DataW H) → Bool := fun _ ds => decide (uptoBulkAll ds ≤ 1048576)
def OpenSpec.upto (s : _root_.Go.ChangeSpec) : _root_.Go.OpenSpec := { _root_.Go.OpenSpec.ofChange s with cond := some uptoSmall }

/-- 'bruitlaw03.VarintWrites', WHERE WHAT IT READS IS OF BULK AT MOST 1048576: true; the input reads as it did. -/
def varintWritesUptoRow : OpenClaim := { program := "ytfmaicjgndbffaa", sum := "e7f053092a408f576ef0dc3d13edd16015d190a585514c7179c7bf4b3e349e33", func := "bruit/bruitlaw03.VarintWrites", spec := "varintWrites", apart := false, narrowed := true }
def VarintWritesUptoSaid : Prop := varintWritesUptoRow.holds Try.pinned (OpenSpec.upto varintWritesSpec)

/-- 'bruitlaw03.VarintReads', WHERE WHAT IT READS IS OF BULK AT MOST 1048576: true; the input reads as it did. -/
def varintReadsUptoRow : OpenClaim := { program := "ytfmaicjgndbffaa", sum := "e7f053092a408f576ef0dc3d13edd16015d190a585514c7179c7bf4b3e349e33", func := "bruit/bruitlaw03.VarintReads", spec := "varintReads", apart := false, narrowed := true }
def VarintReadsUptoSaid : Prop := varintReadsUptoRow.holds Try.pinned (OpenSpec.upto varintReadsSpec)

/-- 'bruitlaw03.VarintBack', WHERE WHAT IT READS IS OF BULK AT MOST 1048576: true; the input reads as it did. -/
def varintBackUptoRow : OpenClaim := { program := "ytfmaicjgndbffaa", sum := "e7f053092a408f576ef0dc3d13edd16015d190a585514c7179c7bf4b3e349e33", func := "bruit/bruitlaw03.VarintBack", spec := "varintBack", apart := false, narrowed := true }
def VarintBackUptoSaid : Prop := varintBackUptoRow.holds Try.pinned (OpenSpec.upto varintBackSpec)

/-- 'bruitlaw03.VarintOnce', WHERE WHAT IT READS IS OF BULK AT MOST 1048576: true; the input reads as it did. -/
def varintOnceUptoRow : OpenClaim := { program := "ytfmaicjgndbffaa", sum := "e7f053092a408f576ef0dc3d13edd16015d190a585514c7179c7bf4b3e349e33", func := "bruit/bruitlaw03.VarintOnce", spec := "varintOnce", apart := false, narrowed := true }
def VarintOnceUptoSaid : Prop := varintOnceUptoRow.holds Try.pinned (OpenSpec.upto varintOnceSpec)

/-- 'bruitlaw04.BufWrites', WHERE WHAT IT READS IS OF BULK AT MOST 1048576: true; the input reads as it did. -/
def bufWritesUptoRow : OpenClaim := { program := "ytfmaicjgndbffaa", sum := "e7f053092a408f576ef0dc3d13edd16015d190a585514c7179c7bf4b3e349e33", func := "bruit/bruitlaw04.BufWrites", spec := "bufWrites", apart := false, narrowed := true }
def BufWritesUptoSaid : Prop := bufWritesUptoRow.holds Try.pinned (OpenSpec.upto bufWritesSpec)

/-- 'bruitlaw04.BufReads', WHERE WHAT IT READS IS OF BULK AT MOST 1048576: true; the input reads as it did. -/
def bufReadsUptoRow : OpenClaim := { program := "ytfmaicjgndbffaa", sum := "e7f053092a408f576ef0dc3d13edd16015d190a585514c7179c7bf4b3e349e33", func := "bruit/bruitlaw04.BufReads", spec := "bufReads", apart := false, narrowed := true }
def BufReadsUptoSaid : Prop := bufReadsUptoRow.holds Try.pinned (OpenSpec.upto bufReadsSpec)

/-- 'bruitlaw04.BufBack', WHERE WHAT IT READS IS OF BULK AT MOST 1048576: true; the input reads as it did. -/
def bufBackUptoRow : OpenClaim := { program := "ytfmaicjgndbffaa", sum := "e7f053092a408f576ef0dc3d13edd16015d190a585514c7179c7bf4b3e349e33", func := "bruit/bruitlaw04.BufBack", spec := "bufBack", apart := false, narrowed := true }
def BufBackUptoSaid : Prop := bufBackUptoRow.holds Try.pinned (OpenSpec.upto bufBackSpec)

/-- 'bruitlaw04.BufNil', WHERE WHAT IT READS IS OF BULK AT MOST 1048576: true; the input reads as it did. -/
def bufNilUptoRow : OpenClaim := { program := "ytfmaicjgndbffaa", sum := "e7f053092a408f576ef0dc3d13edd16015d190a585514c7179c7bf4b3e349e33", func := "bruit/bruitlaw04.BufNil", spec := "bufNil", apart := false, narrowed := true }
def BufNilUptoSaid : Prop := bufNilUptoRow.holds Try.pinned (OpenSpec.upto bufNilSpec)

/-- 'bruitlaw16.TcodeSays', WHERE WHAT IT READS IS OF BULK AT MOST 1048576: true; the input reads as it did. -/
def tcodeSaysUptoRow : OpenClaim := { program := "ytfmaicjgndbffaa", sum := "e7f053092a408f576ef0dc3d13edd16015d190a585514c7179c7bf4b3e349e33", func := "bruit/bruitlaw16.TcodeSays", spec := "tcodeSays", unfollowed := true, recurses := true, apart := false, narrowed := true }
def TcodeSaysUptoSaid : Prop := tcodeSaysUptoRow.holds Try.pinned (OpenSpec.upto tcodeSaysSpec)

/-- 'bruitlaw16.TcodeBack', WHERE WHAT IT READS IS OF BULK AT MOST 1048576: true; the input reads as it did. -/
def tcodeBackUptoRow : OpenClaim := { program := "ytfmaicjgndbffaa", sum := "e7f053092a408f576ef0dc3d13edd16015d190a585514c7179c7bf4b3e349e33", func := "bruit/bruitlaw16.TcodeBack", spec := "tcodeBack", unfollowed := true, recurses := true, apart := false, narrowed := true }
def TcodeBackUptoSaid : Prop := tcodeBackUptoRow.holds Try.pinned (OpenSpec.upto tcodeBackSpec)

/-- 'bruitlaw16.TcodeLong', WHERE WHAT IT READS IS OF BULK AT MOST 1048576: true; the input reads as it did. -/
def tcodeLongUptoRow : OpenClaim := { program := "ytfmaicjgndbffaa", sum := "e7f053092a408f576ef0dc3d13edd16015d190a585514c7179c7bf4b3e349e33", func := "bruit/bruitlaw16.TcodeLong", spec := "tcodeLong", unfollowed := true, recurses := true, apart := false, narrowed := true }
def TcodeLongUptoSaid : Prop := tcodeLongUptoRow.holds Try.pinned (OpenSpec.upto tcodeLongSpec)

end Rows
end Go.Proofs.Ytfmaicjgndbffaa
