/-
  No cell of these rows narrows 'for every input' (looked for: loops, veiled, ifaces, maps, wideKeys, modest, calm, conditions, laid).
  DERIVED. THE GIVEN ROWS OF THIS SEAT. 3 by the template 'for every input the law returns true; each argument reads behind the call as it read before'; 0 by the template 'total and deterministic' (their statements: YtacgfpjoaikfbaaTotals.lean).
  GIVEN WITH THE SEED: the statements are not yours to turn. If you find one false, say at which input.
  Laid BY PROGRAM, IN A SANDBOX (cutbox-rows.mjs): the forced cells as the released guide's own fill.sh prints them over the translation 467b8742fba7224f… (all of the seat's roots in one cut). By AI agents, Wed Nov 11 2026. No macro, syntax, notation, axiom, sorry.
-/
import Derived.Test.YtacgfpjoaikfbaaChecked
import GoSem.Claim
import GoSem.ClaimJoined
import GoSem.ClaimMapViews
import Derived.JoinedTies
import Derived.KernelRfl
namespace Go.Proofs.Ytacgfpjoaikfbaa
/- THE CELL 'sum', in the pinned program and in every row, IS THE sha256 OF THE DUMP (.gsa) THAT YtacgfpjoaikfbaaProg.lean LOADS. Nothing in Lean hashes anything: it is a label: what it is worth is what the hold of that sum in a sandbox is worth. -/
noncomputable def Try.pinned : Pinned := { name := "ytacgfpjoaikfbaa", sum := "467b8742fba7224f0468059c427638524ae1fedf7eb95e19048fa25ad4d54dce", checked := Try.checked }
namespace Rows
def none {H : Type} : Left H := { results := [], args := [] }

/-- 'bruitlaw16.TcodeSays': WHATEVER THE INPUT: true; the input reads as it did. -/
def tcodeSaysSpec : ChangeSpec := { name := "tcodeSays", fn := fun _ => fun
  | [d1, d2] => { results := [.lit (.bool true)], args := [d1, d2] }
  | _ => none }
def tcodeSaysRow : OpenClaim := { program := "ytacgfpjoaikfbaa", sum := "467b8742fba7224f0468059c427638524ae1fedf7eb95e19048fa25ad4d54dce", func := "bruit/bruitlaw16.TcodeSays", spec := "tcodeSays", unfollowed := true, recurses := true, apart := false }
def TcodeSaysSaid : Prop := tcodeSaysRow.holds Try.pinned (OpenSpec.ofChange tcodeSaysSpec)

/-- ITS FALSE NEIGHBOUR: 'it returns false'. Refute it at one input. -/
def tcodeSaysWrong : ChangeSpec := { name := "tcodeSays", fn := fun _ => fun
  | [d1, d2] => { results := [.lit (.bool false)], args := [d1, d2] }
  | _ => none }
def TcodeSaysWrongFalsely : Prop := tcodeSaysRow.holds Try.pinned (OpenSpec.ofChange tcodeSaysWrong)

/-- 'bruitlaw16.TcodeBack': WHATEVER THE INPUT: true; the input reads as it did. -/
def tcodeBackSpec : ChangeSpec := { name := "tcodeBack", fn := fun _ => fun
  | [d1, d2] => { results := [.lit (.bool true)], args := [d1, d2] }
  | _ => none }
def tcodeBackRow : OpenClaim := { program := "ytacgfpjoaikfbaa", sum := "467b8742fba7224f0468059c427638524ae1fedf7eb95e19048fa25ad4d54dce", func := "bruit/bruitlaw16.TcodeBack", spec := "tcodeBack", unfollowed := true, recurses := true, apart := false }
def TcodeBackSaid : Prop := tcodeBackRow.holds Try.pinned (OpenSpec.ofChange tcodeBackSpec)

/-- ITS FALSE NEIGHBOUR: 'it returns false'. Refute it at one input. -/
def tcodeBackWrong : ChangeSpec := { name := "tcodeBack", fn := fun _ => fun
  | [d1, d2] => { results := [.lit (.bool false)], args := [d1, d2] }
  | _ => none }
def TcodeBackWrongFalsely : Prop := tcodeBackRow.holds Try.pinned (OpenSpec.ofChange tcodeBackWrong)

/-- 'bruitlaw16.TcodeLong': WHATEVER THE INPUT: true; the input reads as it did. -/
def tcodeLongSpec : ChangeSpec := { name := "tcodeLong", fn := fun _ => fun
  | [d] => { results := [.lit (.bool true)], args := [d] }
  | _ => none }
def tcodeLongRow : OpenClaim := { program := "ytacgfpjoaikfbaa", sum := "467b8742fba7224f0468059c427638524ae1fedf7eb95e19048fa25ad4d54dce", func := "bruit/bruitlaw16.TcodeLong", spec := "tcodeLong", unfollowed := true, recurses := true, apart := false }
def TcodeLongSaid : Prop := tcodeLongRow.holds Try.pinned (OpenSpec.ofChange tcodeLongSpec)

/-- ITS FALSE NEIGHBOUR: 'it returns false'. Refute it at one input. -/
def tcodeLongWrong : ChangeSpec := { name := "tcodeLong", fn := fun _ => fun
  | [d] => { results := [.lit (.bool false)], args := [d] }
  | _ => none }
def TcodeLongWrongFalsely : Prop := tcodeLongRow.holds Try.pinned (OpenSpec.ofChange tcodeLongWrong)

/- THE SECOND FORM. 'bulk': how many values and letters a reading holds, each counted each time it is reached (what is shared counts as often as it is met; a slice's spare places count too). A statement '..UptoSaid' is the law's where the arguments, and the package variables that the reading takes, are together of bulk at most 1048576: NARROWER than '..Said'. Prove '..Said' where nothing that the law and all that it calls make is longer than what came in: it says more and counts as full. Else prove '..UptoSaid'. A law counts once. -/
mutual
def uptoBulk {H : Type} : DataW H → Nat
  | .lit (.string bytes) => bytes.length + 1
  | .lit _ => 1
  | .nil => 1
  | .ptr d => uptoBulk d + 1
  | .slice elems spare => uptoBulkAll elems + uptoBulkAll spare + 1
  | .agg parts => uptoBulkAll parts + 1
  | .iface _ d => uptoBulk d + 1
  | .map entries => uptoBulkEntries entries + 1
  | .held _ => 1
def uptoBulkAll {H : Type} : List (DataW H) → Nat
  | [] => 0
  | d :: r => uptoBulk d + uptoBulkAll r
def uptoBulkEntries {H : Type} : List (Lit × DataW H) → Nat
  | [] => 0
  | x :: r => uptoBulkEntry x + uptoBulkEntries r
def uptoBulkEntry {H : Type} : Lit × DataW H → Nat
  | (.string bytes, d) => bytes.length + uptoBulk d + 1
  | (_, d) => uptoBulk d + 1
 end
def uptoSmall : (H : Type) → List (DataW H) → Bool := fun _ ds => decide (uptoBulkAll ds ≤ 1048576)
def OpenSpec.upto (s : _root_.Go.ChangeSpec) : _root_.Go.OpenSpec := { _root_.Go.OpenSpec.ofChange s with cond := some uptoSmall }

/-- 'bruitlaw16.TcodeSays', WHERE WHAT IT READS IS OF BULK AT MOST 1048576: true; the input reads as it did. -/
def tcodeSaysUptoRow : OpenClaim := { program := "ytacgfpjoaikfbaa", sum := "467b8742fba7224f0468059c427638524ae1fedf7eb95e19048fa25ad4d54dce", func := "bruit/bruitlaw16.TcodeSays", spec := "tcodeSays", unfollowed := true, recurses := true, apart := false, narrowed := true }
def TcodeSaysUptoSaid : Prop := tcodeSaysUptoRow.holds Try.pinned (OpenSpec.upto tcodeSaysSpec)

/-- 'bruitlaw16.TcodeBack', WHERE WHAT IT READS IS OF BULK AT MOST 1048576: true; the input reads as it did. -/
def tcodeBackUptoRow : OpenClaim := { program := "ytacgfpjoaikfbaa", sum := "467b8742fba7224f0468059c427638524ae1fedf7eb95e19048fa25ad4d54dce", func := "bruit/bruitlaw16.TcodeBack", spec := "tcodeBack", unfollowed := true, recurses := true, apart := false, narrowed := true }
def TcodeBackUptoSaid : Prop := tcodeBackUptoRow.holds Try.pinned (OpenSpec.upto tcodeBackSpec)

/-- 'bruitlaw16.TcodeLong', WHERE WHAT IT READS IS OF BULK AT MOST 1048576: true; the input reads as it did. -/
def tcodeLongUptoRow : OpenClaim := { program := "ytacgfpjoaikfbaa", sum := "467b8742fba7224f0468059c427638524ae1fedf7eb95e19048fa25ad4d54dce", func := "bruit/bruitlaw16.TcodeLong", spec := "tcodeLong", unfollowed := true, recurses := true, apart := false, narrowed := true }
def TcodeLongUptoSaid : Prop := tcodeLongUptoRow.holds Try.pinned (OpenSpec.upto tcodeLongSpec)

end Rows
end Go.Proofs.Ytacgfpjoaikfbaa
