/-
  No cell of these rows narrows 'for every input' (looked for: loops, veiled, ifaces, maps, wideKeys, modest, calm, conditions, laid).
  DERIVED. THE GIVEN ROWS OF THIS SEAT. 10 by the template 'for every input the law returns true; each argument reads behind the call as it read before'; 0 by the template 'total and deterministic' (their statements: YtjfohglkpbgkaaaTotals.lean).
  GIVEN WITH THE SEED: the statements are not yours to turn. If you find one false, say at which input.
  Laid BY PROGRAM, IN A SANDBOX (cutbox-rows.mjs): the forced cells as the released guide's own fill.sh prints them over the translation 9a9368e29725fc09… (all of the seat's roots in one cut). By AI agents, Wed Nov 11 2026. No macro, syntax, notation, axiom, sorry.
-/
import Derived.Test.YtjfohglkpbgkaaaChecked
import GoSem.Claim
import GoSem.ClaimJoined
import GoSem.ClaimMapViews
import Derived.JoinedTies
import Derived.KernelRfl
namespace Go.Proofs.Ytjfohglkpbgkaaa
/- THE CELL 'sum', in the pinned program and in every row, IS THE sha256 OF THE DUMP (.gsa) THAT YtjfohglkpbgkaaaProg.lean LOADS. Nothing in Lean hashes anything: it is a label: what it is worth is what the hold of that sum in a sandbox is worth. -/
noncomputable def Try.pinned : Pinned := { name := "ytjfohglkpbgkaaa", sum := "9a9368e29725fc0950a4a41852d7b990674a43bf2badbd0a612c89f50daff91f", checked := Try.checked }
namespace Rows
def none {H : Type} : Left H := { results := [], args := [] }

/-- 'bruitlaw07.MaskUnites': WHATEVER THE INPUT: true; the input reads as it did. -/
def maskUnitesSpec : ChangeSpec := { name := "maskUnites", fn := fun _ => fun
  | [d1, d2] => { results := [.lit (.bool true)], args := [d1, d2] }
  | _ => none }
def maskUnitesRow : OpenClaim := { program := "ytjfohglkpbgkaaa", sum := "9a9368e29725fc0950a4a41852d7b990674a43bf2badbd0a612c89f50daff91f", func := "bruit/bruitlaw07.MaskUnites", spec := "maskUnites", apart := false }
def MaskUnitesSaid : Prop := maskUnitesRow.holds Try.pinned (OpenSpec.ofChange maskUnitesSpec)

/-- ITS FALSE NEIGHBOUR: 'it returns false'. Refute it at one input. -/
def maskUnitesWrong : ChangeSpec := { name := "maskUnites", fn := fun _ => fun
  | [d1, d2] => { results := [.lit (.bool false)], args := [d1, d2] }
  | _ => none }
def MaskUnitesWrongFalsely : Prop := maskUnitesRow.holds Try.pinned (OpenSpec.ofChange maskUnitesWrong)

/-- 'bruitlaw07.MaskPlays': WHATEVER THE INPUT: true; the input reads as it did. -/
def maskPlaysSpec : ChangeSpec := { name := "maskPlays", fn := fun _ => fun
  | [d1, d2, d3] => { results := [.lit (.bool true)], args := [d1, d2, d3] }
  | _ => none }
def maskPlaysRow : OpenClaim := { program := "ytjfohglkpbgkaaa", sum := "9a9368e29725fc0950a4a41852d7b990674a43bf2badbd0a612c89f50daff91f", func := "bruit/bruitlaw07.MaskPlays", spec := "maskPlays", apart := false }
def MaskPlaysSaid : Prop := maskPlaysRow.holds Try.pinned (OpenSpec.ofChange maskPlaysSpec)

/-- ITS FALSE NEIGHBOUR: 'it returns false'. Refute it at one input. -/
def maskPlaysWrong : ChangeSpec := { name := "maskPlays", fn := fun _ => fun
  | [d1, d2, d3] => { results := [.lit (.bool false)], args := [d1, d2, d3] }
  | _ => none }
def MaskPlaysWrongFalsely : Prop := maskPlaysRow.holds Try.pinned (OpenSpec.ofChange maskPlaysWrong)

/-- 'bruitlaw07.MaskNil': WHATEVER THE INPUT: true; the input reads as it did. -/
def maskNilSpec : ChangeSpec := { name := "maskNil", fn := fun _ => fun
  | [d1, d2] => { results := [.lit (.bool true)], args := [d1, d2] }
  | _ => none }
def maskNilRow : OpenClaim := { program := "ytjfohglkpbgkaaa", sum := "9a9368e29725fc0950a4a41852d7b990674a43bf2badbd0a612c89f50daff91f", func := "bruit/bruitlaw07.MaskNil", spec := "maskNil", unfollowed := true, recurses := true, apart := false }
def MaskNilSaid : Prop := maskNilRow.holds Try.pinned (OpenSpec.ofChange maskNilSpec)

/-- ITS FALSE NEIGHBOUR: 'it returns false'. Refute it at one input. -/
def maskNilWrong : ChangeSpec := { name := "maskNil", fn := fun _ => fun
  | [d1, d2] => { results := [.lit (.bool false)], args := [d1, d2] }
  | _ => none }
def MaskNilWrongFalsely : Prop := maskNilRow.holds Try.pinned (OpenSpec.ofChange maskNilWrong)

/-- 'bruitlaw08.ReachSays': WHATEVER THE INPUT: true; the input reads as it did. -/
def reachSaysSpec : ChangeSpec := { name := "reachSays", fn := fun _ => fun
  | [d1, d2, d3] => { results := [.lit (.bool true)], args := [d1, d2, d3] }
  | _ => none }
def reachSaysRow : OpenClaim := { program := "ytjfohglkpbgkaaa", sum := "9a9368e29725fc0950a4a41852d7b990674a43bf2badbd0a612c89f50daff91f", func := "bruit/bruitlaw08.ReachSays", spec := "reachSays", apart := false }
def ReachSaysSaid : Prop := reachSaysRow.holds Try.pinned (OpenSpec.ofChange reachSaysSpec)

/-- ITS FALSE NEIGHBOUR: 'it returns false'. Refute it at one input. -/
def reachSaysWrong : ChangeSpec := { name := "reachSays", fn := fun _ => fun
  | [d1, d2, d3] => { results := [.lit (.bool false)], args := [d1, d2, d3] }
  | _ => none }
def ReachSaysWrongFalsely : Prop := reachSaysRow.holds Try.pinned (OpenSpec.ofChange reachSaysWrong)

/-- 'bruitlaw08.ReachTurns': WHATEVER THE INPUT: true; the input reads as it did. -/
def reachTurnsSpec : ChangeSpec := { name := "reachTurns", fn := fun _ => fun
  | [d1, d2, d3] => { results := [.lit (.bool true)], args := [d1, d2, d3] }
  | _ => none }
def reachTurnsRow : OpenClaim := { program := "ytjfohglkpbgkaaa", sum := "9a9368e29725fc0950a4a41852d7b990674a43bf2badbd0a612c89f50daff91f", func := "bruit/bruitlaw08.ReachTurns", spec := "reachTurns", apart := false }
def ReachTurnsSaid : Prop := reachTurnsRow.holds Try.pinned (OpenSpec.ofChange reachTurnsSpec)

/-- ITS FALSE NEIGHBOUR: 'it returns false'. Refute it at one input. -/
def reachTurnsWrong : ChangeSpec := { name := "reachTurns", fn := fun _ => fun
  | [d1, d2, d3] => { results := [.lit (.bool false)], args := [d1, d2, d3] }
  | _ => none }
def ReachTurnsWrongFalsely : Prop := reachTurnsRow.holds Try.pinned (OpenSpec.ofChange reachTurnsWrong)

/-- 'bruitlaw08.ReachOrders': WHATEVER THE INPUT: true; the input reads as it did. -/
def reachOrdersSpec : ChangeSpec := { name := "reachOrders", fn := fun _ => fun
  | [d1, d2, d3] => { results := [.lit (.bool true)], args := [d1, d2, d3] }
  | _ => none }
def reachOrdersRow : OpenClaim := { program := "ytjfohglkpbgkaaa", sum := "9a9368e29725fc0950a4a41852d7b990674a43bf2badbd0a612c89f50daff91f", func := "bruit/bruitlaw08.ReachOrders", spec := "reachOrders", apart := false }
def ReachOrdersSaid : Prop := reachOrdersRow.holds Try.pinned (OpenSpec.ofChange reachOrdersSpec)

/-- ITS FALSE NEIGHBOUR: 'it returns false'. Refute it at one input. -/
def reachOrdersWrong : ChangeSpec := { name := "reachOrders", fn := fun _ => fun
  | [d1, d2, d3] => { results := [.lit (.bool false)], args := [d1, d2, d3] }
  | _ => none }
def ReachOrdersWrongFalsely : Prop := reachOrdersRow.holds Try.pinned (OpenSpec.ofChange reachOrdersWrong)

/-- 'bruitlaw08.ReachNil': WHATEVER THE INPUT: true; the input reads as it did. -/
def reachNilSpec : ChangeSpec := { name := "reachNil", fn := fun _ => fun
  | [d1, d2] => { results := [.lit (.bool true)], args := [d1, d2] }
  | _ => none }
def reachNilRow : OpenClaim := { program := "ytjfohglkpbgkaaa", sum := "9a9368e29725fc0950a4a41852d7b990674a43bf2badbd0a612c89f50daff91f", func := "bruit/bruitlaw08.ReachNil", spec := "reachNil", apart := false }
def ReachNilSaid : Prop := reachNilRow.holds Try.pinned (OpenSpec.ofChange reachNilSpec)

/-- ITS FALSE NEIGHBOUR: 'it returns false'. Refute it at one input. -/
def reachNilWrong : ChangeSpec := { name := "reachNil", fn := fun _ => fun
  | [d1, d2] => { results := [.lit (.bool false)], args := [d1, d2] }
  | _ => none }
def ReachNilWrongFalsely : Prop := reachNilRow.holds Try.pinned (OpenSpec.ofChange reachNilWrong)

/-- 'bruitlaw09.TopoSays': WHATEVER THE INPUT: true; the input reads as it did. -/
def topoSaysSpec : ChangeSpec := { name := "topoSays", fn := fun _ => fun
  | [d1, d2, d3] => { results := [.lit (.bool true)], args := [d1, d2, d3] }
  | _ => none }
def topoSaysRow : OpenClaim := { program := "ytjfohglkpbgkaaa", sum := "9a9368e29725fc0950a4a41852d7b990674a43bf2badbd0a612c89f50daff91f", func := "bruit/bruitlaw09.TopoSays", spec := "topoSays", apart := false }
def TopoSaysSaid : Prop := topoSaysRow.holds Try.pinned (OpenSpec.ofChange topoSaysSpec)

/-- ITS FALSE NEIGHBOUR: 'it returns false'. Refute it at one input. -/
def topoSaysWrong : ChangeSpec := { name := "topoSays", fn := fun _ => fun
  | [d1, d2, d3] => { results := [.lit (.bool false)], args := [d1, d2, d3] }
  | _ => none }
def TopoSaysWrongFalsely : Prop := topoSaysRow.holds Try.pinned (OpenSpec.ofChange topoSaysWrong)

/-- 'bruitlaw09.TopoOne': WHATEVER THE INPUT: true; the input reads as it did. -/
def topoOneSpec : ChangeSpec := { name := "topoOne", fn := fun _ => fun
  | [d] => { results := [.lit (.bool true)], args := [d] }
  | _ => none }
def topoOneRow : OpenClaim := { program := "ytjfohglkpbgkaaa", sum := "9a9368e29725fc0950a4a41852d7b990674a43bf2badbd0a612c89f50daff91f", func := "bruit/bruitlaw09.TopoOne", spec := "topoOne", apart := false }
def TopoOneSaid : Prop := topoOneRow.holds Try.pinned (OpenSpec.ofChange topoOneSpec)

/-- ITS FALSE NEIGHBOUR: 'it returns false'. Refute it at one input. -/
def topoOneWrong : ChangeSpec := { name := "topoOne", fn := fun _ => fun
  | [d] => { results := [.lit (.bool false)], args := [d] }
  | _ => none }
def TopoOneWrongFalsely : Prop := topoOneRow.holds Try.pinned (OpenSpec.ofChange topoOneWrong)

/-- 'bruitlaw09.TopoFits': WHATEVER THE INPUT: true; the input reads as it did. -/
def topoFitsSpec : ChangeSpec := { name := "topoFits", fn := fun _ => fun
  | [d1, d2, d3] => { results := [.lit (.bool true)], args := [d1, d2, d3] }
  | _ => none }
def topoFitsRow : OpenClaim := { program := "ytjfohglkpbgkaaa", sum := "9a9368e29725fc0950a4a41852d7b990674a43bf2badbd0a612c89f50daff91f", func := "bruit/bruitlaw09.TopoFits", spec := "topoFits", apart := false }
def TopoFitsSaid : Prop := topoFitsRow.holds Try.pinned (OpenSpec.ofChange topoFitsSpec)

/-- ITS FALSE NEIGHBOUR: 'it returns false'. Refute it at one input. -/
def topoFitsWrong : ChangeSpec := { name := "topoFits", fn := fun _ => fun
  | [d1, d2, d3] => { results := [.lit (.bool false)], args := [d1, d2, d3] }
  | _ => none }
def TopoFitsWrongFalsely : Prop := topoFitsRow.holds Try.pinned (OpenSpec.ofChange topoFitsWrong)

/- THE SECOND FORM. 'bulk': how many values and letters a reading holds, each counted each time it is reached (what is shared counts as often as it is met; a slice's spare places count too). A statement '..UptoSaid' is the law's where the arguments, and the package variables that the reading takes, are together of bulk at most 1048576: NARROWER than '..Said'. Prove '..Said' where nothing that the law and all that it calls make is longer than what came in: it says more and counts as full. Else prove '..UptoSaid'. A law counts once. -/
mutual
def uptoBulk {H : Type} : DataW H → Nat
  | .lit (.string bytes) => bytes.length + 1
  | .lit _ => 1
  | .nil => 1
  | .ptr d => uptoBulk d + 1
  | .slice elems spare => uptoBulkAll elems + uptoBulkAll spare + 1
  | .agg parts => uptoBulkAll parts + 1
  | .iface _ d => uptoBulk d + 1
  | .map entries => uptoBulkEntries entries + 1
  | .held _ => 1
def uptoBulkAll {H : Type} : List (DataW H) → Nat
  | [] => 0
  | d :: r => uptoBulk d + uptoBulkAll r
def uptoBulkEntries {H : Type} : List (Lit × DataW H) → Nat
  | [] => 0
  | x :: r => uptoBulkEntry x + uptoBulkEntries r
def uptoBulkEntry {H : Type} : Lit × DataW H → Nat
  | (.string bytes, d) => bytes.length + uptoBulk d + 1
  | (_, d) => uptoBulk d + 1
 end
def uptoSmall : (H : Type) → List (DataW H) → Bool := fun _ ds => decide (uptoBulkAll ds ≤ 1048576)
def OpenSpec.upto (s : _root_.Go.ChangeSpec) : _root_.Go.OpenSpec := { _root_.Go.OpenSpec.ofChange s with cond := some uptoSmall }

/-- 'bruitlaw07.MaskUnites', WHERE WHAT IT READS IS OF BULK AT MOST 1048576: true; the input reads as it did. -/
def maskUnitesUptoRow : OpenClaim := { program := "ytjfohglkpbgkaaa", sum := "9a9368e29725fc0950a4a41852d7b990674a43bf2badbd0a612c89f50daff91f", func := "bruit/bruitlaw07.MaskUnites", spec := "maskUnites", apart := false, narrowed := true }
def MaskUnitesUptoSaid : Prop := maskUnitesUptoRow.holds Try.pinned (OpenSpec.upto maskUnitesSpec)

/-- 'bruitlaw07.MaskPlays', WHERE WHAT IT READS IS OF BULK AT MOST 1048576: true; the input reads as it did. -/
def maskPlaysUptoRow : OpenClaim := { program := "ytjfohglkpbgkaaa", sum := "9a9368e29725fc0950a4a41852d7b990674a43bf2badbd0a612c89f50daff91f", func := "bruit/bruitlaw07.MaskPlays", spec := "maskPlays", apart := false, narrowed := true }
def MaskPlaysUptoSaid : Prop := maskPlaysUptoRow.holds Try.pinned (OpenSpec.upto maskPlaysSpec)

/-- 'bruitlaw07.MaskNil', WHERE WHAT IT READS IS OF BULK AT MOST 1048576: true; the input reads as it did. -/
def maskNilUptoRow : OpenClaim := { program := "ytjfohglkpbgkaaa", sum := "9a9368e29725fc0950a4a41852d7b990674a43bf2badbd0a612c89f50daff91f", func := "bruit/bruitlaw07.MaskNil", spec := "maskNil", unfollowed := true, recurses := true, apart := false, narrowed := true }
def MaskNilUptoSaid : Prop := maskNilUptoRow.holds Try.pinned (OpenSpec.upto maskNilSpec)

/-- 'bruitlaw08.ReachSays', WHERE WHAT IT READS IS OF BULK AT MOST 1048576: true; the input reads as it did. -/
def reachSaysUptoRow : OpenClaim := { program := "ytjfohglkpbgkaaa", sum := "9a9368e29725fc0950a4a41852d7b990674a43bf2badbd0a612c89f50daff91f", func := "bruit/bruitlaw08.ReachSays", spec := "reachSays", apart := false, narrowed := true }
def ReachSaysUptoSaid : Prop := reachSaysUptoRow.holds Try.pinned (OpenSpec.upto reachSaysSpec)

/-- 'bruitlaw08.ReachTurns', WHERE WHAT IT READS IS OF BULK AT MOST 1048576: true; the input reads as it did. -/
def reachTurnsUptoRow : OpenClaim := { program := "ytjfohglkpbgkaaa", sum := "9a9368e29725fc0950a4a41852d7b990674a43bf2badbd0a612c89f50daff91f", func := "bruit/bruitlaw08.ReachTurns", spec := "reachTurns", apart := false, narrowed := true }
def ReachTurnsUptoSaid : Prop := reachTurnsUptoRow.holds Try.pinned (OpenSpec.upto reachTurnsSpec)

/-- 'bruitlaw08.ReachOrders', WHERE WHAT IT READS IS OF BULK AT MOST 1048576: true; the input reads as it did. -/
def reachOrdersUptoRow : OpenClaim := { program := "ytjfohglkpbgkaaa", sum := "9a9368e29725fc0950a4a41852d7b990674a43bf2badbd0a612c89f50daff91f", func := "bruit/bruitlaw08.ReachOrders", spec := "reachOrders", apart := false, narrowed := true }
def ReachOrdersUptoSaid : Prop := reachOrdersUptoRow.holds Try.pinned (OpenSpec.upto reachOrdersSpec)

/-- 'bruitlaw08.ReachNil', WHERE WHAT IT READS IS OF BULK AT MOST 1048576: true; the input reads as it did. -/
def reachNilUptoRow : OpenClaim := { program := "ytjfohglkpbgkaaa", sum := "9a9368e29725fc0950a4a41852d7b990674a43bf2badbd0a612c89f50daff91f", func := "bruit/bruitlaw08.ReachNil", spec := "reachNil", apart := false, narrowed := true }
def ReachNilUptoSaid : Prop := reachNilUptoRow.holds Try.pinned (OpenSpec.upto reachNilSpec)

/-- 'bruitlaw09.TopoSays', WHERE WHAT IT READS IS OF BULK AT MOST 1048576: true; the input reads as it did. -/
def topoSaysUptoRow : OpenClaim := { program := "ytjfohglkpbgkaaa", sum := "9a9368e29725fc0950a4a41852d7b990674a43bf2badbd0a612c89f50daff91f", func := "bruit/bruitlaw09.TopoSays", spec := "topoSays", apart := false, narrowed := true }
def TopoSaysUptoSaid : Prop := topoSaysUptoRow.holds Try.pinned (OpenSpec.upto topoSaysSpec)

/-- 'bruitlaw09.TopoOne', WHERE WHAT IT READS IS OF BULK AT MOST 1048576: true; the input reads as it did. -/
def topoOneUptoRow : OpenClaim := { program := "ytjfohglkpbgkaaa", sum := "9a9368e29725fc0950a4a41852d7b990674a43bf2badbd0a612c89f50daff91f", func := "bruit/bruitlaw09.TopoOne", spec := "topoOne", apart := false, narrowed := true }
def TopoOneUptoSaid : Prop := topoOneUptoRow.holds Try.pinned (OpenSpec.upto topoOneSpec)

/-- 'bruitlaw09.TopoFits', WHERE WHAT IT READS IS OF BULK AT MOST 1048576: true; the input reads as it did. -/
def topoFitsUptoRow : OpenClaim := { program := "ytjfohglkpbgkaaa", sum := "9a9368e29725fc0950a4a41852d7b990674a43bf2badbd0a612c89f50daff91f", func := "bruit/bruitlaw09.TopoFits", spec := "topoFits", apart := false, narrowed := true }
def TopoFitsUptoSaid : Prop := topoFitsUptoRow.holds Try.pinned (OpenSpec.upto topoFitsSpec)

end Rows
end Go.Proofs.Ytjfohglkpbgkaaa
