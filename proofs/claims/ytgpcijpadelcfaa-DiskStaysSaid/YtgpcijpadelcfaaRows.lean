/-
  No cell of these rows narrows 'for every input' (looked for: loops, veiled, ifaces, maps, wideKeys, modest, calm, conditions, laid).
  DERIVED. THE GIVEN ROWS OF THIS SEAT. 12 by the template 'for every input the law returns true; each argument reads behind the call as it read before'; 0 by the template 'total and deterministic' (their statements: YtgpcijpadelcfaaTotals.lean).
  GIVEN WITH THE SEED: the statements are not yours to turn. If you find one false, say at which input.
  Laid BY PROGRAM, IN A SANDBOX (cutbox-rows.mjs): the forced cells as the released guide's own fill.sh prints them over the translation 64fd73f0257940f8… (all of the seat's roots in one cut). By AI agents, Wed Nov 11 2026. No macro, syntax, notation, axiom, sorry.
-/
import Derived.Test.YtgpcijpadelcfaaChecked
import GoSem.Claim
import GoSem.ClaimJoined
import GoSem.ClaimMapViews
import Derived.JoinedTies
import Derived.KernelRfl
namespace Go.Proofs.Ytgpcijpadelcfaa
/- THE CELL 'sum', in the pinned program and in every row, IS THE sha256 OF THE DUMP (.gsa) THAT YtgpcijpadelcfaaProg.lean LOADS. Nothing in Lean hashes anything: it is a label: what it is worth is what the hold of that sum in a sandbox is worth. -/
noncomputable def Try.pinned : Pinned := { name := "ytgpcijpadelcfaa", sum := "64fd73f0257940f80f647df2ccccb795aefcb28570aa53b39a674151512019de", checked := Try.checked }
namespace Rows
def none {H : Type} : Left H := { results := [], args := [] }

/-- 'bruitlaw01.BitsTell': WHATEVER THE INPUT: true; the input reads as it did. -/
def bitsTellSpec : ChangeSpec := { name := "bitsTell", fn := fun _ => fun
  | [d1, d2] => { results := [.lit (.bool true)], args := [d1, d2] }
  | _ => none }
def bitsTellRow : OpenClaim := { program := "ytgpcijpadelcfaa", sum := "64fd73f0257940f80f647df2ccccb795aefcb28570aa53b39a674151512019de", func := "bruit/bruitlaw01.BitsTell", spec := "bitsTell", apart := false }
def BitsTellSaid : Prop := bitsTellRow.holds Try.pinned (OpenSpec.ofChange bitsTellSpec)

/-- ITS FALSE NEIGHBOUR: 'it returns false'. Refute it at one input. -/
def bitsTellWrong : ChangeSpec := { name := "bitsTell", fn := fun _ => fun
  | [d1, d2] => { results := [.lit (.bool false)], args := [d1, d2] }
  | _ => none }
def BitsTellWrongFalsely : Prop := bitsTellRow.holds Try.pinned (OpenSpec.ofChange bitsTellWrong)

/-- 'bruitlaw01.BitsMix': WHATEVER THE INPUT: true; the input reads as it did. -/
def bitsMixSpec : ChangeSpec := { name := "bitsMix", fn := fun _ => fun
  | [d] => { results := [.lit (.bool true)], args := [d] }
  | _ => none }
def bitsMixRow : OpenClaim := { program := "ytgpcijpadelcfaa", sum := "64fd73f0257940f80f647df2ccccb795aefcb28570aa53b39a674151512019de", func := "bruit/bruitlaw01.BitsMix", spec := "bitsMix", apart := false }
def BitsMixSaid : Prop := bitsMixRow.holds Try.pinned (OpenSpec.ofChange bitsMixSpec)

/-- ITS FALSE NEIGHBOUR: 'it returns false'. Refute it at one input. -/
def bitsMixWrong : ChangeSpec := { name := "bitsMix", fn := fun _ => fun
  | [d] => { results := [.lit (.bool false)], args := [d] }
  | _ => none }
def BitsMixWrongFalsely : Prop := bitsMixRow.holds Try.pinned (OpenSpec.ofChange bitsMixWrong)

/-- 'bruitlaw01.BitsTurns': WHATEVER THE INPUT: true; the input reads as it did. -/
def bitsTurnsSpec : ChangeSpec := { name := "bitsTurns", fn := fun _ => fun
  | [d1, d2, d3] => { results := [.lit (.bool true)], args := [d1, d2, d3] }
  | _ => none }
def bitsTurnsRow : OpenClaim := { program := "ytgpcijpadelcfaa", sum := "64fd73f0257940f80f647df2ccccb795aefcb28570aa53b39a674151512019de", func := "bruit/bruitlaw01.BitsTurns", spec := "bitsTurns", apart := false }
def BitsTurnsSaid : Prop := bitsTurnsRow.holds Try.pinned (OpenSpec.ofChange bitsTurnsSpec)

/-- ITS FALSE NEIGHBOUR: 'it returns false'. Refute it at one input. -/
def bitsTurnsWrong : ChangeSpec := { name := "bitsTurns", fn := fun _ => fun
  | [d1, d2, d3] => { results := [.lit (.bool false)], args := [d1, d2, d3] }
  | _ => none }
def BitsTurnsWrongFalsely : Prop := bitsTurnsRow.holds Try.pinned (OpenSpec.ofChange bitsTurnsWrong)

/-- 'bruitlaw01.BitsZig': WHATEVER THE INPUT: true; the input reads as it did. -/
def bitsZigSpec : ChangeSpec := { name := "bitsZig", fn := fun _ => fun
  | [d1, d2] => { results := [.lit (.bool true)], args := [d1, d2] }
  | _ => none }
def bitsZigRow : OpenClaim := { program := "ytgpcijpadelcfaa", sum := "64fd73f0257940f80f647df2ccccb795aefcb28570aa53b39a674151512019de", func := "bruit/bruitlaw01.BitsZig", spec := "bitsZig", apart := false }
def BitsZigSaid : Prop := bitsZigRow.holds Try.pinned (OpenSpec.ofChange bitsZigSpec)

/-- ITS FALSE NEIGHBOUR: 'it returns false'. Refute it at one input. -/
def bitsZigWrong : ChangeSpec := { name := "bitsZig", fn := fun _ => fun
  | [d1, d2] => { results := [.lit (.bool false)], args := [d1, d2] }
  | _ => none }
def BitsZigWrongFalsely : Prop := bitsZigRow.holds Try.pinned (OpenSpec.ofChange bitsZigWrong)

/-- 'bruitlaw01.BitsHalves': WHATEVER THE INPUT: true; the input reads as it did. -/
def bitsHalvesSpec : ChangeSpec := { name := "bitsHalves", fn := fun _ => fun
  | [d1, d2, d3] => { results := [.lit (.bool true)], args := [d1, d2, d3] }
  | _ => none }
def bitsHalvesRow : OpenClaim := { program := "ytgpcijpadelcfaa", sum := "64fd73f0257940f80f647df2ccccb795aefcb28570aa53b39a674151512019de", func := "bruit/bruitlaw01.BitsHalves", spec := "bitsHalves", apart := false }
def BitsHalvesSaid : Prop := bitsHalvesRow.holds Try.pinned (OpenSpec.ofChange bitsHalvesSpec)

/-- ITS FALSE NEIGHBOUR: 'it returns false'. Refute it at one input. -/
def bitsHalvesWrong : ChangeSpec := { name := "bitsHalves", fn := fun _ => fun
  | [d1, d2, d3] => { results := [.lit (.bool false)], args := [d1, d2, d3] }
  | _ => none }
def BitsHalvesWrongFalsely : Prop := bitsHalvesRow.holds Try.pinned (OpenSpec.ofChange bitsHalvesWrong)

/-- 'bruitlaw01.BitsBack': WHATEVER THE INPUT: true; the input reads as it did. -/
def bitsBackSpec : ChangeSpec := { name := "bitsBack", fn := fun _ => fun
  | [d1, d2] => { results := [.lit (.bool true)], args := [d1, d2] }
  | _ => none }
def bitsBackRow : OpenClaim := { program := "ytgpcijpadelcfaa", sum := "64fd73f0257940f80f647df2ccccb795aefcb28570aa53b39a674151512019de", func := "bruit/bruitlaw01.BitsBack", spec := "bitsBack", apart := false }
def BitsBackSaid : Prop := bitsBackRow.holds Try.pinned (OpenSpec.ofChange bitsBackSpec)

/-- ITS FALSE NEIGHBOUR: 'it returns false'. Refute it at one input. -/
def bitsBackWrong : ChangeSpec := { name := "bitsBack", fn := fun _ => fun
  | [d1, d2] => { results := [.lit (.bool false)], args := [d1, d2] }
  | _ => none }
def BitsBackWrongFalsely : Prop := bitsBackRow.holds Try.pinned (OpenSpec.ofChange bitsBackWrong)

/-- 'bruitlaw01.BitsFit': WHATEVER THE INPUT: true; the input reads as it did. -/
def bitsFitSpec : ChangeSpec := { name := "bitsFit", fn := fun _ => fun
  | [d] => { results := [.lit (.bool true)], args := [d] }
  | _ => none }
def bitsFitRow : OpenClaim := { program := "ytgpcijpadelcfaa", sum := "64fd73f0257940f80f647df2ccccb795aefcb28570aa53b39a674151512019de", func := "bruit/bruitlaw01.BitsFit", spec := "bitsFit", apart := false }
def BitsFitSaid : Prop := bitsFitRow.holds Try.pinned (OpenSpec.ofChange bitsFitSpec)

/-- ITS FALSE NEIGHBOUR: 'it returns false'. Refute it at one input. -/
def bitsFitWrong : ChangeSpec := { name := "bitsFit", fn := fun _ => fun
  | [d] => { results := [.lit (.bool false)], args := [d] }
  | _ => none }
def BitsFitWrongFalsely : Prop := bitsFitRow.holds Try.pinned (OpenSpec.ofChange bitsFitWrong)

/-- 'bruitlaw13.BloomSays': WHATEVER THE INPUT: true; the input reads as it did. -/
def bloomSaysSpec : ChangeSpec := { name := "bloomSays", fn := fun _ => fun
  | [d1, d2, d3] => { results := [.lit (.bool true)], args := [d1, d2, d3] }
  | _ => none }
def bloomSaysRow : OpenClaim := { program := "ytgpcijpadelcfaa", sum := "64fd73f0257940f80f647df2ccccb795aefcb28570aa53b39a674151512019de", func := "bruit/bruitlaw13.BloomSays", spec := "bloomSays", apart := false }
def BloomSaysSaid : Prop := bloomSaysRow.holds Try.pinned (OpenSpec.ofChange bloomSaysSpec)

/-- ITS FALSE NEIGHBOUR: 'it returns false'. Refute it at one input. -/
def bloomSaysWrong : ChangeSpec := { name := "bloomSays", fn := fun _ => fun
  | [d1, d2, d3] => { results := [.lit (.bool false)], args := [d1, d2, d3] }
  | _ => none }
def BloomSaysWrongFalsely : Prop := bloomSaysRow.holds Try.pinned (OpenSpec.ofChange bloomSaysWrong)

/-- 'bruitlaw13.BloomHas': WHATEVER THE INPUT: true; the input reads as it did. -/
def bloomHasSpec : ChangeSpec := { name := "bloomHas", fn := fun _ => fun
  | [d1, d2, d3] => { results := [.lit (.bool true)], args := [d1, d2, d3] }
  | _ => none }
def bloomHasRow : OpenClaim := { program := "ytgpcijpadelcfaa", sum := "64fd73f0257940f80f647df2ccccb795aefcb28570aa53b39a674151512019de", func := "bruit/bruitlaw13.BloomHas", spec := "bloomHas", apart := false }
def BloomHasSaid : Prop := bloomHasRow.holds Try.pinned (OpenSpec.ofChange bloomHasSpec)

/-- ITS FALSE NEIGHBOUR: 'it returns false'. Refute it at one input. -/
def bloomHasWrong : ChangeSpec := { name := "bloomHas", fn := fun _ => fun
  | [d1, d2, d3] => { results := [.lit (.bool false)], args := [d1, d2, d3] }
  | _ => none }
def BloomHasWrongFalsely : Prop := bloomHasRow.holds Try.pinned (OpenSpec.ofChange bloomHasWrong)

/-- 'bruitlaw29.DiskPlays': WHATEVER THE INPUT: true; the input reads as it did. -/
def diskPlaysSpec : ChangeSpec := { name := "diskPlays", fn := fun _ => fun
  | [d] => { results := [.lit (.bool true)], args := [d] }
  | _ => none }
def diskPlaysRow : OpenClaim := { program := "ytgpcijpadelcfaa", sum := "64fd73f0257940f80f647df2ccccb795aefcb28570aa53b39a674151512019de", func := "bruit/bruitlaw29.DiskPlays", spec := "diskPlays", apart := false }
def DiskPlaysSaid : Prop := diskPlaysRow.holds Try.pinned (OpenSpec.ofChange diskPlaysSpec)

/-- ITS FALSE NEIGHBOUR: 'it returns false'. Refute it at one input. -/
def diskPlaysWrong : ChangeSpec := { name := "diskPlays", fn := fun _ => fun
  | [d] => { results := [.lit (.bool false)], args := [d] }
  | _ => none }
def DiskPlaysWrongFalsely : Prop := diskPlaysRow.holds Try.pinned (OpenSpec.ofChange diskPlaysWrong)

/-- 'bruitlaw29.DiskStays': WHATEVER THE INPUT: true; the input reads as it did. -/
def diskStaysSpec : ChangeSpec := { name := "diskStays", fn := fun _ => fun
  | [d1, d2] => { results := [.lit (.bool true)], args := [d1, d2] }
  | _ => none }
def diskStaysRow : OpenClaim := { program := "ytgpcijpadelcfaa", sum := "64fd73f0257940f80f647df2ccccb795aefcb28570aa53b39a674151512019de", func := "bruit/bruitlaw29.DiskStays", spec := "diskStays", apart := false }
def DiskStaysSaid : Prop := diskStaysRow.holds Try.pinned (OpenSpec.ofChange diskStaysSpec)

/-- ITS FALSE NEIGHBOUR: 'it returns false'. Refute it at one input. -/
def diskStaysWrong : ChangeSpec := { name := "diskStays", fn := fun _ => fun
  | [d1, d2] => { results := [.lit (.bool false)], args := [d1, d2] }
  | _ => none }
def DiskStaysWrongFalsely : Prop := diskStaysRow.holds Try.pinned (OpenSpec.ofChange diskStaysWrong)

/-- 'bruitlaw29.DiskNil': WHATEVER THE INPUT: true; the input reads as it did. -/
def diskNilSpec : ChangeSpec := { name := "diskNil", fn := fun _ => fun
  | [d1, d2, d3] => { results := [.lit (.bool true)], args := [d1, d2, d3] }
  | _ => none }
def diskNilRow : OpenClaim := { program := "ytgpcijpadelcfaa", sum := "64fd73f0257940f80f647df2ccccb795aefcb28570aa53b39a674151512019de", func := "bruit/bruitlaw29.DiskNil", spec := "diskNil", apart := false }
def DiskNilSaid : Prop := diskNilRow.holds Try.pinned (OpenSpec.ofChange diskNilSpec)

/-- ITS FALSE NEIGHBOUR: 'it returns false'. Refute it at one input. -/
def diskNilWrong : ChangeSpec := { name := "diskNil", fn := fun _ => fun
  | [d1, d2, d3] => { results := [.lit (.bool false)], args := [d1, d2, d3] }
  | _ => none }
def DiskNilWrongFalsely : Prop := diskNilRow.holds Try.pinned (OpenSpec.ofChange diskNilWrong)

/- THE SECOND FORM. 'bulk': how many values and letters a reading holds, each counted each time it is reached (what is shared counts as often as it is met; a slice's spare places count too). A statement '..UptoSaid' is the law's where the arguments, and the package variables that the reading takes, are together of bulk at most 1048576: NARROWER than '..Said'. Prove '..Said' where nothing that the law and all that it calls make is longer than what came in: it says more and counts as full. Else prove '..UptoSaid'. A law counts once. -/
mutual
def uptoBulk {H : Type} : DataW H → Nat
  | .lit (.string bytes) => bytes.length + 1
  | .lit _ => 1
  | .nil => 1
  | .ptr d => uptoBulk d + 1
  | .slice elems spare => uptoBulkAll elems + uptoBulkAll spare + 1
  | .agg parts => uptoBulkAll parts + 1
  | .iface _ d => uptoBulk d + 1
  | .map entries => uptoBulkEntries entries + 1
  | .held _ => 1
def uptoBulkAll {H : Type} : List (DataW H) → Nat
  | [] => 0
  | d :: r => uptoBulk d + uptoBulkAll r
def uptoBulkEntries {H : Type} : List (Lit × DataW H) → Nat
  | [] => 0
  | x :: r => uptoBulkEntry x + uptoBulkEntries r
def uptoBulkEntry {H : Type} : Lit × DataW H → Nat
  | (.string bytes, d) => bytes.length + uptoBulk d + 1
  | (_, d) => uptoBulk d + 1
 end
def uptoSmall : (H : Type) → List (DataW H) → Bool := fun _ ds => decide (uptoBulkAll ds ≤ 1048576)
def OpenSpec.upto (s : _root_.Go.ChangeSpec) : _root_.Go.OpenSpec := { _root_.Go.OpenSpec.ofChange s with cond := some uptoSmall }

/-- 'bruitlaw01.BitsTell', WHERE WHAT IT READS IS OF BULK AT MOST 1048576: true; the input reads as it did. -/
def bitsTellUptoRow : OpenClaim := { program := "ytgpcijpadelcfaa", sum := "64fd73f0257940f80f647df2ccccb795aefcb28570aa53b39a674151512019de", func := "bruit/bruitlaw01.BitsTell", spec := "bitsTell", apart := false, narrowed := true }
def BitsTellUptoSaid : Prop := bitsTellUptoRow.holds Try.pinned (OpenSpec.upto bitsTellSpec)

/-- 'bruitlaw01.BitsMix', WHERE WHAT IT READS IS OF BULK AT MOST 1048576: true; the input reads as it did. -/
def bitsMixUptoRow : OpenClaim := { program := "ytgpcijpadelcfaa", sum := "64fd73f0257940f80f647df2ccccb795aefcb28570aa53b39a674151512019de", func := "bruit/bruitlaw01.BitsMix", spec := "bitsMix", apart := false, narrowed := true }
def BitsMixUptoSaid : Prop := bitsMixUptoRow.holds Try.pinned (OpenSpec.upto bitsMixSpec)

/-- 'bruitlaw01.BitsTurns', WHERE WHAT IT READS IS OF BULK AT MOST 1048576: true; the input reads as it did. -/
def bitsTurnsUptoRow : OpenClaim := { program := "ytgpcijpadelcfaa", sum := "64fd73f0257940f80f647df2ccccb795aefcb28570aa53b39a674151512019de", func := "bruit/bruitlaw01.BitsTurns", spec := "bitsTurns", apart := false, narrowed := true }
def BitsTurnsUptoSaid : Prop := bitsTurnsUptoRow.holds Try.pinned (OpenSpec.upto bitsTurnsSpec)

/-- 'bruitlaw01.BitsZig', WHERE WHAT IT READS IS OF BULK AT MOST 1048576: true; the input reads as it did. -/
def bitsZigUptoRow : OpenClaim := { program := "ytgpcijpadelcfaa", sum := "64fd73f0257940f80f647df2ccccb795aefcb28570aa53b39a674151512019de", func := "bruit/bruitlaw01.BitsZig", spec := "bitsZig", apart := false, narrowed := true }
def BitsZigUptoSaid : Prop := bitsZigUptoRow.holds Try.pinned (OpenSpec.upto bitsZigSpec)

/-- 'bruitlaw01.BitsHalves', WHERE WHAT IT READS IS OF BULK AT MOST 1048576: true; the input reads as it did. -/
def bitsHalvesUptoRow : OpenClaim := { program := "ytgpcijpadelcfaa", sum := "64fd73f0257940f80f647df2ccccb795aefcb28570aa53b39a674151512019de", func := "bruit/bruitlaw01.BitsHalves", spec := "bitsHalves", apart := false, narrowed := true }
def BitsHalvesUptoSaid : Prop := bitsHalvesUptoRow.holds Try.pinned (OpenSpec.upto bitsHalvesSpec)

/-- 'bruitlaw01.BitsBack', WHERE WHAT IT READS IS OF BULK AT MOST 1048576: true; the input reads as it did. -/
def bitsBackUptoRow : OpenClaim := { program := "ytgpcijpadelcfaa", sum := "64fd73f0257940f80f647df2ccccb795aefcb28570aa53b39a674151512019de", func := "bruit/bruitlaw01.BitsBack", spec := "bitsBack", apart := false, narrowed := true }
def BitsBackUptoSaid : Prop := bitsBackUptoRow.holds Try.pinned (OpenSpec.upto bitsBackSpec)

/-- 'bruitlaw01.BitsFit', WHERE WHAT IT READS IS OF BULK AT MOST 1048576: true; the input reads as it did. -/
def bitsFitUptoRow : OpenClaim := { program := "ytgpcijpadelcfaa", sum := "64fd73f0257940f80f647df2ccccb795aefcb28570aa53b39a674151512019de", func := "bruit/bruitlaw01.BitsFit", spec := "bitsFit", apart := false, narrowed := true }
def BitsFitUptoSaid : Prop := bitsFitUptoRow.holds Try.pinned (OpenSpec.upto bitsFitSpec)

/-- 'bruitlaw13.BloomSays', WHERE WHAT IT READS IS OF BULK AT MOST 1048576: true; the input reads as it did. -/
def bloomSaysUptoRow : OpenClaim := { program := "ytgpcijpadelcfaa", sum := "64fd73f0257940f80f647df2ccccb795aefcb28570aa53b39a674151512019de", func := "bruit/bruitlaw13.BloomSays", spec := "bloomSays", apart := false, narrowed := true }
def BloomSaysUptoSaid : Prop := bloomSaysUptoRow.holds Try.pinned (OpenSpec.upto bloomSaysSpec)

/-- 'bruitlaw13.BloomHas', WHERE WHAT IT READS IS OF BULK AT MOST 1048576: true; the input reads as it did. -/
def bloomHasUptoRow : OpenClaim := { program := "ytgpcijpadelcfaa", sum := "64fd73f0257940f80f647df2ccccb795aefcb28570aa53b39a674151512019de", func := "bruit/bruitlaw13.BloomHas", spec := "bloomHas", apart := false, narrowed := true }
def BloomHasUptoSaid : Prop := bloomHasUptoRow.holds Try.pinned (OpenSpec.upto bloomHasSpec)

/-- 'bruitlaw29.DiskPlays', WHERE WHAT IT READS IS OF BULK AT MOST 1048576: true; the input reads as it did. -/
def diskPlaysUptoRow : OpenClaim := { program := "ytgpcijpadelcfaa", sum := "64fd73f0257940f80f647df2ccccb795aefcb28570aa53b39a674151512019de", func := "bruit/bruitlaw29.DiskPlays", spec := "diskPlays", apart := false, narrowed := true }
def DiskPlaysUptoSaid : Prop := diskPlaysUptoRow.holds Try.pinned (OpenSpec.upto diskPlaysSpec)

/-- 'bruitlaw29.DiskStays', WHERE WHAT IT READS IS OF BULK AT MOST 1048576: true; the input reads as it did. -/
def diskStaysUptoRow : OpenClaim := { program := "ytgpcijpadelcfaa", sum := "64fd73f0257940f80f647df2ccccb795aefcb28570aa53b39a674151512019de", func := "bruit/bruitlaw29.DiskStays", spec := "diskStays", apart := false, narrowed := true }
def DiskStaysUptoSaid : Prop := diskStaysUptoRow.holds Try.pinned (OpenSpec.upto diskStaysSpec)

/-- 'bruitlaw29.DiskNil', WHERE WHAT IT READS IS OF BULK AT MOST 1048576: true; the input reads as it did. -/
def diskNilUptoRow : OpenClaim := { program := "ytgpcijpadelcfaa", sum := "64fd73f0257940f80f647df2ccccb795aefcb28570aa53b39a674151512019de", func := "bruit/bruitlaw29.DiskNil", spec := "diskNil", apart := false, narrowed := true }
def DiskNilUptoSaid : Prop := diskNilUptoRow.holds Try.pinned (OpenSpec.upto diskNilSpec)

end Rows
end Go.Proofs.Ytgpcijpadelcfaa
