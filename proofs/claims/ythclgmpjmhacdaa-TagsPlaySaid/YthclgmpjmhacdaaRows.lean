/-
  No cell of these rows narrows 'for every input' (looked for: loops, veiled, ifaces, maps, wideKeys, modest, calm, conditions, laid).
  DERIVED. THE GIVEN ROWS OF THIS SEAT. 3 by the template 'for every input the law returns true; each argument reads behind the call as it read before'; 0 by the template 'total and deterministic' (their statements: YthclgmpjmhacdaaTotals.lean).
  GIVEN WITH THE SEED: the statements are not yours to turn. If you find one false, say at which input.
  Laid BY PROGRAM, IN A SANDBOX (cutbox-rows.mjs): the forced cells as the released guide's own fill.sh prints them over the translation 9aef838fb73d3a7e… (all of the seat's roots in one cut). By AI agents, Wed Nov 11 2026. No macro, syntax, notation, axiom, sorry.
-/
import Derived.Test.YthclgmpjmhacdaaChecked
import GoSem.Claim
import GoSem.ClaimJoined
import GoSem.ClaimMapViews
import Derived.JoinedTies
import Derived.KernelRfl
namespace Go.Proofs.Ythclgmpjmhacdaa
/- THE CELL 'sum', in the pinned program and in every row, IS THE sha256 OF THE DUMP (.gsa) THAT YthclgmpjmhacdaaProg.lean LOADS. Nothing in Lean hashes anything: it is a label: what it is worth is what the hold of that sum in a sandbox is worth. -/
noncomputable def Try.pinned : Pinned := { name := "ythclgmpjmhacdaa", sum := "9aef838fb73d3a7e76bd9452a059e92384a718929d6bde21cfdd34967cf804cf", checked := Try.checked }
namespace Rows
def none {H : Type} : Left H := { results := [], args := [] }

/-- 'bruitlaw52.TagsReads': WHATEVER THE INPUT: true; the input reads as it did. -/
def tagsReadsSpec : ChangeSpec := { name := "tagsReads", fn := fun _ => fun
  | [d] => { results := [.lit (.bool true)], args := [d] }
  | _ => none }
def tagsReadsRow : OpenClaim := { program := "ythclgmpjmhacdaa", sum := "9aef838fb73d3a7e76bd9452a059e92384a718929d6bde21cfdd34967cf804cf", func := "bruit/bruitlaw52.TagsReads", spec := "tagsReads", unfollowed := true, recurses := true, plainKeys := false, apart := false }
def TagsReadsSaid : Prop := tagsReadsRow.holds Try.pinned (OpenSpec.ofChange tagsReadsSpec)

/-- ITS FALSE NEIGHBOUR: 'it returns false'. Refute it at one input. -/
def tagsReadsWrong : ChangeSpec := { name := "tagsReads", fn := fun _ => fun
  | [d] => { results := [.lit (.bool false)], args := [d] }
  | _ => none }
def TagsReadsWrongFalsely : Prop := tagsReadsRow.holds Try.pinned (OpenSpec.ofChange tagsReadsWrong)

/-- 'bruitlaw52.TagsPlay': WHATEVER THE INPUT: true; the input reads as it did. -/
def tagsPlaySpec : ChangeSpec := { name := "tagsPlay", fn := fun _ => fun
  | [d1, d2] => { results := [.lit (.bool true)], args := [d1, d2] }
  | _ => none }
def tagsPlayRow : OpenClaim := { program := "ythclgmpjmhacdaa", sum := "9aef838fb73d3a7e76bd9452a059e92384a718929d6bde21cfdd34967cf804cf", func := "bruit/bruitlaw52.TagsPlay", spec := "tagsPlay", unfollowed := true, recurses := true, plainKeys := false, apart := false }
def TagsPlaySaid : Prop := tagsPlayRow.holds Try.pinned (OpenSpec.ofChange tagsPlaySpec)

/-- ITS FALSE NEIGHBOUR: 'it returns false'. Refute it at one input. -/
def tagsPlayWrong : ChangeSpec := { name := "tagsPlay", fn := fun _ => fun
  | [d1, d2] => { results := [.lit (.bool false)], args := [d1, d2] }
  | _ => none }
def TagsPlayWrongFalsely : Prop := tagsPlayRow.holds Try.pinned (OpenSpec.ofChange tagsPlayWrong)

/-- 'bruitlaw52.TagsBack': WHATEVER THE INPUT: true; the input reads as it did. -/
def tagsBackSpec : ChangeSpec := { name := "tagsBack", fn := fun _ => fun
  | [d1, d2] => { results := [.lit (.bool true)], args := [d1, d2] }
  | _ => none }
def tagsBackRow : OpenClaim := { program := "ythclgmpjmhacdaa", sum := "9aef838fb73d3a7e76bd9452a059e92384a718929d6bde21cfdd34967cf804cf", func := "bruit/bruitlaw52.TagsBack", spec := "tagsBack", unfollowed := true, recurses := true, plainKeys := false, apart := false }
def TagsBackSaid : Prop := tagsBackRow.holds Try.pinned (OpenSpec.ofChange tagsBackSpec)

/-- ITS FALSE NEIGHBOUR: 'it returns false'. Refute it at one input. -/
def tagsBackWrong : ChangeSpec := { name := "tagsBack", fn := fun _ => fun
  | [d1, d2] => { results := [.lit (.bool false)], args := [d1, d2] }
  | _ => none }
def TagsBackWrongFalsely : Prop := tagsBackRow.holds Try.pinned (OpenSpec.ofChange tagsBackWrong)

/- THE SECOND FORM. 'bulk': how many values and letters a reading holds, each counted each time it is reached (what is shared counts as often as it is met; a slice's spare places count too). A statement '..UptoSaid' is the law's where the arguments, and the package variables that the reading takes, are together of bulk at most 1048576: NARROWER than '..Said'. Prove '..Said' where nothing that the law and all that it calls make is longer than what came in: it says more and counts as full. Else prove '..UptoSaid'. A law counts once. -/
mutual
def uptoBulk {H : Type} : DataW H → Nat
  | .lit (.string bytes) => bytes.length + 1
  | .lit _ => 1
  | .nil => 1
  | .ptr d => uptoBulk d + 1
  | .slice elems spare => uptoBulkAll elems + uptoBulkAll spare + 1
  | .agg parts => uptoBulkAll parts + 1
  | .iface _ d => uptoBulk d + 1
  | .map entries => uptoBulkEntries entries + 1
  | .held _ => 1
def uptoBulkAll {H : Type} : List (DataW H) → Nat
  | [] => 0
  | d :: r => uptoBulk d + uptoBulkAll r
def uptoBulkEntries {H : Type} : List (Lit × DataW H) → Nat
  | [] => 0
  | x :: r => uptoBulkEntry x + uptoBulkEntries r
def uptoBulkEntry {H : Type} : Lit × DataW H → Nat
  | (.string bytes, d) => bytes.length + uptoBulk d + 1
  | (_, d) => uptoBulk d + 1
 end
def uptoSmall : (H : Type) → List (DataW H) → Bool := fun _ ds => decide (uptoBulkAll ds ≤ 1048576)
def OpenSpec.upto (s : _root_.Go.ChangeSpec) : _root_.Go.OpenSpec := { _root_.Go.OpenSpec.ofChange s with cond := some uptoSmall }

/-- 'bruitlaw52.TagsReads', WHERE WHAT IT READS IS OF BULK AT MOST 1048576: true; the input reads as it did. -/
def tagsReadsUptoRow : OpenClaim := { program := "ythclgmpjmhacdaa", sum := "9aef838fb73d3a7e76bd9452a059e92384a718929d6bde21cfdd34967cf804cf", func := "bruit/bruitlaw52.TagsReads", spec := "tagsReads", unfollowed := true, recurses := true, plainKeys := false, apart := false, narrowed := true }
def TagsReadsUptoSaid : Prop := tagsReadsUptoRow.holds Try.pinned (OpenSpec.upto tagsReadsSpec)

/-- 'bruitlaw52.TagsPlay', WHERE WHAT IT READS IS OF BULK AT MOST 1048576: true; the input reads as it did. -/
def tagsPlayUptoRow : OpenClaim := { program := "ythclgmpjmhacdaa", sum := "9aef838fb73d3a7e76bd9452a059e92384a718929d6bde21cfdd34967cf804cf", func := "bruit/bruitlaw52.TagsPlay", spec := "tagsPlay", unfollowed := true, recurses := true, plainKeys := false, apart := false, narrowed := true }
def TagsPlayUptoSaid : Prop := tagsPlayUptoRow.holds Try.pinned (OpenSpec.upto tagsPlaySpec)

/-- 'bruitlaw52.TagsBack', WHERE WHAT IT READS IS OF BULK AT MOST 1048576: true; the input reads as it did. -/
def tagsBackUptoRow : OpenClaim := { program := "ythclgmpjmhacdaa", sum := "9aef838fb73d3a7e76bd9452a059e92384a718929d6bde21cfdd34967cf804cf", func := "bruit/bruitlaw52.TagsBack", spec := "tagsBack", unfollowed := true, recurses := true, plainKeys := false, apart := false, narrowed := true }
def TagsBackUptoSaid : Prop := tagsBackUptoRow.holds Try.pinned (OpenSpec.upto tagsBackSpec)

end Rows
end Go.Proofs.Ythclgmpjmhacdaa
