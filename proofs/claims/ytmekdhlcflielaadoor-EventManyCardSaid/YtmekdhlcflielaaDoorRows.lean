/-
  NARROWER THAN 'FOR EVERY INPUT', by the rows' own cells (each row's printed sentence says how): EventBytes: laid · EventBack: laid · EventMany: laid · EventGood: laid.
  DERIVED. THE GIVEN ROWS OF THIS SEAT. 4 by the template 'for every input the law returns true; each argument reads behind the call as it read before'; 0 by the template 'total and deterministic' (their statements: YtmekdhlcflielaaDoorTotals.lean).
  GIVEN WITH THE SEED: the statements are not yours to turn. If you find one false, say at which input.
  Laid BY PROGRAM, IN A SANDBOX (cutbox-rows.mjs): the forced cells as the released guide's own fill.sh prints them over the translation a51e032319148084… (all of the seat's roots in one cut). By AI agents, Wed Nov 11 2026. No macro, syntax, notation, axiom, sorry.
-/
import Derived.Test.YtmekdhlcflielaaDoorChecked
import GoSem.Claim
import GoSem.ClaimJoined
import GoSem.ClaimMapViews
import Derived.JoinedTies
import Derived.KernelRfl
namespace Go.Proofs.YtmekdhlcflielaaDoor
/- THE CELL 'sum', in the pinned program and in every row, IS THE sha256 OF THE DUMP (.gsa) THAT YtmekdhlcflielaaDoorProg.lean LOADS. Nothing in Lean hashes anything: it is a label: what it is worth is what the hold of that sum in a sandbox is worth. -/
noncomputable def Tryd.pinned : Pinned := { name := "ytmekdhlcflielaadoor", sum := "a51e032319148084cd3d4c86c7bf599588ae32afb3ac9801fcb26dc128a86726", checked := Tryd.checked }
namespace Rows
def none {H : Type} : Left H := { results := [], args := [] }

/- WHAT THE LISTED PACKAGE-LEVEL VARIABLES READ AS WHEN THE CALL BEGINS. Each datum BY PROGRAM (the guide's laid-datum.mjs) off the statement by which the dump's own 'gosem.cut.vars' lays the variable. In a bare row this is a premise. The card (YtmekdhlcflielaaDoorCards.lean) ties it to the program's text. -/
def laid_bruit_event_has {H : Type} : DataW H := .agg [.lit (.int .u8 0), .lit (.int .u8 33), .lit (.int .u8 1), .lit (.int .u8 17), .lit (.int .u8 4), .lit (.int .u8 4), .lit (.int .u8 4), .lit (.int .u8 12), .lit (.int .u8 1), .lit (.int .u8 5), .lit (.int .u8 1), .lit (.int .u8 3), .lit (.int .u8 0)]

/-- 'bruitlaw39.EventBytes': WHATEVER THE INPUT: true; the input reads as it did. -/
def eventBytesSpec : ChangeSpec := { name := "eventBytes", fn := fun _ => fun
  | [d1, d2] => { results := [.lit (.bool true)], args := [d1, d2] }
  | _ => none }
def eventBytesRow : OpenClaim := { program := "ytmekdhlcflielaadoor", sum := "a51e032319148084cd3d4c86c7bf599588ae32afb3ac9801fcb26dc128a86726", func := "bruit/bruitlaw39.EventBytes", spec := "eventBytes", named := ["bruit/event.has"], apart := false, laid := [("bruit/event.has", laid_bruit_event_has)] }
def EventBytesSaid : Prop := eventBytesRow.holds Tryd.pinned (OpenSpec.ofChange eventBytesSpec)

/-- ITS FALSE NEIGHBOUR: 'it returns false'. Refute it at one input. -/
def eventBytesWrong : ChangeSpec := { name := "eventBytes", fn := fun _ => fun
  | [d1, d2] => { results := [.lit (.bool false)], args := [d1, d2] }
  | _ => none }
def EventBytesWrongFalsely : Prop := eventBytesRow.holds Tryd.pinned (OpenSpec.ofChange eventBytesWrong)

/-- 'bruitlaw39.EventBack': WHATEVER THE INPUT: true; the input reads as it did. -/
def eventBackSpec : ChangeSpec := { name := "eventBack", fn := fun _ => fun
  | [d1, d2] => { results := [.lit (.bool true)], args := [d1, d2] }
  | _ => none }
def eventBackRow : OpenClaim := { program := "ytmekdhlcflielaadoor", sum := "a51e032319148084cd3d4c86c7bf599588ae32afb3ac9801fcb26dc128a86726", func := "bruit/bruitlaw39.EventBack", spec := "eventBack", named := ["bruit/event.has"], apart := false, laid := [("bruit/event.has", laid_bruit_event_has)] }
def EventBackSaid : Prop := eventBackRow.holds Tryd.pinned (OpenSpec.ofChange eventBackSpec)

/-- ITS FALSE NEIGHBOUR: 'it returns false'. Refute it at one input. -/
def eventBackWrong : ChangeSpec := { name := "eventBack", fn := fun _ => fun
  | [d1, d2] => { results := [.lit (.bool false)], args := [d1, d2] }
  | _ => none }
def EventBackWrongFalsely : Prop := eventBackRow.holds Tryd.pinned (OpenSpec.ofChange eventBackWrong)

/-- 'bruitlaw39.EventMany': WHATEVER THE INPUT: true; the input reads as it did. -/
def eventManySpec : ChangeSpec := { name := "eventMany", fn := fun _ => fun
  | [d] => { results := [.lit (.bool true)], args := [d] }
  | _ => none }
def eventManyRow : OpenClaim := { program := "ytmekdhlcflielaadoor", sum := "a51e032319148084cd3d4c86c7bf599588ae32afb3ac9801fcb26dc128a86726", func := "bruit/bruitlaw39.EventMany", spec := "eventMany", named := ["bruit/event.has"], apart := false, laid := [("bruit/event.has", laid_bruit_event_has)] }
def EventManySaid : Prop := eventManyRow.holds Tryd.pinned (OpenSpec.ofChange eventManySpec)

/-- ITS FALSE NEIGHBOUR: 'it returns false'. Refute it at one input. -/
def eventManyWrong : ChangeSpec := { name := "eventMany", fn := fun _ => fun
  | [d] => { results := [.lit (.bool false)], args := [d] }
  | _ => none }
def EventManyWrongFalsely : Prop := eventManyRow.holds Tryd.pinned (OpenSpec.ofChange eventManyWrong)

/-- 'bruitlaw39.EventGood': WHATEVER THE INPUT: true; the input reads as it did. -/
def eventGoodSpec : ChangeSpec := { name := "eventGood", fn := fun _ => fun
  | [d1, d2] => { results := [.lit (.bool true)], args := [d1, d2] }
  | _ => none }
def eventGoodRow : OpenClaim := { program := "ytmekdhlcflielaadoor", sum := "a51e032319148084cd3d4c86c7bf599588ae32afb3ac9801fcb26dc128a86726", func := "bruit/bruitlaw39.EventGood", spec := "eventGood", named := ["bruit/event.has"], apart := false, laid := [("bruit/event.has", laid_bruit_event_has)] }
def EventGoodSaid : Prop := eventGoodRow.holds Tryd.pinned (OpenSpec.ofChange eventGoodSpec)

/-- ITS FALSE NEIGHBOUR: 'it returns false'. Refute it at one input. -/
def eventGoodWrong : ChangeSpec := { name := "eventGood", fn := fun _ => fun
  | [d1, d2] => { results := [.lit (.bool false)], args := [d1, d2] }
  | _ => none }
def EventGoodWrongFalsely : Prop := eventGoodRow.holds Tryd.pinned (OpenSpec.ofChange eventGoodWrong)

/- THE SECOND FORM. 'bulk': how many values and letters a reading holds, each counted each time it is reached (what is shared counts as often as it is met; a slice's spare places count too). A statement '..UptoSaid' is the law's where the arguments, and the package variables that the reading takes, are together of bulk at most 1048576: NARROWER than '..Said'. Prove '..Said' where nothing that the law and all that it calls make is longer than what came in: it says more and counts as full. Else prove '..UptoSaid'. A law counts once. -/
mutual
def uptoBulk {H : Type} : DataW H → Nat
  | .lit (.string bytes) => bytes.length + 1
  | .lit _ => 1
  | .nil => 1
  | .ptr d => uptoBulk d + 1
  | .slice elems spare => uptoBulkAll elems + uptoBulkAll spare + 1
  | .agg parts => uptoBulkAll parts + 1
  | .iface _ d => uptoBulk d + 1
  | .map entries => uptoBulkEntries entries + 1
  | .held _ => 1
def uptoBulkAll {H : Type} : List (DataW H) → Nat
  | [] => 0
  | d :: r => uptoBulk d + uptoBulkAll r
def uptoBulkEntries {H : Type} : List (Lit × DataW H) → Nat
  | [] => 0
  | x :: r => uptoBulkEntry x + uptoBulkEntries r
def uptoBulkEntry {H : Type} : Lit × DataW H → Nat
  | (.string bytes, d) => bytes.length + uptoBulk d + 1
  | (_, d) => uptoBulk d + 1
 end
def uptoSmall : (H : Type) → List (DataW H) → Bool := fun _ ds => decide (uptoBulkAll ds ≤ 1048576)
def OpenSpec.upto (s : _root_.Go.ChangeSpec) : _root_.Go.OpenSpec := { _root_.Go.OpenSpec.ofChange s with cond := some uptoSmall }

/-- 'bruitlaw39.EventBytes', WHERE WHAT IT READS IS OF BULK AT MOST 1048576: true; the input reads as it did. -/
def eventBytesUptoRow : OpenClaim := { program := "ytmekdhlcflielaadoor", sum := "a51e032319148084cd3d4c86c7bf599588ae32afb3ac9801fcb26dc128a86726", func := "bruit/bruitlaw39.EventBytes", spec := "eventBytes", named := ["bruit/event.has"], apart := false, laid := [("bruit/event.has", laid_bruit_event_has)], narrowed := true }
def EventBytesUptoSaid : Prop := eventBytesUptoRow.holds Tryd.pinned (OpenSpec.upto eventBytesSpec)

/-- 'bruitlaw39.EventBack', WHERE WHAT IT READS IS OF BULK AT MOST 1048576: true; the input reads as it did. -/
def eventBackUptoRow : OpenClaim := { program := "ytmekdhlcflielaadoor", sum := "a51e032319148084cd3d4c86c7bf599588ae32afb3ac9801fcb26dc128a86726", func := "bruit/bruitlaw39.EventBack", spec := "eventBack", named := ["bruit/event.has"], apart := false, laid := [("bruit/event.has", laid_bruit_event_has)], narrowed := true }
def EventBackUptoSaid : Prop := eventBackUptoRow.holds Tryd.pinned (OpenSpec.upto eventBackSpec)

/-- 'bruitlaw39.EventMany', WHERE WHAT IT READS IS OF BULK AT MOST 1048576: true; the input reads as it did. -/
def eventManyUptoRow : OpenClaim := { program := "ytmekdhlcflielaadoor", sum := "a51e032319148084cd3d4c86c7bf599588ae32afb3ac9801fcb26dc128a86726", func := "bruit/bruitlaw39.EventMany", spec := "eventMany", named := ["bruit/event.has"], apart := false, laid := [("bruit/event.has", laid_bruit_event_has)], narrowed := true }
def EventManyUptoSaid : Prop := eventManyUptoRow.holds Tryd.pinned (OpenSpec.upto eventManySpec)

/-- 'bruitlaw39.EventGood', WHERE WHAT IT READS IS OF BULK AT MOST 1048576: true; the input reads as it did. -/
def eventGoodUptoRow : OpenClaim := { program := "ytmekdhlcflielaadoor", sum := "a51e032319148084cd3d4c86c7bf599588ae32afb3ac9801fcb26dc128a86726", func := "bruit/bruitlaw39.EventGood", spec := "eventGood", named := ["bruit/event.has"], apart := false, laid := [("bruit/event.has", laid_bruit_event_has)], narrowed := true }
def EventGoodUptoSaid : Prop := eventGoodUptoRow.holds Tryd.pinned (OpenSpec.upto eventGoodSpec)

end Rows
end Go.Proofs.YtmekdhlcflielaaDoor
