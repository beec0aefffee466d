/-
  NARROWER THAN 'FOR EVERY INPUT', by the rows' own cells (each row's printed sentence says how): CrcSums: laid · CrcParts: laid · CrcBursts: laid · CrcThree: laid · SealSays: laid · SealSpoils: laid · SealBack: laid · SealBursts: laid · FrameMakes: laid · FrameLong: laid · FrameTakes: laid · FrameCuts: laid.
  DERIVED. THE GIVEN ROWS OF THIS SEAT. 12 by the template 'for every input the law returns true; each argument reads behind the call as it read before'; 0 by the template 'total and deterministic' (their statements: YtmkbkophpmkcbaaDoorTotals.lean).
  GIVEN WITH THE SEED: the statements are not yours to turn. If you find one false, say at which input.
  Laid BY PROGRAM, IN A SANDBOX (cutbox-rows.mjs): the forced cells as the released guide's own fill.sh prints them over the translation bd5380bce842c1a3… (all of the seat's roots in one cut). By AI agents, Wed Nov 11 2026. No macro, syntax, notation, axiom, sorry.
-/
import Derived.Test.YtmkbkophpmkcbaaDoorChecked
import GoSem.Claim
import GoSem.ClaimJoined
import GoSem.ClaimMapViews
import Derived.JoinedTies
import Derived.KernelRfl
namespace Go.Proofs.YtmkbkophpmkcbaaDoor
/- THE CELL 'sum', in the pinned program and in every row, IS THE sha256 OF THE DUMP (.gsa) THAT YtmkbkophpmkcbaaDoorProg.lean LOADS. Nothing in Lean hashes anything: it is a label: what it is worth is what the hold of that sum in a sandbox is worth. -/
noncomputable def Tryd.pinned : Pinned := { name := "ytmkbkophpmkcbaadoor", sum := "bd5380bce842c1a301337f39446e6379a5f8f815eee1683c2d4d2144474dac04", checked := Tryd.checked }
namespace Rows
def none {H : Type} : Left H := { results := [], args := [] }

/- WHAT THE LISTED PACKAGE-LEVEL VARIABLES READ AS WHEN THE CALL BEGINS. Each datum BY PROGRAM (the guide's laid-datum.mjs) off the statement by which the dump's own 'gosem.cut.vars' lays the variable. In a bare row this is a premise. The card (YtmkbkophpmkcbaaDoorCards.lean) ties it to the program's text. -/
def laid_bruit_crc_four {H : Type} : DataW H := .agg [.lit (.int .u32 0), .lit (.int .u32 79764919), .lit (.int .u32 159529838), .lit (.int .u32 222504665), .lit (.int .u32 319059676), .lit (.int .u32 398814059), .lit (.int .u32 445009330), .lit (.int .u32 507990021), .lit (.int .u32 638119352), .lit (.int .u32 583659535), .lit (.int .u32 797628118), .lit (.int .u32 726387553), .lit (.int .u32 890018660), .lit (.int .u32 835552979), .lit (.int .u32 1015980042), .lit (.int .u32 944750013)]

/-- 'bruitlaw02.CrcSums': WHATEVER THE INPUT: true; the input reads as it did. -/
def crcSumsSpec : ChangeSpec := { name := "crcSums", fn := fun _ => fun
  | [d1, d2] => { results := [.lit (.bool true)], args := [d1, d2] }
  | _ => none }
def crcSumsRow : OpenClaim := { program := "ytmkbkophpmkcbaadoor", sum := "bd5380bce842c1a301337f39446e6379a5f8f815eee1683c2d4d2144474dac04", func := "bruit/bruitlaw02.CrcSums", spec := "crcSums", named := ["bruit/crc.four"], apart := false, laid := [("bruit/crc.four", laid_bruit_crc_four)] }
def CrcSumsSaid : Prop := crcSumsRow.holds Tryd.pinned (OpenSpec.ofChange crcSumsSpec)

/-- ITS FALSE NEIGHBOUR: 'it returns false'. Refute it at one input. -/
def crcSumsWrong : ChangeSpec := { name := "crcSums", fn := fun _ => fun
  | [d1, d2] => { results := [.lit (.bool false)], args := [d1, d2] }
  | _ => none }
def CrcSumsWrongFalsely : Prop := crcSumsRow.holds Tryd.pinned (OpenSpec.ofChange crcSumsWrong)

/-- 'bruitlaw02.CrcParts': WHATEVER THE INPUT: true; the input reads as it did. -/
def crcPartsSpec : ChangeSpec := { name := "crcParts", fn := fun _ => fun
  | [d1, d2] => { results := [.lit (.bool true)], args := [d1, d2] }
  | _ => none }
def crcPartsRow : OpenClaim := { program := "ytmkbkophpmkcbaadoor", sum := "bd5380bce842c1a301337f39446e6379a5f8f815eee1683c2d4d2144474dac04", func := "bruit/bruitlaw02.CrcParts", spec := "crcParts", named := ["bruit/crc.four"], apart := false, laid := [("bruit/crc.four", laid_bruit_crc_four)] }
def CrcPartsSaid : Prop := crcPartsRow.holds Tryd.pinned (OpenSpec.ofChange crcPartsSpec)

/-- ITS FALSE NEIGHBOUR: 'it returns false'. Refute it at one input. -/
def crcPartsWrong : ChangeSpec := { name := "crcParts", fn := fun _ => fun
  | [d1, d2] => { results := [.lit (.bool false)], args := [d1, d2] }
  | _ => none }
def CrcPartsWrongFalsely : Prop := crcPartsRow.holds Tryd.pinned (OpenSpec.ofChange crcPartsWrong)

/-- 'bruitlaw02.CrcBursts': WHATEVER THE INPUT: true; the input reads as it did. -/
def crcBurstsSpec : ChangeSpec := { name := "crcBursts", fn := fun _ => fun
  | [d1, d2, d3] => { results := [.lit (.bool true)], args := [d1, d2, d3] }
  | _ => none }
def crcBurstsRow : OpenClaim := { program := "ytmkbkophpmkcbaadoor", sum := "bd5380bce842c1a301337f39446e6379a5f8f815eee1683c2d4d2144474dac04", func := "bruit/bruitlaw02.CrcBursts", spec := "crcBursts", named := ["bruit/crc.four"], apart := false, laid := [("bruit/crc.four", laid_bruit_crc_four)] }
def CrcBurstsSaid : Prop := crcBurstsRow.holds Tryd.pinned (OpenSpec.ofChange crcBurstsSpec)

/-- ITS FALSE NEIGHBOUR: 'it returns false'. Refute it at one input. -/
def crcBurstsWrong : ChangeSpec := { name := "crcBursts", fn := fun _ => fun
  | [d1, d2, d3] => { results := [.lit (.bool false)], args := [d1, d2, d3] }
  | _ => none }
def CrcBurstsWrongFalsely : Prop := crcBurstsRow.holds Tryd.pinned (OpenSpec.ofChange crcBurstsWrong)

/-- 'bruitlaw02.CrcThree': WHATEVER THE INPUT: true; the input reads as it did. -/
def crcThreeSpec : ChangeSpec := { name := "crcThree", fn := fun _ => fun
  | [d1, d2, d3] => { results := [.lit (.bool true)], args := [d1, d2, d3] }
  | _ => none }
def crcThreeRow : OpenClaim := { program := "ytmkbkophpmkcbaadoor", sum := "bd5380bce842c1a301337f39446e6379a5f8f815eee1683c2d4d2144474dac04", func := "bruit/bruitlaw02.CrcThree", spec := "crcThree", named := ["bruit/crc.four"], apart := false, laid := [("bruit/crc.four", laid_bruit_crc_four)] }
def CrcThreeSaid : Prop := crcThreeRow.holds Tryd.pinned (OpenSpec.ofChange crcThreeSpec)

/-- ITS FALSE NEIGHBOUR: 'it returns false'. Refute it at one input. -/
def crcThreeWrong : ChangeSpec := { name := "crcThree", fn := fun _ => fun
  | [d1, d2, d3] => { results := [.lit (.bool false)], args := [d1, d2, d3] }
  | _ => none }
def CrcThreeWrongFalsely : Prop := crcThreeRow.holds Tryd.pinned (OpenSpec.ofChange crcThreeWrong)

/-- 'bruitlaw05.SealSays': WHATEVER THE INPUT: true; the input reads as it did. -/
def sealSaysSpec : ChangeSpec := { name := "sealSays", fn := fun _ => fun
  | [d1, d2] => { results := [.lit (.bool true)], args := [d1, d2] }
  | _ => none }
def sealSaysRow : OpenClaim := { program := "ytmkbkophpmkcbaadoor", sum := "bd5380bce842c1a301337f39446e6379a5f8f815eee1683c2d4d2144474dac04", func := "bruit/bruitlaw05.SealSays", spec := "sealSays", named := ["bruit/crc.four"], apart := false, laid := [("bruit/crc.four", laid_bruit_crc_four)] }
def SealSaysSaid : Prop := sealSaysRow.holds Tryd.pinned (OpenSpec.ofChange sealSaysSpec)

/-- ITS FALSE NEIGHBOUR: 'it returns false'. Refute it at one input. -/
def sealSaysWrong : ChangeSpec := { name := "sealSays", fn := fun _ => fun
  | [d1, d2] => { results := [.lit (.bool false)], args := [d1, d2] }
  | _ => none }
def SealSaysWrongFalsely : Prop := sealSaysRow.holds Tryd.pinned (OpenSpec.ofChange sealSaysWrong)

/-- 'bruitlaw05.SealSpoils': WHATEVER THE INPUT: true; the input reads as it did. -/
def sealSpoilsSpec : ChangeSpec := { name := "sealSpoils", fn := fun _ => fun
  | [d1, d2, d3] => { results := [.lit (.bool true)], args := [d1, d2, d3] }
  | _ => none }
def sealSpoilsRow : OpenClaim := { program := "ytmkbkophpmkcbaadoor", sum := "bd5380bce842c1a301337f39446e6379a5f8f815eee1683c2d4d2144474dac04", func := "bruit/bruitlaw05.SealSpoils", spec := "sealSpoils", named := ["bruit/crc.four"], apart := false, laid := [("bruit/crc.four", laid_bruit_crc_four)] }
def SealSpoilsSaid : Prop := sealSpoilsRow.holds Tryd.pinned (OpenSpec.ofChange sealSpoilsSpec)

/-- ITS FALSE NEIGHBOUR: 'it returns false'. Refute it at one input. -/
def sealSpoilsWrong : ChangeSpec := { name := "sealSpoils", fn := fun _ => fun
  | [d1, d2, d3] => { results := [.lit (.bool false)], args := [d1, d2, d3] }
  | _ => none }
def SealSpoilsWrongFalsely : Prop := sealSpoilsRow.holds Tryd.pinned (OpenSpec.ofChange sealSpoilsWrong)

/-- 'bruitlaw05.SealBack': WHATEVER THE INPUT: true; the input reads as it did. -/
def sealBackSpec : ChangeSpec := { name := "sealBack", fn := fun _ => fun
  | [d1, d2] => { results := [.lit (.bool true)], args := [d1, d2] }
  | _ => none }
def sealBackRow : OpenClaim := { program := "ytmkbkophpmkcbaadoor", sum := "bd5380bce842c1a301337f39446e6379a5f8f815eee1683c2d4d2144474dac04", func := "bruit/bruitlaw05.SealBack", spec := "sealBack", named := ["bruit/crc.four"], apart := false, laid := [("bruit/crc.four", laid_bruit_crc_four)] }
def SealBackSaid : Prop := sealBackRow.holds Tryd.pinned (OpenSpec.ofChange sealBackSpec)

/-- ITS FALSE NEIGHBOUR: 'it returns false'. Refute it at one input. -/
def sealBackWrong : ChangeSpec := { name := "sealBack", fn := fun _ => fun
  | [d1, d2] => { results := [.lit (.bool false)], args := [d1, d2] }
  | _ => none }
def SealBackWrongFalsely : Prop := sealBackRow.holds Tryd.pinned (OpenSpec.ofChange sealBackWrong)

/-- 'bruitlaw05.SealBursts': WHATEVER THE INPUT: true; the input reads as it did. -/
def sealBurstsSpec : ChangeSpec := { name := "sealBursts", fn := fun _ => fun
  | [d1, d2, d3] => { results := [.lit (.bool true)], args := [d1, d2, d3] }
  | _ => none }
def sealBurstsRow : OpenClaim := { program := "ytmkbkophpmkcbaadoor", sum := "bd5380bce842c1a301337f39446e6379a5f8f815eee1683c2d4d2144474dac04", func := "bruit/bruitlaw05.SealBursts", spec := "sealBursts", named := ["bruit/crc.four"], apart := false, laid := [("bruit/crc.four", laid_bruit_crc_four)] }
def SealBurstsSaid : Prop := sealBurstsRow.holds Tryd.pinned (OpenSpec.ofChange sealBurstsSpec)

/-- ITS FALSE NEIGHBOUR: 'it returns false'. Refute it at one input. -/
def sealBurstsWrong : ChangeSpec := { name := "sealBursts", fn := fun _ => fun
  | [d1, d2, d3] => { results := [.lit (.bool false)], args := [d1, d2, d3] }
  | _ => none }
def SealBurstsWrongFalsely : Prop := sealBurstsRow.holds Tryd.pinned (OpenSpec.ofChange sealBurstsWrong)

/-- 'bruitlaw06.FrameMakes': WHATEVER THE INPUT: true; the input reads as it did. -/
def frameMakesSpec : ChangeSpec := { name := "frameMakes", fn := fun _ => fun
  | [d1, d2] => { results := [.lit (.bool true)], args := [d1, d2] }
  | _ => none }
def frameMakesRow : OpenClaim := { program := "ytmkbkophpmkcbaadoor", sum := "bd5380bce842c1a301337f39446e6379a5f8f815eee1683c2d4d2144474dac04", func := "bruit/bruitlaw06.FrameMakes", spec := "frameMakes", named := ["bruit/crc.four"], apart := false, laid := [("bruit/crc.four", laid_bruit_crc_four)] }
def FrameMakesSaid : Prop := frameMakesRow.holds Tryd.pinned (OpenSpec.ofChange frameMakesSpec)

/-- ITS FALSE NEIGHBOUR: 'it returns false'. Refute it at one input. -/
def frameMakesWrong : ChangeSpec := { name := "frameMakes", fn := fun _ => fun
  | [d1, d2] => { results := [.lit (.bool false)], args := [d1, d2] }
  | _ => none }
def FrameMakesWrongFalsely : Prop := frameMakesRow.holds Tryd.pinned (OpenSpec.ofChange frameMakesWrong)

/-- 'bruitlaw06.FrameLong': WHATEVER THE INPUT: true; the input reads as it did. -/
def frameLongSpec : ChangeSpec := { name := "frameLong", fn := fun _ => fun
  | [d1, d2] => { results := [.lit (.bool true)], args := [d1, d2] }
  | _ => none }
def frameLongRow : OpenClaim := { program := "ytmkbkophpmkcbaadoor", sum := "bd5380bce842c1a301337f39446e6379a5f8f815eee1683c2d4d2144474dac04", func := "bruit/bruitlaw06.FrameLong", spec := "frameLong", named := ["bruit/crc.four"], apart := false, laid := [("bruit/crc.four", laid_bruit_crc_four)] }
def FrameLongSaid : Prop := frameLongRow.holds Tryd.pinned (OpenSpec.ofChange frameLongSpec)

/-- ITS FALSE NEIGHBOUR: 'it returns false'. Refute it at one input. -/
def frameLongWrong : ChangeSpec := { name := "frameLong", fn := fun _ => fun
  | [d1, d2] => { results := [.lit (.bool false)], args := [d1, d2] }
  | _ => none }
def FrameLongWrongFalsely : Prop := frameLongRow.holds Tryd.pinned (OpenSpec.ofChange frameLongWrong)

/-- 'bruitlaw06.FrameTakes': WHATEVER THE INPUT: true; the input reads as it did. -/
def frameTakesSpec : ChangeSpec := { name := "frameTakes", fn := fun _ => fun
  | [d] => { results := [.lit (.bool true)], args := [d] }
  | _ => none }
def frameTakesRow : OpenClaim := { program := "ytmkbkophpmkcbaadoor", sum := "bd5380bce842c1a301337f39446e6379a5f8f815eee1683c2d4d2144474dac04", func := "bruit/bruitlaw06.FrameTakes", spec := "frameTakes", named := ["bruit/crc.four"], apart := false, laid := [("bruit/crc.four", laid_bruit_crc_four)] }
def FrameTakesSaid : Prop := frameTakesRow.holds Tryd.pinned (OpenSpec.ofChange frameTakesSpec)

/-- ITS FALSE NEIGHBOUR: 'it returns false'. Refute it at one input. -/
def frameTakesWrong : ChangeSpec := { name := "frameTakes", fn := fun _ => fun
  | [d] => { results := [.lit (.bool false)], args := [d] }
  | _ => none }
def FrameTakesWrongFalsely : Prop := frameTakesRow.holds Tryd.pinned (OpenSpec.ofChange frameTakesWrong)

/-- 'bruitlaw06.FrameCuts': WHATEVER THE INPUT: true; the input reads as it did. -/
def frameCutsSpec : ChangeSpec := { name := "frameCuts", fn := fun _ => fun
  | [d1, d2] => { results := [.lit (.bool true)], args := [d1, d2] }
  | _ => none }
def frameCutsRow : OpenClaim := { program := "ytmkbkophpmkcbaadoor", sum := "bd5380bce842c1a301337f39446e6379a5f8f815eee1683c2d4d2144474dac04", func := "bruit/bruitlaw06.FrameCuts", spec := "frameCuts", named := ["bruit/crc.four"], apart := false, laid := [("bruit/crc.four", laid_bruit_crc_four)] }
def FrameCutsSaid : Prop := frameCutsRow.holds Tryd.pinned (OpenSpec.ofChange frameCutsSpec)

/-- ITS FALSE NEIGHBOUR: 'it returns false'. Refute it at one input. -/
def frameCutsWrong : ChangeSpec := { name := "frameCuts", fn := fun _ => fun
  | [d1, d2] => { results := [.lit (.bool false)], args := [d1, d2] }
  | _ => none }
def FrameCutsWrongFalsely : Prop := frameCutsRow.holds Tryd.pinned (OpenSpec.ofChange frameCutsWrong)

/- THE SECOND FORM. 'bulk': how many values and letters a reading holds, each counted each time it is reached (what is shared counts as often as it is met; a slice's spare places count too). A statement '..UptoSaid' is the law's where the arguments, and the package variables that the reading takes, are together of bulk at most 1048576: NARROWER than '..Said'. Prove '..Said' where nothing that the law and all that it calls make is longer than what came in: it says more and counts as full. Else prove '..UptoSaid'. A law counts once. -/
mutual
def uptoBulk {H : Type} : DataW H → Nat
  | .lit (.string bytes) => bytes.length + 1
  | .lit _ => 1
  | .nil => 1
  | .ptr d => uptoBulk d + 1
  | .slice elems spare => uptoBulkAll elems + uptoBulkAll spare + 1
  | .agg parts => uptoBulkAll parts + 1
  | .iface _ d => uptoBulk d + 1
  | .map entries => uptoBulkEntries entries + 1
  | .held _ => 1
def uptoBulkAll {H : Type} : List (DataW H) → Nat
  | [] => 0
  | d :: r => uptoBulk d + uptoBulkAll r
def uptoBulkEntries {H : Type} : List (Lit × DataW H) → Nat
  | [] => 0
  | x :: r => uptoBulkEntry x + uptoBulkEntries r
def uptoBulkEntry {H : Type} : Lit × DataW H → Nat
  | (.string bytes, d) => bytes.length + uptoBulk d + 1
  | (_, d) => uptoBulk d + 1
 end
def uptoSmall : (H : Type) → List (DataW H) → Bool := fun _ ds => decide (uptoBulkAll ds ≤ 1048576)
def OpenSpec.upto (s : _root_.Go.ChangeSpec) : _root_.Go.OpenSpec := { _root_.Go.OpenSpec.ofChange s with cond := some uptoSmall }

/-- 'bruitlaw02.CrcSums', WHERE WHAT IT READS IS OF BULK AT MOST 1048576: true; the input reads as it did. -/
def crcSumsUptoRow : OpenClaim := { program := "ytmkbkophpmkcbaadoor", sum := "bd5380bce842c1a301337f39446e6379a5f8f815eee1683c2d4d2144474dac04", func := "bruit/bruitlaw02.CrcSums", spec := "crcSums", named := ["bruit/crc.four"], apart := false, laid := [("bruit/crc.four", laid_bruit_crc_four)], narrowed := true }
def CrcSumsUptoSaid : Prop := crcSumsUptoRow.holds Tryd.pinned (OpenSpec.upto crcSumsSpec)

/-- 'bruitlaw02.CrcParts', WHERE WHAT IT READS IS OF BULK AT MOST 1048576: true; the input reads as it did. -/
def crcPartsUptoRow : OpenClaim := { program := "ytmkbkophpmkcbaadoor", sum := "bd5380bce842c1a301337f39446e6379a5f8f815eee1683c2d4d2144474dac04", func := "bruit/bruitlaw02.CrcParts", spec := "crcParts", named := ["bruit/crc.four"], apart := false, laid := [("bruit/crc.four", laid_bruit_crc_four)], narrowed := true }
def CrcPartsUptoSaid : Prop := crcPartsUptoRow.holds Tryd.pinned (OpenSpec.upto crcPartsSpec)

/-- 'bruitlaw02.CrcBursts', WHERE WHAT IT READS IS OF BULK AT MOST 1048576: true; the input reads as it did. -/
def crcBurstsUptoRow : OpenClaim := { program := "ytmkbkophpmkcbaadoor", sum := "bd5380bce842c1a301337f39446e6379a5f8f815eee1683c2d4d2144474dac04", func := "bruit/bruitlaw02.CrcBursts", spec := "crcBursts", named := ["bruit/crc.four"], apart := false, laid := [("bruit/crc.four", laid_bruit_crc_four)], narrowed := true }
def CrcBurstsUptoSaid : Prop := crcBurstsUptoRow.holds Tryd.pinned (OpenSpec.upto crcBurstsSpec)

/-- 'bruitlaw02.CrcThree', WHERE WHAT IT READS IS OF BULK AT MOST 1048576: true; the input reads as it did. -/
def crcThreeUptoRow : OpenClaim := { program := "ytmkbkophpmkcbaadoor", sum := "bd5380bce842c1a301337f39446e6379a5f8f815eee1683c2d4d2144474dac04", func := "bruit/bruitlaw02.CrcThree", spec := "crcThree", named := ["bruit/crc.four"], apart := false, laid := [("bruit/crc.four", laid_bruit_crc_four)], narrowed := true }
def CrcThreeUptoSaid : Prop := crcThreeUptoRow.holds Tryd.pinned (OpenSpec.upto crcThreeSpec)

/-- 'bruitlaw05.SealSays', WHERE WHAT IT READS IS OF BULK AT MOST 1048576: true; the input reads as it did. -/
def sealSaysUptoRow : OpenClaim := { program := "ytmkbkophpmkcbaadoor", sum := "bd5380bce842c1a301337f39446e6379a5f8f815eee1683c2d4d2144474dac04", func := "bruit/bruitlaw05.SealSays", spec := "sealSays", named := ["bruit/crc.four"], apart := false, laid := [("bruit/crc.four", laid_bruit_crc_four)], narrowed := true }
def SealSaysUptoSaid : Prop := sealSaysUptoRow.holds Tryd.pinned (OpenSpec.upto sealSaysSpec)

/-- 'bruitlaw05.SealSpoils', WHERE WHAT IT READS IS OF BULK AT MOST 1048576: true; the input reads as it did. -/
def sealSpoilsUptoRow : OpenClaim := { program := "ytmkbkophpmkcbaadoor", sum := "bd5380bce842c1a301337f39446e6379a5f8f815eee1683c2d4d2144474dac04", func := "bruit/bruitlaw05.SealSpoils", spec := "sealSpoils", named := ["bruit/crc.four"], apart := false, laid := [("bruit/crc.four", laid_bruit_crc_four)], narrowed := true }
def SealSpoilsUptoSaid : Prop := sealSpoilsUptoRow.holds Tryd.pinned (OpenSpec.upto sealSpoilsSpec)

/-- 'bruitlaw05.SealBack', WHERE WHAT IT READS IS OF BULK AT MOST 1048576: true; the input reads as it did. -/
def sealBackUptoRow : OpenClaim := { program := "ytmkbkophpmkcbaadoor", sum := "bd5380bce842c1a301337f39446e6379a5f8f815eee1683c2d4d2144474dac04", func := "bruit/bruitlaw05.SealBack", spec := "sealBack", named := ["bruit/crc.four"], apart := false, laid := [("bruit/crc.four", laid_bruit_crc_four)], narrowed := true }
def SealBackUptoSaid : Prop := sealBackUptoRow.holds Tryd.pinned (OpenSpec.upto sealBackSpec)

/-- 'bruitlaw05.SealBursts', WHERE WHAT IT READS IS OF BULK AT MOST 1048576: true; the input reads as it did. -/
def sealBurstsUptoRow : OpenClaim := { program := "ytmkbkophpmkcbaadoor", sum := "bd5380bce842c1a301337f39446e6379a5f8f815eee1683c2d4d2144474dac04", func := "bruit/bruitlaw05.SealBursts", spec := "sealBursts", named := ["bruit/crc.four"], apart := false, laid := [("bruit/crc.four", laid_bruit_crc_four)], narrowed := true }
def SealBurstsUptoSaid : Prop := sealBurstsUptoRow.holds Tryd.pinned (OpenSpec.upto sealBurstsSpec)

/-- 'bruitlaw06.FrameMakes', WHERE WHAT IT READS IS OF BULK AT MOST 1048576: true; the input reads as it did. -/
def frameMakesUptoRow : OpenClaim := { program := "ytmkbkophpmkcbaadoor", sum := "bd5380bce842c1a301337f39446e6379a5f8f815eee1683c2d4d2144474dac04", func := "bruit/bruitlaw06.FrameMakes", spec := "frameMakes", named := ["bruit/crc.four"], apart := false, laid := [("bruit/crc.four", laid_bruit_crc_four)], narrowed := true }
def FrameMakesUptoSaid : Prop := frameMakesUptoRow.holds Tryd.pinned (OpenSpec.upto frameMakesSpec)

/-- 'bruitlaw06.FrameLong', WHERE WHAT IT READS IS OF BULK AT MOST 1048576: true; the input reads as it did. -/
def frameLongUptoRow : OpenClaim := { program := "ytmkbkophpmkcbaadoor", sum := "bd5380bce842c1a301337f39446e6379a5f8f815eee1683c2d4d2144474dac04", func := "bruit/bruitlaw06.FrameLong", spec := "frameLong", named := ["bruit/crc.four"], apart := false, laid := [("bruit/crc.four", laid_bruit_crc_four)], narrowed := true }
def FrameLongUptoSaid : Prop := frameLongUptoRow.holds Tryd.pinned (OpenSpec.upto frameLongSpec)

/-- 'bruitlaw06.FrameTakes', WHERE WHAT IT READS IS OF BULK AT MOST 1048576: true; the input reads as it did. -/
def frameTakesUptoRow : OpenClaim := { program := "ytmkbkophpmkcbaadoor", sum := "bd5380bce842c1a301337f39446e6379a5f8f815eee1683c2d4d2144474dac04", func := "bruit/bruitlaw06.FrameTakes", spec := "frameTakes", named := ["bruit/crc.four"], apart := false, laid := [("bruit/crc.four", laid_bruit_crc_four)], narrowed := true }
def FrameTakesUptoSaid : Prop := frameTakesUptoRow.holds Tryd.pinned (OpenSpec.upto frameTakesSpec)

/-- 'bruitlaw06.FrameCuts', WHERE WHAT IT READS IS OF BULK AT MOST 1048576: true; the input reads as it did. -/
def frameCutsUptoRow : OpenClaim := { program := "ytmkbkophpmkcbaadoor", sum := "bd5380bce842c1a301337f39446e6379a5f8f815eee1683c2d4d2144474dac04", func := "bruit/bruitlaw06.FrameCuts", spec := "frameCuts", named := ["bruit/crc.four"], apart := false, laid := [("bruit/crc.four", laid_bruit_crc_four)], narrowed := true }
def FrameCutsUptoSaid : Prop := frameCutsUptoRow.holds Tryd.pinned (OpenSpec.upto frameCutsSpec)

end Rows
end Go.Proofs.YtmkbkophpmkcbaaDoor
