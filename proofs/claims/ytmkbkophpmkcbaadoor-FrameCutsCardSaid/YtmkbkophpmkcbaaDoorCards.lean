/-
  DERIVED. GIVEN WITH THE SEED: THE CARDS: each row of YtmkbkophpmkcbaaDoorRows.lean that lists a variable, with what it lists TIED to the program's text (the seventh form; the later family's looks); each row that meets fmt, with fmt's text TOLD by the authors' own Lean function (tested against real Go, not proved from fmt's source: count such statements apart). THE CARD IS WHAT COUNTS. Prove the row's statement (the work); the ties are given (YtmkbkophpmkcbaaDoorTie.lean); close each card by the builder's one call (the guide's Derived/Test/ToyasCard.lean, 'card_holds'). Laid BY PROGRAM, IN A SANDBOX (cutbox-door.mjs). By AI agents, Wed Nov 11 2026. No macro, syntax, notation, axiom, sorry.
-/
import Derived.Test.YtmkbkophpmkcbaaDoorRows
import GoSem.ClaimSeven
namespace Go.Proofs.YtmkbkophpmkcbaaDoor
namespace Rows

/-- THE TIED CARD OF 'bruitlaw02.CrcSums'. -/
def crcSumsCard : Claim7 := { stood := { row := crcSumsRow, standIns := [], harness := (true, "1b03f6321fa0ff5186ee839f43d9e750ba116d6a78d0b9419226440ef4d87e5b"), looks := false }, kinds := [], alts := [], laidByText := true, laidKinds := [.data], laidTests := true, laidLooks := .later }
def CrcSumsCardSaid : Prop := Claim7.holds Tryd.pinned (.plain (OpenSpec.ofChange crcSumsSpec)) crcSumsCard

/-- THE TIED CARD OF 'bruitlaw02.CrcParts'. -/
def crcPartsCard : Claim7 := { stood := { row := crcPartsRow, standIns := [], harness := (true, "1b03f6321fa0ff5186ee839f43d9e750ba116d6a78d0b9419226440ef4d87e5b"), looks := false }, kinds := [], alts := [], laidByText := true, laidKinds := [.data], laidTests := true, laidLooks := .later }
def CrcPartsCardSaid : Prop := Claim7.holds Tryd.pinned (.plain (OpenSpec.ofChange crcPartsSpec)) crcPartsCard

/-- THE TIED CARD OF 'bruitlaw02.CrcBursts'. -/
def crcBurstsCard : Claim7 := { stood := { row := crcBurstsRow, standIns := [], harness := (true, "1b03f6321fa0ff5186ee839f43d9e750ba116d6a78d0b9419226440ef4d87e5b"), looks := false }, kinds := [], alts := [], laidByText := true, laidKinds := [.data], laidTests := true, laidLooks := .later }
def CrcBurstsCardSaid : Prop := Claim7.holds Tryd.pinned (.plain (OpenSpec.ofChange crcBurstsSpec)) crcBurstsCard

/-- THE TIED CARD OF 'bruitlaw02.CrcThree'. -/
def crcThreeCard : Claim7 := { stood := { row := crcThreeRow, standIns := [], harness := (true, "1b03f6321fa0ff5186ee839f43d9e750ba116d6a78d0b9419226440ef4d87e5b"), looks := false }, kinds := [], alts := [], laidByText := true, laidKinds := [.data], laidTests := true, laidLooks := .later }
def CrcThreeCardSaid : Prop := Claim7.holds Tryd.pinned (.plain (OpenSpec.ofChange crcThreeSpec)) crcThreeCard

/-- THE TIED CARD OF 'bruitlaw05.SealSays'. -/
def sealSaysCard : Claim7 := { stood := { row := sealSaysRow, standIns := [], harness := (true, "1b03f6321fa0ff5186ee839f43d9e750ba116d6a78d0b9419226440ef4d87e5b"), looks := false }, kinds := [], alts := [], laidByText := true, laidKinds := [.data], laidTests := true, laidLooks := .later }
def SealSaysCardSaid : Prop := Claim7.holds Tryd.pinned (.plain (OpenSpec.ofChange sealSaysSpec)) sealSaysCard

/-- THE TIED CARD OF 'bruitlaw05.SealSpoils'. -/
def sealSpoilsCard : Claim7 := { stood := { row := sealSpoilsRow, standIns := [], harness := (true, "1b03f6321fa0ff5186ee839f43d9e750ba116d6a78d0b9419226440ef4d87e5b"), looks := false }, kinds := [], alts := [], laidByText := true, laidKinds := [.data], laidTests := true, laidLooks := .later }
def SealSpoilsCardSaid : Prop := Claim7.holds Tryd.pinned (.plain (OpenSpec.ofChange sealSpoilsSpec)) sealSpoilsCard

/-- THE TIED CARD OF 'bruitlaw05.SealBack'. -/
def sealBackCard : Claim7 := { stood := { row := sealBackRow, standIns := [], harness := (true, "1b03f6321fa0ff5186ee839f43d9e750ba116d6a78d0b9419226440ef4d87e5b"), looks := false }, kinds := [], alts := [], laidByText := true, laidKinds := [.data], laidTests := true, laidLooks := .later }
def SealBackCardSaid : Prop := Claim7.holds Tryd.pinned (.plain (OpenSpec.ofChange sealBackSpec)) sealBackCard

/-- THE TIED CARD OF 'bruitlaw05.SealBursts'. -/
def sealBurstsCard : Claim7 := { stood := { row := sealBurstsRow, standIns := [], harness := (true, "1b03f6321fa0ff5186ee839f43d9e750ba116d6a78d0b9419226440ef4d87e5b"), looks := false }, kinds := [], alts := [], laidByText := true, laidKinds := [.data], laidTests := true, laidLooks := .later }
def SealBurstsCardSaid : Prop := Claim7.holds Tryd.pinned (.plain (OpenSpec.ofChange sealBurstsSpec)) sealBurstsCard

/-- THE TIED CARD OF 'bruitlaw06.FrameMakes'. -/
def frameMakesCard : Claim7 := { stood := { row := frameMakesRow, standIns := [], harness := (true, "1b03f6321fa0ff5186ee839f43d9e750ba116d6a78d0b9419226440ef4d87e5b"), looks := false }, kinds := [], alts := [], laidByText := true, laidKinds := [.data], laidTests := true, laidLooks := .later }
def FrameMakesCardSaid : Prop := Claim7.holds Tryd.pinned (.plain (OpenSpec.ofChange frameMakesSpec)) frameMakesCard

/-- THE TIED CARD OF 'bruitlaw06.FrameLong'. -/
def frameLongCard : Claim7 := { stood := { row := frameLongRow, standIns := [], harness := (true, "1b03f6321fa0ff5186ee839f43d9e750ba116d6a78d0b9419226440ef4d87e5b"), looks := false }, kinds := [], alts := [], laidByText := true, laidKinds := [.data], laidTests := true, laidLooks := .later }
def FrameLongCardSaid : Prop := Claim7.holds Tryd.pinned (.plain (OpenSpec.ofChange frameLongSpec)) frameLongCard

/-- THE TIED CARD OF 'bruitlaw06.FrameTakes'. -/
def frameTakesCard : Claim7 := { stood := { row := frameTakesRow, standIns := [], harness := (true, "1b03f6321fa0ff5186ee839f43d9e750ba116d6a78d0b9419226440ef4d87e5b"), looks := false }, kinds := [], alts := [], laidByText := true, laidKinds := [.data], laidTests := true, laidLooks := .later }
def FrameTakesCardSaid : Prop := Claim7.holds Tryd.pinned (.plain (OpenSpec.ofChange frameTakesSpec)) frameTakesCard

/-- THE TIED CARD OF 'bruitlaw06.FrameCuts'. -/
def frameCutsCard : Claim7 := { stood := { row := frameCutsRow, standIns := [], harness := (true, "1b03f6321fa0ff5186ee839f43d9e750ba116d6a78d0b9419226440ef4d87e5b"), looks := false }, kinds := [], alts := [], laidByText := true, laidKinds := [.data], laidTests := true, laidLooks := .later }
def FrameCutsCardSaid : Prop := Claim7.holds Tryd.pinned (.plain (OpenSpec.ofChange frameCutsSpec)) frameCutsCard

/-- THE SECOND FORM's CARD OF 'bruitlaw02.CrcSums'. -/
def crcSumsUptoCard : Claim7 := { stood := { row := crcSumsUptoRow, standIns := [], harness := (true, "1b03f6321fa0ff5186ee839f43d9e750ba116d6a78d0b9419226440ef4d87e5b"), looks := false }, kinds := [], alts := [], laidByText := true, laidKinds := [.data], laidTests := true, laidLooks := .later }
def CrcSumsUptoCardSaid : Prop := Claim7.holds Tryd.pinned (.plain (OpenSpec.upto crcSumsSpec)) crcSumsUptoCard

/-- THE SECOND FORM's CARD OF 'bruitlaw02.CrcParts'. -/
def crcPartsUptoCard : Claim7 := { stood := { row := crcPartsUptoRow, standIns := [], harness := (true, "1b03f6321fa0ff5186ee839f43d9e750ba116d6a78d0b9419226440ef4d87e5b"), looks := false }, kinds := [], alts := [], laidByText := true, laidKinds := [.data], laidTests := true, laidLooks := .later }
def CrcPartsUptoCardSaid : Prop := Claim7.holds Tryd.pinned (.plain (OpenSpec.upto crcPartsSpec)) crcPartsUptoCard

/-- THE SECOND FORM's CARD OF 'bruitlaw02.CrcBursts'. -/
def crcBurstsUptoCard : Claim7 := { stood := { row := crcBurstsUptoRow, standIns := [], harness := (true, "1b03f6321fa0ff5186ee839f43d9e750ba116d6a78d0b9419226440ef4d87e5b"), looks := false }, kinds := [], alts := [], laidByText := true, laidKinds := [.data], laidTests := true, laidLooks := .later }
def CrcBurstsUptoCardSaid : Prop := Claim7.holds Tryd.pinned (.plain (OpenSpec.upto crcBurstsSpec)) crcBurstsUptoCard

/-- THE SECOND FORM's CARD OF 'bruitlaw02.CrcThree'. -/
def crcThreeUptoCard : Claim7 := { stood := { row := crcThreeUptoRow, standIns := [], harness := (true, "1b03f6321fa0ff5186ee839f43d9e750ba116d6a78d0b9419226440ef4d87e5b"), looks := false }, kinds := [], alts := [], laidByText := true, laidKinds := [.data], laidTests := true, laidLooks := .later }
def CrcThreeUptoCardSaid : Prop := Claim7.holds Tryd.pinned (.plain (OpenSpec.upto crcThreeSpec)) crcThreeUptoCard

/-- THE SECOND FORM's CARD OF 'bruitlaw05.SealSays'. -/
def sealSaysUptoCard : Claim7 := { stood := { row := sealSaysUptoRow, standIns := [], harness := (true, "1b03f6321fa0ff5186ee839f43d9e750ba116d6a78d0b9419226440ef4d87e5b"), looks := false }, kinds := [], alts := [], laidByText := true, laidKinds := [.data], laidTests := true, laidLooks := .later }
def SealSaysUptoCardSaid : Prop := Claim7.holds Tryd.pinned (.plain (OpenSpec.upto sealSaysSpec)) sealSaysUptoCard

/-- THE SECOND FORM's CARD OF 'bruitlaw05.SealSpoils'. -/
def sealSpoilsUptoCard : Claim7 := { stood := { row := sealSpoilsUptoRow, standIns := [], harness := (true, "1b03f6321fa0ff5186ee839f43d9e750ba116d6a78d0b9419226440ef4d87e5b"), looks := false }, kinds := [], alts := [], laidByText := true, laidKinds := [.data], laidTests := true, laidLooks := .later }
def SealSpoilsUptoCardSaid : Prop := Claim7.holds Tryd.pinned (.plain (OpenSpec.upto sealSpoilsSpec)) sealSpoilsUptoCard

/-- THE SECOND FORM's CARD OF 'bruitlaw05.SealBack'. -/
def sealBackUptoCard : Claim7 := { stood := { row := sealBackUptoRow, standIns := [], harness := (true, "1b03f6321fa0ff5186ee839f43d9e750ba116d6a78d0b9419226440ef4d87e5b"), looks := false }, kinds := [], alts := [], laidByText := true, laidKinds := [.data], laidTests := true, laidLooks := .later }
def SealBackUptoCardSaid : Prop := Claim7.holds Tryd.pinned (.plain (OpenSpec.upto sealBackSpec)) sealBackUptoCard

/-- THE SECOND FORM's CARD OF 'bruitlaw05.SealBursts'. -/
def sealBurstsUptoCard : Claim7 := { stood := { row := sealBurstsUptoRow, standIns := [], harness := (true, "1b03f6321fa0ff5186ee839f43d9e750ba116d6a78d0b9419226440ef4d87e5b"), looks := false }, kinds := [], alts := [], laidByText := true, laidKinds := [.data], laidTests := true, laidLooks := .later }
def SealBurstsUptoCardSaid : Prop := Claim7.holds Tryd.pinned (.plain (OpenSpec.upto sealBurstsSpec)) sealBurstsUptoCard

/-- THE SECOND FORM's CARD OF 'bruitlaw06.FrameMakes'. -/
def frameMakesUptoCard : Claim7 := { stood := { row := frameMakesUptoRow, standIns := [], harness := (true, "1b03f6321fa0ff5186ee839f43d9e750ba116d6a78d0b9419226440ef4d87e5b"), looks := false }, kinds := [], alts := [], laidByText := true, laidKinds := [.data], laidTests := true, laidLooks := .later }
def FrameMakesUptoCardSaid : Prop := Claim7.holds Tryd.pinned (.plain (OpenSpec.upto frameMakesSpec)) frameMakesUptoCard

/-- THE SECOND FORM's CARD OF 'bruitlaw06.FrameLong'. -/
def frameLongUptoCard : Claim7 := { stood := { row := frameLongUptoRow, standIns := [], harness := (true, "1b03f6321fa0ff5186ee839f43d9e750ba116d6a78d0b9419226440ef4d87e5b"), looks := false }, kinds := [], alts := [], laidByText := true, laidKinds := [.data], laidTests := true, laidLooks := .later }
def FrameLongUptoCardSaid : Prop := Claim7.holds Tryd.pinned (.plain (OpenSpec.upto frameLongSpec)) frameLongUptoCard

/-- THE SECOND FORM's CARD OF 'bruitlaw06.FrameTakes'. -/
def frameTakesUptoCard : Claim7 := { stood := { row := frameTakesUptoRow, standIns := [], harness := (true, "1b03f6321fa0ff5186ee839f43d9e750ba116d6a78d0b9419226440ef4d87e5b"), looks := false }, kinds := [], alts := [], laidByText := true, laidKinds := [.data], laidTests := true, laidLooks := .later }
def FrameTakesUptoCardSaid : Prop := Claim7.holds Tryd.pinned (.plain (OpenSpec.upto frameTakesSpec)) frameTakesUptoCard

/-- THE SECOND FORM's CARD OF 'bruitlaw06.FrameCuts'. -/
def frameCutsUptoCard : Claim7 := { stood := { row := frameCutsUptoRow, standIns := [], harness := (true, "1b03f6321fa0ff5186ee839f43d9e750ba116d6a78d0b9419226440ef4d87e5b"), looks := false }, kinds := [], alts := [], laidByText := true, laidKinds := [.data], laidTests := true, laidLooks := .later }
def FrameCutsUptoCardSaid : Prop := Claim7.holds Tryd.pinned (.plain (OpenSpec.upto frameCutsSpec)) frameCutsUptoCard
end Rows
end Go.Proofs.YtmkbkophpmkcbaaDoor
