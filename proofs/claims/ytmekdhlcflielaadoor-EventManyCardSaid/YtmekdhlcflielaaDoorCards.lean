/-
  DERIVED. GIVEN WITH THE SEED: THE CARDS: each row of YtmekdhlcflielaaDoorRows.lean that lists a variable, with what it lists TIED to the program's text (the seventh form; the later family's looks); each row that meets fmt, with fmt's text TOLD by the authors' own Lean function (tested against real Go, not proved from fmt's source: count such statements apart). THE CARD IS WHAT COUNTS. Prove the row's statement (the work); the ties are given (YtmekdhlcflielaaDoorTie.lean); close each card by the builder's one call (the guide's Derived/Test/ToyasCard.lean, 'card_holds'). Laid BY PROGRAM, IN A SANDBOX (cutbox-door.mjs). By AI agents, Wed Nov 11 2026. No macro, syntax, notation, axiom, sorry.
-/
import Derived.Test.YtmekdhlcflielaaDoorRows
import GoSem.ClaimSeven
namespace Go.Proofs.YtmekdhlcflielaaDoor
namespace Rows

/-- THE TIED CARD OF 'bruitlaw39.EventBytes'. -/
def eventBytesCard : Claim7 := { stood := { row := eventBytesRow, standIns := [], harness := (true, "3364c26f41c556be8b392ee038f67e3d25c2e5af00bcac75dd62a264180ec35b"), looks := false }, kinds := [], alts := [], laidByText := true, laidKinds := [.data], laidTests := true, laidLooks := .later }
def EventBytesCardSaid : Prop := Claim7.holds Tryd.pinned (.plain (OpenSpec.ofChange eventBytesSpec)) eventBytesCard

/-- THE TIED CARD OF 'bruitlaw39.EventBack'. -/
def eventBackCard : Claim7 := { stood := { row := eventBackRow, standIns := [], harness := (true, "3364c26f41c556be8b392ee038f67e3d25c2e5af00bcac75dd62a264180ec35b"), looks := false }, kinds := [], alts := [], laidByText := true, laidKinds := [.data], laidTests := true, laidLooks := .later }
def EventBackCardSaid : Prop := Claim7.holds Tryd.pinned (.plain (OpenSpec.ofChange eventBackSpec)) eventBackCard

/-- THE TIED CARD OF 'bruitlaw39.EventMany'. -/
def eventManyCard : Claim7 := { stood := { row := eventManyRow, standIns := [], harness := (true, "3364c26f41c556be8b392ee038f67e3d25c2e5af00bcac75dd62a264180ec35b"), looks := false }, kinds := [], alts := [], laidByText := true, laidKinds := [.data], laidTests := true, laidLooks := .later }
def EventManyCardSaid : Prop := Claim7.holds Tryd.pinned (.plain (OpenSpec.ofChange eventManySpec)) eventManyCard

/-- THE TIED CARD OF 'bruitlaw39.EventGood'. -/
def eventGoodCard : Claim7 := { stood := { row := eventGoodRow, standIns := [], harness := (true, "3364c26f41c556be8b392ee038f67e3d25c2e5af00bcac75dd62a264180ec35b"), looks := false }, kinds := [], alts := [], laidByText := true, laidKinds := [.data], laidTests := true, laidLooks := .later }
def EventGoodCardSaid : Prop := Claim7.holds Tryd.pinned (.plain (OpenSpec.ofChange eventGoodSpec)) eventGoodCard

/-- THE SECOND FORM's CARD OF 'bruitlaw39.EventBytes'. -/
def eventBytesUptoCard : Claim7 := { stood := { row := eventBytesUptoRow, standIns := [], harness := (true, "3364c26f41c556be8b392ee038f67e3d25c2e5af00bcac75dd62a264180ec35b"), looks := false }, kinds := [], alts := [], laidByText := true, laidKinds := [.data], laidTests := true, laidLooks := .later }
def EventBytesUptoCardSaid : Prop := Claim7.holds Tryd.pinned (.plain (OpenSpec.upto eventBytesSpec)) eventBytesUptoCard

/-- THE SECOND FORM's CARD OF 'bruitlaw39.EventBack'. -/
def eventBackUptoCard : Claim7 := { stood := { row := eventBackUptoRow, standIns := [], harness := (true, "3364c26f41c556be8b392ee038f67e3d25c2e5af00bcac75dd62a264180ec35b"), looks := false }, kinds := [], alts := [], laidByText := true, laidKinds := [.data], laidTests := true, laidLooks := .later }
def EventBackUptoCardSaid : Prop := Claim7.holds Tryd.pinned (.plain (OpenSpec.upto eventBackSpec)) eventBackUptoCard

/-- THE SECOND FORM's CARD OF 'bruitlaw39.EventMany'. -/
def eventManyUptoCard : Claim7 := { stood := { row := eventManyUptoRow, standIns := [], harness := (true, "3364c26f41c556be8b392ee038f67e3d25c2e5af00bcac75dd62a264180ec35b"), looks := false }, kinds := [], alts := [], laidByText := true, laidKinds := [.data], laidTests := true, laidLooks := .later }
def EventManyUptoCardSaid : Prop := Claim7.holds Tryd.pinned (.plain (OpenSpec.upto eventManySpec)) eventManyUptoCard

/-- THE SECOND FORM's CARD OF 'bruitlaw39.EventGood'. -/
def eventGoodUptoCard : Claim7 := { stood := { row := eventGoodUptoRow, standIns := [], harness := (true, "3364c26f41c556be8b392ee038f67e3d25c2e5af00bcac75dd62a264180ec35b"), looks := false }, kinds := [], alts := [], laidByText := true, laidKinds := [.data], laidTests := true, laidLooks := .later }
def EventGoodUptoCardSaid : Prop := Claim7.holds Tryd.pinned (.plain (OpenSpec.upto eventGoodSpec)) eventGoodUptoCard
end Rows
end Go.Proofs.YtmekdhlcflielaaDoor
