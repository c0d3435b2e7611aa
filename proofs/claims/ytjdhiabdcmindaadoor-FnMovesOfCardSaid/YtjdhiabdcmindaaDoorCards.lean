/-
  DERIVED. GIVEN WITH THE SEED: THE CARDS: each row of YtjdhiabdcmindaaDoorRows.lean that lists a variable, with what it lists TIED to the program's text (the seventh form; the later family's looks); each row that meets fmt, with fmt's text TOLD by the authors' own Lean function (tested against real Go, not proved from fmt's source: count such statements apart). THE CARD IS WHAT COUNTS. Prove the row's statement (the work); the ties are given (YtjdhiabdcmindaaDoorTie.lean); close each card by the builder's one call (the guide's Derived/Test/ToyasCard.lean, 'card_holds'). Laid BY PROGRAM, IN A SANDBOX (cutbox-door.mjs). By AI agents, Wed Nov 11 2026. No macro, syntax, notation, axiom, sorry.
-/
import Derived.Test.YtjdhiabdcmindaaDoorRows
import GoSem.ClaimSeven
namespace Go.Proofs.YtjdhiabdcmindaaDoor
namespace Rows

/-- THE TIED CARD OF 'laws.FnPlanBegin'. -/
def fnPlanBeginCard : Claim7 := { stood := { row := fnPlanBeginRow, standIns := [], harness := (true, "2dbd72c6cf995f67d95b2e4dd85f8b55a6496410fbfd30b04e36acda04d28322"), looks := true }, kinds := [], alts := [], laidByText := true, laidKinds := [.sentinel], laidTests := true, laidLooks := .later }
def FnPlanBeginCardSaid : Prop := Claim7.holds Tryd.pinned (.plain (OpenSpec.ofChange fnPlanBeginSpec)) fnPlanBeginCard

/-- THE TIED CARD OF 'laws.FnNext'. -/
def fnNextCard : Claim7 := { stood := { row := fnNextRow, standIns := [], harness := (true, "2dbd72c6cf995f67d95b2e4dd85f8b55a6496410fbfd30b04e36acda04d28322"), looks := true }, kinds := [], alts := [], laidByText := true, laidKinds := [.sentinel], laidTests := true, laidLooks := .later }
def FnNextCardSaid : Prop := Claim7.holds Tryd.pinned (.plain (OpenSpec.ofChange fnNextSpec)) fnNextCard

/-- THE TIED CARD OF 'laws.FnMovesOf'. -/
def fnMovesOfCard : Claim7 := { stood := { row := fnMovesOfRow, standIns := [], harness := (true, "2dbd72c6cf995f67d95b2e4dd85f8b55a6496410fbfd30b04e36acda04d28322"), looks := true }, kinds := [], alts := [], laidByText := true, laidKinds := [.sentinel], laidTests := true, laidLooks := .later }
def FnMovesOfCardSaid : Prop := Claim7.holds Tryd.pinned (.plain (OpenSpec.ofChange fnMovesOfSpec)) fnMovesOfCard

/-- THE SECOND FORM's CARD OF 'laws.FnPlanBegin'. -/
def fnPlanBeginUptoCard : Claim7 := { stood := { row := fnPlanBeginUptoRow, standIns := [], harness := (true, "2dbd72c6cf995f67d95b2e4dd85f8b55a6496410fbfd30b04e36acda04d28322"), looks := true }, kinds := [], alts := [], laidByText := true, laidKinds := [.sentinel], laidTests := true, laidLooks := .later }
def FnPlanBeginUptoCardSaid : Prop := Claim7.holds Tryd.pinned (.plain (OpenSpec.upto fnPlanBeginSpec)) fnPlanBeginUptoCard

/-- THE SECOND FORM's CARD OF 'laws.FnNext'. -/
def fnNextUptoCard : Claim7 := { stood := { row := fnNextUptoRow, standIns := [], harness := (true, "2dbd72c6cf995f67d95b2e4dd85f8b55a6496410fbfd30b04e36acda04d28322"), looks := true }, kinds := [], alts := [], laidByText := true, laidKinds := [.sentinel], laidTests := true, laidLooks := .later }
def FnNextUptoCardSaid : Prop := Claim7.holds Tryd.pinned (.plain (OpenSpec.upto fnNextSpec)) fnNextUptoCard

/-- THE SECOND FORM's CARD OF 'laws.FnMovesOf'. -/
def fnMovesOfUptoCard : Claim7 := { stood := { row := fnMovesOfUptoRow, standIns := [], harness := (true, "2dbd72c6cf995f67d95b2e4dd85f8b55a6496410fbfd30b04e36acda04d28322"), looks := true }, kinds := [], alts := [], laidByText := true, laidKinds := [.sentinel], laidTests := true, laidLooks := .later }
def FnMovesOfUptoCardSaid : Prop := Claim7.holds Tryd.pinned (.plain (OpenSpec.upto fnMovesOfSpec)) fnMovesOfUptoCard
end Rows
end Go.Proofs.YtjdhiabdcmindaaDoor
