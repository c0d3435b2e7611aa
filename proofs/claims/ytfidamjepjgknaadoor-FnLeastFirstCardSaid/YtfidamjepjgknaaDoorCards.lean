/-
  DERIVED. GIVEN WITH THE SEED: THE CARDS: each row of YtfidamjepjgknaaDoorRows.lean that lists a variable, with what it lists TIED to the program's text (the seventh form; the later family's looks); each row that meets fmt, with fmt's text TOLD by the authors' own Lean function (tested against real Go, not proved from fmt's source: count such statements apart). THE CARD IS WHAT COUNTS. Prove the row's statement (the work); the ties are given (YtfidamjepjgknaaDoorTie.lean); close each card by the builder's one call (the guide's Derived/Test/ToyasCard.lean, 'card_holds'). Laid BY PROGRAM, IN A SANDBOX (cutbox-door.mjs). By AI agents, Wed Nov 11 2026. No macro, syntax, notation, axiom, sorry.
-/
import Derived.Test.YtfidamjepjgknaaDoorRows
import GoSem.ClaimSeven
namespace Go.Proofs.YtfidamjepjgknaaDoor
namespace Rows

/-- THE TIED CARD OF 'laws.FnLeastFirst'. -/
def fnLeastFirstCard : Claim7 := { stood := { row := fnLeastFirstRow, standIns := [], harness := (true, "abab70b8df81c15f50479a6daeabad247db9f8a1afa79a5b9148127b102e1367"), looks := false }, kinds := [], alts := [], laidByText := true, laidKinds := [.data, .data], laidTests := true, laidLooks := .later }
def FnLeastFirstCardSaid : Prop := Claim7.holds Tryd.pinned (.plain (OpenSpec.ofChange fnLeastFirstSpec)) fnLeastFirstCard

/-- THE SECOND FORM's CARD OF 'laws.FnLeastFirst'. -/
def fnLeastFirstUptoCard : Claim7 := { stood := { row := fnLeastFirstUptoRow, standIns := [], harness := (true, "abab70b8df81c15f50479a6daeabad247db9f8a1afa79a5b9148127b102e1367"), looks := false }, kinds := [], alts := [], laidByText := true, laidKinds := [.data, .data], laidTests := true, laidLooks := .later }
def FnLeastFirstUptoCardSaid : Prop := Claim7.holds Tryd.pinned (.plain (OpenSpec.upto fnLeastFirstSpec)) fnLeastFirstUptoCard
end Rows
end Go.Proofs.YtfidamjepjgknaaDoor
