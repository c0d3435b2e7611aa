/-
  DERIVED. GIVEN WITH THE SEED: THE CARDS: each row of YtjdhiabdcmindabDoorRows.lean that lists a variable, with what it lists TIED to the program's text (the seventh form; the later family's looks); each row that meets fmt, with fmt's text TOLD by the authors' own Lean function (tested against real Go, not proved from fmt's source: count such statements apart). THE CARD IS WHAT COUNTS. Prove the row's statement (the work); the ties are given (YtjdhiabdcmindabDoorTie.lean); close each card by the builder's one call (the guide's Derived/Test/ToyasCard.lean, 'card_holds'). Laid BY PROGRAM, IN A SANDBOX (cutbox-door.mjs). By AI agents, Wed Nov 11 2026. No macro, syntax, notation, axiom, sorry.
-/
import Derived.Test.YtjdhiabdcmindabDoorRows
import GoSem.ClaimSeven
namespace Go.Proofs.YtjdhiabdcmindabDoor
namespace Rows

/-- THE TIED CARD OF 'laws.FnLeastMore'. -/
def fnLeastMoreCard : Claim7 := { stood := { row := fnLeastMoreRow, standIns := [], harness := (true, "7c2d2e6f8635c87518d4b8126ab836dccfd6665e5eb605f7fe770b1fbd15549d"), looks := false }, kinds := [], alts := [], laidByText := true, laidKinds := [.data, .data], laidTests := true, laidLooks := .later }
def FnLeastMoreCardSaid : Prop := Claim7.holds Tryd.pinned (.plain (OpenSpec.ofChange fnLeastMoreSpec)) fnLeastMoreCard

/-- THE TIED CARD OF 'laws.FnLeastOrder'. -/
def fnLeastOrderCard : Claim7 := { stood := { row := fnLeastOrderRow, standIns := [], harness := (true, "7c2d2e6f8635c87518d4b8126ab836dccfd6665e5eb605f7fe770b1fbd15549d"), looks := false }, kinds := [], alts := [], laidByText := true, laidKinds := [.data, .data], laidTests := true, laidLooks := .later }
def FnLeastOrderCardSaid : Prop := Claim7.holds Tryd.pinned (.plain (OpenSpec.ofChange fnLeastOrderSpec)) fnLeastOrderCard

/-- THE TIED CARD OF 'laws.FnLeastRoom'. -/
def fnLeastRoomCard : Claim7 := { stood := { row := fnLeastRoomRow, standIns := [], harness := (true, "7c2d2e6f8635c87518d4b8126ab836dccfd6665e5eb605f7fe770b1fbd15549d"), looks := false }, kinds := [], alts := [], laidByText := true, laidKinds := [.data, .data], laidTests := true, laidLooks := .later }
def FnLeastRoomCardSaid : Prop := Claim7.holds Tryd.pinned (.plain (OpenSpec.ofChange fnLeastRoomSpec)) fnLeastRoomCard

/-- THE TIED CARD OF 'laws.FnExactLeastCount'. -/
def fnExactLeastCountCard : Claim7 := { stood := { row := fnExactLeastCountRow, standIns := [], harness := (true, "7c2d2e6f8635c87518d4b8126ab836dccfd6665e5eb605f7fe770b1fbd15549d"), looks := false }, kinds := [], alts := [], laidByText := true, laidKinds := [.data, .data], laidTests := true, laidLooks := .later }
def FnExactLeastCountCardSaid : Prop := Claim7.holds Tryd.pinned (.plain (OpenSpec.ofChange fnExactLeastCountSpec)) fnExactLeastCountCard

/-- THE TIED CARD OF 'laws.FnLeastTwice'. -/
def fnLeastTwiceCard : Claim7 := { stood := { row := fnLeastTwiceRow, standIns := [], harness := (true, "7c2d2e6f8635c87518d4b8126ab836dccfd6665e5eb605f7fe770b1fbd15549d"), looks := false }, kinds := [], alts := [], laidByText := true, laidKinds := [.data, .data], laidTests := true, laidLooks := .later }
def FnLeastTwiceCardSaid : Prop := Claim7.holds Tryd.pinned (.plain (OpenSpec.ofChange fnLeastTwiceSpec)) fnLeastTwiceCard

/-- THE TIED CARD OF 'laws.FnLeastFirst'. -/
def fnLeastFirstCard : Claim7 := { stood := { row := fnLeastFirstRow, standIns := [], harness := (true, "7c2d2e6f8635c87518d4b8126ab836dccfd6665e5eb605f7fe770b1fbd15549d"), looks := false }, kinds := [], alts := [], laidByText := true, laidKinds := [.data, .data], laidTests := true, laidLooks := .later }
def FnLeastFirstCardSaid : Prop := Claim7.holds Tryd.pinned (.plain (OpenSpec.ofChange fnLeastFirstSpec)) fnLeastFirstCard

/-- THE SECOND FORM's CARD OF 'laws.FnLeastMore'. -/
def fnLeastMoreUptoCard : Claim7 := { stood := { row := fnLeastMoreUptoRow, standIns := [], harness := (true, "7c2d2e6f8635c87518d4b8126ab836dccfd6665e5eb605f7fe770b1fbd15549d"), looks := false }, kinds := [], alts := [], laidByText := true, laidKinds := [.data, .data], laidTests := true, laidLooks := .later }
def FnLeastMoreUptoCardSaid : Prop := Claim7.holds Tryd.pinned (.plain (OpenSpec.upto fnLeastMoreSpec)) fnLeastMoreUptoCard

/-- THE SECOND FORM's CARD OF 'laws.FnLeastOrder'. -/
def fnLeastOrderUptoCard : Claim7 := { stood := { row := fnLeastOrderUptoRow, standIns := [], harness := (true, "7c2d2e6f8635c87518d4b8126ab836dccfd6665e5eb605f7fe770b1fbd15549d"), looks := false }, kinds := [], alts := [], laidByText := true, laidKinds := [.data, .data], laidTests := true, laidLooks := .later }
def FnLeastOrderUptoCardSaid : Prop := Claim7.holds Tryd.pinned (.plain (OpenSpec.upto fnLeastOrderSpec)) fnLeastOrderUptoCard

/-- THE SECOND FORM's CARD OF 'laws.FnLeastRoom'. -/
def fnLeastRoomUptoCard : Claim7 := { stood := { row := fnLeastRoomUptoRow, standIns := [], harness := (true, "7c2d2e6f8635c87518d4b8126ab836dccfd6665e5eb605f7fe770b1fbd15549d"), looks := false }, kinds := [], alts := [], laidByText := true, laidKinds := [.data, .data], laidTests := true, laidLooks := .later }
def FnLeastRoomUptoCardSaid : Prop := Claim7.holds Tryd.pinned (.plain (OpenSpec.upto fnLeastRoomSpec)) fnLeastRoomUptoCard

/-- THE SECOND FORM's CARD OF 'laws.FnExactLeastCount'. -/
def fnExactLeastCountUptoCard : Claim7 := { stood := { row := fnExactLeastCountUptoRow, standIns := [], harness := (true, "7c2d2e6f8635c87518d4b8126ab836dccfd6665e5eb605f7fe770b1fbd15549d"), looks := false }, kinds := [], alts := [], laidByText := true, laidKinds := [.data, .data], laidTests := true, laidLooks := .later }
def FnExactLeastCountUptoCardSaid : Prop := Claim7.holds Tryd.pinned (.plain (OpenSpec.upto fnExactLeastCountSpec)) fnExactLeastCountUptoCard

/-- THE SECOND FORM's CARD OF 'laws.FnLeastTwice'. -/
def fnLeastTwiceUptoCard : Claim7 := { stood := { row := fnLeastTwiceUptoRow, standIns := [], harness := (true, "7c2d2e6f8635c87518d4b8126ab836dccfd6665e5eb605f7fe770b1fbd15549d"), looks := false }, kinds := [], alts := [], laidByText := true, laidKinds := [.data, .data], laidTests := true, laidLooks := .later }
def FnLeastTwiceUptoCardSaid : Prop := Claim7.holds Tryd.pinned (.plain (OpenSpec.upto fnLeastTwiceSpec)) fnLeastTwiceUptoCard

/-- THE SECOND FORM's CARD OF 'laws.FnLeastFirst'. -/
def fnLeastFirstUptoCard : Claim7 := { stood := { row := fnLeastFirstUptoRow, standIns := [], harness := (true, "7c2d2e6f8635c87518d4b8126ab836dccfd6665e5eb605f7fe770b1fbd15549d"), looks := false }, kinds := [], alts := [], laidByText := true, laidKinds := [.data, .data], laidTests := true, laidLooks := .later }
def FnLeastFirstUptoCardSaid : Prop := Claim7.holds Tryd.pinned (.plain (OpenSpec.upto fnLeastFirstSpec)) fnLeastFirstUptoCard
end Rows
end Go.Proofs.YtjdhiabdcmindabDoor
