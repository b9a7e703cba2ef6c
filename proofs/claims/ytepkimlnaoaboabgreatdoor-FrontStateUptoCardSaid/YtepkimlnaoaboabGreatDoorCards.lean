/-
  DERIVED. GIVEN WITH THE SEED: THE CARDS: each row of YtepkimlnaoaboabGreatDoorRows.lean that lists a variable, with what it lists TIED to the program's text (the seventh form; the later family's looks); each row that meets fmt, with fmt's text TOLD by the authors' own Lean function (tested against real Go, not proved from fmt's source: count such statements apart). THE CARD IS WHAT COUNTS. Prove the row's statement (the work); the ties are given (YtepkimlnaoaboabGreatDoorTie.lean); close each card by the builder's one call (the guide's Derived/Test/ToyasCard.lean, 'card_holds'). Laid BY PROGRAM, IN A SANDBOX (cutbox-door.mjs). By AI agents, Wed Nov 11 2026. No macro, syntax, notation, axiom, sorry.
-/
import Derived.Test.YtepkimlnaoaboabGreatDoorRows
import GoSem.ClaimSeven
namespace Go.Proofs.YtepkimlnaoaboabGreatDoor
namespace Rows

/-- THE TIED CARD OF 'tillerlaw13.FrontReplies'. -/
def frontRepliesCard : Claim7 := { stood := { row := frontRepliesRow, standIns := [], harness := (true, "88428005fcdc72d2e865f4cf228eedb8149368a8ed45157100ed9734076ea75d"), looks := true }, kinds := [], alts := [], laidByText := true, laidKinds := [.data, .data, .data, .data, .sentinel, .sentinel, .data, .data, .pinned, .pinned], laidTests := true, laidLooks := .later }
def FrontRepliesCardSaid : Prop := Claim7.holds Tryz.pinned (.plain (OpenSpec.ofChange frontRepliesSpec)) frontRepliesCard

/-- THE TIED CARD OF 'tillerlaw13.FrontState'. -/
def frontStateCard : Claim7 := { stood := { row := frontStateRow, standIns := [], harness := (true, "88428005fcdc72d2e865f4cf228eedb8149368a8ed45157100ed9734076ea75d"), looks := true }, kinds := [], alts := [], laidByText := true, laidKinds := [.data, .data, .data, .data, .sentinel, .sentinel, .data, .data, .pinned, .pinned], laidTests := true, laidLooks := .later }
def FrontStateCardSaid : Prop := Claim7.holds Tryz.pinned (.plain (OpenSpec.ofChange frontStateSpec)) frontStateCard

/-- THE SECOND FORM's CARD OF 'tillerlaw13.FrontReplies'. -/
def frontRepliesUptoCard : Claim7 := { stood := { row := frontRepliesUptoRow, standIns := [], harness := (true, "88428005fcdc72d2e865f4cf228eedb8149368a8ed45157100ed9734076ea75d"), looks := true }, kinds := [], alts := [], laidByText := true, laidKinds := [.data, .data, .data, .data, .sentinel, .sentinel, .data, .data, .pinned, .pinned], laidTests := true, laidLooks := .later }
def FrontRepliesUptoCardSaid : Prop := Claim7.holds Tryz.pinned (.plain (OpenSpec.upto frontRepliesSpec)) frontRepliesUptoCard

/-- THE SECOND FORM's CARD OF 'tillerlaw13.FrontState'. -/
def frontStateUptoCard : Claim7 := { stood := { row := frontStateUptoRow, standIns := [], harness := (true, "88428005fcdc72d2e865f4cf228eedb8149368a8ed45157100ed9734076ea75d"), looks := true }, kinds := [], alts := [], laidByText := true, laidKinds := [.data, .data, .data, .data, .sentinel, .sentinel, .data, .data, .pinned, .pinned], laidTests := true, laidLooks := .later }
def FrontStateUptoCardSaid : Prop := Claim7.holds Tryz.pinned (.plain (OpenSpec.upto frontStateSpec)) frontStateUptoCard
end Rows
end Go.Proofs.YtepkimlnaoaboabGreatDoor
