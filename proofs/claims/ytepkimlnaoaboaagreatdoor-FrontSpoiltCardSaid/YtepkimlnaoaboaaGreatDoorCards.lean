/-
  DERIVED. GIVEN WITH THE SEED: THE CARDS: each row of YtepkimlnaoaboaaGreatDoorRows.lean that lists a variable, with what it lists TIED to the program's text (the seventh form; the later family's looks); each row that meets fmt, with fmt's text TOLD by the authors' own Lean function (tested against real Go, not proved from fmt's source: count such statements apart). THE CARD IS WHAT COUNTS. Prove the row's statement (the work); the ties are given (YtepkimlnaoaboaaGreatDoorTie.lean); close each card by the builder's one call (the guide's Derived/Test/ToyasCard.lean, 'card_holds'). Laid BY PROGRAM, IN A SANDBOX (cutbox-door.mjs). By AI agents, Wed Nov 11 2026. No macro, syntax, notation, axiom, sorry.
-/
import Derived.Test.YtepkimlnaoaboaaGreatDoorRows
import GoSem.ClaimSeven
namespace Go.Proofs.YtepkimlnaoaboaaGreatDoor
namespace Rows

/-- THE TIED CARD OF 'tillerlaw13.FrontRead'. -/
def frontReadCard : Claim7 := { stood := { row := frontReadRow, standIns := [], harness := (true, "de34d44e5b8520c290567892d42b5dd696810a18fc974f11a20d689fde014470"), looks := true }, kinds := [], alts := [], laidByText := true, laidKinds := [.data, .data, .data, .data, .sentinel, .sentinel, .data, .data, .pinned, .pinned], laidTests := true, laidLooks := .later }
def FrontReadCardSaid : Prop := Claim7.holds Tryz.pinned (.plain (OpenSpec.ofChange frontReadSpec)) frontReadCard

/-- THE TIED CARD OF 'tillerlaw13.FrontLimits'. -/
def frontLimitsCard : Claim7 := { stood := { row := frontLimitsRow, standIns := [], harness := (true, "de34d44e5b8520c290567892d42b5dd696810a18fc974f11a20d689fde014470"), looks := true }, kinds := [], alts := [], laidByText := true, laidKinds := [.data, .data, .data, .data, .sentinel, .sentinel, .data, .data, .pinned, .pinned], laidTests := true, laidLooks := .later }
def FrontLimitsCardSaid : Prop := Claim7.holds Tryz.pinned (.plain (OpenSpec.ofChange frontLimitsSpec)) frontLimitsCard

/-- THE TIED CARD OF 'tillerlaw13.FrontWhole'. -/
def frontWholeCard : Claim7 := { stood := { row := frontWholeRow, standIns := [], harness := (true, "de34d44e5b8520c290567892d42b5dd696810a18fc974f11a20d689fde014470"), looks := true }, kinds := [], alts := [], laidByText := true, laidKinds := [.data, .data, .data, .data, .sentinel, .sentinel, .data, .data, .pinned, .pinned], laidTests := true, laidLooks := .later }
def FrontWholeCardSaid : Prop := Claim7.holds Tryz.pinned (.plain (OpenSpec.ofChange frontWholeSpec)) frontWholeCard

/-- THE TIED CARD OF 'tillerlaw13.FrontEscapes'. -/
def frontEscapesCard : Claim7 := { stood := { row := frontEscapesRow, standIns := [], harness := (true, "de34d44e5b8520c290567892d42b5dd696810a18fc974f11a20d689fde014470"), looks := true }, kinds := [], alts := [], laidByText := true, laidKinds := [.data, .data, .data, .data, .sentinel, .sentinel, .data, .data, .pinned, .pinned], laidTests := true, laidLooks := .later }
def FrontEscapesCardSaid : Prop := Claim7.holds Tryz.pinned (.plain (OpenSpec.ofChange frontEscapesSpec)) frontEscapesCard

/-- THE TIED CARD OF 'tillerlaw13.FrontSpoilt'. -/
def frontSpoiltCard : Claim7 := { stood := { row := frontSpoiltRow, standIns := [], harness := (true, "de34d44e5b8520c290567892d42b5dd696810a18fc974f11a20d689fde014470"), looks := true }, kinds := [], alts := [], laidByText := true, laidKinds := [.data, .data, .data, .data, .sentinel, .sentinel, .data, .data, .pinned, .pinned], laidTests := true, laidLooks := .later }
def FrontSpoiltCardSaid : Prop := Claim7.holds Tryz.pinned (.plain (OpenSpec.ofChange frontSpoiltSpec)) frontSpoiltCard

/-- THE TIED CARD OF 'tillerlaw13.FrontBack'. -/
def frontBackCard : Claim7 := { stood := { row := frontBackRow, standIns := [], harness := (true, "de34d44e5b8520c290567892d42b5dd696810a18fc974f11a20d689fde014470"), looks := true }, kinds := [], alts := [], laidByText := true, laidKinds := [.data, .data, .data, .data, .sentinel, .sentinel, .data, .data, .pinned, .pinned], laidTests := true, laidLooks := .later }
def FrontBackCardSaid : Prop := Claim7.holds Tryz.pinned (.plain (OpenSpec.ofChange frontBackSpec)) frontBackCard

/-- THE SECOND FORM's CARD OF 'tillerlaw13.FrontRead'. -/
def frontReadUptoCard : Claim7 := { stood := { row := frontReadUptoRow, standIns := [], harness := (true, "de34d44e5b8520c290567892d42b5dd696810a18fc974f11a20d689fde014470"), looks := true }, kinds := [], alts := [], laidByText := true, laidKinds := [.data, .data, .data, .data, .sentinel, .sentinel, .data, .data, .pinned, .pinned], laidTests := true, laidLooks := .later }
def FrontReadUptoCardSaid : Prop := Claim7.holds Tryz.pinned (.plain (OpenSpec.upto frontReadSpec)) frontReadUptoCard

/-- THE SECOND FORM's CARD OF 'tillerlaw13.FrontLimits'. -/
def frontLimitsUptoCard : Claim7 := { stood := { row := frontLimitsUptoRow, standIns := [], harness := (true, "de34d44e5b8520c290567892d42b5dd696810a18fc974f11a20d689fde014470"), looks := true }, kinds := [], alts := [], laidByText := true, laidKinds := [.data, .data, .data, .data, .sentinel, .sentinel, .data, .data, .pinned, .pinned], laidTests := true, laidLooks := .later }
def FrontLimitsUptoCardSaid : Prop := Claim7.holds Tryz.pinned (.plain (OpenSpec.upto frontLimitsSpec)) frontLimitsUptoCard

/-- THE SECOND FORM's CARD OF 'tillerlaw13.FrontWhole'. -/
def frontWholeUptoCard : Claim7 := { stood := { row := frontWholeUptoRow, standIns := [], harness := (true, "de34d44e5b8520c290567892d42b5dd696810a18fc974f11a20d689fde014470"), looks := true }, kinds := [], alts := [], laidByText := true, laidKinds := [.data, .data, .data, .data, .sentinel, .sentinel, .data, .data, .pinned, .pinned], laidTests := true, laidLooks := .later }
def FrontWholeUptoCardSaid : Prop := Claim7.holds Tryz.pinned (.plain (OpenSpec.upto frontWholeSpec)) frontWholeUptoCard

/-- THE SECOND FORM's CARD OF 'tillerlaw13.FrontEscapes'. -/
def frontEscapesUptoCard : Claim7 := { stood := { row := frontEscapesUptoRow, standIns := [], harness := (true, "de34d44e5b8520c290567892d42b5dd696810a18fc974f11a20d689fde014470"), looks := true }, kinds := [], alts := [], laidByText := true, laidKinds := [.data, .data, .data, .data, .sentinel, .sentinel, .data, .data, .pinned, .pinned], laidTests := true, laidLooks := .later }
def FrontEscapesUptoCardSaid : Prop := Claim7.holds Tryz.pinned (.plain (OpenSpec.upto frontEscapesSpec)) frontEscapesUptoCard

/-- THE SECOND FORM's CARD OF 'tillerlaw13.FrontSpoilt'. -/
def frontSpoiltUptoCard : Claim7 := { stood := { row := frontSpoiltUptoRow, standIns := [], harness := (true, "de34d44e5b8520c290567892d42b5dd696810a18fc974f11a20d689fde014470"), looks := true }, kinds := [], alts := [], laidByText := true, laidKinds := [.data, .data, .data, .data, .sentinel, .sentinel, .data, .data, .pinned, .pinned], laidTests := true, laidLooks := .later }
def FrontSpoiltUptoCardSaid : Prop := Claim7.holds Tryz.pinned (.plain (OpenSpec.upto frontSpoiltSpec)) frontSpoiltUptoCard

/-- THE SECOND FORM's CARD OF 'tillerlaw13.FrontBack'. -/
def frontBackUptoCard : Claim7 := { stood := { row := frontBackUptoRow, standIns := [], harness := (true, "de34d44e5b8520c290567892d42b5dd696810a18fc974f11a20d689fde014470"), looks := true }, kinds := [], alts := [], laidByText := true, laidKinds := [.data, .data, .data, .data, .sentinel, .sentinel, .data, .data, .pinned, .pinned], laidTests := true, laidLooks := .later }
def FrontBackUptoCardSaid : Prop := Claim7.holds Tryz.pinned (.plain (OpenSpec.upto frontBackSpec)) frontBackUptoCard
end Rows
end Go.Proofs.YtepkimlnaoaboaaGreatDoor
