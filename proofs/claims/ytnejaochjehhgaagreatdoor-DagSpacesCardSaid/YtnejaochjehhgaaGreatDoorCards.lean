/-
  DERIVED. GIVEN WITH THE SEED: THE CARDS: each row of YtnejaochjehhgaaGreatDoorRows.lean that lists a variable, with what it lists TIED to the program's text (the seventh form; the later family's looks); each row that meets fmt, with fmt's text TOLD by the authors' own Lean function (tested against real Go, not proved from fmt's source: count such statements apart). THE CARD IS WHAT COUNTS. Prove the row's statement (the work); the ties are given (YtnejaochjehhgaaGreatDoorTie.lean); close each card by the builder's one call (the guide's Derived/Test/ToyasCard.lean, 'card_holds'). Laid BY PROGRAM, IN A SANDBOX (cutbox-door.mjs). By AI agents, Wed Nov 11 2026. No macro, syntax, notation, axiom, sorry.
-/
import Derived.Test.YtnejaochjehhgaaGreatDoorRows
import GoSem.ClaimSeven
namespace Go.Proofs.YtnejaochjehhgaaGreatDoor
namespace Rows

/-- THE TIED CARD OF 'tillerlaw08.DagBack'. -/
def dagBackCard : Claim7 := { stood := { row := dagBackRow, standIns := [], harness := (true, "e03b4221267b6df1530fa8de5556107c4845a15f7f84605d284273112e254792"), looks := true }, kinds := [], alts := [], laidByText := true, laidKinds := [.data, .data, .data, .data, .sentinel, .sentinel, .pinned], laidTests := true, laidLooks := .later }
def DagBackCardSaid : Prop := Claim7.holds Tryz.pinned (.plain (OpenSpec.ofChange dagBackSpec)) dagBackCard

/-- THE TIED CARD OF 'tillerlaw08.DagSpaces'. -/
def dagSpacesCard : Claim7 := { stood := { row := dagSpacesRow, standIns := [], harness := (true, "e03b4221267b6df1530fa8de5556107c4845a15f7f84605d284273112e254792"), looks := true }, kinds := [], alts := [], laidByText := true, laidKinds := [.data, .data, .data, .data, .sentinel, .sentinel, .pinned], laidTests := true, laidLooks := .later }
def DagSpacesCardSaid : Prop := Claim7.holds Tryz.pinned (.plain (OpenSpec.ofChange dagSpacesSpec)) dagSpacesCard

/-- THE SECOND FORM's CARD OF 'tillerlaw08.DagBack'. -/
def dagBackUptoCard : Claim7 := { stood := { row := dagBackUptoRow, standIns := [], harness := (true, "e03b4221267b6df1530fa8de5556107c4845a15f7f84605d284273112e254792"), looks := true }, kinds := [], alts := [], laidByText := true, laidKinds := [.data, .data, .data, .data, .sentinel, .sentinel, .pinned], laidTests := true, laidLooks := .later }
def DagBackUptoCardSaid : Prop := Claim7.holds Tryz.pinned (.plain (OpenSpec.upto dagBackSpec)) dagBackUptoCard

/-- THE SECOND FORM's CARD OF 'tillerlaw08.DagSpaces'. -/
def dagSpacesUptoCard : Claim7 := { stood := { row := dagSpacesUptoRow, standIns := [], harness := (true, "e03b4221267b6df1530fa8de5556107c4845a15f7f84605d284273112e254792"), looks := true }, kinds := [], alts := [], laidByText := true, laidKinds := [.data, .data, .data, .data, .sentinel, .sentinel, .pinned], laidTests := true, laidLooks := .later }
def DagSpacesUptoCardSaid : Prop := Claim7.holds Tryz.pinned (.plain (OpenSpec.upto dagSpacesSpec)) dagSpacesUptoCard
end Rows
end Go.Proofs.YtnejaochjehhgaaGreatDoor
