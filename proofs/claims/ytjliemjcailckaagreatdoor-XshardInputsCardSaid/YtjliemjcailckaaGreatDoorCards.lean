/-
  DERIVED. GIVEN WITH THE SEED: THE CARDS: each row of YtjliemjcailckaaGreatDoorRows.lean that lists a variable, with what it lists TIED to the program's text (the seventh form; the later family's looks); each row that meets fmt, with fmt's text TOLD by the authors' own Lean function (tested against real Go, not proved from fmt's source: count such statements apart). THE CARD IS WHAT COUNTS. Prove the row's statement (the work); the ties are given (YtjliemjcailckaaGreatDoorTie.lean); close each card by the builder's one call (the guide's Derived/Test/ToyasCard.lean, 'card_holds'). Laid BY PROGRAM, IN A SANDBOX (cutbox-door.mjs). By AI agents, Wed Nov 11 2026. No macro, syntax, notation, axiom, sorry.
-/
import Derived.Test.YtjliemjcailckaaGreatDoorRows
import GoSem.ClaimSeven
namespace Go.Proofs.YtjliemjcailckaaGreatDoor
namespace Rows

/-- THE TIED CARD OF 'tillerlaw12.XshardInputs'. -/
def xshardInputsCard : Claim7 := { stood := { row := xshardInputsRow, standIns := [], harness := (true, "1a3edcbceb6ee8f26de6050daac905c5ae9a20b762dd2cba9e6c125137838016"), looks := true }, kinds := [], alts := [], laidByText := true, laidKinds := [.data, .data, .data, .sentinel, .sentinel], laidTests := true, laidLooks := .later }
def XshardInputsCardSaid : Prop := Claim7.holds Tryz.pinned (.plain (OpenSpec.ofChange xshardInputsSpec)) xshardInputsCard

/-- THE SECOND FORM's CARD OF 'tillerlaw12.XshardInputs'. -/
def xshardInputsUptoCard : Claim7 := { stood := { row := xshardInputsUptoRow, standIns := [], harness := (true, "1a3edcbceb6ee8f26de6050daac905c5ae9a20b762dd2cba9e6c125137838016"), looks := true }, kinds := [], alts := [], laidByText := true, laidKinds := [.data, .data, .data, .sentinel, .sentinel], laidTests := true, laidLooks := .later }
def XshardInputsUptoCardSaid : Prop := Claim7.holds Tryz.pinned (.plain (OpenSpec.upto xshardInputsSpec)) xshardInputsUptoCard
end Rows
end Go.Proofs.YtjliemjcailckaaGreatDoor
