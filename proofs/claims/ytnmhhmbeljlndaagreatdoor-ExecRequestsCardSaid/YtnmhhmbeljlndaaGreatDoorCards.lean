/-
  DERIVED. GIVEN WITH THE SEED: THE CARDS: each row of YtnmhhmbeljlndaaGreatDoorRows.lean that lists a variable, with what it lists TIED to the program's text (the seventh form; the later family's looks); each row that meets fmt, with fmt's text TOLD by the authors' own Lean function (tested against real Go, not proved from fmt's source: count such statements apart). THE CARD IS WHAT COUNTS. Prove the row's statement (the work); the ties are given (YtnmhhmbeljlndaaGreatDoorTie.lean); close each card by the builder's one call (the guide's Derived/Test/ToyasCard.lean, 'card_holds'). Laid BY PROGRAM, IN A SANDBOX (cutbox-door.mjs). By AI agents, Wed Nov 11 2026. No macro, syntax, notation, axiom, sorry.
-/
import Derived.Test.YtnmhhmbeljlndaaGreatDoorRows
import GoSem.ClaimSeven
namespace Go.Proofs.YtnmhhmbeljlndaaGreatDoor
namespace Rows

/-- THE TIED CARD OF 'tillerlaw10.ExecMarks'. -/
def execMarksCard : Claim7 := { stood := { row := execMarksRow, standIns := [], harness := (true, "580d72821d878055cacf9b69a91c4fb2b5fb286506ce4e47894538408014a6d4"), looks := true }, kinds := [], alts := [], laidByText := true, laidKinds := [.data, .data, .data, .sentinel, .sentinel], laidTests := true, laidLooks := .later }
def ExecMarksCardSaid : Prop := Claim7.holds Tryz.pinned (.plain (OpenSpec.ofChange execMarksSpec)) execMarksCard

/-- THE TIED CARD OF 'tillerlaw10.ExecRequests'. -/
def execRequestsCard : Claim7 := { stood := { row := execRequestsRow, standIns := [], harness := (true, "580d72821d878055cacf9b69a91c4fb2b5fb286506ce4e47894538408014a6d4"), looks := true }, kinds := [], alts := [], laidByText := true, laidKinds := [.data, .data, .data, .sentinel, .sentinel], laidTests := true, laidLooks := .later }
def ExecRequestsCardSaid : Prop := Claim7.holds Tryz.pinned (.plain (OpenSpec.ofChange execRequestsSpec)) execRequestsCard

/-- THE SECOND FORM's CARD OF 'tillerlaw10.ExecMarks'. -/
def execMarksUptoCard : Claim7 := { stood := { row := execMarksUptoRow, standIns := [], harness := (true, "580d72821d878055cacf9b69a91c4fb2b5fb286506ce4e47894538408014a6d4"), looks := true }, kinds := [], alts := [], laidByText := true, laidKinds := [.data, .data, .data, .sentinel, .sentinel], laidTests := true, laidLooks := .later }
def ExecMarksUptoCardSaid : Prop := Claim7.holds Tryz.pinned (.plain (OpenSpec.upto execMarksSpec)) execMarksUptoCard

/-- THE SECOND FORM's CARD OF 'tillerlaw10.ExecRequests'. -/
def execRequestsUptoCard : Claim7 := { stood := { row := execRequestsUptoRow, standIns := [], harness := (true, "580d72821d878055cacf9b69a91c4fb2b5fb286506ce4e47894538408014a6d4"), looks := true }, kinds := [], alts := [], laidByText := true, laidKinds := [.data, .data, .data, .sentinel, .sentinel], laidTests := true, laidLooks := .later }
def ExecRequestsUptoCardSaid : Prop := Claim7.holds Tryz.pinned (.plain (OpenSpec.upto execRequestsSpec)) execRequestsUptoCard
end Rows
end Go.Proofs.YtnmhhmbeljlndaaGreatDoor
