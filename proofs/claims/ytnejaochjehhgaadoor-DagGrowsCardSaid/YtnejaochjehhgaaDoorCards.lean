/-
  DERIVED. GIVEN WITH THE SEED: THE CARDS: each row of YtnejaochjehhgaaDoorRows.lean that lists a variable, with what it lists TIED to the program's text (the seventh form; the later family's looks); each row that meets fmt, with fmt's text TOLD by the authors' own Lean function (tested against real Go, not proved from fmt's source: count such statements apart). THE CARD IS WHAT COUNTS. Prove the row's statement (the work); the ties are given (YtnejaochjehhgaaDoorTie.lean); close each card by the builder's one call (the guide's Derived/Test/ToyasCard.lean, 'card_holds'). Laid BY PROGRAM, IN A SANDBOX (cutbox-door.mjs). By AI agents, Wed Nov 11 2026. No macro, syntax, notation, axiom, sorry.
-/
import Derived.Test.YtnejaochjehhgaaDoorRows
import GoSem.ClaimSeven
namespace Go.Proofs.YtnejaochjehhgaaDoor
namespace Rows

/-- THE TIED CARD OF 'tillerlaw08.DagNames'. -/
def dagNamesCard : Claim7 := { stood := { row := dagNamesRow, standIns := [], harness := (true, "299b9a06dc67c99ca7905dd67bd0c6645ad57ebaf0fc0d53a8e4c1a36b3f012d"), looks := true }, kinds := [], alts := [], laidByText := true, laidKinds := [.data, .data, .data, .data, .sentinel, .sentinel, .pinned], laidTests := true, laidLooks := .later }
def DagNamesCardSaid : Prop := Claim7.holds Tryd.pinned (.plain (OpenSpec.ofChange dagNamesSpec)) dagNamesCard

/-- THE TIED CARD OF 'tillerlaw08.DagLoops'. -/
def dagLoopsCard : Claim7 := { stood := { row := dagLoopsRow, standIns := [], harness := (true, "299b9a06dc67c99ca7905dd67bd0c6645ad57ebaf0fc0d53a8e4c1a36b3f012d"), looks := true }, kinds := [], alts := [], laidByText := true, laidKinds := [.data, .data, .data, .data, .sentinel, .sentinel, .pinned], laidTests := true, laidLooks := .later }
def DagLoopsCardSaid : Prop := Claim7.holds Tryd.pinned (.plain (OpenSpec.ofChange dagLoopsSpec)) dagLoopsCard

/-- THE TIED CARD OF 'tillerlaw08.DagGrows'. -/
def dagGrowsCard : Claim7 := { stood := { row := dagGrowsRow, standIns := [], harness := (true, "299b9a06dc67c99ca7905dd67bd0c6645ad57ebaf0fc0d53a8e4c1a36b3f012d"), looks := true }, kinds := [], alts := [], laidByText := true, laidKinds := [.data, .data, .data, .data, .sentinel, .sentinel, .pinned], laidTests := true, laidLooks := .later }
def DagGrowsCardSaid : Prop := Claim7.holds Tryd.pinned (.plain (OpenSpec.ofChange dagGrowsSpec)) dagGrowsCard

/-- THE TIED CARD OF 'tillerlaw08.DagRuns'. -/
def dagRunsCard : Claim7 := { stood := { row := dagRunsRow, standIns := [], harness := (true, "299b9a06dc67c99ca7905dd67bd0c6645ad57ebaf0fc0d53a8e4c1a36b3f012d"), looks := true }, kinds := [], alts := [], laidByText := true, laidKinds := [.data, .data, .data, .data, .sentinel, .sentinel, .pinned], laidTests := true, laidLooks := .later }
def DagRunsCardSaid : Prop := Claim7.holds Tryd.pinned (.plain (OpenSpec.ofChange dagRunsSpec)) dagRunsCard

/-- THE SECOND FORM's CARD OF 'tillerlaw08.DagNames'. -/
def dagNamesUptoCard : Claim7 := { stood := { row := dagNamesUptoRow, standIns := [], harness := (true, "299b9a06dc67c99ca7905dd67bd0c6645ad57ebaf0fc0d53a8e4c1a36b3f012d"), looks := true }, kinds := [], alts := [], laidByText := true, laidKinds := [.data, .data, .data, .data, .sentinel, .sentinel, .pinned], laidTests := true, laidLooks := .later }
def DagNamesUptoCardSaid : Prop := Claim7.holds Tryd.pinned (.plain (OpenSpec.upto dagNamesSpec)) dagNamesUptoCard

/-- THE SECOND FORM's CARD OF 'tillerlaw08.DagLoops'. -/
def dagLoopsUptoCard : Claim7 := { stood := { row := dagLoopsUptoRow, standIns := [], harness := (true, "299b9a06dc67c99ca7905dd67bd0c6645ad57ebaf0fc0d53a8e4c1a36b3f012d"), looks := true }, kinds := [], alts := [], laidByText := true, laidKinds := [.data, .data, .data, .data, .sentinel, .sentinel, .pinned], laidTests := true, laidLooks := .later }
def DagLoopsUptoCardSaid : Prop := Claim7.holds Tryd.pinned (.plain (OpenSpec.upto dagLoopsSpec)) dagLoopsUptoCard

/-- THE SECOND FORM's CARD OF 'tillerlaw08.DagGrows'. -/
def dagGrowsUptoCard : Claim7 := { stood := { row := dagGrowsUptoRow, standIns := [], harness := (true, "299b9a06dc67c99ca7905dd67bd0c6645ad57ebaf0fc0d53a8e4c1a36b3f012d"), looks := true }, kinds := [], alts := [], laidByText := true, laidKinds := [.data, .data, .data, .data, .sentinel, .sentinel, .pinned], laidTests := true, laidLooks := .later }
def DagGrowsUptoCardSaid : Prop := Claim7.holds Tryd.pinned (.plain (OpenSpec.upto dagGrowsSpec)) dagGrowsUptoCard

/-- THE SECOND FORM's CARD OF 'tillerlaw08.DagRuns'. -/
def dagRunsUptoCard : Claim7 := { stood := { row := dagRunsUptoRow, standIns := [], harness := (true, "299b9a06dc67c99ca7905dd67bd0c6645ad57ebaf0fc0d53a8e4c1a36b3f012d"), looks := true }, kinds := [], alts := [], laidByText := true, laidKinds := [.data, .data, .data, .data, .sentinel, .sentinel, .pinned], laidTests := true, laidLooks := .later }
def DagRunsUptoCardSaid : Prop := Claim7.holds Tryd.pinned (.plain (OpenSpec.upto dagRunsSpec)) dagRunsUptoCard
end Rows
end Go.Proofs.YtnejaochjehhgaaDoor
