/- What all rows of this seat share. -/
import Derived.Test.YtnejaochjehhgaaDoorXDag14
import Derived.Test.YtnejaochjehhgaaDoorXRow
import Derived.Test.YtnejaochjehhgaaDoorCards
import Derived.Test.YtnejaochjehhgaaDoorTie
import Derived.OpenShut
import Derived.Deep.DeepHandedRow
set_option linter.unusedVariables false
set_option linter.unusedSimpArgs false
set_option linter.unusedSectionVars false
namespace Go.X.TrydW
open Go Go.X Go.Proofs Go.Proofs.YtnejaochjehhgaaDoor Go.ChangeShapes Go.WideShapes Go.RowKit
set_option maxRecDepth 100000
theorem ownT : ownKnob Tryd.prog.godebug = none := by kernel_rfl
theorem loT : laidOutB Tryd.prog = true := by kernel_rfl
theorem maxLenCell {W : World} (h : W.ShapedOpen Tryd.prog) : ∃ m, W.cell? ⟨0, 0, none⟩ = some (.int .i64 m) :=
  shaped_int h (g := 0) (zero := #[.int .i64 0]) (t := 3) (of_decide_eq_true (by kernel_rfl)) (by kernel_rfl) rfl (by kernel_rfl) (by kernel_rfl) Tryd.underlying3

/-- What is known of the program's variables: MaxLen holds a number. -/
def glT (m : Int) : Nat → Option (List IV) := fun n => if n = 0 then some [.int .i64 m] else none
theorem glT_ok {W : World} {m : Int} (h : W.cell? ⟨0, 0, none⟩ = some (.int .i64 m)) : ∀ (n : Nat) (cs : List IV), glT m n = some cs → ∀ (j : Nat) (y : IV), cs[j]? = some y → ∃ u, W.cell? ⟨n, j, none⟩ = some u ∧ ∀ C : Ctx, VR C y u := by
  intro n cs hn j y hy
  unfold glT at hn
  split at hn
  · rename_i h0; subst h0; cases hn
    cases j with
    | zero => simp at hy; subst hy; exact ⟨_, h, fun C => .int _ _⟩
    | succ j => simp at hy
  · cases hn

theorem metT (os : Os) (args : Array Value) : laidMet Tryd.prog Rows.dagNamesRow.laid ((World.laidAll Tryd.prog os Rows.dagNamesRow.laid).forCall (fun _ _ => 0) ⟨#[], args, []⟩).memory :=
  laidMet_laidAll args (by kernel_rfl) (by kernel_rfl)
end Go.X.TrydW
