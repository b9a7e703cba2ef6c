import Derived.Test.YtnejaochjehhgaaDoorXDag12
set_option linter.unusedVariables false
set_option linter.unusedSimpArgs false
set_option linter.unusedSectionVars false
open Go Go.X Go.Proofs
set_option maxRecDepth 100000
set_option maxHeartbeats 4000000
set_option linter.unusedSimpArgs false
set_option linter.unusedVariables false
namespace Go.X.TrydW

def tabD (P : Program) : Tab where
  T := tabT P
  pre := fun _ _ => none
  ext := fun f args => match f, args with
    | 75, [.str s, .int .u8 c] => some (.int .i64 (Lib.indexByte s c.toNat.toUInt8))
    | 65, [.str s, .int .u8 c] => some (.int .i64 (Lib.countByte s c.toNat.toUInt8))
    | _, _ => none
section
variable {E : Env}
theorem tabD_ok (hP : E.P = Tryd.prog) : TabOk E (tabD Tryd.prog) where
  T := by rw [hP]; exact tabT_ok
  pre := fun _ _ _ h => by cases h
  ext := fun f args r h => by
    simp only [tabD] at h
    split at h
    · cases h; exact ext_indexByte (fn := Tryd.f75) (by rw [hP]; rfl) (by rfl) (by rfl) (by rfl) (by rfl) _ _
    · cases h; exact ext_countByte (fn := Tryd.f65) (by rw [hP]; rfl) (by rfl) (by rfl) (by rfl) (by rfl) _ _
    · cases h

def textW : List UInt8 := [119, 111, 114, 107, 102, 108, 111, 119, 32, 119, 10, 98, 32, 119, 97, 105, 116, 32, 115, 32, 97, 102, 116, 101, 114, 32, 97, 10, 97, 32, 97, 99, 116, 105, 118, 105, 116, 121, 32, 113, 10]
def dW : DefD := ⟨[119], [⟨[98], 4, [115], [], 0, 0, [[97]]⟩, ⟨[97], 1, [113], [], 0, 1, []⟩]⟩
theorem parseW_ev (gl : Nat → Option (List IV)) : evFun (tabD Tryd.prog) gl 300 30 23 [.str textW] = some (.tup [dW.iv, .int .i64 0, .int .i64 0]) := by kernel_rfl
theorem intsW_ev (gl : Nat → Option (List IV)) : evFun (tabD Tryd.prog) gl 300 30 24 [.isl (intRows [1, 0]), .isl (intRows [1, 0])] = some (.bool true) := by kernel_rfl
theorem orderW : dW.order = [1, 0] := by decide
theorem depthW : dW.depth = 2 := by unfold DefD.depth; rw [orderW]; decide

end
end Go.X.TrydW

