/- Parts of the proof: XgfEscP, Xgfescapes. -/
import Derived.Test.YtepkimlnaoaboabGreatDoorXP25
import Derived.KernelRfl
import Derived.Stop.FmtQuoteTie
set_option linter.unusedVariables false
set_option linter.unusedSimpArgs false
set_option linter.unusedSectionVars false
section
/- FrontEscapes, the plain law: a body with one escape of four digits is read as the character of that number, or refused at its backslash. -/
namespace Go.X.TryzW
open Go Go.X
set_option maxRecDepth 100000
structure HexOk (h : UInt8) (d : Nat) : Prop where
  p : Fr.place Fr.hexD (h ||| 32) = some d
  l : ¬ h < 48
end Go.X.TryzW
end
section
open Go Go.X Go.Proofs
set_option maxRecDepth 100000
set_option maxHeartbeats 4000000
set_option linter.unusedSimpArgs false
set_option linter.unusedVariables false
namespace Go.X.TryzW
/- "tiller/tillerkeep.Within" params { toList := [3, 3] } results { toList := [Go.ResultVar.tmp 4] } -/
/- "tiller/tillerlaw13.FrontEscapes" params { toList := [37, 4] } results { toList := [Go.ResultVar.tmp 4] } -/
section
variable {E : Env} {L : List Blk} {K : IV → List Blk → Prop}
@[go_sem high] theorem o_and15 {a : Nat} {KV : IV → List Blk → Prop} : xop E (.bin .and (.c (.int .i64 (a : Int))) (.c (.int .i64 15))) cev L KV = KV (.int .i64 ((a % 16 : Nat) : Int)) L := by
  rw [o_and]
  have h1 : (BitVec.ofInt 64 (a : Int) &&& BitVec.ofInt 64 15).toNat = a % 16 := by
    rw [BitVec.toNat_and]
    have e2 : (BitVec.ofInt 64 (a : Int)).toNat = a % 18446744073709551616 := by simp only [BitVec.toNat_ofInt]; omega
    have e3 : (BitVec.ofInt 64 (15 : Int)).toNat = 2 ^ 4 - 1 := rfl
    rw [e2, e3, Nat.and_two_pow_sub_one_eq_mod]; omega
  have h2 : IntKind.i64.wrap ((BitVec.ofInt 64 (a : Int) &&& BitVec.ofInt 64 15).toNat : Int) = ((a % 16 : Nat) : Int) := by
    rw [h1, wrap64 (by omega) (by omega)]
  exact congrArg (fun n : Int => KV (.int .i64 n) L) h2
end
end Go.X.TryzW
end
