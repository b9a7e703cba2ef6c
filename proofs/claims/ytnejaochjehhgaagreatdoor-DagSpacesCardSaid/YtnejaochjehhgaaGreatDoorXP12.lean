/- Parts of the proof: Xzdigits. -/
import Derived.Test.YtnejaochjehhgaaGreatDoorXP11
import Derived.Lib.ItoaMem
set_option linter.unusedVariables false
set_option linter.unusedSimpArgs false
set_option linter.unusedSectionVars false
section
open Go Go.X Go.Proofs
set_option maxRecDepth 100000
set_option maxHeartbeats 4000000
set_option linter.unusedSimpArgs false
set_option linter.unusedVariables false
namespace Go.X.TryzW
/- "tiller/tillerref08.digits" params { toList := [3] } results { toList := [Go.ResultVar.tmp 2] } -/
section
variable {E : Env}
end
end Go.X.TryzW
end
