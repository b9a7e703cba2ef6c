/- Parts of the proof: Xgcplx. -/
import Derived.Laws.ComplexArith
set_option linter.unusedVariables false
set_option linter.unusedSimpArgs false
set_option linter.unusedSectionVars false
section
namespace Go.X
open Go

def fl (n:Nat):Nat:=floatOfInt .f64 n
theorem z9l:fl 1=0x3ff0000000000000:=by decide +kernel
theorem z8j:fl 0=0:=by decide +kernel
theorem z8Z:∀n,n<64->floatBits .add .f64 (fl n) (fl 1)=some (fl (n+1)):=by decide +kernel
theorem z8K:∀n,n<65->floatBits .add .f64 (fl n) (fl 0)=some (fl n):=by decide +kernel
theorem zeb:∀n,n<65->floatToIntVal .f64 (fl n) .i64=some (n:Int):=by decide +kernel
theorem z7T {a b:Nat} (ha:a<65) (hb:b<64):cSumBits .add .f64 (fl a) (fl b) (fl 0) (fl 1)=some (fl a,fl (b+1)):=by
 simp only [cSumBits,z8Z b hb,z8K a ha];rfl
end Go.X
end
