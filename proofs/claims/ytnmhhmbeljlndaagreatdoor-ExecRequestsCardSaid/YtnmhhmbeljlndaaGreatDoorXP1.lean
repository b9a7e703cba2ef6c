/- Parts of the proof: Xgcplx. -/
import Derived.Laws.ComplexArith
set_option linter.unusedVariables false
set_option linter.unusedSimpArgs false
set_option linter.unusedSectionVars false
section
namespace Go.X
open Go
def fl (n:Nat):Nat:=floatOfInt .f64 n
theorem z8P:fl 1=0x3ff0000000000000:=by decide +kernel
theorem z5u:fl 0=0:=by decide +kernel
theorem zeD:∀n,n<64->floatBits .add .f64 (fl n) (fl 1)=some (fl (n+1)):=by decide +kernel
theorem zdU:∀n,n<65->floatBits .add .f64 (fl n) (fl 0)=some (fl n):=by decide +kernel
theorem zfA:∀n,n<65->floatToIntVal .f64 (fl n) .i64=some (n:Int):=by decide +kernel
theorem zb8 {a b:Nat} (ha:a<65) (d:b<64):cSumBits .add .f64 (fl a) (fl b) (fl 0) (fl 1)=some (fl a,fl (b+1)):=by
 simp only [cSumBits,zeD b d,zdU a ha];rfl
end Go.X
end
