/- Parts of the proof: Xgcplx. -/
import Derived.Laws.ComplexArith
set_option linter.unusedVariables false
set_option linter.unusedSimpArgs false
set_option linter.unusedSectionVars false
section
/- Small numbers as floats: sums, and back to whole numbers. -/
namespace Go.X
open Go

def fl (n : Nat) : Nat := floatOfInt .f64 n

theorem fl_one : fl 1 = 0x3ff0000000000000 := by decide +kernel
theorem fl_zero : fl 0 = 0 := by decide +kernel

theorem fl_add1 : ∀ n, n < 64 → floatBits .add .f64 (fl n) (fl 1) = some (fl (n + 1)) := by decide +kernel
theorem fl_add0 : ∀ n, n < 65 → floatBits .add .f64 (fl n) (fl 0) = some (fl n) := by decide +kernel
theorem fl_int : ∀ n, n < 65 → floatToIntVal .f64 (fl n) .i64 = some (n : Int) := by decide +kernel

theorem cSum_over {a b : Nat} (ha : a < 64) (hb : b < 65) : cSumBits .add .f64 (fl a) (fl b) (fl 1) (fl 0) = some (fl (a + 1), fl b) := by
  simp only [cSumBits, fl_add1 a ha, fl_add0 b hb]; rfl
theorem cSum_left {a b : Nat} (ha : a < 65) (hb : b < 64) : cSumBits .add .f64 (fl a) (fl b) (fl 0) (fl 1) = some (fl a, fl (b + 1)) := by
  simp only [cSumBits, fl_add1 b hb, fl_add0 a ha]; rfl
end Go.X
end
