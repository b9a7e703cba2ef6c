/- The calculus X, part 20: a function's contract out of a run: one that only computes. -/
import Derived.Test.YtnejaochjehhgaaDoorXMerge
set_option linter.unusedVariables false
set_option linter.unusedSimpArgs false
set_option linter.unusedSectionVars false
namespace Go.X
open Go
section
variable {E : Env} {ρ : Rho} {L : List Blk}
def doneK (Q : Rho → List Blk → Prop) : XE → Rho → List Blk → Prop
  | .normal, ρ, L => Q ρ L
  | .ret, ρ, L => Q ρ L
  | _, _, _ => False
@[go_sem ↓] theorem done_ret {Q : Rho → List Blk → Prop} : doneK Q .ret ρ L = Q ρ L := nr rfl
@[go_sem ↓] theorem done_normal {Q : Rho → List Blk → Prop} : doneK Q .normal ρ L = Q ρ L := nr rfl

/-- One answer, in slot t. -/
theorem xpure1 {f : FuncId} {fn : Func} {t n : Nat} {c : XC} {args : List IV} {r : IV} (hf : E.P.funcs[f]? = some fn) (hF : compFn E.P fn = some ⟨n, [.tmp t], c⟩) (hnm : fn.name ≠ "runtime.NumGoroutine")
    (hargs : args.length ≤ fn.ntmps) (h : xrun E c (entry args) [] (doneK fun ρ L' => conv L' fuel renFreeze (ρ t) = some r)) : XPure E f args r := by
  refine xpure_of_fun hf hF hnm hargs (xrun_mono _ (fun e ρ L h => ?_) h)
  cases e with
  | normal => exact ⟨Or.inr rfl, h⟩
  | ret => exact ⟨Or.inl rfl, h⟩
  | exit => exact h.elim
  | goto => exact h.elim

/-- Two answers. -/
theorem xpure2 {f : FuncId} {fn : Func} {t t' n : Nat} {c : XC} {args : List IV} {r r' : IV} (hf : E.P.funcs[f]? = some fn) (hF : compFn E.P fn = some ⟨n, [.tmp t, .tmp t'], c⟩) (hnm : fn.name ≠ "runtime.NumGoroutine")
    (hargs : args.length ≤ fn.ntmps) (h : xrun E c (entry args) [] (doneK fun ρ L' => conv L' 11 renFreeze (ρ t) = some r ∧ conv L' 11 renFreeze (ρ t') = some r')) : XPure E f args (.tup [r, r']) := by
  refine xpure_of_fun hf hF hnm hargs (xrun_mono _ (fun e ρ L h => ?_) h)
  have key : conv L 11 renFreeze (ρ t) = some r ∧ conv L 11 renFreeze (ρ t') = some r' → xresults E [.tmp t, .tmp t'] ρ L fun r0 => conv L fuel renFreeze r0 = some (.tup [r, r']) := by
    rintro ⟨h1, h2⟩
    show conv L 12 renFreeze (.tup [ρ t, ρ t']) = _
    simp only [conv, mapO, h1, h2]; rfl
  cases e with
  | normal => exact ⟨Or.inr rfl, key h⟩
  | ret => exact ⟨Or.inl rfl, key h⟩
  | exit => exact h.elim
  | goto => exact h.elim
end
end Go.X
