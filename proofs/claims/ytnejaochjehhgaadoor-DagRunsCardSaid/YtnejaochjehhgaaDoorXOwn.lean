/- The calculus X, part 25: functions that hand a new block to their caller; appends as a whole. -/
import Derived.Test.YtnejaochjehhgaaDoorXEval
set_option linter.unusedVariables false
set_option linter.unusedSimpArgs false
set_option linter.unusedSectionVars false
namespace Go.X
open Go
section
variable {E : Env} {ρ : Rho} {L : List Blk} {KV : IV → List Blk → Prop}
/-- One answer, in slot t, and the blocks that go with it. -/
theorem xown1 {f : FuncId} {fn : Func} {t n : Nat} {c : XC} {args : List IV} {R : IV → List Blk → Prop} (hf : E.P.funcs[f]? = some fn) (hF : compFn E.P fn = some ⟨n, [.tmp t], c⟩) (hnm : fn.name ≠ "runtime.NumGoroutine")
    (hargs : args.length ≤ fn.ntmps) (h : xrun E c (entry args) [] (doneK fun ρ L' => Leave 0 (ρ t) L' R)) : XT E f args [] R := by
  refine xt_of_fun hf hF hnm hargs (xrun_mono _ (fun e ρ L h => ?_) h)
  cases e with
  | normal => exact ⟨Or.inr rfl, h⟩
  | ret => exact ⟨Or.inl rfl, h⟩
  | exit => exact h.elim
  | goto => exact h.elim
/-- No answer. -/
theorem xfun0 {n : Nat} {c : XC} {args : List IV} {R : IV → List Blk → Prop} (h : xrun E c (entry args) L (doneK fun ρ L' => Leave L.length (.tup []) L' R)) : xfun E ⟨n, [], c⟩ args L R := by
  refine xrun_mono _ (fun e ρ L h => ?_) h
  cases e with
  | normal => exact ⟨Or.inr rfl, h⟩
  | ret => exact ⟨Or.inl rfl, h⟩
  | exit => exact h.elim
  | goto => exact h.elim
theorem put_all {P : IV → Prop} {d : Option Nat} {v : IV} (hv : P v) (h : ∀ n, P (ρ n)) : ∀ n, P (put ρ d v n) := by
  intro n
  cases d with
  | none => exact h n
  | some d => simp only [put]; split
              · exact hv
              · exact h n
theorem leave_none {r r' : IV} {L : List Blk} {R : IV → List Blk → Prop} (h1 : conv L fuel renFreeze r = some r') (h2 : R r' []) : Leave 0 r L R := by
  have hren : renLeave 0 [] = renFreeze := by funext s; simp [renLeave, pos, renFreeze]
  exact ⟨[], .nil, by simp, r', [], by rw [hren]; exact h1, rfl, h2⟩
theorem leave_one {r r' : IV} {k : Blk} {s : Nat} {R : IV → List Blk → Prop} (hs : s < L.length) (h1 : conv L fuel (renLeave 0 [s]) r = some r') (h2 : convB L fuel (renLeave 0 [s]) (L.getD s .dead) = some k) (h3 : R r' [k]) : Leave 0 r L R := by
  refine ⟨[s], by simp, by simpa using hs, r', [k], h1, ?_, h3⟩
  simp only [List.take_zero, List.map_cons, List.map_nil, List.nil_append, mapO, h2]
/-- A call of a function that hands on new blocks; its arguments name none of ours. -/
theorem xcall_own {f : FuncId} {args args' : List IV} {K : IV → List Blk → Prop} {R : IV → List Blk → Prop} (hc : mapO (conv L fuel renNone) args = some args') (h : XT E f args' [] R)
    (hk : ∀ r L1, R r L1 → ∃ r' L1', conv L1 fuel (renShift L.length) r = some r' ∧ mapO (convB L1 fuel (renShift L.length)) L1 = some L1' ∧ K r' (L ++ L1')) : xcall E f args L K :=
  .inl ⟨false, args', hc, h.mono fun r L1 hr => ⟨(fun h => by cases h), hk r L1 hr⟩⟩
@[go_sem] theorem o_bslice0 {sz : Nat} {zero : List IV} (h1 : zero.length = sz) : xop E (.bslice sz zero 0 []) cev L KV = KV (.sl L.length 0 0 0) (L ++ [.cells sz []]) := by
  simp [xop, xfillRows, h1]
@[go_sem] theorem o_bslice2 {sz : Nat} {zero : List IV} {x y : IV} (h1 : zero.length = sz) (h2 : (cellsOf x).length = sz) (h3 : (cellsOf y).length = sz) : xop E (.bslice sz zero 2 [(0, .c x), (1, .c y)]) cev L KV = KV (.sl L.length 0 2 2) (L ++ [.cells sz [cellsOf x, cellsOf y]]) := by
  simp [xop, xfillRows, h1, h2, h3, cev_c, List.replicate]
/-- All of a list that is only read, behind an empty list of ours. -/
theorem append_all {sz bytes s : Nat} {rs : List (List IV)} (hL : L[s]? = some (.cells sz [])) (hr : RowsC sz rs) (hb : rs.length * bytes ≤ 70368744177664)
    (h0 : rs = [] → KV (.sl s 0 0 0) L) (h1 : rs ≠ [] → KV (.sl L.length 0 rs.length rs.length) (L.set s .dead ++ [.cells sz rs])) :
    xop E (.append sz bytes (.c (.sl s 0 0 0)) (.c (.isl rs))) cev L KV := by
  show xappend sz bytes (.sl s 0 0 0) (.isl rs) L KV
  unfold xappend
  refine ⟨hr, ?_⟩
  simp only [hL]
  refine ⟨trivial, by simp, ?_⟩
  by_cases h : rs = []
  · subst h
    rw [if_pos (by simp)]
    have : L.set s (.cells sz (splice [] (0 + 0) [])) = L := by
      have h2 : splice ([] : List (List IV)) (0 + 0) [] = [] := rfl
      rw [h2]
      apply List.ext_getElem? 
      intro i
      rw [List.getElem?_set]
      by_cases hi : s = i
      · subst hi; rw [if_pos rfl, if_pos (lt_of_get hL), hL]
      · rw [if_neg hi]
    rw [this]
    exact h0 rfl
  · have hlen : rs.length ≠ 0 := by simpa using h
    rw [if_neg (by omega)]
    refine ⟨by simpa using hb, ?_⟩
    simpa using h1 h
end
end Go.X
