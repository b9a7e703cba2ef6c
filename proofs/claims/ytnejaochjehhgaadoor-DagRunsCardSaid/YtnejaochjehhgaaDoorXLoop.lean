/- The calculus X, part 18: loops, and small laws of numbers. -/
import Derived.Test.YtnejaochjehhgaaDoorXStep
set_option linter.unusedVariables false
set_option linter.unusedSimpArgs false
set_option linter.unusedSectionVars false
namespace Go.X
open Go
section
variable {E : Env} {ρ : Rho} {L : List Blk} {KX : XE → Rho → List Blk → Prop}

/-- Behind a round. -/
def loopK (I : Nat → Rho → List Blk → Prop) (n : Nat) (K : XE → Rho → List Blk → Prop) : XE → Rho → List Blk → Prop
  | .normal, ρ, L => ∃ m, m < n ∧ I m ρ L
  | e, ρ, L => K e ρ L
@[go_sem ↓] theorem s_loopK1 {I : Nat → Rho → List Blk → Prop} {n : Nat} : loopK I n KX .normal ρ L = ∃ m, m < n ∧ I m ρ L := nr rfl
@[go_sem ↓] theorem s_loopK2 {I : Nat → Rho → List Blk → Prop} {n : Nat} : loopK I n KX .ret ρ L = KX .ret ρ L := nr rfl
@[go_sem ↓] theorem s_loopK3 {I : Nat → Rho → List Blk → Prop} {n l : Nat} : loopK I n KX (.goto l) ρ L = KX (.goto l) ρ L := nr rfl
@[go_sem ↓] theorem s_loopK4 {I : Nat → Rho → List Blk → Prop} {n l : Nat} : loopK I n KX (.exit l) ρ L = KX (.exit l) ρ L := nr rfl
theorem s_loop {b : XC} (I : Nat → Rho → List Blk → Prop) {n : Nat} (h0 : I n ρ L) (hs : ∀ n ρ L, I n ρ L → xrun E b ρ L (loopK I n KX)) : xrun E (.loop b) ρ L KX := by
  refine xloop_inv I h0 fun n ρ L h => xrun_mono _ (fun e ρ' L' h => ?_) (hs n ρ L h)
  cases e <;> exact h

/-- Behind a run that may go to label l again. -/
def gotoK (l : Nat) (I : Nat → Rho → List Blk → Prop) (n : Nat) (K : XE → Rho → List Blk → Prop) : XE → Rho → List Blk → Prop
  | .goto l', ρ, L => (l' = l → ∃ m, m < n ∧ I m ρ L) ∧ (l' ≠ l → K (.goto l') ρ L)
  | e, ρ, L => K e ρ L
@[go_sem ↓] theorem s_gotoK1 {I : Nat → Rho → List Blk → Prop} {n l : Nat} : gotoK l I n KX (.goto l) ρ L = ∃ m, m < n ∧ I m ρ L := by simp [gotoK]
@[go_sem ↓] theorem s_gotoK2 {I : Nat → Rho → List Blk → Prop} {n l : Nat} : gotoK l I n KX .ret ρ L = KX .ret ρ L := nr rfl
@[go_sem ↓] theorem s_gotoK3 {I : Nat → Rho → List Blk → Prop} {n l : Nat} : gotoK l I n KX .normal ρ L = KX .normal ρ L := nr rfl
@[go_sem ↓] theorem s_gotoK4 {I : Nat → Rho → List Blk → Prop} {n l i : Nat} : gotoK l I n KX (.exit i) ρ L = KX (.exit i) ρ L := nr rfl
theorem s_scope {b c : XC} {l : Nat} (I : Nat → Rho → List Blk → Prop) (N : Nat) (h0 : xrun E b ρ L (gotoK l I N KX)) (hs : ∀ n ρ L, I n ρ L → xrun E c ρ L (gotoK l I n KX)) :
    xrun E (.scope b (.cons l c .nil)) ρ L KX := by
  simp only [xrun]
  have hg : xlabs E (.cons l c .nil) l = some (xrun E c) := by simp [xlabs]
  have hg' : ∀ l', l' ≠ l → xlabs E (.cons l c .nil) l' = none := fun l' h => by simp [xlabs, h]
  have key : ∀ n, (∀ m ρ L, m < n → I m ρ L → xgoto (xlabs E (.cons l c .nil)) n (.goto l) ρ L KX) ∧ (∀ e ρ L, gotoK l I n KX e ρ L → xgoto (xlabs E (.cons l c .nil)) n e ρ L KX) := by
    intro n
    induction n with
    | zero =>
      refine ⟨fun m ρ L h => by omega, fun e ρ L h => ?_⟩
      cases e with
      | normal => simp only [xgoto]; exact h
      | ret => simp only [xgoto]; exact h
      | exit i => simp only [xgoto]; exact h
      | goto l' =>
        by_cases hl : l' = l
        · subst hl; obtain ⟨m, hm, _⟩ := h.1 rfl; omega
        · unfold xgoto; rw [hg' l' hl]; exact h.2 hl
    | succ n ih =>
      have h1 : ∀ m ρ L, m < n + 1 → I m ρ L → xgoto (xlabs E (.cons l c .nil)) (n + 1) (.goto l) ρ L KX := by
        intro m ρ L hm h
        unfold xgoto
        rw [hg]
        refine xrun_mono c (fun e ρ' L' h' => ih.2 e ρ' L' ?_) (hs m ρ L h)
        cases e with
        | goto l' =>
          refine ⟨fun hl => ?_, h'.2⟩
          obtain ⟨k, hk, h2⟩ := h'.1 hl
          exact ⟨k, by omega, h2⟩
        | normal => exact h'
        | ret => exact h'
        | exit i => exact h'
      refine ⟨h1, fun e ρ L h => ?_⟩
      cases e with
      | normal => simp only [xgoto]; exact h
      | ret => simp only [xgoto]; exact h
      | exit i => simp only [xgoto]; exact h
      | goto l' =>
        by_cases hl : l' = l
        · subst hl; obtain ⟨m, hm, h2⟩ := h.1 rfl; exact h1 m ρ L hm h2
        · unfold xgoto; rw [hg' l' hl]; exact h.2 hl
  exact ⟨N, xrun_mono b (fun e ρ L h => (key N).2 e ρ L h) h0⟩

/-- A loop that is left in its first round. -/
theorem s_loop1 {b : XC} (h : xrun E b ρ L (loopK (fun _ _ _ => False) 0 KX)) : xrun E (.loop b) ρ L KX := by
  refine s_loop (fun _ ρ' L' => ρ' = ρ ∧ L' = L) (n := 0) ⟨rfl, rfl⟩ ?_
  rintro n _ _ ⟨rfl, rfl⟩
  refine xrun_mono _ (fun e ρ' L' h => ?_) h
  cases e with
  | normal => obtain ⟨_, _, h⟩ := h; exact h.elim
  | exit => exact h
  | goto => exact h
  | ret => exact h

theorem wrap64 {n : Int} (h1 : -9223372036854775808 ≤ n) (h2 : n ≤ 9223372036854775807) : IntKind.wrap .i64 n = n := by
  simp only [IntKind.wrap]; simp [IntKind.bits, IntKind.signed]; omega
end
end Go.X
