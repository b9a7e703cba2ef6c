/- Parts of the proof: Xfdigits, Xfref2. -/
import Derived.Test.YtepkimlnaoaboaaGreatDoorXP21
import Derived.Lib.ItoaMem
set_option linter.unusedVariables false
set_option linter.unusedSimpArgs false
set_option linter.unusedSectionVars false
section
open Go Go.X Go.Proofs
set_option maxRecDepth 100000
set_option maxHeartbeats 4000000
set_option linter.unusedSimpArgs false
set_option linter.unusedVariables false
namespace Go.X.TryzW
/- "tiller/tillerref13.Digits" params { toList := [3] } results { toList := [Go.ResultVar.tmp 2] } -/
section
variable {E : Env}
end
end Go.X.TryzW
end
section
open Go Go.X Go.Proofs
set_option maxRecDepth 100000
set_option maxHeartbeats 4000000
set_option linter.unusedSimpArgs false
set_option linter.unusedVariables false
namespace Go.X.TryzW
/- "tiller/tillerref13.split" params { toList := [9, 9] } results { toList := [Go.ResultVar.tmp 4] } -/
/- "tiller/tillerref13.lower" params { toList := [9] } results { toList := [Go.ResultVar.tmp 2] } -/
/- "tiller/tillerref13.length" params { toList := [9] } results { toList := [Go.ResultVar.tmp 2, Go.ResultVar.tmp 3] } -/
/- "tiller/tillerref13.trim" params { toList := [9] } results { toList := [Go.ResultVar.tmp 2] } -/
section
variable {E : Env} {L : List Blk} {K : IV → List Blk → Prop}
def LstS (L : List Blk) (sv : IV) (l : List (List UInt8)) : Prop := (l = [] ∧ sv = .nsl) ∨ ∃ k, sv = .sl k 0 l.length l.length ∧ L[k]? = some (.cells 1 (sRows l))
theorem conv_sRows {n : Nat} {m : Ren} (l : List (List UInt8)) : mapO (mapO (conv L (n + 1) m)) (sRows l) = some (sRows l) := by
  refine mapO_same fun row hr => ?_
  unfold sRows at hr
  obtain ⟨b, _, rfl⟩ := List.mem_map.1 hr
  rfl
theorem LstS.conv {sv : IV} {l : List (List UInt8)} (h : LstS L sv l) : conv L fuel renFreeze sv = some (.isl (sRows l)) := by
  rcases h with ⟨rfl, rfl⟩ | ⟨k, rfl, h3⟩
  · rfl
  · show Go.X.conv L 12 renFreeze _ = _
    simp only [Go.X.conv, renFreeze, h3]
    rw [if_pos (by rw [sRows_len]; omega), List.drop_zero, List.take_of_length_le (by rw [sRows_len]; exact Nat.le_refl _), conv_sRows]
    rfl
theorem LstS.app {sv : IV} {l : List (List UInt8)} {b : Blk} (h : LstS L sv l) : LstS (L ++ [b]) sv l := by
  rcases h with ⟨rfl, rfl⟩ | ⟨k, rfl, h3⟩
  · exact .inl ⟨rfl, rfl⟩
  · exact .inr ⟨k, rfl, by rw [List.getElem?_append_left (lt_of_get h3)]; exact h3⟩
end
end Go.X.TryzW
end
