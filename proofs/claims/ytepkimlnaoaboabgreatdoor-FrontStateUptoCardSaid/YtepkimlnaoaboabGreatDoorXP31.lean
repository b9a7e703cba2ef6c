/- Parts of the proof: XgSeat2. -/
import Derived.Test.YtepkimlnaoaboabGreatDoorXP30
import Derived.Lib.ItoaNum
set_option linter.unusedVariables false
set_option linter.unusedSimpArgs false
set_option linter.unusedSectionVars false
section
/- What the rows of seat ab share: the table of powers of ten. -/
namespace Go.X.TryzW
open Go Go.X Go.Proofs Go.Proofs.YtepkimlnaoaboabGreatDoor Go.ChangeShapes Go.WideShapes Go.RowKit
set_option maxRecDepth 100000
/-- The table of powers of ten holds what the program's text lays. -/
theorem tabT {W : World} (h : laidMetH Tryz.prog Rows.frontRepliesRow.laid W) : Lib.TabIs Tryz.prog W "internal/strconv.uint64pow10" .u64 Lib.pow10Tab := by
  rw [MakeChecks.laidMetH_plain _ _ _ (by kernel_rfl)] at h
  have h2 := h.filter (fun x => x.1 == "internal/strconv.uint64pow10")
  have e : (Rows.frontRepliesRow.laid.filter fun x => x.1 == "internal/strconv.uint64pow10") = [("internal/strconv.uint64pow10", Lib.tabData .u64 Lib.pow10Tab)] := by kernel_rfl
  rw [e] at h2
  exact Lib.tabIs_of_head (g := 3) (t := 134) (e := 117) (n := 20) (by kernel_rfl) (by kernel_rfl) (by kernel_rfl) (by kernel_rfl) (by kernel_rfl) (by kernel_rfl) h2
theorem tab_stays {W w : World} (h : Lib.TabIs Tryz.prog W "internal/strconv.uint64pow10" .u64 Lib.pow10Tab) (hG : ∀ b, b < W.heap.size → w.heap[b]? = W.heap[b]?) : Lib.TabIs Tryz.prog w "internal/strconv.uint64pow10" .u64 Lib.pow10Tab := by
  have hg : Tryz.prog.globalNamed "internal/strconv.uint64pow10" = some 3 := by kernel_rfl
  unfold Lib.TabIs World.var? at h ⊢
  rw [hg] at h ⊢
  have hb : 3 < W.heap.size := by
    cases hb : W.heap[3]? with
    | none => rw [Option.bind_some, hb] at h; cases h
    | some o => exact (Array.getElem?_eq_some_iff.1 hb).1
  rw [Option.bind_some] at h ⊢
  rw [hG 3 hb]; exact h
end Go.X.TryzW
end
