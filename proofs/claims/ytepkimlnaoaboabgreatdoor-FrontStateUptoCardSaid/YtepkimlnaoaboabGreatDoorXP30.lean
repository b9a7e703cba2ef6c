/- Parts of the proof: XgfSeat. -/
import Derived.Test.YtepkimlnaoaboabGreatDoorXP29
import Derived.Test.YtepkimlnaoaboabGreatDoorCards
import Derived.Test.YtepkimlnaoaboabGreatDoorTie
import Derived.OpenShut
import Derived.Deep.DeepHandedRow
import Derived.Lib.LaidTab
import Derived.Lib.LaidIn
import Derived.Lib.LaidU8T
set_option linter.unusedVariables false
set_option linter.unusedSimpArgs false
set_option linter.unusedSectionVars false
section
/- What all rows of the front seat share. -/
namespace Go.X.TryzW
open Go Go.X Go.Proofs Go.Proofs.YtepkimlnaoaboabGreatDoor Go.ChangeShapes Go.WideShapes Go.RowKit
set_option maxRecDepth 100000
theorem ownT : ownKnob Tryz.prog.godebug = none := by kernel_rfl
theorem loT : laidOutB Tryz.prog = true := by kernel_rfl
theorem maxLenCell {W : World} (h : W.ShapedOpen Tryz.prog) : ∃ m, W.cell? ⟨2, 0, none⟩ = some (.int .i64 m) :=
  shaped_int h (g := 2) (zero := #[.int .i64 0]) (t := 3) (of_decide_eq_true (by kernel_rfl)) (by kernel_rfl) rfl (by kernel_rfl) (by kernel_rfl) Tryz.underlying3

/-- What is known of the program's variables: MaxLen holds a number. -/
def glT (m : Int) : Nat → Option (List IV) := fun n => if n = 2 then some [.int .i64 m] else none
theorem glT_ok {W : World} {m : Int} (h : W.cell? ⟨2, 0, none⟩ = some (.int .i64 m)) : ∀ (n : Nat) (cs : List IV), glT m n = some cs → ∀ (j : Nat) (y : IV), cs[j]? = some y → ∃ u, W.cell? ⟨n, j, none⟩ = some u ∧ ∀ C : Ctx, VR C y u := by
  intro n cs hn j y hy
  unfold glT at hn
  split at hn
  · rename_i h0; subst h0; cases hn
    cases j with
    | zero => simp at hy; subst hy; exact ⟨_, h, fun C => .int _ _⟩
    | succ j => simp at hy
  · cases hn
theorem metT (os : Os) (args : Array Value) : laidMet Tryz.prog Rows.frontRepliesRow.laid ((World.laidAll Tryz.prog os Rows.frontRepliesRow.laid).forCall (fun _ _ => 0) ⟨#[], args, []⟩).memory :=
  laidMet_laidAll args (by kernel_rfl) (by kernel_rfl)
theorem tab8 {W : World} (h : laidMetH Tryz.prog Rows.frontRepliesRow.laid W) : Lib.Utf8Tabs 0 1 W := by
  rw [MakeChecks.laidMetH_plain _ _ _ (by kernel_rfl)] at h
  have e1 : ("unicode/utf8.first", Rows.laid_unicode_utf8_first) ∈ Rows.frontRepliesRow.laid := by
    show _ ∈ [_, _, _, _, _, _, _, _, _, _]
    simp
  have e2 : ("unicode/utf8.acceptRanges", (Rows.laid_unicode_utf8_acceptRanges : DataW Unit)) ∈ Rows.frontRepliesRow.laid := by
    show _ ∈ [_, _, _, _, _, _, _, _, _, _]
    simp
  have h1 := Lib.laidMet.reads h e1
  have h2 := Lib.laidMet.reads h e2
  have f1 : Rows.laid_unicode_utf8_first = Lib.firstData := by kernel_rfl
  have f2 : (Rows.laid_unicode_utf8_acceptRanges : DataW Unit) = Lib.acceptData := by kernel_rfl
  rw [f1] at h1
  rw [f2] at h2
  exact utf8Tabs_of_readsT (U8Types.of196 laysV) ⟨by kernel_rfl, by kernel_rfl, by kernel_rfl, by kernel_rfl, by kernel_rfl, by kernel_rfl, by kernel_rfl⟩ h1 h2
theorem tab8_stays {W w : World} (h : Lib.Utf8Tabs 0 1 W) (hG : ∀ b, b < W.heap.size → w.heap[b]? = W.heap[b]?) : Lib.Utf8Tabs 0 1 w := by
  have hb : ∀ {g c : Nat} {v : Value}, W.cell? ⟨g, c, none⟩ = some v → w.cell? ⟨g, c, none⟩ = some v := fun {g c v} hc => by
    have hg : g < W.heap.size := by
      simp only [World.cell?] at hc
      cases hh : W.heap[g]? with
      | none => rw [hh] at hc; cases hc
      | some o => exact (Array.getElem?_eq_some_iff.1 hh).1
    rw [cell_of_heap (hG g hg)]; exact hc
  exact ⟨fun c hc => hb (h.1 c hc), fun i hi => ⟨hb (h.2 i hi).1, hb (h.2 i hi).2⟩⟩
end Go.X.TryzW
end
