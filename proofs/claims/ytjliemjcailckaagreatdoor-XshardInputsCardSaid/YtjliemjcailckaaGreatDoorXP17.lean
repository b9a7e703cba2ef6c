/- Parts of the proof: Xiseat. -/
import Derived.Test.YtjliemjcailckaaGreatDoorXP16
import Derived.Test.YtjliemjcailckaaGreatDoorCards
import Derived.Test.YtjliemjcailckaaGreatDoorTie
import Derived.OpenShut
import Derived.Deep.DeepHandedRow
import Derived.Lib.LaidTab
set_option linter.unusedVariables false
set_option linter.unusedSimpArgs false
set_option linter.unusedSectionVars false
section
namespace Go.X.TryzW
open Go Go.X Go.Proofs Go.Proofs.YtjliemjcailckaaGreatDoor Go.ChangeShapes Go.WideShapes Go.RowKit
set_option maxRecDepth 100000
theorem zl6:ownKnob Tryz.prog.godebug=none:=by kernel_rfl
theorem loT:laidOutB Tryz.prog=true:=by kernel_rfl
theorem zkj (os:Os) (args:Array Value):laidMet Tryz.prog Rows.xshardInputsRow.laid ((World.laidAll Tryz.prog os Rows.xshardInputsRow.laid).forCall (fun _ _=>0) ⟨#[],args,[]⟩).memory:=
 laidMet_laidAll args (by kernel_rfl) (by kernel_rfl)
def dbZ:List Int:=[0,1,56,2,57,49,28,3,61,58,42,50,38,29,17,4,62,47,59,36,45,43,51,22,53,39,33,30,24,18,12,5,63,55,48,27,60,41,37,16,46,35,44,21,52,32,23,11,54,26,40,15,34,20,31,10,25,14,19,9,13,8,7,6]
theorem zbO:dbT=dbZ.map fun z=>.int .u8 z:=rfl
theorem zjf {W : World} (h : laidMetH Tryz.prog Rows.xshardInputsRow.laid W) : Lib.TabIs Tryz.prog W "math/bits.deBruijn64tab" .u8 dbZ := by
 rw [MakeChecks.laidMetH_plain _ _ _ (by kernel_rfl)] at h
 have b := h.filter (fun x => x.1 == "math/bits.deBruijn64tab")
 have e : (Rows.xshardInputsRow.laid.filter fun x => x.1 == "math/bits.deBruijn64tab") = [("math/bits.deBruijn64tab", Lib.tabData .u8 dbZ)] := by kernel_rfl
 rw [e] at b
 exact Lib.tabIs_of_head (g:=6) (t:=477) (e:=5) (n:=64) (by kernel_rfl) (by kernel_rfl) (by kernel_rfl) (by kernel_rfl) (by kernel_rfl) (by kernel_rfl) b
theorem zbN {W : World} (h : Lib.TabIs Tryz.prog W "math/bits.deBruijn64tab" .u8 dbZ) : ∀ (n : Nat) (cs : List IV), glK n = some cs → ∀ (j : Nat) (y : IV), cs[j]? = some y → ∃ u, W.cell? ⟨n, j, none⟩ = some u ∧ ∀ C : Ctx, VR C y u := by
 intro n cs b j y d
 unfold glK at b
 split at b
 ·rename_i m
  obtain rfl:=Nat.eq_of_beq_eq_true m
  cases b
  have hg : Tryz.prog.globalNamed "math/bits.deBruijn64tab" = some 6 := by kernel_rfl
  unfold Lib.TabIs World.var? at h
  rw [hg,Option.bind_some] at h
  rw [zbO,List.getElem?_map,oms] at d
  obtain ⟨z,l,rfl⟩:=d
  refine ⟨.int .u8 z,?_,fun C=>.int _ _⟩
  split at h
  ·rename_i q _ _ hh
   simp only [sij] at h
   subst h
   simp only [World.cell?,hh]
   simp [l]
  ·cases h
 ·cases b
end Go.X.TryzW
end
