/- Parts of the proof: XzSeat, XzDefIn. -/
import Derived.Test.YtnejaochjehhgaaGreatDoorXP16
import Derived.Test.YtnejaochjehhgaaGreatDoorCards
import Derived.Test.YtnejaochjehhgaaGreatDoorTie
import Derived.OpenShut
import Derived.Deep.DeepHandedRow
import Derived.Lib.LaidTab
import Derived.Lib.ItoaNum
set_option linter.unusedVariables false
set_option linter.unusedSimpArgs false
set_option linter.unusedSectionVars false
section
/- What all rows of this seat share. -/
namespace Go.X.TryzW
open Go Go.X Go.Proofs Go.Proofs.YtnejaochjehhgaaGreatDoor Go.ChangeShapes Go.WideShapes Go.RowKit
set_option maxRecDepth 100000
theorem ownT : ownKnob Tryz.prog.godebug = none := by kernel_rfl
theorem loT : laidOutB Tryz.prog = true := by kernel_rfl
theorem maxLenCell {W : World} (h : W.ShapedOpen Tryz.prog) : ∃ m, W.cell? ⟨0, 0, none⟩ = some (.int .i64 m) :=
  shaped_int h (g := 0) (zero := #[.int .i64 0]) (t := 3) (of_decide_eq_true (by kernel_rfl)) (by kernel_rfl) rfl (by kernel_rfl) (by kernel_rfl) Tryz.underlying3

/-- What is known of the program's variables: MaxLen holds a number. -/
def glT (m : Int) : Nat → Option (List IV) := fun n => if n = 0 then some [.int .i64 m] else none
theorem glT_ok {W : World} {m : Int} (h : W.cell? ⟨0, 0, none⟩ = some (.int .i64 m)) : ∀ (n : Nat) (cs : List IV), glT m n = some cs → ∀ (j : Nat) (y : IV), cs[j]? = some y → ∃ u, W.cell? ⟨n, j, none⟩ = some u ∧ ∀ C : Ctx, VR C y u := by
  intro n cs hn j y hy
  unfold glT at hn
  split at hn
  · rename_i h0; subst h0; cases hn
    cases j with
    | zero => simp at hy; subst hy; exact ⟨_, h, fun C => .int _ _⟩
    | succ j => simp at hy
  · cases hn

theorem metT (os : Os) (args : Array Value) : laidMet Tryz.prog Rows.dagBackRow.laid ((World.laidAll Tryz.prog os Rows.dagBackRow.laid).forCall (fun _ _ => 0) ⟨#[], args, []⟩).memory :=
  laidMet_laidAll args (by kernel_rfl) (by kernel_rfl)
/-- The table of powers of ten holds what the program's text lays. -/
theorem tabT {W : World} (h : laidMetH Tryz.prog Rows.dagBackRow.laid W) : Lib.TabIs Tryz.prog W "internal/strconv.uint64pow10" .u64 Lib.pow10Tab := by
  rw [MakeChecks.laidMetH_plain _ _ _ (by kernel_rfl)] at h
  have h2 := h.filter (fun x => x.1 == "internal/strconv.uint64pow10")
  have e : (Rows.dagBackRow.laid.filter fun x => x.1 == "internal/strconv.uint64pow10") = [("internal/strconv.uint64pow10", Lib.tabData .u64 Lib.pow10Tab)] := by kernel_rfl
  rw [e] at h2
  exact Lib.tabIs_of_head (g := 1) (t := 135) (e := 118) (n := 20) (by kernel_rfl) (by kernel_rfl) (by kernel_rfl) (by kernel_rfl) (by kernel_rfl) (by kernel_rfl) h2
theorem tab_stays {W w : World} (h : Lib.TabIs Tryz.prog W "internal/strconv.uint64pow10" .u64 Lib.pow10Tab) (hG : ∀ b, b < W.heap.size → w.heap[b]? = W.heap[b]?) : Lib.TabIs Tryz.prog w "internal/strconv.uint64pow10" .u64 Lib.pow10Tab := by
  have hg : Tryz.prog.globalNamed "internal/strconv.uint64pow10" = some 1 := by kernel_rfl
  unfold Lib.TabIs World.var? at h ⊢
  rw [hg] at h ⊢
  have hb : 1 < W.heap.size := by
    cases hb : W.heap[1]? with
    | none => rw [Option.bind_some, hb] at h; cases h
    | some o => exact (Array.getElem?_eq_some_iff.1 hb).1
  rw [Option.bind_some] at h ⊢
  rw [hG 1 hb]; exact h
end Go.X.TryzW
end
section
/- A definition that was handed in. -/
namespace Go.X.TryzW
open Go Go.X Go.Proofs Go.Proofs.YtnejaochjehhgaaGreatDoor Go.ChangeShapes Go.WideShapes Go.RowKit
set_option maxRecDepth 100000
def nodeTy : Ty := .struct [.str, .int .i64, .str, .str, .int .i64, .int .i64, .slice .str]
theorem all_get {P : List UInt8 → Prop} : ∀ {rows : List (List IV)}, (∀ row ∈ rows, Ty.str.Of row) → ∃ l : List (List UInt8), rows = strRows l ∧ ∀ s ∈ l, s.length ≤ 9223372036854775807
  | [], _ => ⟨[], rfl, by simp⟩
  | row :: rows, h => by
    obtain ⟨s, rfl, hs⟩ := h row List.mem_cons_self
    obtain ⟨l, rfl, hl⟩ := all_get (P := P) fun r hr => h r (List.mem_cons_of_mem _ hr)
    exact ⟨s :: l, rfl, fun t ht => by rcases List.mem_cons.1 ht with rfl | ht; exact hs; exact hl t ht⟩
theorem node_of {row : List IV} (h : nodeTy.Of row) : ∃ n : NodeD, row = n.row ∧ n.ok := by
  obtain ⟨_, _, rfl, ⟨nm, rfl, h1⟩, _, _, rfl, ⟨kd, rfl, _⟩, _, _, rfl, ⟨ar, rfl, h3⟩, _, _, rfl, ⟨tt, rfl, h4⟩, _, _, rfl, ⟨de, rfl, _⟩, _, _, rfl, ⟨tr, rfl, _⟩, _, _, rfl, ⟨rows, rfl, h7, h8⟩, rfl⟩ := h
  obtain ⟨l, rfl, hl⟩ := all_get (P := fun _ => True) h8
  rw [strRows_len] at h7
  exact ⟨⟨nm, kd, ar, tt, de, tr, l⟩, rfl, h1, h3, h4, h7, hl⟩
theorem nodes_of : ∀ {rows : List (List IV)}, (∀ row ∈ rows, nodeTy.Of row) → ∃ l : List NodeD, rows = nodeRows l ∧ ∀ n ∈ l, n.ok
  | [], _ => ⟨[], rfl, by simp⟩
  | row :: rows, h => by
    obtain ⟨s, rfl, hs⟩ := node_of (h row List.mem_cons_self)
    obtain ⟨l, rfl, hl⟩ := nodes_of fun r hr => h r (List.mem_cons_of_mem _ hr)
    exact ⟨s :: l, rfl, fun t ht => by rcases List.mem_cons.1 ht with rfl | ht; exact hs; exact hl t ht⟩
theorem def_of {cs : List IV} (h : Ty.OfAll [.str, .slice nodeTy] cs) : ∃ d : DefD, IV.agg cs = d.iv ∧ d.ok ∧ d.nodes.length ≤ 9223372036854775807 := by
  obtain ⟨_, _, rfl, ⟨nm, rfl, h1⟩, _, _, rfl, ⟨rows, rfl, h7, h8⟩, rfl⟩ := h
  obtain ⟨l, rfl, hl⟩ := nodes_of h8
  rw [nodeRows_len] at h7
  exact ⟨⟨nm, l⟩, rfl, ⟨h1, hl⟩, h7⟩
theorem vr_def {H : Type} {enc : TypeId × Value → H} {W : World} {sp : Nat → Bool} {hd : Bool} {r : Reach} {b0 : Nat} {v : Value} {d : DataW H} {ps : List MemPlace} (hval : Value.okWide Tryz.prog W r b0 24 v) (h : DataW.Trod enc Tryz.prog W 0 sp hd 24 v d ps) :
    ∃ d : DefD, VR (ctx0 W) d.iv v ∧ d.ok ∧ d.nodes.length ≤ 9223372036854775807 := by
  obtain ⟨cs, h1, h2⟩ := vr_handed_struct (fs := [.str, .slice nodeTy]) (by kernel_rfl) Tryz.underlying24 hval h
  obtain ⟨d, h3, h4⟩ := def_of h2
  exact ⟨d, h3 ▸ h1, h4⟩
end Go.X.TryzW
end
