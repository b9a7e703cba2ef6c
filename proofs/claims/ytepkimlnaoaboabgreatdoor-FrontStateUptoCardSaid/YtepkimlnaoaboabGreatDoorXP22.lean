/- Parts of the proof: Xgfobj. -/
import Derived.Test.YtepkimlnaoaboabGreatDoorXP21
import Derived.WalkKit
set_option linter.unusedVariables false
set_option linter.unusedSimpArgs false
set_option linter.unusedSectionVars false
section
open Go Go.X Go.Proofs Go.RowKit
set_option maxRecDepth 100000
set_option maxHeartbeats 4000000
set_option linter.unusedSimpArgs false
set_option linter.unusedVariables false
namespace Go.X.TryzW
def z38 : XC := (.block 0
   (.seq
    (.ops [
      ⟨(some 8), (.isNil 1 false (.t 6)), none⟩])
    (.cond (.t 8)
     (.ops [
       ⟨(some 3), (.mov (.t 6)), none⟩])
     (.seq
      (.ops [⟨(some 9), (.ex (.tas 90) [(.t 6)]), none⟩, ⟨(some 10), (.ext (.t 9) 1), none⟩, ⟨(some 11), (.ext (.t 9) 0), none⟩])
      (.cond (.t 10)
       (.seq
        (.ops [
          ⟨(some 4), (.alloc [(.int .i64 0), (.int .i64 0)]), none⟩,
          ⟨none, (.store 2 (.t 4) (.t 11)), none⟩])
        (.drawR [(⟨(some 12), (.fldA 0 (.t 4)), none⟩, ([], false)), (⟨(some 13), (.load1 (.t 12)), none⟩, ([], true)), (⟨(some 14), (.fldA 1 (.t 4)), none⟩, ([], false)), (⟨(some 15), (.load1 (.t 14)), none⟩, ([], true)), (⟨none, (.store 1 (.t 0) (.c .nsl)), none⟩, ([1, 3], false)), (⟨none, (.store 1 (.t 1) (.t 13)), none⟩, ([3], false)), (⟨none, (.store 1 (.t 2) (.t 15)), none⟩, ([], false))]))
       (.seq
        (.ops [
          ⟨(some 5), (.mov (.t 6)), none⟩])
        (.ops [
          ⟨(some 7), (.mov (.t 5)), none⟩,
          ⟨none, (.ex .panic [(.t 7)]), none⟩])))))))
def z19a : XC := .ops [⟨(some 2), (.alloc [.nsl]), none⟩, ⟨(some 3), (.alloc [(.int .i64 0)]), none⟩, ⟨(some 4), (.alloc [(.int .i64 0)]), none⟩]
def z19c : XC := .seq (.ops [
      ⟨(some 6), (.mov (.t 0)), none⟩,
      ⟨(some 7), (.build [(.str []), (.int .i64 0)] [(0, (1, (.t 6)))]), none⟩,
      ⟨(some 8), (.box (.t 7)), none⟩,
      ⟨(some 9), (.call (.f 51) [(.t 8)]), none⟩,
      ⟨none, (.store 1 (.t 2) (.t 9)), none⟩,
      ⟨none, (.store 1 (.t 3) (.c (.int .i64 0))), none⟩,
      ⟨none, (.store 1 (.t 4) (.c (.int .i64 0))), none⟩]) .ret
def cl1 (x : IV) : Blk := .cells 1 [[x]]
section
variable {E : Env}
theorem clo_idle : XIdle Tryz.prog 50 3 := by
  intro vs w hv
  match vs, hv with
  | [p, q, r], _ =>
  have hnil : ∀ w : World, (binOp BinOp.eql 20 .nilIface .nilIface).run Tryz.prog w = .ok (.bool true) w := fun _ => by kernel_rfl
  refine callsD_of_wpS Tryz.func50 rfl fun c₀ cs hu => ?_
  apply wpS_seq
  apply wpS_region
  simp [wpOpsS, go_sem, recoverD, hu, Tryz.ntmps50, Exit.thenS]
  refine wpS_of_wp ?_
  go_wp
  cases c₀
  simp_all [bodyPostS, results, Tryz.results50]
theorem clo_run (s : List UInt8) (p w : Int) (j : Nat) : xrun (E.defr (fun _ _ => False) 0 (fun _ => undef) []) z38 (put (entry [.ptr 0 0 0, .ptr 1 0 0, .ptr 2 0 0]) (some 6) (stopV p w)) [cl1 .nsl, cl1 (.int .i64 0), cl1 (.int .i64 0), rdB s j]
    fun e _ L' => (e = .ret ∨ e = .normal) ∧ ∃ L2, L' = cl1 .nsl :: cl1 (.int .i64 p) :: cl1 (.int .i64 w) :: L2 := by
  generalize hρ : entry [.ptr 0 0 0, .ptr 1 0 0, .ptr 2 0 0] = ρ
  have h0 : ρ 0 = .ptr 0 0 0 := by rw [← hρ]; rfl
  have h1 : ρ 1 = .ptr 1 0 0 := by rw [← hρ]; rfl
  have h2 : ρ 2 = .ptr 2 0 0 := by rw [← hρ]; rfl
  clear hρ
  unfold z38 stopV cl1 rdB
  simp only [h0, h1, h2, go_sem, Nat.reduceEqDiff, reduceIte, Int.reduceEq, Int.reduceLT, Int.reduceLE, Nat.reduceAdd, Nat.reduceLT, Nat.reduceLeDiff, Int.reduceToNat, Int.reduceSub, Int.reduceAdd, Int.reduceNeg]
  exact ⟨.inr trivial, _, rfl⟩
def objIV (s : List UInt8) : IV := match Fr.body s with
  | .ok l => .tup [.isl (pRows l), .int .i64 0, .int .i64 0]
  | .error (p, w) => .tup [.isl [], .int .i64 p, .int .i64 w]
def PObj (s : List UInt8) : IV → List Blk → Prop := fun x L' => ∃ p w j, Fr.body s = .error (p, w) ∧ x = stopV p w ∧ L' = [cl1 .nsl, cl1 (.int .i64 0), cl1 (.int .i64 0), rdB s j]
theorem z19_run (hP : E.P = Tryz.prog) (ht : ∀ w, E.G w → Lib.Utf8Tabs 0 1 w) (s : List UInt8) (hs : s.length ≤ 1000000) (lo : Nat) (kept : Nat → Value) (B : List Deferred) (ρ : Rho) (h0 : ρ 0 = .str s) (h2 : ρ 2 = .ptr 0 0 0) (h3 : ρ 3 = .ptr 1 0 0) (h4 : ρ 4 = .ptr 2 0 0) :
    xrun (E.defr (PObj s) lo kept B) z19c ρ [cl1 .nsl, cl1 (.int .i64 0), cl1 (.int .i64 0)] fun e ρ' L' => (e = .ret ∨ e = .normal) ∧ ∃ l j, Fr.body s = .ok l ∧ ρ' 2 = .ptr 0 0 0 ∧ ρ' 3 = .ptr 1 0 0 ∧ ρ' 4 = .ptr 2 0 0 ∧ L' = [cl1 (.isl (pRows l)), cl1 (.int .i64 0), cl1 (.int .i64 0), rdB s j] := by
  unfold z19c cl1
  simp only [h0, h2, h3, h4, go_sem, Nat.reduceEqDiff, reduceIte, Int.reduceEq, Int.reduceLT, Int.reduceLE, Nat.reduceAdd, Nat.reduceLT, Nat.reduceLeDiff, Int.reduceToNat, Int.reduceSub, Int.reduceAdd, Int.reduceNeg]
  refine xcall_selP (args' := [.ptr 0 0 0]) (L0 := [rdB s 0]) [3] (by simp) (fun t ht => by rw [List.mem_singleton] at ht; subst ht; exact ⟨_, rfl, rfl⟩) rfl rfl (object_tp (E := E.defr (PObj s) lo kept B) hP ht s hs) ?_ ?_
  rotate_left
  · rintro r L1 ⟨p, w, j, he, rfl, rfl⟩
    exact ⟨stopV p w, [rdB s j], rfl, rfl, p, w, j, he, rfl, rfl⟩
  rintro r L1 ⟨l, j, he, rfl, rfl⟩
  refine ⟨.isl (pRows l), [rdB s j], rfl, rfl, ?_⟩
  show xops _ _ _ [.cells 1 [[.nsl]], .cells 1 [[.int .i64 0]], .cells 1 [[.int .i64 0]], rdB s j] _
  simp only [h0, h2, h3, h4, go_sem, Nat.reduceEqDiff, reduceIte, Int.reduceEq, Int.reduceLT, Int.reduceLE, Nat.reduceAdd, Nat.reduceLT, Nat.reduceLeDiff, Int.reduceToNat, Int.reduceSub, Int.reduceAdd, Int.reduceNeg]
  exact ⟨.inl trivial, l, j, he, rfl⟩
theorem obj_pure (hP : E.P = Tryz.prog) (ht : ∀ w, E.G w → Lib.Utf8Tabs 0 1 w) (s : List UInt8) (hs : s.length ≤ 1000000) : XPure E 30 [.str s] (objIV s) := by
  refine xt_defer (fn := Tryz.f30) (x1 := z19a) (x3 := z19c) (rs := [.cell1 2, .cell1 3, .cell1 4]) (d := 5) (k := 50) (lo := 6) (caps := [2, 3, 4])
    (M := fun ρ1 L1 => ρ1 0 = .str s ∧ ρ1 2 = .ptr 0 0 0 ∧ ρ1 3 = .ptr 1 0 0 ∧ ρ1 4 = .ptr 2 0 0 ∧ L1 = [cl1 .nsl, cl1 (.int .i64 0), cl1 (.int .i64 0)]) (PQ := fun _ => PObj s)
    (by rw [hP]; rfl) rfl (by decide) (Nat.le_of_ble_eq_true rfl) (by decide) (by rw [hP]; kernel_rfl) (by rw [hP]; kernel_rfl) (by rw [hP]; kernel_rfl) (by rfl) ⟨Tryz.f50, by rw [hP]; rfl, by decide, by rfl⟩ ?_ (by rfl) ?_ ?_ ?_ (by rw [hP]; exact clo_idle)
  · intro Q a w hd hN h
    apply wp_region
    obtain ⟨tm, df⟩ := a
    simp only at hd hN
    subst hd
    have h5 : 5 < tm.size := by rw [hN]; decide
    have hg5 : ∀ v : Value, (tm.setIfInBounds 5 v).getD 5 undef = v := fun v => by rw [getD_set h5, if_pos rfl]
    have hmf : ∀ (fn : Fn) (first cap : Array Value) (w : World), (Instr.makeFunc fn first cap).run E.P w = .ok (.func fn first cap) w := fun _ _ _ _ => rfl
    have hr2 : (List.range 2) = [0, 1] := rfl
    show wpOps E.P _ Q [0, 1] _ w
    simp [wpOps, wpOp, Oper.wp, Oper.upon, Region.wanted, go_sem, Act.eval, Act.put, hg5, hmf, execOp, resolve, Deferred.ofValue]
    refine .inl (.inl ?_)
    simpa using h
  · generalize hρ : entry _ = ρ
    have h0 : ρ 0 = .str s := by rw [← hρ]; rfl
    clear hρ
    unfold z19a cl1
    simp only [h0, go_sem, Nat.reduceEqDiff, reduceIte, Int.reduceEq, Int.reduceLT, Int.reduceLE, Nat.reduceAdd, Nat.reduceLT, Nat.reduceLeDiff, Int.reduceToNat, Int.reduceSub, Int.reduceAdd, Int.reduceNeg]
  · rintro ρ1 L1 ⟨h0, h2, h3, h4, rfl⟩ kept B
    refine xrun_mono _ (fun e ρ' L' h => ?_) (z19_run hP ht s hs 6 kept B _ (by simp only [h0, go_sem, Nat.reduceEqDiff, reduceIte, Int.reduceEq, Int.reduceLT, Int.reduceLE, Nat.reduceAdd, Nat.reduceLT, Nat.reduceLeDiff, Int.reduceToNat, Int.reduceSub, Int.reduceAdd, Int.reduceNeg]) (by simp only [h2, go_sem, Nat.reduceEqDiff, reduceIte, Int.reduceEq, Int.reduceLT, Int.reduceLE, Nat.reduceAdd, Nat.reduceLT, Nat.reduceLeDiff, Int.reduceToNat, Int.reduceSub, Int.reduceAdd, Int.reduceNeg]) (by simp only [h3, go_sem, Nat.reduceEqDiff, reduceIte, Int.reduceEq, Int.reduceLT, Int.reduceLE, Nat.reduceAdd, Nat.reduceLT, Nat.reduceLeDiff, Int.reduceToNat, Int.reduceSub, Int.reduceAdd, Int.reduceNeg]) (by simp only [h4, go_sem, Nat.reduceEqDiff, reduceIte, Int.reduceEq, Int.reduceLT, Int.reduceLE, Nat.reduceAdd, Nat.reduceLT, Nat.reduceLeDiff, Int.reduceToNat, Int.reduceSub, Int.reduceAdd, Int.reduceNeg]))
    obtain ⟨he, l, j, hb, g2, g3, g4, rfl⟩ := h
    refine ⟨he, ?_⟩
    have hi : objIV s = .tup [.isl (pRows l), .int .i64 0, .int .i64 0] := by unfold objIV; rw [hb]
    simp only [xresults, xress, xres1, xop, Opd.ev, g2, g3, g4, rowsAt, cl1, List.getElem?_cons_zero, List.getElem?_cons_succ]
    refine ⟨by simp, by simp, by simp, by simp, by simp, by simp, ?_⟩
    exact leave_none rfl ⟨hi.symm, rfl⟩
  · rintro ρ1 L1 x L' ⟨h0, h2, h3, h4, rfl⟩ ⟨p, w, j, hb, rfl, rfl⟩
    have hcaps : ([2, 3, 4] : List Nat).map ρ1 = [.ptr 0 0 0, .ptr 1 0 0, .ptr 2 0 0] := by simp [h2, h3, h4]
    rw [hcaps]
    refine xclo_of (fn := Tryz.f50) (r := 6) (x2 := z38) (by rw [hP]; rfl) rfl rfl (by decide) (by decide) (by rw [hP]; kernel_rfl) (by rfl) (xrun_mono _ (fun e ρ' L' h => ?_) (clo_run s p w j))
    obtain ⟨he, L2, rfl⟩ := h
    refine ⟨he, fun ρ hρ => ?_⟩
    have g2 : ρ 2 = .ptr 0 0 0 := by rw [hρ 2 (by decide)]; simp only [h2, go_sem, Nat.reduceEqDiff, reduceIte, Int.reduceEq, Int.reduceLT, Int.reduceLE, Nat.reduceAdd, Nat.reduceLT, Nat.reduceLeDiff, Int.reduceToNat, Int.reduceSub, Int.reduceAdd, Int.reduceNeg]
    have g3 : ρ 3 = .ptr 1 0 0 := by rw [hρ 3 (by decide)]; simp only [h3, go_sem, Nat.reduceEqDiff, reduceIte, Int.reduceEq, Int.reduceLT, Int.reduceLE, Nat.reduceAdd, Nat.reduceLT, Nat.reduceLeDiff, Int.reduceToNat, Int.reduceSub, Int.reduceAdd, Int.reduceNeg]
    have g4 : ρ 4 = .ptr 2 0 0 := by rw [hρ 4 (by decide)]; simp only [h4, go_sem, Nat.reduceEqDiff, reduceIte, Int.reduceEq, Int.reduceLT, Int.reduceLE, Nat.reduceAdd, Nat.reduceLT, Nat.reduceLeDiff, Int.reduceToNat, Int.reduceSub, Int.reduceAdd, Int.reduceNeg]
    have hi : objIV s = .tup [.isl [], .int .i64 p, .int .i64 w] := by unfold objIV; rw [hb]
    simp only [xresults, xress, xres1, xop, Opd.ev, g2, g3, g4, rowsAt, cl1, List.getElem?_cons_zero, List.getElem?_cons_succ]
    refine ⟨by simp, by simp, by simp, by simp, by simp, by simp, ?_⟩
    exact leave_none rfl ⟨hi.symm, rfl⟩
end
end Go.X.TryzW
end
