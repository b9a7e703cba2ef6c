/- Parts of the proof: Xzkeep. -/
import Derived.Test.YtnejaochjehhgaaGreatDoorXP11
set_option linter.unusedVariables false
set_option linter.unusedSimpArgs false
set_option linter.unusedSectionVars false
section
open Go Go.X Go.Proofs
set_option maxRecDepth 100000
set_option maxHeartbeats 4000000
set_option linter.unusedSimpArgs false
set_option linter.unusedVariables false
namespace Go.X.TryzW
/- "tiller/tillerkeep.Texts" params { toList := [33, 33] } results { toList := [Go.ResultVar.tmp 4] } -/
def y50 : XC :=
 (.seq
  (.ops [
    ⟨(some 4), (.mov (.c (.bool false))), none⟩])
  (.seq
   (.seq
    (.ops [
      ⟨(some 6), (.mov (.t 0)), none⟩,
      ⟨(some 7), (.len (.t 6)), none⟩,
      ⟨(some 8), (.mov (.t 1)), none⟩,
      ⟨(some 9), (.len (.t 8)), none⟩,
      ⟨(some 10), (.bin .neq (.t 7) (.t 9)), none⟩])
    (.cond (.t 10)
     (.seq
      (.ops [
        ⟨(some 4), (.mov (.c (.bool false))), none⟩])
      .ret)
     .skip))
   (.seq
    (.seq
     (.ops [
       ⟨(some 5), (.mov (.c (.int .i64 0))), none⟩])
     (.block 0
      (.loop
       (.seq
        (.seq
         (.ops [
           ⟨(some 11), (.mov (.t 5)), none⟩,
           ⟨(some 12), (.mov (.t 0)), none⟩,
           ⟨(some 13), (.len (.t 12)), none⟩,
           ⟨(some 14), (.bin .lss (.t 11) (.t 13)), none⟩])
         (.cond (.t 14)
          .skip
          (.exit 0)))
        (.seq
         (.block 1
          (.seq
           (.draw [
             ⟨(some 17), (.mov (.t 0)), none⟩,
             ⟨(some 18), (.mov (.t 5)), none⟩,
             ⟨(some 19), (.idxS 1 (.t 17) (.t 18)), none⟩,
             ⟨(some 20), (.load1 (.t 19)), none⟩,
             ⟨(some 21), (.mov (.t 1)), none⟩,
             ⟨(some 22), (.mov (.t 5)), none⟩,
             ⟨(some 23), (.idxS 1 (.t 21) (.t 22)), none⟩,
             ⟨(some 24), (.load1 (.t 23)), none⟩,
             ⟨(some 25), (.bin .neq (.t 20) (.t 24)), none⟩])
           (.cond (.t 25)
            (.seq
             (.ops [
               ⟨(some 4), (.mov (.c (.bool false))), none⟩])
             .ret)
            .skip)))
         (.ops [
           ⟨(some 15), (.mov (.t 5)), none⟩,
           ⟨(some 16), (.bin .add (.t 15) (.c (.int .i64 1))), none⟩,
           ⟨(some 5), (.mov (.t 16)), none⟩]))))))
    (.seq
     (.ops [
       ⟨(some 4), (.mov (.c (.bool true))), none⟩])
     .ret))))

/- "tiller/tillerkeep.Node" params { toList := [37, 37] } results { toList := [Go.ResultVar.tmp 4] } -/
def y25 : XC :=
 (.seq
  (.ops [
    ⟨(some 2), (.box (.t 0)), none⟩,
    ⟨(some 3), (.box (.t 1)), none⟩,
    ⟨(some 4), (.mov (.c (.bool false))), none⟩])
  (.seq
   (.ops [
     ⟨(some 5), (.fldA 0 (.t 2)), none⟩,
     ⟨(some 6), (.load1 (.t 5)), none⟩,
     ⟨(some 7), (.fldA 0 (.t 3)), none⟩,
     ⟨(some 8), (.load1 (.t 7)), none⟩,
     ⟨(some 9), (.bin .eql (.t 6) (.t 8)), none⟩,
     ⟨(some 10), (.mov (.t 9)), none⟩,
     ⟨(some 11), (.fldA 1 (.t 2)), (some (10, true))⟩,
     ⟨(some 12), (.load1 (.t 11)), (some (10, true))⟩,
     ⟨(some 13), (.fldA 1 (.t 3)), (some (10, true))⟩,
     ⟨(some 14), (.load1 (.t 13)), (some (10, true))⟩,
     ⟨(some 15), (.bin .eql (.t 12) (.t 14)), (some (10, true))⟩,
     ⟨(some 16), (.pick (.t 10) (.t 15) (.c (.bool false))), none⟩,
     ⟨(some 17), (.mov (.t 16)), none⟩,
     ⟨(some 18), (.fldA 2 (.t 2)), (some (17, true))⟩,
     ⟨(some 19), (.load1 (.t 18)), (some (17, true))⟩,
     ⟨(some 20), (.fldA 2 (.t 3)), (some (17, true))⟩,
     ⟨(some 21), (.load1 (.t 20)), (some (17, true))⟩,
     ⟨(some 22), (.bin .eql (.t 19) (.t 21)), (some (17, true))⟩,
     ⟨(some 23), (.pick (.t 17) (.t 22) (.c (.bool false))), none⟩,
     ⟨(some 24), (.mov (.t 23)), none⟩,
     ⟨(some 25), (.fldA 3 (.t 2)), (some (24, true))⟩,
     ⟨(some 26), (.load1 (.t 25)), (some (24, true))⟩,
     ⟨(some 27), (.fldA 3 (.t 3)), (some (24, true))⟩,
     ⟨(some 28), (.load1 (.t 27)), (some (24, true))⟩,
     ⟨(some 29), (.bin .eql (.t 26) (.t 28)), (some (24, true))⟩,
     ⟨(some 30), (.pick (.t 24) (.t 29) (.c (.bool false))), none⟩,
     ⟨(some 31), (.mov (.t 30)), none⟩,
     ⟨(some 32), (.fldA 4 (.t 2)), (some (31, true))⟩,
     ⟨(some 33), (.load1 (.t 32)), (some (31, true))⟩,
     ⟨(some 34), (.fldA 4 (.t 3)), (some (31, true))⟩,
     ⟨(some 35), (.load1 (.t 34)), (some (31, true))⟩,
     ⟨(some 36), (.bin .eql (.t 33) (.t 35)), (some (31, true))⟩,
     ⟨(some 37), (.pick (.t 31) (.t 36) (.c (.bool false))), none⟩,
     ⟨(some 38), (.mov (.t 37)), none⟩,
     ⟨(some 39), (.fldA 5 (.t 2)), (some (38, true))⟩,
     ⟨(some 40), (.load1 (.t 39)), (some (38, true))⟩,
     ⟨(some 41), (.fldA 5 (.t 3)), (some (38, true))⟩,
     ⟨(some 42), (.load1 (.t 41)), (some (38, true))⟩,
     ⟨(some 43), (.bin .eql (.t 40) (.t 42)), (some (38, true))⟩,
     ⟨(some 44), (.pick (.t 38) (.t 43) (.c (.bool false))), none⟩,
     ⟨(some 45), (.mov (.t 44)), none⟩,
     ⟨(some 46), (.fldA 6 (.t 2)), (some (45, true))⟩,
     ⟨(some 47), (.load1 (.t 46)), (some (45, true))⟩,
     ⟨(some 48), (.fldA 6 (.t 3)), (some (45, true))⟩,
     ⟨(some 49), (.load1 (.t 48)), (some (45, true))⟩,
     ⟨(some 50), (.call (.f 50) [(.t 47), (.t 49)]), (some (45, true))⟩,
     ⟨(some 51), (.pick (.t 45) (.t 50) (.c (.bool false))), none⟩,
     ⟨(some 4), (.mov (.t 51)), none⟩])
   .ret))

/- "tiller/tillerkeep.Def" params { toList := [24, 24] } results { toList := [Go.ResultVar.tmp 4] } -/
def y10 : XC :=
 (.seq
  (.ops [
    ⟨(some 2), (.box (.t 0)), none⟩,
    ⟨(some 3), (.box (.t 1)), none⟩,
    ⟨(some 4), (.mov (.c (.bool false))), none⟩])
  (.seq
   (.seq
    (.ops [
      ⟨(some 6), (.fldA 0 (.t 2)), none⟩,
      ⟨(some 7), (.load1 (.t 6)), none⟩,
      ⟨(some 8), (.fldA 0 (.t 3)), none⟩,
      ⟨(some 9), (.load1 (.t 8)), none⟩,
      ⟨(some 10), (.bin .neq (.t 7) (.t 9)), none⟩,
      ⟨(some 11), (.mov (.t 10)), none⟩,
      ⟨(some 12), (.fldA 1 (.t 2)), (some (11, false))⟩,
      ⟨(some 13), (.load1 (.t 12)), (some (11, false))⟩,
      ⟨(some 14), (.len (.t 13)), (some (11, false))⟩,
      ⟨(some 15), (.fldA 1 (.t 3)), (some (11, false))⟩,
      ⟨(some 16), (.load1 (.t 15)), (some (11, false))⟩,
      ⟨(some 17), (.len (.t 16)), (some (11, false))⟩,
      ⟨(some 18), (.bin .neq (.t 14) (.t 17)), (some (11, false))⟩,
      ⟨(some 19), (.pick (.t 11) (.c (.bool true)) (.t 18)), none⟩])
    (.cond (.t 19)
     (.seq
      (.ops [
        ⟨(some 4), (.mov (.c (.bool false))), none⟩])
      .ret)
     .skip))
   (.seq
    (.seq
     (.ops [
       ⟨(some 5), (.mov (.c (.int .i64 0))), none⟩])
     (.block 0
      (.loop
       (.seq
        (.seq
         (.ops [
           ⟨(some 20), (.mov (.t 5)), none⟩,
           ⟨(some 21), (.fldA 1 (.t 2)), none⟩,
           ⟨(some 22), (.load1 (.t 21)), none⟩,
           ⟨(some 23), (.len (.t 22)), none⟩,
           ⟨(some 24), (.bin .lss (.t 20) (.t 23)), none⟩])
         (.cond (.t 24)
          .skip
          (.exit 0)))
        (.seq
         (.block 1
          (.seq
           (.drawE [
             ⟨(some 27), (.fldA 1 (.t 2)), none⟩,
             ⟨(some 28), (.load1 (.t 27)), none⟩,
             ⟨(some 29), (.mov (.t 5)), none⟩,
             ⟨(some 30), (.idxS 7 (.t 28) (.t 29)), none⟩,
             ⟨(some 31), (.loadN 7 (.t 30)), none⟩,
             ⟨(some 32), (.fldA 1 (.t 3)), none⟩,
             ⟨(some 33), (.load1 (.t 32)), none⟩,
             ⟨(some 34), (.mov (.t 5)), none⟩,
             ⟨(some 35), (.idxS 7 (.t 33) (.t 34)), none⟩,
             ⟨(some 36), (.loadN 7 (.t 35)), none⟩,
             ⟨(some 37), (.pcall (.f 25) [(.t 31), (.t 36)]), none⟩,
             ⟨(some 38), (.un .not (.t 37)), none⟩])
           (.cond (.t 38)
            (.seq
             (.ops [
               ⟨(some 4), (.mov (.c (.bool false))), none⟩])
             .ret)
            .skip)))
         (.ops [
           ⟨(some 25), (.mov (.t 5)), none⟩,
           ⟨(some 26), (.bin .add (.t 25) (.c (.int .i64 1))), none⟩,
           ⟨(some 5), (.mov (.t 26)), none⟩]))))))
    (.seq
     (.ops [
       ⟨(some 4), (.mov (.c (.bool true))), none⟩])
     .ret))))

section
variable {E : Env}
theorem texts_same (hP : E.P = Tryz.prog) (l : List (List UInt8)) (hl : l.length ≤ 1000000) : XPure E 50 [.isl (strRows l), .isl (strRows l)] (.bool true) := by
  refine xpure1 (n := Tryz.f50.ntmps) (c := y50) (t := 4) (by rw [hP]; rfl) (by rw [hP]; kernel_rfl) (by decide) (Nat.le_of_ble_eq_true rfl) ?_
  generalize hρ : entry _ = ρ
  have h0 : ρ 0 = .isl (strRows l) := by rw [← hρ]; rfl
  have h1 : ρ 1 = .isl (strRows l) := by rw [← hρ]; rfl
  clear hρ
  unfold y50
  have e0 : ∀ i : Int, (i = i) = True := fun i => eq_self i
  simp only [h0, h1, strRows_len, e0, decide_true, Bool.not_true, go_sem, Nat.reduceEqDiff, reduceIte, Int.reduceEq, Int.reduceLT, Int.reduceLE, Nat.reduceAdd, Nat.reduceLT, Nat.reduceLeDiff, Int.reduceToNat, Int.reduceSub, Int.reduceAdd, Int.reduceNeg]
  refine s_loop (fun n ρ L => ∃ j : Nat, j ≤ l.length ∧ n = l.length - j ∧ L = [] ∧ ρ 0 = .isl (strRows l) ∧ ρ 1 = .isl (strRows l) ∧ ρ 5 = .int .i64 j)
    ⟨0, Nat.zero_le _, rfl, rfl, by simp only [h0, go_sem, Nat.reduceEqDiff, reduceIte, Int.reduceEq, Int.reduceLT, Int.reduceLE, Nat.reduceAdd, Nat.reduceLT, Nat.reduceLeDiff, Int.reduceToNat, Int.reduceSub, Int.reduceAdd, Int.reduceNeg], by simp only [h1, go_sem, Nat.reduceEqDiff, reduceIte, Int.reduceEq, Int.reduceLT, Int.reduceLE, Nat.reduceAdd, Nat.reduceLT, Nat.reduceLeDiff, Int.reduceToNat, Int.reduceSub, Int.reduceAdd, Int.reduceNeg], by simp only [go_sem, Nat.reduceEqDiff, reduceIte, Int.reduceEq, Int.reduceLT, Int.reduceLE, Nat.reduceAdd, Nat.reduceLT, Nat.reduceLeDiff, Int.reduceToNat, Int.reduceSub, Int.reduceAdd, Int.reduceNeg]; try rfl⟩ ?_
  clear h0 h1 ρ
  rintro n ρ L ⟨j, hj, rfl, rfl, h0, h1, h5⟩
  simp only [h0, h1, h5, strRows_len, go_sem, Nat.reduceEqDiff, reduceIte, Int.reduceEq, Int.reduceLT, Int.reduceLE, Nat.reduceAdd, Nat.reduceLT, Nat.reduceLeDiff, Int.reduceToNat, Int.reduceSub, Int.reduceAdd, Int.reduceNeg]
  refine s_cond (b := decide _) (by simp only [h0, h1, h5, go_sem, Nat.reduceEqDiff, reduceIte, Int.reduceEq, Int.reduceLT, Int.reduceLE, Nat.reduceAdd, Nat.reduceLT, Nat.reduceLeDiff, Int.reduceToNat, Int.reduceSub, Int.reduceAdd, Int.reduceNeg]; try rfl) ?_ ?_ <;> intro hb <;> simp only [hb, h0, h1, h5, strRows_len, rows_strs, go_sem, Nat.reduceEqDiff, reduceIte, Int.reduceEq, Int.reduceLT, Int.reduceLE, Nat.reduceAdd, Nat.reduceLT, Nat.reduceLeDiff, Int.reduceToNat, Int.reduceSub, Int.reduceAdd, Int.reduceNeg]
  · rw [decide_eq_true_eq] at hb
    have hj' : j < l.length := by omega
    have hsr := strRows_get hj'
    have e1 : ∀ s : List UInt8, (s = s) = True := fun s => eq_self s
    try simp only [h0, h1, h5, rows_strs, hsr, e1, decide_true, Bool.not_true, go_sem, Nat.reduceEqDiff, reduceIte, Int.reduceEq, Int.reduceLT, Int.reduceLE, Nat.reduceAdd, Nat.reduceLT, Nat.reduceLeDiff, Int.reduceToNat, Int.reduceSub, Int.reduceAdd, Int.reduceNeg]
    refine ⟨by rfl, by omega, hj', by omega, hj', ?_⟩
    refine ⟨l.length - (j + 1), by omega, j + 1, by omega, rfl, ?_⟩
    rw [wrap64 (by omega) (by omega)]; rfl
  · rfl

theorem node_same (hP : E.P = Tryz.prog) (n : NodeD) (hl : n.after.length ≤ 1000000) : XPure E 25 [.agg n.row, .agg n.row] (.bool true) := by
  refine xpure1 (n := Tryz.f25.ntmps) (c := y25) (t := 4) (by rw [hP]; rfl) (by rw [hP]; kernel_rfl) (by decide) (Nat.le_of_ble_eq_true rfl) ?_
  generalize hρ : entry _ = ρ
  have h0 : ρ 0 = .agg n.row := by rw [← hρ]; rfl
  have h1 : ρ 1 = .agg n.row := by rw [← hρ]; rfl
  clear hρ
  unfold y25
  have e0 : ∀ i : Int, (i = i) = True := fun i => eq_self i
  have e1 : ∀ s : List UInt8, (s = s) = True := fun s => eq_self s
  simp only [h0, h1, NodeD.row, e0, e1, decide_true, go_sem, Nat.reduceEqDiff, reduceIte, Int.reduceEq, Int.reduceLT, Int.reduceLE, Nat.reduceAdd, Nat.reduceLT, Nat.reduceLeDiff, Int.reduceToNat, Int.reduceSub, Int.reduceAdd, Int.reduceNeg]
  refine xcall_pure (args' := [.isl (strRows n.after), .isl (strRows n.after)]) rfl (texts_same (E := E.noPan) hP _ hl) rfl ?_
  simp only [h0, h1, go_sem, Nat.reduceEqDiff, reduceIte, Int.reduceEq, Int.reduceLT, Int.reduceLE, Nat.reduceAdd, Nat.reduceLT, Nat.reduceLeDiff, Int.reduceToNat, Int.reduceSub, Int.reduceAdd, Int.reduceNeg]
  rfl

theorem def_same (hP : E.P = Tryz.prog) (d : DefD) (hl : d.nodes.length ≤ 1000000) (ha : ∀ n ∈ d.nodes, n.after.length ≤ 1000000) : XPure E 10 [d.iv, d.iv] (.bool true) := by
  refine xpure1 (n := Tryz.f10.ntmps) (c := y10) (t := 4) (by rw [hP]; rfl) (by rw [hP]; kernel_rfl) (by decide) (Nat.le_of_ble_eq_true rfl) ?_
  generalize hρ : entry _ = ρ
  have h0 : ρ 0 = d.iv := by rw [← hρ]; rfl
  have h1 : ρ 1 = d.iv := by rw [← hρ]; rfl
  clear hρ
  unfold y10
  have e0 : ∀ i : Int, (i = i) = True := fun i => eq_self i
  have e1 : ∀ s : List UInt8, (s = s) = True := fun s => eq_self s
  simp only [h0, h1, DefD.iv, e0, e1, decide_true, nodeRows_len, Bool.not_true, go_sem, Nat.reduceEqDiff, reduceIte, Int.reduceEq, Int.reduceLT, Int.reduceLE, Nat.reduceAdd, Nat.reduceLT, Nat.reduceLeDiff, Int.reduceToNat, Int.reduceSub, Int.reduceAdd, Int.reduceNeg]
  refine s_loop (fun m ρ L => ∃ j : Nat, j ≤ d.nodes.length ∧ m = d.nodes.length - j ∧ L = [.cells 2 [[.str d.name, .isl (nodeRows d.nodes)]], .cells 2 [[.str d.name, .isl (nodeRows d.nodes)]]] ∧ ρ 2 = .ptr 0 0 0 ∧ ρ 3 = .ptr 1 0 0 ∧ ρ 5 = .int .i64 j)
    ⟨0, Nat.zero_le _, rfl, rfl, by simp only [go_sem, Nat.reduceEqDiff, reduceIte, Int.reduceEq, Int.reduceLT, Int.reduceLE, Nat.reduceAdd, Nat.reduceLT, Nat.reduceLeDiff, Int.reduceToNat, Int.reduceSub, Int.reduceAdd, Int.reduceNeg]; try rfl, by simp only [go_sem, Nat.reduceEqDiff, reduceIte, Int.reduceEq, Int.reduceLT, Int.reduceLE, Nat.reduceAdd, Nat.reduceLT, Nat.reduceLeDiff, Int.reduceToNat, Int.reduceSub, Int.reduceAdd, Int.reduceNeg]; try rfl, by simp only [go_sem, Nat.reduceEqDiff, reduceIte, Int.reduceEq, Int.reduceLT, Int.reduceLE, Nat.reduceAdd, Nat.reduceLT, Nat.reduceLeDiff, Int.reduceToNat, Int.reduceSub, Int.reduceAdd, Int.reduceNeg]; try rfl⟩ ?_
  clear h0 h1 ρ
  rintro m ρ L ⟨j, hj, rfl, rfl, h2, h3, h5⟩
  simp only [h2, h3, h5, nodeRows_len, go_sem, Nat.reduceEqDiff, reduceIte, Int.reduceEq, Int.reduceLT, Int.reduceLE, Nat.reduceAdd, Nat.reduceLT, Nat.reduceLeDiff, Int.reduceToNat, Int.reduceSub, Int.reduceAdd, Int.reduceNeg]
  refine s_cond (b := decide _) (by simp only [h2, h3, h5, go_sem, Nat.reduceEqDiff, reduceIte, Int.reduceEq, Int.reduceLT, Int.reduceLE, Nat.reduceAdd, Nat.reduceLT, Nat.reduceLeDiff, Int.reduceToNat, Int.reduceSub, Int.reduceAdd, Int.reduceNeg]; try rfl) ?_ ?_ <;> intro hb <;> simp only [hb, h2, h3, h5, nodeRows_len, rows_nodes, go_sem, Nat.reduceEqDiff, reduceIte, Int.reduceEq, Int.reduceLT, Int.reduceLE, Nat.reduceAdd, Nat.reduceLT, Nat.reduceLeDiff, Int.reduceToNat, Int.reduceSub, Int.reduceAdd, Int.reduceNeg]
  · rw [decide_eq_true_eq] at hb
    have hj' : j < d.nodes.length := by omega
    have hrow := nodeRows_get hj'
    have hmem : d.nodes.getD j default ∈ d.nodes := by rw [List.getD_eq_getElem?_getD, List.getElem?_eq_getElem hj']; exact List.getElem_mem _
    have hns := node_same (E := E.noPan) hP _ (ha _ hmem)
    generalize d.nodes.getD j default = n at *
    try simp only [h2, h3, h5, nodeRows_len, rows_nodes, hrow, NodeD.row, go_sem, Nat.reduceEqDiff, reduceIte, Int.reduceEq, Int.reduceLT, Int.reduceLE, Nat.reduceAdd, Nat.reduceLT, Nat.reduceLeDiff, Int.reduceToNat, Int.reduceSub, Int.reduceAdd, Int.reduceNeg]
    refine ⟨by omega, hj', by omega, hj', ?_⟩
    refine o_pcall (args' := [.agg n.row, .agg n.row]) rfl hns (fun m => rfl) ?_
    simp only [h2, h3, h5, Bool.not_true, go_sem, Nat.reduceEqDiff, reduceIte, Int.reduceEq, Int.reduceLT, Int.reduceLE, Nat.reduceAdd, Nat.reduceLT, Nat.reduceLeDiff, Int.reduceToNat, Int.reduceSub, Int.reduceAdd, Int.reduceNeg]
    refine ⟨d.nodes.length - (j + 1), by omega, j + 1, by omega, rfl, ?_⟩
    rw [wrap64 (by omega) (by omega)]; rfl
  · rfl
end
end Go.X.TryzW
end
