/- Parts of the proof: XzDag11, XzDag12, XzDag13, XzDag14, XzDag15, XzDag16, XzDag17, Xzref, Xzord, Xzchk, Xzchk2, XzDag18, Xzbld. -/
import Derived.Test.YtnejaochjehhgaaGreatDoorXP10
import Derived.Test.YtnejaochjehhgaaGreatDoorProg
set_option linter.unusedVariables false
set_option linter.unusedSimpArgs false
set_option linter.unusedSectionVars false
section
open Go Go.X Go.Proofs
set_option maxRecDepth 100000
set_option maxHeartbeats 4000000
set_option linter.unusedSimpArgs false
set_option linter.unusedVariables false
namespace Go.X.TryzW
/- "slices.Clone[[]tiller/api.Node,tiller/api.Node]" params { toList := [26] } results { toList := [Go.ResultVar.tmp 2] } -/
def x45 : XC :=
 (.seq
  (.ops [
    ⟨(some 2), (.mov (.c .nsl)), none⟩])
  (.seq
   (.seq
    (.ops [
      ⟨(some 3), (.mov (.t 0)), none⟩,
      ⟨(some 4), (.isNil 0 false (.t 3)), none⟩])
    (.cond (.t 4)
     (.seq
      (.ops [
        ⟨(some 2), (.mov (.c .nsl)), none⟩])
      .ret)
     .skip))
   (.seq
    (.ops [
      ⟨(some 5), (.bslice 7 [(.str []), (.int .i64 0), (.str []), (.str []), (.int .i64 0), (.int .i64 0), .nsl] 0 []), none⟩,
      ⟨(some 6), (.mov (.t 0)), none⟩,
      ⟨(some 7), (.append 7 96 (.t 5) (.t 6)), none⟩,
      ⟨(some 2), (.mov (.t 7)), none⟩])
    .ret)))

/- "slices.Clone[[]string,string]" params { toList := [22] } results { toList := [Go.ResultVar.tmp 2] } -/
def x46 : XC :=
 (.seq
  (.ops [
    ⟨(some 2), (.mov (.c .nsl)), none⟩])
  (.seq
   (.seq
    (.ops [
      ⟨(some 3), (.mov (.t 0)), none⟩,
      ⟨(some 4), (.isNil 0 false (.t 3)), none⟩])
    (.cond (.t 4)
     (.seq
      (.ops [
        ⟨(some 2), (.mov (.c .nsl)), none⟩])
      .ret)
     .skip))
   (.seq
    (.ops [
      ⟨(some 5), (.bslice 1 [(.str [])] 0 []), none⟩,
      ⟨(some 6), (.mov (.t 0)), none⟩,
      ⟨(some 7), (.append 1 16 (.t 5) (.t 6)), none⟩,
      ⟨(some 2), (.mov (.t 7)), none⟩])
    .ret)))

/- "tiller/dag.Walk" params { toList := [28] } results { toList := [Go.ResultVar.tmp 2] } -/
def x34 : XC :=
 (.seq
  (.ops [
    ⟨(some 1), (.box (.t 0)), none⟩,
    ⟨(some 2), (.mov (.c (.raw .nilFunc))), none⟩])
  (.seq
   (.ops [
     ⟨(some 4), (.fldA 1 (.t 1)), none⟩,
     ⟨(some 5), (.load1 (.t 4)), none⟩,
     ⟨(some 6), (.call (.f 61) [(.t 5)]), none⟩,
     ⟨(some 7), (.fldA 1 (.t 1)), none⟩,
     ⟨none, (.store 1 (.t 7) (.t 6)), none⟩])
   (.seq
    (.seq
     (.ops [
       ⟨(some 8), (.fldA 1 (.t 1)), none⟩,
       ⟨(some 9), (.load1 (.t 8)), none⟩,
       ⟨(some 10), (.len (.t 9)), none⟩,
       ⟨(some 11), (.mov (.c (.int .i64 0))), none⟩])
     (.block 0
      (.loop
       (.seq
        (.ops [
          ⟨(some 12), (.bin .lss (.t 11) (.t 10)), none⟩])
        (.seq
         (.cond (.t 12)
          .skip
          (.exit 0))
         (.seq
          (.block 1
           (.seq
            (.ops [
              ⟨(some 13), (.mov (.t 11)), none⟩,
              ⟨(some 3), (.mov (.t 13)), none⟩])
            (.drawE [
              ⟨(some 14), (.fldA 1 (.t 1)), none⟩,
              ⟨(some 15), (.load1 (.t 14)), none⟩,
              ⟨(some 16), (.mov (.t 3)), none⟩,
              ⟨(some 17), (.fldA 1 (.t 1)), none⟩,
              ⟨(some 18), (.load1 (.t 17)), none⟩,
              ⟨(some 19), (.mov (.t 3)), none⟩,
              ⟨(some 20), (.idxS 7 (.t 18) (.t 19)), none⟩,
              ⟨(some 21), (.fldA 6 (.t 20)), none⟩,
              ⟨(some 22), (.load1 (.t 21)), none⟩,
              ⟨(some 23), (.pcall (.f 48) [(.t 22)]), none⟩,
              ⟨(some 24), (.idxS 7 (.t 15) (.t 16)), none⟩,
              ⟨(some 25), (.fldA 6 (.t 24)), none⟩,
              ⟨none, (.store 1 (.t 25) (.t 23)), none⟩])))
          (.ops [
            ⟨(some 26), (.bin .add (.t 11) (.c (.int .i64 1))), none⟩,
            ⟨(some 11), (.mov (.t 26)), none⟩])))))))
    (.seq
     (.ops [
       ⟨(some 27), (.mkfn (.func 62) [] [(.t 1)]), none⟩,
       ⟨(some 2), (.mov (.t 27)), none⟩])
     .ret))))

section
variable {E : Env}
theorem strRows_cells (l : List (List UInt8)) : RowsC 1 (strRows l) := by
  intro row h
  obtain ⟨n, _, rfl⟩ := List.mem_map.1 h
  exact ⟨rfl, rfl⟩
theorem nodeRows_cells (l : List NodeD) : RowsC 7 (nodeRows l) := by
  intro row h
  obtain ⟨n, _, rfl⟩ := List.mem_map.1 h
  exact ⟨rfl, rfl⟩
theorem mapO_strs (L : List Blk) (n : Nat) (m : Ren) (l : List (List UInt8)) : mapO (mapO (conv L (n + 1) m)) (strRows l) = some (strRows l) := by
  refine mapO_same fun row h => ?_
  obtain ⟨b, _, rfl⟩ := List.mem_map.1 h
  rfl
theorem mapO_nodes (L : List Blk) (n : Nat) (m : Ren) (l : List NodeD) : mapO (mapO (conv L (n + 1) m)) (nodeRows l) = some (nodeRows l) := by
  refine mapO_same fun row h => ?_
  obtain ⟨b, _, rfl⟩ := List.mem_map.1 h
  rfl

theorem cloneS_pure (hP : E.P = Tryz.prog) (l : List (List UInt8)) (hl : l.length ≤ 1000000) : XPure E 48 [.isl (strRows l)] (.isl (strRows l)) := by
  refine xpure1 (n := Tryz.f48.ntmps) (c := x46) (t := 2) (by rw [hP]; rfl) (by rw [hP]; kernel_rfl) (by decide) (Nat.le_of_ble_eq_true rfl) ?_
  generalize hρ : entry _ = ρ
  have h0 : ρ 0 = .isl (strRows l) := by rw [← hρ]; rfl
  clear hρ
  unfold x46
  simp only [h0, go_sem, Nat.reduceEqDiff, reduceIte, Int.reduceEq, Int.reduceLT, Int.reduceLE, Nat.reduceAdd, Nat.reduceLT, Nat.reduceLeDiff, Int.reduceToNat, Int.reduceSub, Int.reduceAdd, Int.reduceNeg]
  have hlen : (strRows l).length = l.length := strRows_len l
  refine ⟨?_, fun hr => ?_⟩
  · try simp only [h0, go_sem, Nat.reduceEqDiff, reduceIte, Int.reduceEq, Int.reduceLT, Int.reduceLE, Nat.reduceAdd, Nat.reduceLT, Nat.reduceLeDiff, Int.reduceToNat, Int.reduceSub, Int.reduceAdd, Int.reduceNeg]
    refine append_all (s := 0) (by rfl) (strRows_cells l) (by omega) (fun hr => ?_) (fun hr => ?_)
    · try simp only [h0, go_sem, Nat.reduceEqDiff, reduceIte, Int.reduceEq, Int.reduceLT, Int.reduceLE, Nat.reduceAdd, Nat.reduceLT, Nat.reduceLeDiff, Int.reduceToNat, Int.reduceSub, Int.reduceAdd, Int.reduceNeg]
      rw [hr]; rfl
    · try simp only [h0, go_sem, Nat.reduceEqDiff, reduceIte, Int.reduceEq, Int.reduceLT, Int.reduceLE, Nat.reduceAdd, Nat.reduceLT, Nat.reduceLeDiff, Int.reduceToNat, Int.reduceSub, Int.reduceAdd, Int.reduceNeg]
      refine conv_sl_free rfl rfl (by simp) ?_
      rw [List.drop_zero, List.take_length]
      exact mapO_strs _ _ _ _
  · try simp only [h0, go_sem, Nat.reduceEqDiff, reduceIte, Int.reduceEq, Int.reduceLT, Int.reduceLE, Nat.reduceAdd, Nat.reduceLT, Nat.reduceLeDiff, Int.reduceToNat, Int.reduceSub, Int.reduceAdd, Int.reduceNeg]
    rw [hr]; rfl

theorem cloneN_own (hP : E.P = Tryz.prog) (l : List NodeD) (hl : l.length ≤ 1000000) : XT E 61 [.isl (nodeRows l)] [] fun r L' => (l = [] ∧ r = .isl [] ∧ L' = []) ∨ (l ≠ [] ∧ r = .sl 0 0 l.length l.length ∧ L' = [.cells 7 (nodeRows l)]) := by
  refine xown1 (n := Tryz.f61.ntmps) (c := x45) (t := 2) (by rw [hP]; rfl) (by rw [hP]; kernel_rfl) (by decide) (Nat.le_of_ble_eq_true rfl) ?_
  generalize hρ : entry _ = ρ
  have h0 : ρ 0 = .isl (nodeRows l) := by rw [← hρ]; rfl
  clear hρ
  unfold x45
  simp only [h0, go_sem, Nat.reduceEqDiff, reduceIte, Int.reduceEq, Int.reduceLT, Int.reduceLE, Nat.reduceAdd, Nat.reduceLT, Nat.reduceLeDiff, Int.reduceToNat, Int.reduceSub, Int.reduceAdd, Int.reduceNeg]
  have hlen : (nodeRows l).length = l.length := nodeRows_len l
  have hnil : nodeRows l = [] → l = [] := fun h => by
    have := congrArg List.length h
    rw [hlen] at this
    exact List.eq_nil_of_length_eq_zero this
  refine ⟨?_, fun hr => ?_⟩
  · try simp only [h0, go_sem, Nat.reduceEqDiff, reduceIte, Int.reduceEq, Int.reduceLT, Int.reduceLE, Nat.reduceAdd, Nat.reduceLT, Nat.reduceLeDiff, Int.reduceToNat, Int.reduceSub, Int.reduceAdd, Int.reduceNeg]
    refine append_all (s := 0) (by rfl) (nodeRows_cells l) (by omega) (fun hr => ?_) (fun hr => ?_)
    · try simp only [h0, go_sem, Nat.reduceEqDiff, reduceIte, Int.reduceEq, Int.reduceLT, Int.reduceLE, Nat.reduceAdd, Nat.reduceLT, Nat.reduceLeDiff, Int.reduceToNat, Int.reduceSub, Int.reduceAdd, Int.reduceNeg]
      exact leave_none rfl (.inl ⟨hnil hr, rfl, rfl⟩)
    · try simp only [h0, go_sem, Nat.reduceEqDiff, reduceIte, Int.reduceEq, Int.reduceLT, Int.reduceLE, Nat.reduceAdd, Nat.reduceLT, Nat.reduceLeDiff, Int.reduceToNat, Int.reduceSub, Int.reduceAdd, Int.reduceNeg]
      refine leave_one (s := 1) (r' := .sl 0 0 (nodeRows l).length (nodeRows l).length) (k := .cells 7 (nodeRows l)) (by simp) rfl ?_ (.inr ⟨fun h => hr (by rw [h]; rfl), by rw [hlen], rfl⟩)
      show (mapO (mapO (conv _ 12 _)) (nodeRows l)).map _ = _
      rw [mapO_nodes]; rfl
  · try simp only [h0, go_sem, Nat.reduceEqDiff, reduceIte, Int.reduceEq, Int.reduceLT, Int.reduceLE, Nat.reduceAdd, Nat.reduceLT, Nat.reduceLeDiff, Int.reduceToNat, Int.reduceSub, Int.reduceAdd, Int.reduceNeg]
    exact leave_none rfl (.inl ⟨hnil hr, rfl, rfl⟩)

theorem nodeRows_set (l : List NodeD) (i : Nat) (h : i < l.length) : (nodeRows l).set i ((l.getD i default).row) = nodeRows l := by
  apply List.ext_getElem?
  intro j
  rw [List.getElem?_set]
  by_cases hj : i = j
  · subst hj
    rw [if_pos rfl, nodeRows_len, if_pos h]
    simp [nodeRows, List.getElem?_eq_getElem h]
  · rw [if_neg hj]

theorem walk_pure (hP : E.P = Tryz.prog) (d : DefD) (hd : d.nodes.length ≤ 1000000) (ha : ∀ n ∈ d.nodes, n.after.length ≤ 1000000) :
    XPure E 41 [d.iv] (.fn (.func 62) [] [.iptr [[.str d.name, .isl (nodeRows d.nodes)]] 0 0]) := by
  refine xpure1 (n := Tryz.f41.ntmps) (c := x34) (t := 2) (by rw [hP]; rfl) (by rw [hP]; kernel_rfl) (by decide) (Nat.le_of_ble_eq_true rfl) ?_
  generalize hρ : entry _ = ρ
  have h0 : ρ 0 = .agg [.str d.name, .isl (nodeRows d.nodes)] := by rw [← hρ]; rfl
  clear hρ
  unfold x34
  simp only [h0, go_sem, Nat.reduceEqDiff, reduceIte, Int.reduceEq, Int.reduceLT, Int.reduceLE, Nat.reduceAdd, Nat.reduceLT, Nat.reduceLeDiff, Int.reduceToNat, Int.reduceSub, Int.reduceAdd, Int.reduceNeg]
  refine xcall_own (args' := [.isl (nodeRows d.nodes)]) rfl (cloneN_own hP d.nodes hd) ?_
  rintro r L1 (⟨hn, rfl, rfl⟩ | ⟨hn, rfl, rfl⟩)
  · refine ⟨.isl [], [], rfl, rfl, ?_⟩
    simp only [h0, go_sem, Nat.reduceEqDiff, reduceIte, Int.reduceEq, Int.reduceLT, Int.reduceLE, Nat.reduceAdd, Nat.reduceLT, Nat.reduceLeDiff, Int.reduceToNat, Int.reduceSub, Int.reduceAdd, Int.reduceNeg]
    refine s_loop1 ?_
    simp only [h0, go_sem, Nat.reduceEqDiff, reduceIte, Int.reduceEq, Int.reduceLT, Int.reduceLE, Nat.reduceAdd, Nat.reduceLT, Nat.reduceLeDiff, Int.reduceToNat, Int.reduceSub, Int.reduceAdd, Int.reduceNeg]
    try simp only [h0, go_sem, Nat.reduceEqDiff, reduceIte, Int.reduceEq, Int.reduceLT, Int.reduceLE, Nat.reduceAdd, Nat.reduceLT, Nat.reduceLeDiff, Int.reduceToNat, Int.reduceSub, Int.reduceAdd, Int.reduceNeg]
    rw [hn]; rfl
  · refine ⟨.sl 1 0 d.nodes.length d.nodes.length, [.cells 7 (nodeRows d.nodes)], rfl, ?_, ?_⟩
    · refine mapO_cons ?_ rfl
      show (mapO (mapO (conv _ 12 _)) (nodeRows d.nodes)).map _ = _
      rw [mapO_nodes]; rfl
    simp only [h0, go_sem, Nat.reduceEqDiff, reduceIte, Int.reduceEq, Int.reduceLT, Int.reduceLE, Nat.reduceAdd, Nat.reduceLT, Nat.reduceLeDiff, Int.reduceToNat, Int.reduceSub, Int.reduceAdd, Int.reduceNeg]
    refine s_loop (fun n' ρ L => ∃ i : Nat, i ≤ d.nodes.length ∧ n' = d.nodes.length - i ∧ L = [.cells 2 [[.str d.name, .sl 1 0 d.nodes.length d.nodes.length]], .cells 7 (nodeRows d.nodes)] ∧
        ρ 1 = .ptr 0 0 0 ∧ ρ 10 = .int .i64 d.nodes.length ∧ ρ 11 = .int .i64 i)
      ⟨0, Nat.zero_le _, rfl, rfl, by simp only [go_sem, Nat.reduceEqDiff, reduceIte, Int.reduceEq, Int.reduceLT, Int.reduceLE, Nat.reduceAdd, Nat.reduceLT, Nat.reduceLeDiff, Int.reduceToNat, Int.reduceSub, Int.reduceAdd, Int.reduceNeg], by simp only [go_sem, Nat.reduceEqDiff, reduceIte, Int.reduceEq, Int.reduceLT, Int.reduceLE, Nat.reduceAdd, Nat.reduceLT, Nat.reduceLeDiff, Int.reduceToNat, Int.reduceSub, Int.reduceAdd, Int.reduceNeg], by simp only [go_sem, Nat.reduceEqDiff, reduceIte, Int.reduceEq, Int.reduceLT, Int.reduceLE, Nat.reduceAdd, Nat.reduceLT, Nat.reduceLeDiff, Int.reduceToNat, Int.reduceSub, Int.reduceAdd, Int.reduceNeg]; try rfl⟩ ?_
    clear h0 ρ
    rintro n' ρ L ⟨i, hi, rfl, rfl, h1, h10, h11⟩
    simp only [h1, h10, h11, go_sem, Nat.reduceEqDiff, reduceIte, Int.reduceEq, Int.reduceLT, Int.reduceLE, Nat.reduceAdd, Nat.reduceLT, Nat.reduceLeDiff, Int.reduceToNat, Int.reduceSub, Int.reduceAdd, Int.reduceNeg]
    refine s_cond (b := decide _) (by simp only [h1, h10, h11, go_sem, Nat.reduceEqDiff, reduceIte, Int.reduceEq, Int.reduceLT, Int.reduceLE, Nat.reduceAdd, Nat.reduceLT, Nat.reduceLeDiff, Int.reduceToNat, Int.reduceSub, Int.reduceAdd, Int.reduceNeg]; try rfl) ?_ ?_ <;> intro hb <;> simp only [hb, h1, h10, h11, go_sem, Nat.reduceEqDiff, reduceIte, Int.reduceEq, Int.reduceLT, Int.reduceLE, Nat.reduceAdd, Nat.reduceLT, Nat.reduceLeDiff, Int.reduceToNat, Int.reduceSub, Int.reduceAdd, Int.reduceNeg]
    · rw [decide_eq_true_eq] at hb
      have hi' : i < d.nodes.length := by omega
      have hrow := nodeRows_get hi'
      have hmem : d.nodes.getD i default ∈ d.nodes := by rw [List.getD_eq_getElem?_getD, List.getElem?_eq_getElem hi']; exact List.getElem_mem _
      simp only [h1, h10, h11, hrow, nodeRows_len, NodeD.row, go_sem, Nat.reduceEqDiff, reduceIte, Int.reduceEq, Int.reduceLT, Int.reduceLE, Nat.reduceAdd, Nat.reduceLT, Nat.reduceLeDiff, Int.reduceToNat, Int.reduceSub, Int.reduceAdd, Int.reduceNeg]
      refine ⟨hb, hi', ?_⟩
      refine o_pcall (args' := [.isl (strRows (d.nodes.getD i default).after)]) rfl (cloneS_pure hP _ (ha _ hmem)) (fun m => rfl) ?_
      simp only [h1, h10, h11, hrow, nodeRows_len, NodeD.row, go_sem, Nat.reduceEqDiff, reduceIte, Int.reduceEq, Int.reduceLT, Int.reduceLE, Nat.reduceAdd, Nat.reduceLT, Nat.reduceLeDiff, Int.reduceToNat, Int.reduceSub, Int.reduceAdd, Int.reduceNeg]
      refine ⟨hb, hi', d.nodes.length - (i + 1), by omega, i + 1, by omega, rfl, ?_, by rw [wrap64 (by omega) (by omega)]; rfl⟩
      have h2 := nodeRows_set d.nodes i hi'
      simp only [NodeD.row] at h2
      rw [h2]
    · try simp only [h1, h10, h11, go_sem, Nat.reduceEqDiff, reduceIte, Int.reduceEq, Int.reduceLT, Int.reduceLE, Nat.reduceAdd, Nat.reduceLT, Nat.reduceLeDiff, Int.reduceToNat, Int.reduceSub, Int.reduceAdd, Int.reduceNeg]
      refine conv_fn rfl (mapO_cons (conv_ptr_free rfl rfl (mapO_cons (mapO_cons rfl (mapO_cons (conv_sl_free rfl rfl (by rw [nodeRows_len]; omega) ?_) rfl)) rfl)) rfl)
      rw [List.drop_zero, List.take_of_length_le (by rw [nodeRows_len]; omega)]
      exact mapO_nodes _ _ _ _
end
end Go.X.TryzW
end
section
open Go Go.X Go.Proofs
set_option maxRecDepth 100000
set_option maxHeartbeats 4000000
set_option linter.unusedSimpArgs false
set_option linter.unusedVariables false
namespace Go.X.TryzW
def x19a : XC :=
 (.seq (.ops [ ⟨(some 5), (.mov (.t 17)), none⟩]) (.ops [ ⟨(some 6), (.alloc [(.str []), (.int .i64 0), (.str []), (.str []), (.int .i64 0), (.int .i64 0), .nsl]), none⟩, ⟨none, (.store 7 (.t 6) (.t 18)), none⟩]))
def x19b : XC :=
 (.block 1 (.seq (.ops [ ⟨(some 19), (.load1 (.t 3)), none⟩, ⟨(some 20), (.mov (.t 5)), none⟩, ⟨(some 21), (.idxS 1 (.t 19) (.t 20)), none⟩, ⟨none, (.store 1 (.t 21) (.c (.int .i64 1))), none⟩]) (.seq (.seq (.ops [ ⟨(some 22), (.fldA 6 (.t 6)), none⟩, ⟨(some 23), (.load1 (.t 22)), none⟩, ⟨(some 24), (.len (.t 23)), none⟩, ⟨(some 25), (.mov (.c (.int .i64 0))), none⟩]) (.block 2 (.loop (.seq (.ops [ ⟨(some 26), (.bin .lss (.t 25) (.t 24)), none⟩]) (.seq (.cond (.t 26) .skip (.exit 2)) (.seq (.block 3 (.seq (.ops [ ⟨(some 27), (.idxS 1 (.t 23) (.t 25)), none⟩, ⟨(some 28), (.load1 (.t 27)), none⟩, ⟨(some 8), (.mov (.t 28)), none⟩]) (.seq (.ops [ ⟨(some 30), (.loadN 2 (.t 1)), none⟩, ⟨(some 31), (.mov (.t 8)), none⟩, ⟨(some 32), (.call (.f 30) [(.t 30), (.t 31)]), none⟩, ⟨(some 29), (.mov (.t 32)), none⟩, ⟨(some 33), (.ext (.t 29) 0), none⟩, ⟨(some 34), (.ext (.t 29) 1), none⟩, ⟨(some 9), (.mov (.t 33)), none⟩, ⟨(some 10), (.mov (.t 34)), none⟩]) (.drawE [ ⟨(some 35), (.load1 (.t 3)), none⟩, ⟨(some 36), (.mov (.t 5)), none⟩, ⟨(some 37), (.load1 (.t 3)), none⟩, ⟨(some 38), (.mov (.t 5)), none⟩, ⟨(some 39), (.idxS 1 (.t 37) (.t 38)), none⟩, ⟨(some 40), (.load1 (.t 39)), none⟩, ⟨(some 41), (.load1 (.t 3)), none⟩, ⟨(some 42), (.mov (.t 9)), none⟩, ⟨(some 43), (.idxS 1 (.t 41) (.t 42)), none⟩, ⟨(some 44), (.load1 (.t 43)), none⟩, ⟨(some 45), (.bin .add (.t 44) (.c (.int .i64 1))), none⟩, ⟨(some 46), (.max2 (.t 40) (.t 45)), none⟩, ⟨(some 47), (.idxS 1 (.t 35) (.t 36)), none⟩, ⟨none, (.store 1 (.t 47) (.t 46)), none⟩])))) (.ops [ ⟨(some 48), (.bin .add (.t 25) (.c (.int .i64 1))), none⟩, ⟨(some 25), (.mov (.t 48)), none⟩]))))))) (.drawE [ ⟨(some 49), (.load1 (.t 4)), none⟩, ⟨(some 50), (.load1 (.t 3)), none⟩, ⟨(some 51), (.mov (.t 5)), none⟩, ⟨(some 52), (.idxS 1 (.t 50) (.t 51)), none⟩, ⟨(some 53), (.load1 (.t 52)), none⟩, ⟨(some 54), (.max2 (.t 49) (.t 53)), none⟩, ⟨none, (.store 1 (.t 4) (.t 54)), none⟩]))))
def x19 : XC :=
 (.seq (.ops [ ⟨(some 1), (.box (.t 0)), none⟩, ⟨(some 2), (.mov (.c (.int .i64 0))), none⟩]) (.seq (.ops [ ⟨(some 11), (.fldA 1 (.t 1)), none⟩, ⟨(some 12), (.load1 (.t 11)), none⟩, ⟨(some 13), (.len (.t 12)), none⟩, ⟨(some 14), (.mkslice [(.int .i64 0)] 8 (.t 13) (.t 13)), none⟩, ⟨(some 3), (.alloc [.nsl]), none⟩, ⟨none, (.store 1 (.t 3) (.t 14)), none⟩]) (.seq (.ops [ ⟨(some 4), (.alloc [(.int .i64 0)]), none⟩, ⟨none, (.store 1 (.t 4) (.c (.int .i64 0))), none⟩]) (.seq (.seq (.ops [ ⟨(some 15), (.loadN 2 (.t 1)), none⟩, ⟨(some 16), (.call (.f 41) [(.t 15)]), none⟩]) (.block 0 (.rngF (.t 16) 56 [17, 18] x19a x19b))) (.seq (.ops [ ⟨(some 55), (.load1 (.t 4)), none⟩, ⟨(some 2), (.mov (.t 55)), none⟩]) .ret)))))
/- "tiller/dag.Walk$1" params { toList := [71] } results { toList := [] } -/
def x47 : XC :=
 (.seq
  (.ops [
    ⟨(some 9), (.loadN 2 (.t 1)), none⟩,
    ⟨(some 10), (.call (.f 18) [(.t 9)]), none⟩,
    ⟨(some 8), (.mov (.t 10)), none⟩,
    ⟨(some 11), (.ext (.t 8) 0), none⟩,
    ⟨(some 12), (.ext (.t 8) 1), none⟩,
    ⟨(some 3), (.mov (.t 11)), none⟩,
    ⟨(some 4), (.mov (.t 12)), none⟩])
  (.seq
   (.ops [
     ⟨(some 13), (.mov (.t 3)), none⟩,
     ⟨(some 14), (.len (.t 13)), none⟩,
     ⟨(some 15), (.mov (.c (.int .i64 0))), none⟩])
   (.block 0
    (.loop
     (.seq
      (.ops [
        ⟨(some 16), (.bin .lss (.t 15) (.t 14)), none⟩])
      (.seq
       (.cond (.t 16)
        .skip
        (.exit 0))
       (.seq
        (.block 1
         (.seq
          (.ops [
            ⟨(some 17), (.idxS 1 (.t 13) (.t 15)), none⟩,
            ⟨(some 18), (.load1 (.t 17)), none⟩,
            ⟨(some 6), (.mov (.t 18)), none⟩])
          (.seq
           (.ops [
             ⟨(some 19), (.fldA 1 (.t 1)), none⟩,
             ⟨(some 20), (.load1 (.t 19)), none⟩,
             ⟨(some 21), (.mov (.t 6)), none⟩,
             ⟨(some 22), (.idxS 7 (.t 20) (.t 21)), none⟩,
             ⟨(some 23), (.loadN 7 (.t 22)), none⟩,
             ⟨(some 7), (.alloc [(.str []), (.int .i64 0), (.str []), (.str []), (.int .i64 0), (.int .i64 0), .nsl]), none⟩,
             ⟨none, (.store 7 (.t 7) (.t 23)), none⟩])
           (.seq
            (.ops [
              ⟨(some 24), (.fldA 6 (.t 7)), none⟩,
              ⟨(some 25), (.load1 (.t 24)), none⟩,
              ⟨(some 26), (.call (.f 48) [(.t 25)]), none⟩,
              ⟨(some 27), (.fldA 6 (.t 7)), none⟩,
              ⟨none, (.store 1 (.t 27) (.t 26)), none⟩])
            (.seq
             (.ops [
               ⟨(some 28), (.mov (.t 0)), none⟩,
               ⟨(some 29), (.mov (.t 6)), none⟩,
               ⟨(some 30), (.loadN 7 (.t 7)), none⟩,
               ⟨(some 31), (.call (.t 28) [(.t 29), (.t 30)]), none⟩,
               ⟨(some 32), (.un .not (.t 31)), none⟩])
             (.cond (.t 32)
              .ret
              .skip))))))
        (.ops [
          ⟨(some 33), (.bin .add (.t 15) (.c (.int .i64 1))), none⟩,
          ⟨(some 15), (.mov (.t 33)), none⟩]))))))))

section
variable {E : Env}
def findK (d : DefD) (s : List UInt8) : Nat := (d.find s).getD 0
theorem findN_eq (d : DefD) (s : List UInt8) : findN (d.find s) = (findK d s : Int) := by
  unfold findK findN; cases d.find s <;> rfl
theorem findK_lt (d : DefD) (s : List UInt8) (h : 0 < d.nodes.length) : findK d s < d.nodes.length := by
  unfold findK
  cases hf : d.find s with
  | none => exact h
  | some i => exact firstI_lt hf
/-- One edge. -/
def stepIn (d : DefD) (i : Nat) (deep : List Nat) (s : List UInt8) : List Nat := deep.set i (max (deep.getD i 0) (deep.getD (findK d s) 0 + 1))
/-- One node. -/
def deepOf (d : DefD) (deep : List Nat) (i : Nat) (k : Nat) : List Nat := (((d.nodes.getD i default).after).take k).foldl (stepIn d i) (deep.set i 1)
def stepD (d : DefD) (st : List Nat × Nat) (i : Nat) : List Nat × Nat :=
  let deep := deepOf d st.1 i (d.nodes.getD i default).after.length
  (deep, max st.2 (deep.getD i 0))
def DefD.depth (d : DefD) : Nat := (d.order.foldl (stepD d) (List.replicate d.nodes.length 0, 0)).2

def LeAll (B : Nat) (l : List Nat) : Prop := ∀ k, l.getD k 0 ≤ B
theorem LeAll.set {B v i : Nat} {l : List Nat} (h : LeAll B l) (hv : v ≤ B) : LeAll B (l.set i v) := by
  intro k
  have := h k
  rw [List.getD_eq_getElem?_getD] at this ⊢
  rw [List.getElem?_set]
  split
  · split
    · exact hv
    · exact Nat.zero_le _
  · exact this
theorem LeAll.mono {B B' : Nat} {l : List Nat} (h : LeAll B l) (hb : B ≤ B') : LeAll B' l := fun k => Nat.le_trans (h k) hb
theorem LeAll.step {B i : Nat} {l : List Nat} {d : DefD} {s : List UInt8} (h : LeAll B l) : LeAll (B + 1) (stepIn d i l s) :=
  LeAll.set (h.mono (Nat.le_succ B)) (Nat.max_le.2 ⟨Nat.le_succ_of_le (h i), Nat.succ_le_succ (h _)⟩)
theorem stepIn_len (d : DefD) (i : Nat) (l : List Nat) (s : List UInt8) : (stepIn d i l s).length = l.length := List.length_set ..
theorem deepOf_len (d : DefD) (l : List Nat) (i k : Nat) : (deepOf d l i k).length = l.length := by
  unfold deepOf
  have : ∀ (a : List (List UInt8)) (l : List Nat), (a.foldl (stepIn d i) l).length = l.length := by
    intro a
    induction a with
    | nil => intro l; rfl
    | cons s a ih => intro l; rw [List.foldl_cons, ih, stepIn_len]
  rw [this, List.length_set]
theorem deepOf_le (d : DefD) {B : Nat} {l : List Nat} (h : LeAll B l) (i k : Nat) : LeAll (B + 1 + k) (deepOf d l i k) := by
  unfold deepOf
  have : ∀ (a : List (List UInt8)) (l : List Nat) (B : Nat), LeAll B l → LeAll (B + a.length) (a.foldl (stepIn d i) l) := by
    intro a
    induction a with
    | nil => intro l B h; exact h
    | cons s a ih =>
      intro l B h
      rw [List.foldl_cons]
      exact (ih _ _ h.step).mono (by simp; omega)
  exact (this _ _ _ ((h.mono (Nat.le_succ B)).set (by omega))).mono (by
    have := List.length_take_le k (d.nodes.getD i default).after; omega)
theorem deepOf_succ (d : DefD) (l : List Nat) (i k : Nat) (h : k < (d.nodes.getD i default).after.length) : deepOf d l i (k + 1) = stepIn d i (deepOf d l i k) ((d.nodes.getD i default).after.getD k []) := by
  unfold deepOf
  have h2 : (d.nodes.getD i default).after[k]? = some ((d.nodes.getD i default).after.getD k []) := getD_get h
  rw [List.take_add_one, List.foldl_append, h2]
  rfl
theorem get5 {a b c e f x : Blk} {J : List Blk} : (a :: b :: c :: e :: f :: (J ++ [x]))[J.length + 5]? = some x := by simp
theorem intRows_get {l : List Nat} {i : Nat} (h : i < l.length) : (intRows l).getD i [] = [.int .i64 ((l.getD i 0 : Nat) : Int)] := by
  simp [intRows, List.getD_eq_getElem?_getD, List.getElem?_eq_getElem h]
theorem intRows_set (l : List Nat) (i v : Nat) : (intRows l).set i [.int .i64 (v : Int)] = intRows (l.set i v) := by simp [intRows, List.map_set]
theorem max_cast (a b : Nat) : (if (a : Int) < (b : Int) then (b : Int) else (a : Int)) = ((max a b : Nat) : Int) := by
  split <;> omega

def depB (d : DefD) (deep : List Nat) (longest : Nat) (lp : Blk) (J : List Blk) : List Blk :=
  .cells 2 [[.str d.name, .isl (nodeRows d.nodes)]] :: .cells 1 (intRows deep) :: .cells 1 [[.sl 1 0 d.nodes.length d.nodes.length]] :: .cells 1 [[.int .i64 (longest : Int)]] :: lp :: J

theorem round_run (hP : E.P = Tryz.prog) (d : DefD) (hd : d.nodes.length ≤ 1000000) (ha : ∀ n ∈ d.nodes, n.after.length ≤ 1000000) {i : Nat} (hi : i < d.nodes.length) {deep : List Nat} {longest B : Nat} (hlen : deep.length = d.nodes.length)
    (hB : LeAll B deep) (hBl : longest ≤ B) (hBB : B ≤ 1000000000000000) (lp : Blk) (J : List Blk) (s : Nat) {ρ : Rho} (hs : s = J.length + 5) (h1 : ρ 1 = .ptr 0 0 0) (h3 : ρ 3 = .ptr 2 0 0) (h4 : ρ 4 = .ptr 3 0 0) (h5 : ρ 5 = .int .i64 i) (h6 : ρ 6 = .ptr s 0 0) :
    xrun E x19b ρ (depB d deep longest lp (J ++ [.cells 7 [(d.nodes.getD i default).row]])) fun e _ L' => e = .normal ∧
      L' = depB d (stepD d (deep, longest) i).1 (stepD d (deep, longest) i).2 lp (J ++ [.cells 7 [(d.nodes.getD i default).row]]) := by
  have hmem : d.nodes.getD i default ∈ d.nodes := by rw [List.getD_eq_getElem?_getD, List.getElem?_eq_getElem hi]; exact List.getElem_mem _
  have haf := ha _ hmem
  generalize hnd : d.nodes.getD i default = nd at *
  unfold depB
  unfold x19b
  subst hs
  have hnl : 0 < d.nodes.length := by omega
  have hrow0 := intRows_get (l := deep) (i := i) (by omega)
  have hil : (intRows deep).length = d.nodes.length := by rw [← hlen]; simp [intRows]
  have hset0 : (intRows deep).set i [.int .i64 1] = intRows (deepOf d deep i 0) := intRows_set deep i 1
  simp only [h1, h3, h4, h5, h6, NodeD.row, get5, hrow0, hil, hset0, strRows_len, go_sem, Nat.reduceEqDiff, reduceIte, Int.reduceEq, Int.reduceLT, Int.reduceLE, Nat.reduceAdd, Nat.reduceLT, Nat.reduceLeDiff, Int.reduceToNat, Int.reduceSub, Int.reduceAdd, Int.reduceNeg]
  refine ⟨by omega, hi, ?_⟩
  refine s_loop (fun n' ρ L => ∃ k : Nat, k ≤ nd.after.length ∧ n' = nd.after.length - k ∧ L = depB d (deepOf d deep i k) longest lp (J ++ [.cells 7 [nd.row]]) ∧
      ρ 1 = .ptr 0 0 0 ∧ ρ 3 = .ptr 2 0 0 ∧ ρ 4 = .ptr 3 0 0 ∧ ρ 5 = .int .i64 i ∧ ρ 23 = .isl (strRows nd.after) ∧ ρ 24 = .int .i64 nd.after.length ∧ ρ 25 = .int .i64 k)
    ⟨0, Nat.zero_le _, rfl, rfl, by simp only [h1, go_sem, Nat.reduceEqDiff, reduceIte, Int.reduceEq, Int.reduceLT, Int.reduceLE, Nat.reduceAdd, Nat.reduceLT, Nat.reduceLeDiff, Int.reduceToNat, Int.reduceSub, Int.reduceAdd, Int.reduceNeg], by simp only [h3, go_sem, Nat.reduceEqDiff, reduceIte, Int.reduceEq, Int.reduceLT, Int.reduceLE, Nat.reduceAdd, Nat.reduceLT, Nat.reduceLeDiff, Int.reduceToNat, Int.reduceSub, Int.reduceAdd, Int.reduceNeg], by simp only [h4, go_sem, Nat.reduceEqDiff, reduceIte, Int.reduceEq, Int.reduceLT, Int.reduceLE, Nat.reduceAdd, Nat.reduceLT, Nat.reduceLeDiff, Int.reduceToNat, Int.reduceSub, Int.reduceAdd, Int.reduceNeg], by simp only [h5, go_sem, Nat.reduceEqDiff, reduceIte, Int.reduceEq, Int.reduceLT, Int.reduceLE, Nat.reduceAdd, Nat.reduceLT, Nat.reduceLeDiff, Int.reduceToNat, Int.reduceSub, Int.reduceAdd, Int.reduceNeg], by simp only [go_sem, Nat.reduceEqDiff, reduceIte, Int.reduceEq, Int.reduceLT, Int.reduceLE, Nat.reduceAdd, Nat.reduceLT, Nat.reduceLeDiff, Int.reduceToNat, Int.reduceSub, Int.reduceAdd, Int.reduceNeg], by simp only [go_sem, Nat.reduceEqDiff, reduceIte, Int.reduceEq, Int.reduceLT, Int.reduceLE, Nat.reduceAdd, Nat.reduceLT, Nat.reduceLeDiff, Int.reduceToNat, Int.reduceSub, Int.reduceAdd, Int.reduceNeg], by simp only [go_sem, Nat.reduceEqDiff, reduceIte, Int.reduceEq, Int.reduceLT, Int.reduceLE, Nat.reduceAdd, Nat.reduceLT, Nat.reduceLeDiff, Int.reduceToNat, Int.reduceSub, Int.reduceAdd, Int.reduceNeg]; try rfl⟩ ?_
  clear h1 h3 h4 h5 h6 ρ
  rintro n' ρ L ⟨k, hk, rfl, rfl, h1, h3, h4, h5, h23, h24, h25⟩
  have hdl : (deepOf d deep i k).length = d.nodes.length := by rw [deepOf_len]; exact hlen
  have hdB := deepOf_le d hB i k
  generalize hdp : deepOf d deep i k = dp at *
  have hrow := intRows_get (l := dp) (i := i) (by omega)
  have hil2 : (intRows dp).length = d.nodes.length := by rw [← hdl]; simp [intRows]
  unfold depB
  simp only [h1, h3, h4, h5, h23, h24, h25, go_sem, Nat.reduceEqDiff, reduceIte, Int.reduceEq, Int.reduceLT, Int.reduceLE, Nat.reduceAdd, Nat.reduceLT, Nat.reduceLeDiff, Int.reduceToNat, Int.reduceSub, Int.reduceAdd, Int.reduceNeg]
  refine s_cond (b := decide _) (by simp only [h1, h3, h4, h5, h23, h24, h25, strRows_len, rows_strs, go_sem, Nat.reduceEqDiff, reduceIte, Int.reduceEq, Int.reduceLT, Int.reduceLE, Nat.reduceAdd, Nat.reduceLT, Nat.reduceLeDiff, Int.reduceToNat, Int.reduceSub, Int.reduceAdd, Int.reduceNeg]; try rfl) ?_ ?_ <;> intro hb <;> simp only [hb, h1, h3, h4, h5, h23, h24, h25, strRows_len, rows_strs, go_sem, Nat.reduceEqDiff, reduceIte, Int.reduceEq, Int.reduceLT, Int.reduceLE, Nat.reduceAdd, Nat.reduceLT, Nat.reduceLeDiff, Int.reduceToNat, Int.reduceSub, Int.reduceAdd, Int.reduceNeg]
  · rw [decide_eq_true_eq] at hb
    have hk' : k < nd.after.length := by omega
    have hsr := strRows_get hk'
    refine ⟨hb, ?_⟩
    simp only [h1, h3, h4, h5, h23, h24, h25, hsr, strRows_len, go_sem, Nat.reduceEqDiff, reduceIte, Int.reduceEq, Int.reduceLT, Int.reduceLE, Nat.reduceAdd, Nat.reduceLT, Nat.reduceLeDiff, Int.reduceToNat, Int.reduceSub, Int.reduceAdd, Int.reduceNeg]
    refine ⟨hk', ?_⟩
    refine xcall_pure (args' := [d.iv, .str (nd.after.getD k [])]) rfl (dagFind_pure hP d _ (by omega)) rfl ?_
    have hfk := findK_lt d (nd.after.getD k []) hnl
    have hrk := intRows_get (l := dp) (i := findK d (nd.after.getD k [])) (by omega)
    simp only [h1, h3, h4, h5, h23, h24, h25, findN_eq, hrow, hrk, hil2, go_sem, Nat.reduceEqDiff, reduceIte, Int.reduceEq, Int.reduceLT, Int.reduceLE, Nat.reduceAdd, Nat.reduceLT, Nat.reduceLeDiff, Int.reduceToNat, Int.reduceSub, Int.reduceAdd, Int.reduceNeg]
    have hw : IntKind.wrap .i64 (((dp.getD (findK d (nd.after.getD k [])) 0 : Nat) : Int) + 1) = ((dp.getD (findK d (nd.after.getD k [])) 0 + 1 : Nat) : Int) := by
      have := hdB (findK d (nd.after.getD k []))
      rw [wrap64 (by omega) (by omega)]; rfl
    refine ⟨by omega, hi, by omega, hfk, by omega, hi, nd.after.length - (k + 1), by omega, k + 1, by omega, rfl, ?_, by rw [wrap64 (by omega) (by omega)]; rfl⟩
    rw [hw, deepOf_succ d deep i k (by rw [hnd]; exact hk'), hdp, hnd]
    simp only [gt_iff_lt, max_cast, intRows_set]
    rfl
  · rw [decide_eq_false_iff_not] at hb
    have hkk : k = nd.after.length := by omega
    simp only [h1, h3, h4, h5, h23, h24, h25, hrow, hil2, go_sem, Nat.reduceEqDiff, reduceIte, Int.reduceEq, Int.reduceLT, Int.reduceLE, Nat.reduceAdd, Nat.reduceLT, Nat.reduceLeDiff, Int.reduceToNat, Int.reduceSub, Int.reduceAdd, Int.reduceNeg]
    have hst : stepD d (deep, longest) i = (dp, max longest (dp.getD i 0)) := by
      unfold stepD
      simp only [hnd]
      rw [← hkk, hdp]
    refine ⟨by omega, hi, ?_⟩
    rw [hst]
    simp only [gt_iff_lt, max_cast]
    try rfl

theorem ordGo_facts (d : DefD) : ∀ (n : Nat) (told : List Bool) (out : List Nat), (d.ordGo n told out).length ≤ out.length + n ∧ ∀ i ∈ d.ordGo n told out, i ∈ out ∨ i < d.nodes.length
  | 0, told, out => ⟨by simp [DefD.ordGo], fun i hi => .inl hi⟩
  | n + 1, told, out => by
    rw [DefD.ordGo]
    split
    · exact ⟨by omega, fun i hi => .inl hi⟩
    · rename_i i0 hf
      obtain ⟨h1, h2⟩ := ordGo_facts d n (told.set i0 true) (out ++ [i0])
      refine ⟨by simp at h1; omega, fun i hi => ?_⟩
      rcases h2 i hi with h | h
      · rcases List.mem_append.1 h with h | h
        · exact .inl h
        · have := firstI_lt hf
          simp at h this; subst h; exact .inr this
      · exact .inr h
theorem order_len (d : DefD) : d.order.length ≤ d.nodes.length + 1 := by have := (ordGo_facts d (d.nodes.length + 1) (List.replicate d.nodes.length false) []).1; simpa [DefD.order] using this
theorem order_lt (d : DefD) {i : Nat} (h : i ∈ d.order) : i < d.nodes.length := by
  rcases (ordGo_facts d (d.nodes.length + 1) (List.replicate d.nodes.length false) []).2 i h with h | h
  · cases h
  · exact h
theorem stepD_facts (d : DefD) (ha : ∀ n ∈ d.nodes, n.after.length ≤ 1000000) : ∀ (l : List Nat) (st : List Nat × Nat) (B : Nat), (∀ i ∈ l, i < d.nodes.length) → LeAll B st.1 → st.2 ≤ B →
    (l.foldl (stepD d) st).1.length = st.1.length ∧ LeAll (B + l.length * 1000001) (l.foldl (stepD d) st).1 ∧ (l.foldl (stepD d) st).2 ≤ B + l.length * 1000001
  | [], st, B, _, h1, h2 => ⟨rfl, by simpa using h1, by simpa using h2⟩
  | i :: l, st, B, hl, h1, h2 => by
    rw [List.foldl_cons]
    have hi := hl i List.mem_cons_self
    have hmem : d.nodes.getD i default ∈ d.nodes := by rw [List.getD_eq_getElem?_getD, List.getElem?_eq_getElem hi]; exact List.getElem_mem _
    have haf := ha _ hmem
    have h3 : LeAll (B + 1000001) (stepD d st i).1 := (deepOf_le d h1 i _).mono (by omega)
    have h4 : (stepD d st i).2 ≤ B + 1000001 := Nat.max_le.2 ⟨by omega, h3 i⟩
    obtain ⟨h5, h6, h7⟩ := stepD_facts d ha l (stepD d st i) (B + 1000001) (fun j hj => hl j (List.mem_cons_of_mem _ hj)) h3 h4
    have e : B + 1000001 + l.length * 1000001 = B + (i :: l).length * 1000001 := by simp only [List.length_cons]; omega
    rw [e] at h6 h7
    exact ⟨by rw [h5]; exact deepOf_len d st.1 i _, h6, h7⟩

theorem rows_ints (l : List Nat) : Rows 1 (intRows l) := by
  intro row h
  obtain ⟨n, _, rfl⟩ := List.mem_map.1 h
  rfl
theorem get5' {a b c e f x : Blk} {J : List Blk} : (a :: b :: c :: e :: f :: (J ++ [x]))[J.length + 1 + 1 + 1 + 1 + 1]? = some x := by simp
theorem set5' {a b c e f x y : Blk} {J : List Blk} : (a :: b :: c :: e :: f :: (J ++ [x])).set (J.length + 1 + 1 + 1 + 1 + 1) y = a :: b :: c :: e :: f :: (J ++ [y]) := by simp
theorem comp47 : compFn Tryz.prog Tryz.f62 = some ⟨Tryz.f62.ntmps, [], x47⟩ := by kernel_rfl
theorem rho_set {l : List IV} {p n : Nat} {v : IV} (h : p < l.length) : rhoOf (l.set p v) n = if n = p then v else rhoOf l n := by
  unfold rhoOf
  rw [List.getD_eq_getElem?_getD, List.getElem?_set]
  by_cases hn : n = p
  · subst hn; rw [if_pos rfl, if_pos h, if_pos rfl]; rfl
  · rw [if_neg (Ne.symm hn), if_neg hn, List.getD_eq_getElem?_getD]

theorem depth_loop (hP : E.P = Tryz.prog) (d : DefD) (hd : d.nodes.length ≤ 1000000) (ha : ∀ n ∈ d.nodes, n.after.length ≤ 1000000) (ρ' : Rho) (h1 : ρ' 1 = .ptr 0 0 0) (h3 : ρ' 3 = .ptr 2 0 0) (h4 : ρ' 4 = .ptr 3 0 0)
    (h16 : ρ' 16 = .fn (.func 62) [] [.iptr [[.str d.name, .isl (nodeRows d.nodes)]] 0 0]) (hcv : ∀ (L : List Blk) (n : Nat), conv L 12 (renLeave 5 []) (ρ' n) = some (ρ' n)) {K : XE → Rho → List Blk → Prop}
    (hK : K .normal ρ' [.cells 2 [[.str d.name, .isl (nodeRows d.nodes)]], .cells 1 (intRows (d.order.foldl (stepD d) (List.replicate d.nodes.length 0, 0)).1), .cells 1 [[.sl 1 0 d.nodes.length d.nodes.length]], .cells 1 [[.int .i64 (d.depth : Int)]], .dead]) :
    xrun E (.rngF (.t 16) 56 [17, 18] x19a x19b) ρ' [.cells 2 [[.str d.name, .isl (nodeRows d.nodes)]], .cells 1 (List.replicate d.nodes.length [.int .i64 0]), .cells 1 [[.sl 1 0 d.nodes.length d.nodes.length]], .cells 1 [[.int .i64 0]]] K := by
  have hrep : List.replicate d.nodes.length [IV.int .i64 0] = intRows (List.replicate d.nodes.length 0) := by simp [intRows]
  rw [hrep]
  refine s_rngF (gf := 62) (fn := Tryz.f62) (F := ⟨Tryz.f62.ntmps, [], x47⟩) h16 (by rw [hP]; rfl) (by rw [hP]; exact comp47) (by decide) (Nat.le_of_ble_eq_true rfl) ?_
  intro r0 hst hpe hlc
  have hll : ((List.range 56).map ρ').length = 56 := by simp
  have hl : ∀ n, n < 56 → rhoOf ((List.range 56).map ρ') n = ρ' n := fun n hn => list_getD hn
  have hlcv : ∀ L, mapO (conv L 12 (renLeave 5 [])) ((List.range 56).map ρ') = some ((List.range 56).map ρ') := fun L => mapO_same fun x hx => by
    obtain ⟨n, _, rfl⟩ := List.mem_map.1 hx
    exact hcv L n
  generalize (List.range 56).map ρ' = l at *
  refine xfun0 ?_
  generalize hρ : entry _ = ρ
  have g0 : ρ 0 = .yld 4 := by rw [← hρ]; rfl
  have g1 : ρ 1 = .iptr [[.str d.name, .isl (nodeRows d.nodes)]] 0 0 := by rw [← hρ]; rfl
  clear hρ
  unfold x47
  simp only [g0, g1, go_sem, Nat.reduceEqDiff, reduceIte, Int.reduceEq, Int.reduceLT, Int.reduceLE, Nat.reduceAdd, Nat.reduceLT, Nat.reduceLeDiff, Int.reduceToNat, Int.reduceSub, Int.reduceAdd, Int.reduceNeg]
  refine xcall_pure (args' := [d.iv]) rfl (order_pure (E := E.withY 56 [17, 18] x19a x19b) hP d hd (fun n hn => by have := ha n hn; omega)) rfl ?_
  simp only [g0, g1, go_sem, Nat.reduceEqDiff, reduceIte, Int.reduceEq, Int.reduceLT, Int.reduceLE, Nat.reduceAdd, Nat.reduceLT, Nat.reduceLeDiff, Int.reduceToNat, Int.reduceSub, Int.reduceAdd, Int.reduceNeg]
  have hol := order_len d
  refine s_loop (fun n' ρ L => ∃ j : Nat, j ≤ d.order.length ∧ n' = d.order.length - j ∧ (∃ J, L = depB d ((d.order.take j).foldl (stepD d) (List.replicate d.nodes.length 0, 0)).1 ((d.order.take j).foldl (stepD d) (List.replicate d.nodes.length 0, 0)).2 (.lp r0 l) J) ∧
      ρ 0 = .yld 4 ∧ ρ 1 = .iptr [[.str d.name, .isl (nodeRows d.nodes)]] 0 0 ∧ ρ 13 = .isl (intRows d.order) ∧ ρ 14 = .int .i64 d.order.length ∧ ρ 15 = .int .i64 j)
    ⟨0, Nat.zero_le _, rfl, ⟨[], rfl⟩, by simp only [g0, go_sem, Nat.reduceEqDiff, reduceIte, Int.reduceEq, Int.reduceLT, Int.reduceLE, Nat.reduceAdd, Nat.reduceLT, Nat.reduceLeDiff, Int.reduceToNat, Int.reduceSub, Int.reduceAdd, Int.reduceNeg], by simp only [g1, go_sem, Nat.reduceEqDiff, reduceIte, Int.reduceEq, Int.reduceLT, Int.reduceLE, Nat.reduceAdd, Nat.reduceLT, Nat.reduceLeDiff, Int.reduceToNat, Int.reduceSub, Int.reduceAdd, Int.reduceNeg], by simp only [go_sem, Nat.reduceEqDiff, reduceIte, Int.reduceEq, Int.reduceLT, Int.reduceLE, Nat.reduceAdd, Nat.reduceLT, Nat.reduceLeDiff, Int.reduceToNat, Int.reduceSub, Int.reduceAdd, Int.reduceNeg], by simp only [intRows_len, go_sem, Nat.reduceEqDiff, reduceIte, Int.reduceEq, Int.reduceLT, Int.reduceLE, Nat.reduceAdd, Nat.reduceLT, Nat.reduceLeDiff, Int.reduceToNat, Int.reduceSub, Int.reduceAdd, Int.reduceNeg], by simp only [go_sem, Nat.reduceEqDiff, reduceIte, Int.reduceEq, Int.reduceLT, Int.reduceLE, Nat.reduceAdd, Nat.reduceLT, Nat.reduceLeDiff, Int.reduceToNat, Int.reduceSub, Int.reduceAdd, Int.reduceNeg]; try rfl⟩ ?_
  clear g0 g1 ρ
  rintro n' ρ L ⟨j, hj, rfl, ⟨J, rfl⟩, g0, g1, g13, g14, g15⟩
  unfold depB
  simp only [g0, g1, g13, g14, g15, go_sem, Nat.reduceEqDiff, reduceIte, Int.reduceEq, Int.reduceLT, Int.reduceLE, Nat.reduceAdd, Nat.reduceLT, Nat.reduceLeDiff, Int.reduceToNat, Int.reduceSub, Int.reduceAdd, Int.reduceNeg]
  refine s_cond (b := decide _) (by simp only [g0, g1, g13, g14, g15, intRows_len, go_sem, Nat.reduceEqDiff, reduceIte, Int.reduceEq, Int.reduceLT, Int.reduceLE, Nat.reduceAdd, Nat.reduceLT, Nat.reduceLeDiff, Int.reduceToNat, Int.reduceSub, Int.reduceAdd, Int.reduceNeg]; try rfl) ?_ ?_ <;> intro hb <;> simp only [hb, g0, g1, g13, g14, g15, intRows_len, go_sem, Nat.reduceEqDiff, reduceIte, Int.reduceEq, Int.reduceLT, Int.reduceLE, Nat.reduceAdd, Nat.reduceLT, Nat.reduceLeDiff, Int.reduceToNat, Int.reduceSub, Int.reduceAdd, Int.reduceNeg]
  · rw [decide_eq_true_eq] at hb
    have hj' : j < d.order.length := by omega
    have hi : d.order.getD j 0 < d.nodes.length := order_lt d (by rw [List.getD_eq_getElem?_getD, List.getElem?_eq_getElem hj']; exact List.getElem_mem _)
    have hmem : d.nodes.getD (d.order.getD j 0) default ∈ d.nodes := by rw [List.getD_eq_getElem?_getD, List.getElem?_eq_getElem hi]; exact List.getElem_mem _
    have hrow := nodeRows_get hi
    have hor := intRows_get hj'
    obtain ⟨f1, f2, f3⟩ := stepD_facts d ha (d.order.take j) (List.replicate d.nodes.length 0, 0) 0 (fun i hi => order_lt d (List.mem_of_mem_take hi)) (fun k => by simp [List.getD_eq_getElem?_getD, List.getElem?_replicate]; split <;> simp) (Nat.le_refl 0)
    have htk : (d.order.take (j + 1)).foldl (stepD d) (List.replicate d.nodes.length 0, 0) = stepD d ((d.order.take j).foldl (stepD d) (List.replicate d.nodes.length 0, 0)) (d.order.getD j 0) := by
      rw [List.take_add_one, List.foldl_append, getD_get (d := 0) hj']; rfl
    generalize (d.order.take j).foldl (stepD d) (List.replicate d.nodes.length 0, 0) = st at *
    have hlt : (d.order.take j).length ≤ 1000001 := by rw [List.length_take]; omega
    have hBB : 0 + (d.order.take j).length * 1000001 ≤ 1000000000000000 := by omega
    generalize hid : d.order.getD j 0 = i at *
    simp only [g0, g1, g13, g14, g15, intRows_len, rows_ints, rows_nodes, hor, hrow, nodeRows_len, NodeD.row, go_sem, Nat.reduceEqDiff, reduceIte, Int.reduceEq, Int.reduceLT, Int.reduceLE, Nat.reduceAdd, Nat.reduceLT, Nat.reduceLeDiff, Int.reduceToNat, Int.reduceSub, Int.reduceAdd, Int.reduceNeg]
    refine ⟨hb, hj', by omega, hi, ?_⟩
    have hrid := cloneS_pure (E := E.withY 56 [17, 18] x19a x19b) hP (d.nodes.getD i default).after (ha _ hmem)
    refine xcall_pure (args' := [.isl (strRows (d.nodes.getD i default).after)]) rfl hrid rfl ?_
    simp only [g0, g1, g13, g14, g15, get5', set5', hor, go_sem, Nat.reduceEqDiff, reduceIte, Int.reduceEq, Int.reduceLT, Int.reduceLE, Nat.reduceAdd, Nat.reduceLT, Nat.reduceLeDiff, Int.reduceToNat, Int.reduceSub, Int.reduceAdd, Int.reduceNeg]
    refine ⟨r0, l, rfl, hst, hpe, hlc, rfl, by decide, rfl, rfl, hll, ?_⟩
    generalize hnd : d.nodes.getD i default = nd at *
    have hps : putPs l [17, 18] [.int .i64 i, .agg nd.row] = (l.set 17 (.int .i64 i)).set 18 (.agg nd.row) := rfl
    have q18 : rhoOf (putPs l [17, 18] [.int .i64 i, .agg nd.row]) 18 = .agg nd.row := by rw [hps, rho_set (by rw [List.length_set]; omega), if_pos rfl]
    have q17 : rhoOf (putPs l [17, 18] [.int .i64 i, .agg nd.row]) 17 = .int .i64 i := by rw [hps, rho_set (by rw [List.length_set]; omega), if_neg (by decide), rho_set (by omega), if_pos rfl]
    have qn : ∀ n, n < 17 → rhoOf (putPs l [17, 18] [.int .i64 i, .agg nd.row]) n = ρ' n := fun n hn => by rw [hps, rho_set (by rw [List.length_set]; omega), if_neg (by omega), rho_set (by omega), if_neg (by omega), hl n (by omega)]
    have q1 := (qn 1 (by decide)).trans h1
    have q3 := (qn 3 (by decide)).trans h3
    have q4 := (qn 4 (by decide)).trans h4
    simp only [NodeD.row] at q18 q17 q1 q3 q4
    clear qn hps
    generalize rhoOf (putPs l [17, 18] _) = ρ2 at *
    unfold x19a
    simp only [q1, q3, q4, q17, q18, go_sem, Nat.reduceEqDiff, reduceIte, Int.reduceEq, Int.reduceLT, Int.reduceLE, Nat.reduceAdd, Nat.reduceLT, Nat.reduceLeDiff, Int.reduceToNat, Int.reduceSub, Int.reduceAdd, Int.reduceNeg]
    have hr := fun (ρ : Rho) p1 p3 p4 p5 p6 => round_run (E := E.noPan) hP d hd ha hi (deep := st.1) (longest := st.2) (B := 0 + (d.order.take j).length * 1000001) (by simpa using f1) f2 f3 hBB (.lp { r0 with state := .busy } l) (J ++ [.cells 7 [nd.row]]) _ (ρ := ρ) rfl p1 p3 p4 p5 p6
    rw [hnd] at hr
    simp only [NodeD.row] at hr
    refine xrun_mono _ (fun e ρ3 L3 h => ?_) (hr _ (by simp only [q1, q3, q4, q17, q18, go_sem, Nat.reduceEqDiff, reduceIte, Int.reduceEq, Int.reduceLT, Int.reduceLE, Nat.reduceAdd, Nat.reduceLT, Nat.reduceLeDiff, Int.reduceToNat, Int.reduceSub, Int.reduceAdd, Int.reduceNeg]) (by simp only [q1, q3, q4, q17, q18, go_sem, Nat.reduceEqDiff, reduceIte, Int.reduceEq, Int.reduceLT, Int.reduceLE, Nat.reduceAdd, Nat.reduceLT, Nat.reduceLeDiff, Int.reduceToNat, Int.reduceSub, Int.reduceAdd, Int.reduceNeg]) (by simp only [q1, q3, q4, q17, q18, go_sem, Nat.reduceEqDiff, reduceIte, Int.reduceEq, Int.reduceLT, Int.reduceLE, Nat.reduceAdd, Nat.reduceLT, Nat.reduceLeDiff, Int.reduceToNat, Int.reduceSub, Int.reduceAdd, Int.reduceNeg]) (by simp only [q1, q3, q4, q17, q18, go_sem, Nat.reduceEqDiff, reduceIte, Int.reduceEq, Int.reduceLT, Int.reduceLE, Nat.reduceAdd, Nat.reduceLT, Nat.reduceLeDiff, Int.reduceToNat, Int.reduceSub, Int.reduceAdd, Int.reduceNeg]) (by simp only [q1, q3, q4, q17, q18, go_sem, Nat.reduceEqDiff, reduceIte, Int.reduceEq, Int.reduceLT, Int.reduceLE, Nat.reduceAdd, Nat.reduceLT, Nat.reduceLeDiff, Int.reduceToNat, Int.reduceSub, Int.reduceAdd, Int.reduceNeg]))
    obtain ⟨rfl, rfl⟩ := h
    refine ⟨rfl, ?_⟩
    simp only [yEnd]
    unfold depB
    simp only [g0, g1, g13, g14, g15, go_sem, Nat.reduceEqDiff, reduceIte, Int.reduceEq, Int.reduceLT, Int.reduceLE, Nat.reduceAdd, Nat.reduceLT, Nat.reduceLeDiff, Int.reduceToNat, Int.reduceSub, Int.reduceAdd, Int.reduceNeg]
    refine ⟨d.order.length - (j + 1), by omega, j + 1, by omega, rfl, ⟨_, by rw [htk]⟩, by rw [wrap64 (by omega) (by omega)]; rfl⟩
  · rw [decide_eq_false_iff_not] at hb
    have hjj : j = d.order.length := by omega
    try simp only [g0, g1, g13, g14, g15, go_sem, Nat.reduceEqDiff, reduceIte, Int.reduceEq, Int.reduceLT, Int.reduceLE, Nat.reduceAdd, Nat.reduceLT, Nat.reduceLeDiff, Int.reduceToNat, Int.reduceSub, Int.reduceAdd, Int.reduceNeg]
    refine ⟨[], .nil, by simp, .tup [], [.cells 2 [[.str d.name, .isl (nodeRows d.nodes)]], .cells 1 (intRows ((d.order.take j).foldl (stepD d) (List.replicate d.nodes.length 0, 0)).1), .cells 1 [[.sl 1 0 d.nodes.length d.nodes.length]], .cells 1 [[.int .i64 (((d.order.take j).foldl (stepD d) (List.replicate d.nodes.length 0, 0)).2 : Nat)]], .lp r0 l], rfl, ?_, ⟨r0, rfl, by rw [hst]; simp, ?_⟩⟩
    · refine mapO_cons rfl (mapO_cons ?_ (mapO_cons rfl (mapO_cons rfl (mapO_cons ?_ rfl))))
      · show (mapO (mapO (conv _ 12 _)) (intRows _)).map _ = _
        rw [mapO_ints]; rfl
      · show (mapO (conv _ 12 _) l).map _ = _
        rw [hlcv]; rfl
    · rw [hpe]
      rw [hjj, List.take_length]
      exact hK

theorem depth_pure (hP : E.P = Tryz.prog) (d : DefD) (hd : d.nodes.length ≤ 1000000) (ha : ∀ n ∈ d.nodes, n.after.length ≤ 1000000) : XPure E 20 [d.iv] (.int .i64 d.depth) := by
  refine xpure1 (n := Tryz.f20.ntmps) (c := x19) (t := 2) (by rw [hP]; rfl) (by rw [hP]; kernel_rfl) (by decide) (Nat.le_of_ble_eq_true rfl) ?_
  generalize hρ : entry _ = ρ
  have h0 : ρ 0 = .agg [.str d.name, .isl (nodeRows d.nodes)] := by rw [← hρ]; rfl
  have hrest : ∀ n, ρ (n + 1) = .und := by intro n; rw [← hρ]; rfl
  clear hρ
  unfold x19
  simp only [h0, nodeRows_len, go_sem, Nat.reduceEqDiff, reduceIte, Int.reduceEq, Int.reduceLT, Int.reduceLE, Nat.reduceAdd, Nat.reduceLT, Nat.reduceLeDiff, Int.reduceToNat, Int.reduceSub, Int.reduceAdd, Int.reduceNeg]
  refine ⟨by omega, by omega, by omega, ?_⟩
  refine xcall_pure (args' := [d.iv]) rfl (walk_pure hP d hd ha) rfl ?_
  try simp only [h0, nodeRows_len, go_sem, Nat.reduceEqDiff, reduceIte, Int.reduceEq, Int.reduceLT, Int.reduceLE, Nat.reduceAdd, Nat.reduceLT, Nat.reduceLeDiff, Int.reduceToNat, Int.reduceSub, Int.reduceAdd, Int.reduceNeg]
  refine depth_loop (E := E.noPan) hP d hd ha _ (by simp only [go_sem, Nat.reduceEqDiff, reduceIte, Int.reduceEq, Int.reduceLT, Int.reduceLE, Nat.reduceAdd, Nat.reduceLT, Nat.reduceLeDiff, Int.reduceToNat, Int.reduceSub, Int.reduceAdd, Int.reduceNeg]) (by simp only [go_sem, Nat.reduceEqDiff, reduceIte, Int.reduceEq, Int.reduceLT, Int.reduceLE, Nat.reduceAdd, Nat.reduceLT, Nat.reduceLeDiff, Int.reduceToNat, Int.reduceSub, Int.reduceAdd, Int.reduceNeg]) (by simp only [go_sem, Nat.reduceEqDiff, reduceIte, Int.reduceEq, Int.reduceLT, Int.reduceLE, Nat.reduceAdd, Nat.reduceLT, Nat.reduceLeDiff, Int.reduceToNat, Int.reduceSub, Int.reduceAdd, Int.reduceNeg]) (by simp only [go_sem, Nat.reduceEqDiff, reduceIte, Int.reduceEq, Int.reduceLT, Int.reduceLE, Nat.reduceAdd, Nat.reduceLT, Nat.reduceLeDiff, Int.reduceToNat, Int.reduceSub, Int.reduceAdd, Int.reduceNeg]) (fun L => ?_) ?_
  · repeat (refine put_all (P := fun x => conv L 12 (renLeave 5 []) x = some x) rfl ?_)
    intro n
    cases n with
    | zero => rw [h0]; rfl
    | succ n => rw [hrest]; rfl
  · simp only [h0, nodeRows_len, go_sem, Nat.reduceEqDiff, reduceIte, Int.reduceEq, Int.reduceLT, Int.reduceLE, Nat.reduceAdd, Nat.reduceLT, Nat.reduceLeDiff, Int.reduceToNat, Int.reduceSub, Int.reduceAdd, Int.reduceNeg]
    rfl
end
end Go.X.TryzW
end
section
open Go Go.X Go.Proofs
set_option maxRecDepth 100000
set_option maxHeartbeats 4000000
set_option linter.unusedSimpArgs false
set_option linter.unusedVariables false
namespace Go.X.TryzW

def tabD (P : Program) : Tab where
  T := tabT P
  pre := fun _ _ => none
  ext := fun f args => match f, args with
    | 108, [.str s, .int .u8 c] => some (.int .i64 (Lib.indexByte s c.toNat.toUInt8))
    | 74, [.str s, .int .u8 c] => some (.int .i64 (Lib.countByte s c.toNat.toUInt8))
    | _, _ => none
section
variable {E : Env}
theorem tabD_ok (hP : E.P = Tryz.prog) : TabOk E (tabD Tryz.prog) where
  T := by rw [hP]; exact tabT_ok
  pre := fun _ _ _ h => by cases h
  ext := fun f args r h => by
    simp only [tabD] at h
    split at h
    · cases h; exact ext_indexByte (fn := Tryz.f108) (by rw [hP]; rfl) (by rfl) (by rfl) (by rfl) (by rfl) _ _
    · cases h; exact ext_countByte (fn := Tryz.f74) (by rw [hP]; rfl) (by rfl) (by rfl) (by rfl) (by rfl) _ _
    · cases h

def textW : List UInt8 := [119, 111, 114, 107, 102, 108, 111, 119, 32, 119, 10, 98, 32, 119, 97, 105, 116, 32, 115, 32, 97, 102, 116, 101, 114, 32, 97, 10, 97, 32, 97, 99, 116, 105, 118, 105, 116, 121, 32, 113, 10]
def dW : DefD := ⟨[119], [⟨[98], 4, [115], [], 0, 0, [[97]]⟩, ⟨[97], 1, [113], [], 0, 1, []⟩]⟩
theorem parseW_ev (gl : Nat → Option (List IV)) : evFun (tabD Tryz.prog) gl 300 30 9 [.str textW] = some (.tup [dW.iv, .int .i64 0, .int .i64 0]) := by kernel_rfl
theorem intsW_ev (gl : Nat → Option (List IV)) : evFun (tabD Tryz.prog) gl 300 30 19 [.isl (intRows [1, 0]), .isl (intRows [1, 0])] = some (.bool true) := by kernel_rfl
theorem orderW : dW.order = [1, 0] := by decide
theorem depthW : dW.depth = 2 := by unfold DefD.depth; rw [orderW]; decide

end
end Go.X.TryzW
end
section
open Go Go.X Go.Proofs
set_option maxRecDepth 100000
set_option maxHeartbeats 4000000
set_option linter.unusedSimpArgs false
set_option linter.unusedVariables false
namespace Go.X.TryzW
/- "tiller/tillerlaw08.wakes" params { toList := [] } results { toList := [Go.ResultVar.tmp 0] } -/
def x11 : XC :=
 (.seq
  (.ops [
    ⟨(some 0), (.mov (.c (.bool false))), none⟩])
  (.seq
   (.ops [
     ⟨(some 7), (.call (.f 9) [(.c (.str [119, 111, 114, 107, 102, 108, 111, 119, 32, 119, 10, 98, 32, 119, 97, 105, 116, 32, 115, 32, 97, 102, 116, 101, 114, 32, 97, 10, 97, 32, 97, 99, 116, 105, 118, 105, 116, 121, 32, 113, 10]))]), none⟩,
     ⟨(some 6), (.mov (.t 7)), none⟩,
     ⟨(some 8), (.ext (.t 6) 0), none⟩,
     ⟨(some 9), (.ext (.t 6) 1), none⟩,
     ⟨(some 10), (.ext (.t 6) 2), none⟩,
     ⟨(some 1), (.alloc [(.str []), .nsl]), none⟩,
     ⟨none, (.store 2 (.t 1) (.t 8)), none⟩,
     ⟨(some 2), (.mov (.t 9)), none⟩,
     ⟨(some 3), (.mov (.t 10)), none⟩])
   (.seq
    (.ops [
      ⟨(some 12), (.loadN 2 (.t 1)), none⟩,
      ⟨(some 13), (.call (.f 18) [(.t 12)]), none⟩,
      ⟨(some 11), (.mov (.t 13)), none⟩,
      ⟨(some 14), (.ext (.t 11) 0), none⟩,
      ⟨(some 15), (.ext (.t 11) 1), none⟩,
      ⟨(some 4), (.mov (.t 14)), none⟩,
      ⟨(some 5), (.mov (.t 15)), none⟩])
    (.seq
     (.ops [
       ⟨(some 16), (.mov (.t 3)), none⟩,
       ⟨(some 17), (.bin .eql (.t 16) (.c (.int .i64 0))), none⟩,
       ⟨(some 18), (.mov (.t 17)), none⟩,
       ⟨(some 19), (.mov (.t 5)), (some (18, true))⟩,
       ⟨(some 20), (.pick (.t 18) (.t 19) (.c (.bool false))), none⟩,
       ⟨(some 21), (.mov (.t 20)), none⟩,
       ⟨(some 22), (.mov (.t 4)), (some (21, true))⟩,
       ⟨(some 23), (.bslice 1 [(.int .i64 0)] 2 [(0, (.c (.int .i64 1))), (1, (.c (.int .i64 0)))]), (some (21, true))⟩,
       ⟨(some 24), (.call (.f 19) [(.t 22), (.t 23)]), (some (21, true))⟩,
       ⟨(some 25), (.pick (.t 21) (.t 24) (.c (.bool false))), none⟩,
       ⟨(some 26), (.mov (.t 25)), none⟩,
       ⟨(some 27), (.loadN 2 (.t 1)), (some (26, true))⟩,
       ⟨(some 28), (.call (.f 20) [(.t 27)]), (some (26, true))⟩,
       ⟨(some 29), (.bin .eql (.t 28) (.c (.int .i64 2))), (some (26, true))⟩,
       ⟨(some 30), (.pick (.t 26) (.t 29) (.c (.bool false))), none⟩,
       ⟨(some 31), (.mov (.t 30)), none⟩,
       ⟨(some 32), (.fldA 1 (.t 1)), (some (31, true))⟩,
       ⟨(some 33), (.load1 (.t 32)), (some (31, true))⟩,
       ⟨(some 34), (.idxS 7 (.t 33) (.c (.int .i64 1))), (some (31, true))⟩,
       ⟨(some 35), (.fldA 5 (.t 34)), (some (31, true))⟩,
       ⟨(some 36), (.load1 (.t 35)), (some (31, true))⟩,
       ⟨(some 37), (.bin .eql (.t 36) (.c (.int .i64 1))), (some (31, true))⟩,
       ⟨(some 38), (.pick (.t 31) (.t 37) (.c (.bool false))), none⟩,
       ⟨(some 0), (.mov (.t 38)), none⟩])
     .ret))))

/- "tiller/tillerlaw08.DagNames" params { toList := [22] } results { toList := [Go.ResultVar.tmp 2] } -/
section
variable {E : Env}
theorem wakes_pure (hP : E.P = Tryz.prog) : XPure E 8 [] (.bool true) := by
  refine xpure1 (n := Tryz.f8.ntmps) (c := x11) (t := 0) (by rw [hP]; rfl) (by rw [hP]; kernel_rfl) (by decide) (Nat.le_of_ble_eq_true rfl) ?_
  generalize hρ : entry _ = ρ
  clear hρ
  unfold x11
  simp only [go_sem, Nat.reduceEqDiff, reduceIte, Int.reduceEq, Int.reduceLT, Int.reduceLE, Nat.reduceAdd, Nat.reduceLT, Nat.reduceLeDiff, Int.reduceToNat, Int.reduceSub, Int.reduceAdd, Int.reduceNeg]
  have hd2 : (decide (2 = dW.nodes.length)) = true := rfl
  refine xcall_pure (args' := [.str textW]) rfl (evFun_sound (tabD_ok hP) (parseW_ev E.gl)) rfl ?_
  simp only [DefD.iv, go_sem, Nat.reduceEqDiff, reduceIte, Int.reduceEq, Int.reduceLT, Int.reduceLE, Nat.reduceAdd, Nat.reduceLT, Nat.reduceLeDiff, Int.reduceToNat, Int.reduceSub, Int.reduceAdd, Int.reduceNeg]
  refine xcall_pure (args' := [dW.iv]) rfl (order_pure hP dW (by decide) (by decide)) rfl ?_
  simp only [orderW, hd2, go_sem, Nat.reduceEqDiff, reduceIte, Int.reduceEq, Int.reduceLT, Int.reduceLE, Nat.reduceAdd, Nat.reduceLT, Nat.reduceLeDiff, Int.reduceToNat, Int.reduceSub, Int.reduceAdd, Int.reduceNeg]
  refine xcall_lend (args' := [.isl (intRows [1, 0]), .isl (intRows [1, 0])]) rfl (evFun_sound (tabD_ok hP) (intsW_ev E.gl)) rfl rfl ?_
  simp only [orderW, hd2, go_sem, Nat.reduceEqDiff, reduceIte, Int.reduceEq, Int.reduceLT, Int.reduceLE, Nat.reduceAdd, Nat.reduceLT, Nat.reduceLeDiff, Int.reduceToNat, Int.reduceSub, Int.reduceAdd, Int.reduceNeg]
  refine xcall_pure (args' := [dW.iv]) rfl (depth_pure hP dW (by decide) (by decide)) rfl ?_
  simp only [depthW, hd2, go_sem, Nat.reduceEqDiff, reduceIte, Int.reduceEq, Int.reduceLT, Int.reduceLE, Nat.reduceAdd, Nat.reduceLT, Nat.reduceLeDiff, Int.reduceToNat, Int.reduceSub, Int.reduceAdd, Int.reduceNeg]
  have h1 : (nodeRows dW.nodes).getD 1 [] = [.str [97], .int .i64 1, .str [113], .str [], .int .i64 0, .int .i64 1, .isl []] := rfl
  have h2 : (nodeRows dW.nodes).length = 2 := rfl
  simp only [depthW, hd2, h1, h2, rows_nodes, go_sem, Nat.reduceEqDiff, reduceIte, Int.reduceEq, Int.reduceLT, Int.reduceLE, Nat.reduceAdd, Nat.reduceLT, Nat.reduceLeDiff, Int.reduceToNat, Int.reduceSub, Int.reduceAdd, Int.reduceNeg]
  rfl

end
end Go.X.TryzW
end
section
open Go Go.X Go.Proofs
set_option maxRecDepth 100000
set_option maxHeartbeats 4000000
set_option linter.unusedSimpArgs false
set_option linter.unusedVariables false
namespace Go.X.TryzW
/- "tiller/tillerlaw08.cut" params { toList := [28] } results { toList := [Go.ResultVar.cell 2 28] } -/
def x12 : XC :=
 (.seq
  (.ops [
    ⟨(some 1), (.box (.t 0)), none⟩,
    ⟨(some 2), (.alloc [(.str []), .nsl]), none⟩])
  (.seq
   (.seq
    (.ops [
      ⟨(some 6), (.fldA 1 (.t 1)), none⟩,
      ⟨(some 7), (.load1 (.t 6)), none⟩,
      ⟨(some 8), (.len (.t 7)), none⟩,
      ⟨(some 9), (.bin .gtr (.t 8) (.c (.int .i64 40))), none⟩])
    (.cond (.t 9)
     (.ops [
       ⟨(some 10), (.fldA 1 (.t 1)), none⟩,
       ⟨(some 11), (.load1 (.t 10)), none⟩,
       ⟨(some 12), (.slice 7 (.t 11) none (some (.c (.int .i64 40)))), none⟩,
       ⟨(some 13), (.fldA 1 (.t 1)), none⟩,
       ⟨none, (.store 1 (.t 13) (.t 12)), none⟩])
     .skip))
   (.seq
    (.ops [
      ⟨(some 3), (.mov (.c .nsl)), none⟩])
    (.seq
     (.seq
      (.ops [
        ⟨(some 4), (.mov (.c (.int .i64 0))), none⟩])
      (.block 0
       (.loop
        (.seq
         (.seq
          (.ops [
            ⟨(some 14), (.mov (.t 4)), none⟩,
            ⟨(some 15), (.fldA 1 (.t 1)), none⟩,
            ⟨(some 16), (.load1 (.t 15)), none⟩,
            ⟨(some 17), (.len (.t 16)), none⟩,
            ⟨(some 18), (.bin .lss (.t 14) (.t 17)), none⟩])
          (.cond (.t 18)
           .skip
           (.exit 0)))
         (.seq
          (.block 1
           (.seq
            (.ops [
              ⟨(some 21), (.fldA 1 (.t 1)), none⟩,
              ⟨(some 22), (.load1 (.t 21)), none⟩,
              ⟨(some 23), (.mov (.t 4)), none⟩,
              ⟨(some 24), (.idxS 7 (.t 22) (.t 23)), none⟩,
              ⟨(some 25), (.loadN 7 (.t 24)), none⟩,
              ⟨(some 5), (.alloc [(.str []), (.int .i64 0), (.str []), (.str []), (.int .i64 0), (.int .i64 0), .nsl]), none⟩,
              ⟨none, (.store 7 (.t 5) (.t 25)), none⟩])
            (.seq
             (.seq
              (.ops [
                ⟨(some 26), (.fldA 6 (.t 5)), none⟩,
                ⟨(some 27), (.load1 (.t 26)), none⟩,
                ⟨(some 28), (.len (.t 27)), none⟩,
                ⟨(some 29), (.bin .gtr (.t 28) (.c (.int .i64 10))), none⟩])
              (.cond (.t 29)
               (.ops [
                 ⟨(some 30), (.fldA 6 (.t 5)), none⟩,
                 ⟨(some 31), (.load1 (.t 30)), none⟩,
                 ⟨(some 32), (.slice 1 (.t 31) none (some (.c (.int .i64 10)))), none⟩,
                 ⟨(some 33), (.fldA 6 (.t 5)), none⟩,
                 ⟨none, (.store 1 (.t 33) (.t 32)), none⟩])
               .skip))
             (.ops [
               ⟨(some 34), (.mov (.t 3)), none⟩,
               ⟨(some 35), (.loadN 7 (.t 5)), none⟩,
               ⟨(some 36), (.bslice 7 [(.str []), (.int .i64 0), (.str []), (.str []), (.int .i64 0), (.int .i64 0), .nsl] 1 [(0, (.t 35))]), none⟩,
               ⟨(some 37), (.append 7 96 (.t 34) (.t 36)), none⟩,
               ⟨(some 3), (.mov (.t 37)), none⟩]))))
          (.ops [
            ⟨(some 19), (.mov (.t 4)), none⟩,
            ⟨(some 20), (.bin .add (.t 19) (.c (.int .i64 1))), none⟩,
            ⟨(some 4), (.mov (.t 20)), none⟩]))))))
     (.seq
      (.ops [
        ⟨(some 38), (.mov (.t 3)), none⟩,
        ⟨(some 39), (.fldA 1 (.t 1)), none⟩,
        ⟨none, (.store 1 (.t 39) (.t 38)), none⟩])
      (.seq
       (.ops [
         ⟨(some 40), (.loadN 2 (.t 1)), none⟩,
         ⟨none, (.store 2 (.t 2) (.t 40)), none⟩])
       .ret))))))

section
variable {E : Env}
theorem xcut_norm {c : XC} {ρ : Rho} {L : List Blk} {K : XE → Rho → List Blk → Prop} (M : Rho → List Blk → Prop) (h1 : xrun E c ρ L (Norm M)) (h2 : ∀ ρ L, M ρ L → K .normal ρ L) : xrun E c ρ L K := by
  refine xrun_mono c (fun e ρ L h => ?_) h1
  cases e with
  | normal => exact h2 ρ L h
  | exit => exact h.elim
  | goto => exact h.elim
  | ret => exact h.elim
@[go_sem ↓] theorem norm_normal {M : Rho → List Blk → Prop} {ρ : Rho} {L : List Blk} : Norm M .normal ρ L = M ρ L := nr rfl
/-- One answer that lies in cells. -/
theorem xpureC {f : FuncId} {fn : Func} {t k n : Nat} {c : XC} {args : List IV} {r : IV} (hf : E.P.funcs[f]? = some fn) (hF : compFn E.P fn = some ⟨n, [.cellN t k], c⟩) (hnm : fn.name ≠ "runtime.NumGoroutine")
    (hargs : args.length ≤ fn.ntmps) (h : xrun E.noPan c (entry args) [] (doneK fun ρ L' => xop E ((XO.loadN k (.t t)).sub (Opd.ev ρ)) cev L' fun v _ => conv L' fuel renFreeze v = some r)) : XPure E f args r := by
  refine xpure_of_fun hf hF hnm hargs (xrun_mono _ (fun e ρ L h => ?_) h)
  have key : ∀ {ρ : Rho} {L : List Blk}, xop E ((XO.loadN k (.t t)).sub (Opd.ev ρ)) cev L (fun v _ => conv L fuel renFreeze v = some r) → xresults E [.cellN t k] ρ L fun r' => conv L fuel renFreeze r' = some r := fun h => by
    rw [← xop_sub] at h
    exact h
  cases e with
  | normal => exact ⟨Or.inr rfl, key h⟩
  | ret => exact ⟨Or.inl rfl, key h⟩
  | exit => exact h.elim
  | goto => exact h.elim

def NodeD.cut (n : NodeD) : NodeD := { n with after := n.after.take 10 }
def DefD.cut (d : DefD) : DefD := ⟨d.name, (d.nodes.take 40).map NodeD.cut⟩
theorem strRows_take (l : List (List UInt8)) (k : Nat) : (strRows l).take k = strRows (l.take k) := by simp [strRows, List.map_take]
theorem nodeRows_take (l : List NodeD) (k : Nat) : (nodeRows l).take k = nodeRows (l.take k) := by simp [nodeRows, List.map_take]

theorem get2' {a b x : Blk} {J : List Blk} : (a :: b :: (J ++ [x]))[J.length + 1 + 1]? = some x := by simp
theorem set2' {a b x y : Blk} {J : List Blk} : (a :: b :: (J ++ [x])).set (J.length + 1 + 1) y = a :: b :: (J ++ [y]) := by simp
theorem out_cell {sz : Nat} {p L : List Blk} {rows : List (List IV)} {v : IV} (h : OutOk sz p rows v L) : cellsOf v = [v] ∧ isCell v = true := by
  obtain ⟨J, _, ⟨_, rfl⟩ | ⟨s, _, rfl, _⟩⟩ := h <;> exact ⟨rfl, rfl⟩
theorem out_grow {sz : Nat} {p L : List Blk} {rows : List (List IV)} {v : IV} {b : Blk} (h : OutOk sz p rows v L) : OutOk sz p rows v (L ++ [b]) := by
  obtain ⟨J, rfl, h⟩ := h
  refine ⟨J ++ [b], by simp, ?_⟩
  rcases h with h | ⟨s, hs, h1, h2⟩
  · exact .inl h
  · exact .inr ⟨s, hs, h1, get_app h2⟩
theorem cut_pure (hP : E.P = Tryz.prog) (d : DefD) (hd : d.nodes.length ≤ 9223372036854775807) (ha : ∀ n ∈ d.nodes, n.after.length ≤ 9223372036854775807) : XPure E 5 [d.iv] d.cut.iv := by
  refine xpureC (n := Tryz.f5.ntmps) (c := x12) (t := 2) (k := 2) (by rw [hP]; rfl) (by rw [hP]; kernel_rfl) (by decide) (Nat.le_of_ble_eq_true rfl) ?_
  generalize hρ : entry _ = ρ
  have h0 : ρ 0 = .agg [.str d.name, .isl (nodeRows d.nodes)] := by rw [← hρ]; rfl
  clear hρ
  unfold x12
  simp only [h0, nodeRows_len, go_sem, Nat.reduceEqDiff, reduceIte, Int.reduceEq, Int.reduceLT, Int.reduceLE, Nat.reduceAdd, Nat.reduceLT, Nat.reduceLeDiff, Int.reduceToNat, Int.reduceSub, Int.reduceAdd, Int.reduceNeg]
  refine xcut_norm (fun ρ' L' => ρ' 1 = .ptr 0 0 0 ∧ ρ' 2 = .ptr 1 0 0 ∧ L' = [.cells 2 [[.str d.name, .isl (nodeRows (d.nodes.take 40))]], .cells 2 [[.str [], .nsl]]]) ?_ ?_
  · refine s_cond (b := decide _) (by simp only [h0, go_sem, Nat.reduceEqDiff, reduceIte, Int.reduceEq, Int.reduceLT, Int.reduceLE, Nat.reduceAdd, Nat.reduceLT, Nat.reduceLeDiff, Int.reduceToNat, Int.reduceSub, Int.reduceAdd, Int.reduceNeg]; try rfl) ?_ ?_ <;> intro hb <;> simp only [hb, h0, go_sem, Nat.reduceEqDiff, reduceIte, Int.reduceEq, Int.reduceLT, Int.reduceLE, Nat.reduceAdd, Nat.reduceLT, Nat.reduceLeDiff, Int.reduceToNat, Int.reduceSub, Int.reduceAdd, Int.reduceNeg]
    · rw [decide_eq_true_eq] at hb
      simp only [h0, nodeRows_len, rows_nodes, nodeRows_take, go_sem, Nat.reduceEqDiff, reduceIte, Int.reduceEq, Int.reduceLT, Int.reduceLE, Nat.reduceAdd, Nat.reduceLT, Nat.reduceLeDiff, Int.reduceToNat, Int.reduceSub, Int.reduceAdd, Int.reduceNeg]
      omega
    · rw [decide_eq_false_iff_not] at hb
      have : d.nodes.take 40 = d.nodes := List.take_of_length_le (by omega)
      simp only [h0, this, go_sem, Nat.reduceEqDiff, reduceIte, Int.reduceEq, Int.reduceLT, Int.reduceLE, Nat.reduceAdd, Nat.reduceLT, Nat.reduceLeDiff, Int.reduceToNat, Int.reduceSub, Int.reduceAdd, Int.reduceNeg]
  clear h0 ρ
  rintro ρ L ⟨h1, h2, rfl⟩
  have ha' : ∀ n ∈ d.nodes.take 40, n.after.length ≤ 9223372036854775807 := fun n hn => ha n (List.mem_of_mem_take hn)
  have hn40 : (d.nodes.take 40).length ≤ 40 := List.length_take_le ..
  have hcut : d.cut = ⟨d.name, (d.nodes.take 40).map NodeD.cut⟩ := rfl
  rw [hcut]
  generalize d.nodes.take 40 = ns at *
  simp only [h1, h2, go_sem, Nat.reduceEqDiff, reduceIte, Int.reduceEq, Int.reduceLT, Int.reduceLE, Nat.reduceAdd, Nat.reduceLT, Nat.reduceLeDiff, Int.reduceToNat, Int.reduceSub, Int.reduceAdd, Int.reduceNeg]
  refine s_loop (fun n' ρ L => ∃ i : Nat, i ≤ ns.length ∧ n' = ns.length - i ∧ OutOk 7 [.cells 2 [[.str d.name, .isl (nodeRows ns)]], .cells 2 [[.str [], .nsl]]] (nodeRows ((ns.take i).map NodeD.cut)) (ρ 3) L ∧
      ρ 1 = .ptr 0 0 0 ∧ ρ 2 = .ptr 1 0 0 ∧ ρ 4 = .int .i64 i)
    ⟨0, Nat.zero_le _, rfl, ?_, by simp only [h1, go_sem, Nat.reduceEqDiff, reduceIte, Int.reduceEq, Int.reduceLT, Int.reduceLE, Nat.reduceAdd, Nat.reduceLT, Nat.reduceLeDiff, Int.reduceToNat, Int.reduceSub, Int.reduceAdd, Int.reduceNeg], by simp only [h2, go_sem, Nat.reduceEqDiff, reduceIte, Int.reduceEq, Int.reduceLT, Int.reduceLE, Nat.reduceAdd, Nat.reduceLT, Nat.reduceLeDiff, Int.reduceToNat, Int.reduceSub, Int.reduceAdd, Int.reduceNeg], by simp only [go_sem, Nat.reduceEqDiff, reduceIte, Int.reduceEq, Int.reduceLT, Int.reduceLE, Nat.reduceAdd, Nat.reduceLT, Nat.reduceLeDiff, Int.reduceToNat, Int.reduceSub, Int.reduceAdd, Int.reduceNeg]; try rfl⟩ ?_
  · try simp only [go_sem, Nat.reduceEqDiff, reduceIte, Int.reduceEq, Int.reduceLT, Int.reduceLE, Nat.reduceAdd, Nat.reduceLT, Nat.reduceLeDiff, Int.reduceToNat, Int.reduceSub, Int.reduceAdd, Int.reduceNeg]
    exact out_nil (p := [.cells 2 [[.str d.name, .isl (nodeRows ns)]], .cells 2 [[.str [], .nsl]]]) (J := [])
  clear h1 h2 ρ
  rintro n' ρ L ⟨i, hi, rfl, hO, h1, h2, h4⟩
  generalize h3 : ρ 3 = v at hO
  have hOut := hO
  obtain ⟨J, rfl, hJ⟩ := hO
  simp only [h1, h2, h3, h4, nodeRows_len, go_sem, Nat.reduceEqDiff, reduceIte, Int.reduceEq, Int.reduceLT, Int.reduceLE, Nat.reduceAdd, Nat.reduceLT, Nat.reduceLeDiff, Int.reduceToNat, Int.reduceSub, Int.reduceAdd, Int.reduceNeg]
  refine s_cond (b := decide _) (by simp only [h1, h2, h3, h4, go_sem, Nat.reduceEqDiff, reduceIte, Int.reduceEq, Int.reduceLT, Int.reduceLE, Nat.reduceAdd, Nat.reduceLT, Nat.reduceLeDiff, Int.reduceToNat, Int.reduceSub, Int.reduceAdd, Int.reduceNeg]; try rfl) ?_ ?_ <;> intro hb <;> simp only [hb, h1, h2, h3, h4, go_sem, Nat.reduceEqDiff, reduceIte, Int.reduceEq, Int.reduceLT, Int.reduceLE, Nat.reduceAdd, Nat.reduceLT, Nat.reduceLeDiff, Int.reduceToNat, Int.reduceSub, Int.reduceAdd, Int.reduceNeg]
  · rw [decide_eq_true_eq] at hb
    have hi' : i < ns.length := by omega
    have hrow := nodeRows_get hi'
    have hmem : ns.getD i default ∈ ns := by rw [List.getD_eq_getElem?_getD, List.getElem?_eq_getElem hi']; exact List.getElem_mem _
    have haf := ha' _ hmem
    have htk : (ns.take (i + 1)).map NodeD.cut = (ns.take i).map NodeD.cut ++ [(ns.getD i default).cut] := by
      rw [List.take_add_one, getD_get (d := default) hi']; simp
    generalize ns.getD i default = nd at *
    simp only [h1, h2, h3, h4, nodeRows_len, rows_nodes, hrow, NodeD.row, get2', set2', strRows_len, go_sem, Nat.reduceEqDiff, reduceIte, Int.reduceEq, Int.reduceLT, Int.reduceLE, Nat.reduceAdd, Nat.reduceLT, Nat.reduceLeDiff, Int.reduceToNat, Int.reduceSub, Int.reduceAdd, Int.reduceNeg]
    refine ⟨by omega, hi', ?_⟩
    refine xcut_norm (fun ρ' L' => ρ' 1 = .ptr 0 0 0 ∧ ρ' 2 = .ptr 1 0 0 ∧ ρ' 3 = v ∧ ρ' 4 = .int .i64 i ∧ ρ' 5 = .ptr (J.length + 1 + 1) 0 0 ∧
      L' = .cells 2 [[.str d.name, .isl (nodeRows ns)]] :: .cells 2 [[.str [], .nsl]] :: (J ++ [.cells 7 [nd.cut.row]])) ?_ ?_
    · refine s_cond (b := decide _) (by simp only [h1, h2, h3, h4, go_sem, Nat.reduceEqDiff, reduceIte, Int.reduceEq, Int.reduceLT, Int.reduceLE, Nat.reduceAdd, Nat.reduceLT, Nat.reduceLeDiff, Int.reduceToNat, Int.reduceSub, Int.reduceAdd, Int.reduceNeg]; try rfl) ?_ ?_ <;> intro hc <;> simp only [hc, h1, h2, h3, h4, go_sem, Nat.reduceEqDiff, reduceIte, Int.reduceEq, Int.reduceLT, Int.reduceLE, Nat.reduceAdd, Nat.reduceLT, Nat.reduceLeDiff, Int.reduceToNat, Int.reduceSub, Int.reduceAdd, Int.reduceNeg]
      · rw [decide_eq_true_eq] at hc
        simp only [h1, h2, h3, h4, get2', set2', rows_strs, strRows_len, strRows_take, go_sem, Nat.reduceEqDiff, reduceIte, Int.reduceEq, Int.reduceLT, Int.reduceLE, Nat.reduceAdd, Nat.reduceLT, Nat.reduceLeDiff, Int.reduceToNat, Int.reduceSub, Int.reduceAdd, Int.reduceNeg]
        refine ⟨by omega, ?_⟩
        rfl
      · rw [decide_eq_false_iff_not] at hc
        have hcut : nd.cut = nd := by
          obtain ⟨_, _, _, _, _, _, af⟩ := nd
          simp only [NodeD.cut]
          rw [List.take_of_length_le (by simp only at hc; omega)]
        simp only [h1, h2, h3, h4, hcut, NodeD.row, go_sem, Nat.reduceEqDiff, reduceIte, Int.reduceEq, Int.reduceLT, Int.reduceLE, Nat.reduceAdd, Nat.reduceLT, Nat.reduceLeDiff, Int.reduceToNat, Int.reduceSub, Int.reduceAdd, Int.reduceNeg]
    · clear h1 h2 h3 h4 ρ
      rintro ρ L ⟨h1, h2, h3, h4, h5, rfl⟩
      simp only [h1, h2, h3, h4, h5, get2', set2', NodeD.row, go_sem, Nat.reduceEqDiff, reduceIte, Int.reduceEq, Int.reduceLT, Int.reduceLE, Nat.reduceAdd, Nat.reduceLT, Nat.reduceLeDiff, Int.reduceToNat, Int.reduceSub, Int.reduceAdd, Int.reduceNeg]
      have hgo : OutOk 7 [.cells 2 [[.str d.name, .isl (nodeRows ns)]], .cells 2 [[.str [], .nsl]]] (nodeRows ((ns.take i).map NodeD.cut)) v (.cells 2 [[.str d.name, .isl (nodeRows ns)]] :: .cells 2 [[.str [], .nsl]] :: (J ++ [.cells 7 [nd.cut.row]])) := out_grow hOut
      refine out_append (row := nd.cut.row) hgo rfl rfl ⟨rfl, rfl⟩ (by rw [nodeRows_len, List.length_map, List.length_take]; omega) ?_
      intro v' L' hO'
      try simp only [h1, h2, h3, h4, h5, go_sem, Nat.reduceEqDiff, reduceIte, Int.reduceEq, Int.reduceLT, Int.reduceLE, Nat.reduceAdd, Nat.reduceLT, Nat.reduceLeDiff, Int.reduceToNat, Int.reduceSub, Int.reduceAdd, Int.reduceNeg]
      refine ⟨ns.length - (i + 1), by omega, i + 1, by omega, rfl, ?_, by rw [wrap64 (by omega) (by omega)]; rfl⟩
      have hr : nodeRows ((ns.take (i + 1)).map NodeD.cut) = nodeRows ((ns.take i).map NodeD.cut) ++ [nd.cut.row] := by rw [htk]; simp [nodeRows]
      rw [hr]; exact hO'
  · rw [decide_eq_false_iff_not] at hb
    have hii : i = ns.length := by omega
    obtain ⟨hc1, hc2⟩ := out_cell hOut
    simp only [h1, h2, h3, h4, hc1, hc2, go_sem, Nat.reduceEqDiff, reduceIte, Int.reduceEq, Int.reduceLT, Int.reduceLE, Nat.reduceAdd, Nat.reduceLT, Nat.reduceLeDiff, Int.reduceToNat, Int.reduceSub, Int.reduceAdd, Int.reduceNeg]
    have hO2 : OutOk 7 [.cells 2 [[.str d.name, v]], .cells 2 [[.str d.name, v]]] (nodeRows (ns.map NodeD.cut)) v (.cells 2 [[.str d.name, v]] :: .cells 2 [[.str d.name, v]] :: J) := by
      refine ⟨J, rfl, ?_⟩
      rw [hii, List.take_length] at hJ
      rcases hJ with h | ⟨s, hs, h1, h2⟩
      · exact .inl h
      · refine .inr ⟨s, hs, h1, ?_⟩
        have hs' : 2 ≤ s := hs
        obtain ⟨s', rfl⟩ : ∃ s', s = s' + 2 := ⟨s - 2, by omega⟩
        exact h2
    exact conv_agg (mapO_cons rfl (mapO_cons (out_conv hO2 (mapO_nodes _ _ _ _)) rfl))
end
end Go.X.TryzW
end
section
/- Plain laws of a definition's graph: its order, its depth, what is ready. -/
open Go Go.X Go.Proofs
set_option linter.unusedSimpArgs false
set_option linter.unusedVariables false
namespace Go.X.TryzW

def DefD.after (d : DefD) (i : Nat) : List (List UInt8) := (d.nodes.getD i default).after

/-- Each stands behind those ahead of it. -/
def Good (d : DefD) (out : List Nat) : Prop :=
  ∀ l1 i l2, out = l1 ++ i :: l2 → i ∉ l1 ∧ i < d.nodes.length ∧ ∀ s ∈ d.after i, ∃ k, d.find s = some k ∧ k ∈ l1

theorem firstI_spec {α : Type} {p : α → Bool} {df : α} : ∀ {l : List α} {i : Nat}, firstI p l = some i → p (l.getD i df) = true ∧ ∀ j, j < i → p (l.getD j df) = false
  | x :: r, i, h => by
    simp only [firstI] at h
    split at h
    · rename_i hx
      simp only [Option.some.injEq] at h; subst h
      exact ⟨by simpa using hx, fun j hj => absurd hj (Nat.not_lt_zero _)⟩
    · rename_i hx
      rw [Option.map_eq_some_iff] at h
      obtain ⟨j, hj, rfl⟩ := h
      obtain ⟨h1, h2⟩ := firstI_spec (df := df) hj
      refine ⟨by simpa using h1, fun k hk => ?_⟩
      cases k with
      | zero => simpa using hx
      | succ k => simpa using h2 k (by omega)
theorem firstI_no {α : Type} {p : α → Bool} : ∀ {l : List α}, firstI p l = none → ∀ x ∈ l, p x = false
  | x :: r, h, y, hy => by
    simp only [firstI] at h
    split at h
    · cases h
    · rename_i hx
      rw [Option.map_eq_none_iff] at h
      rcases List.mem_cons.1 hy with rfl | hy
      · simpa using hx
      · exact firstI_no h y hy

theorem getD_range {n i : Nat} (h : i < n) : (List.range n).getD i 0 = i := by simp [List.getD_eq_getElem?_getD, h]

/-- What is told so far, and the list of it. -/
def Told (d : DefD) (told : List Bool) (out : List Nat) : Prop := told.length = d.nodes.length ∧ (∀ k, told.getD k false = true ↔ k ∈ out) ∧ Good d out

/-- What 'deep' says of those told in l. -/
structure Lev (d : DefD) (l : List Nat) (deep : List Nat) (longest : Nat) : Prop where
  len : deep.length = d.nodes.length
  one : ∀ i ∈ l, 1 ≤ deep.getD i 0
  pre : ∀ i ∈ l, ∀ s ∈ d.after i, deep.getD (findK d s) 0 + 1 ≤ deep.getD i 0
  why : ∀ i ∈ l, deep.getD i 0 = 1 ∨ ∃ s ∈ d.after i, deep.getD (findK d s) 0 + 1 = deep.getD i 0
  top : ∀ i ∈ l, deep.getD i 0 ≤ longest
  is : longest = 0 ∨ ∃ i ∈ l, deep.getD i 0 = longest

theorem getD_set_ne {l : List Nat} {i j v : Nat} (h : j ≠ i) : (l.set i v).getD j 0 = l.getD j 0 := by
  simp only [List.getD_eq_getElem?_getD, List.getElem?_set, if_neg (Ne.symm h)]

def DefD.deeps (d : DefD) : List Nat := (d.order.foldl (stepD d) (List.replicate d.nodes.length 0, 0)).1
/-- What is over behind r rounds. -/
def DefD.dp (d : DefD) (i : Nat) : Nat := d.deeps.getD i 0
def DefD.overAt (d : DefD) (r : Nat) : List Bool := (List.range d.nodes.length).map fun i => decide (d.dp i ≤ r)
def DefD.lvl (d : DefD) (r : Nat) : List Nat := (List.range d.nodes.length).filter fun i => decide (d.dp i = r + 1)
def DefD.cnt (d : DefD) (r : Nat) : Nat := ((List.range d.nodes.length).filter fun i => decide (d.dp i ≤ r)).length
def setAll (l : List Nat) (o : List Bool) : List Bool := l.foldl (fun o i => o.set i true) o

section
variable {d : DefD} (ho : d.order.length = d.nodes.length)
include ho
end
theorem check_ok {d : DefD} (h : d.check.2 = 0) : d.order.length = d.nodes.length ∧ 0 < d.nodes.length ∧ d.nodes.length ≤ 32 ∧ d.check.1 = -1 ∧ namedS d.name false 64 = true ∧ (∀ i, i < d.nodes.length → d.nodeE i = 0 ∧ d.depE i = 0) := by
  unfold DefD.check at h ⊢
  split at h
  · cases h
  · rename_i h0
    split at h
    · cases h
    · rename_i h1
      split at h
      · rename_i i hf
        have := (firstI_spec (df := 0) hf).1
        rw [getD_range (by simpa using firstI_lt hf)] at this
        simp at this h; exact absurd h this
      · rename_i hf
        split at h
        · rename_i i hf'
          have := (firstI_spec (df := 0) hf').1
          rw [getD_range (by simpa using firstI_lt hf')] at this
          simp at this h; exact absurd h this
        · rename_i hf'
          split at h
          · rename_i h2
            rw [if_neg h0, if_neg h1]; simp only [if_pos h2]
            simp only [Bool.or_eq_true, decide_eq_true_eq, not_or] at h1
            refine ⟨h2, by omega, by omega, trivial, by simpa using h0, fun i hi => ⟨?_, ?_⟩⟩
            · simpa using firstI_no hf i (List.mem_range.2 hi)
            · simpa using firstI_no hf' i (List.mem_range.2 hi)
          · cases h
end Go.X.TryzW
end
section
open Go Go.X Go.Proofs
set_option maxRecDepth 100000
set_option maxHeartbeats 4000000
set_option linter.unusedSimpArgs false
set_option linter.unusedVariables false
namespace Go.X.TryzW
/- "tiller/tillerlaw08.DagRuns" params { toList := [28] } results { toList := [Go.ResultVar.tmp 2] } -/
section
variable {E : Env}
theorem cut_ok {d : DefD} (h : d.ok) : d.cut.ok := by
  refine ⟨h.1, fun n hn => ?_⟩
  obtain ⟨n', hn', rfl⟩ := List.mem_map.1 hn
  have := h.2 n' (List.mem_of_mem_take hn')
  obtain ⟨h1, h2, h3, h4, h5⟩ := this
  refine ⟨h1, h2, h3, ?_, fun s hs => h5 s (List.mem_of_mem_take hs)⟩
  exact Nat.le_trans (List.length_take_le' ..) h4
theorem cut_len (d : DefD) : d.cut.nodes.length ≤ 40 := by simp [DefD.cut]; omega
theorem cut_after {d : DefD} {n : NodeD} (h : n ∈ d.cut.nodes) : n.after.length ≤ 10 := by
  obtain ⟨n', _, rfl⟩ := List.mem_map.1 h
  exact List.length_take_le ..

end
end Go.X.TryzW
end
section
open Go Go.X Go.Proofs
set_option maxRecDepth 100000
set_option maxHeartbeats 4000000
set_option linter.unusedSimpArgs false
set_option linter.unusedVariables false
namespace Go.X.TryzW
/- "tiller/tillerref08.at" params { toList := [71, 3] } results { toList := [Go.ResultVar.tmp 4] } -/
def y71 : XC :=
 (.seq
  (.ops [
    ⟨(some 4), (.mov (.c (.bool false))), none⟩])
  (.seq
   (.ops [
     ⟨(some 5), (.mov (.t 1)), none⟩,
     ⟨(some 6), (.mov (.t 0)), none⟩,
     ⟨(some 7), (.len (.t 6)), none⟩,
     ⟨(some 8), (.bin .lss (.t 5) (.t 7)), none⟩,
     ⟨(some 9), (.mov (.t 8)), none⟩,
     ⟨(some 10), (.mov (.t 0)), (some (9, true))⟩,
     ⟨(some 11), (.mov (.t 1)), (some (9, true))⟩,
     ⟨(some 12), (.idxS 1 (.t 10) (.t 11)), (some (9, true))⟩,
     ⟨(some 13), (.load1 (.t 12)), (some (9, true))⟩,
     ⟨(some 14), (.pick (.t 9) (.t 13) (.c (.bool false))), none⟩,
     ⟨(some 4), (.mov (.t 14)), none⟩])
   .ret))

/- "tiller/tillerref08.may" params { toList := [24, 3, 71] } results { toList := [Go.ResultVar.tmp 6] } -/
def y60 : XC :=
 (.seq
  (.ops [
    ⟨(some 3), (.box (.t 0)), none⟩,
    ⟨(some 6), (.mov (.c (.bool false))), none⟩])
  (.seq
   (.seq
    (.ops [
      ⟨(some 7), (.mov (.c (.int .i64 0))), none⟩])
    (.block 0
     (.loop
      (.seq
       (.seq
        (.ops [
          ⟨(some 10), (.mov (.t 7)), none⟩,
          ⟨(some 11), (.fldA 1 (.t 3)), none⟩,
          ⟨(some 12), (.load1 (.t 11)), none⟩,
          ⟨(some 13), (.mov (.t 1)), none⟩,
          ⟨(some 14), (.idxS 7 (.t 12) (.t 13)), none⟩,
          ⟨(some 15), (.fldA 6 (.t 14)), none⟩,
          ⟨(some 16), (.load1 (.t 15)), none⟩,
          ⟨(some 17), (.len (.t 16)), none⟩,
          ⟨(some 18), (.bin .lss (.t 10) (.t 17)), none⟩])
        (.cond (.t 18)
         .skip
         (.exit 0)))
       (.seq
        (.block 1
         (.seq
          (.drawE [
            ⟨(some 22), (.loadN 2 (.t 3)), none⟩,
            ⟨(some 23), (.fldA 1 (.t 3)), none⟩,
            ⟨(some 24), (.load1 (.t 23)), none⟩,
            ⟨(some 25), (.mov (.t 1)), none⟩,
            ⟨(some 26), (.idxS 7 (.t 24) (.t 25)), none⟩,
            ⟨(some 27), (.fldA 6 (.t 26)), none⟩,
            ⟨(some 28), (.load1 (.t 27)), none⟩,
            ⟨(some 29), (.mov (.t 7)), none⟩,
            ⟨(some 30), (.idxS 1 (.t 28) (.t 29)), none⟩,
            ⟨(some 31), (.load1 (.t 30)), none⟩,
            ⟨(some 32), (.pcall (.f 37) [(.t 22), (.t 31)]), none⟩,
            ⟨(some 21), (.mov (.t 32)), none⟩,
            ⟨(some 33), (.ext (.t 21) 0), none⟩,
            ⟨(some 34), (.ext (.t 21) 1), none⟩,
            ⟨(some 8), (.mov (.t 33)), none⟩,
            ⟨(some 9), (.mov (.t 34)), none⟩])
          (.seq
           (.ops [
             ⟨(some 35), (.mov (.t 9)), none⟩,
             ⟨(some 36), (.un .not (.t 35)), none⟩,
             ⟨(some 37), (.mov (.t 36)), none⟩,
             ⟨(some 38), (.mov (.t 8)), (some (37, false))⟩,
             ⟨(some 39), (.mov (.t 1)), (some (37, false))⟩,
             ⟨(some 40), (.bin .eql (.t 38) (.t 39)), (some (37, false))⟩,
             ⟨(some 41), (.pick (.t 37) (.c (.bool true)) (.t 40)), none⟩,
             ⟨(some 42), (.mov (.t 41)), none⟩,
             ⟨(some 43), (.mov (.t 2)), (some (42, false))⟩,
             ⟨(some 44), (.mov (.t 8)), (some (42, false))⟩,
             ⟨(some 45), (.call (.f 71) [(.t 43), (.t 44)]), (some (42, false))⟩,
             ⟨(some 46), (.un .not (.t 45)), (some (42, false))⟩,
             ⟨(some 47), (.pick (.t 42) (.c (.bool true)) (.t 46)), none⟩])
           (.cond (.t 47)
            (.seq
             (.ops [
               ⟨(some 6), (.mov (.c (.bool false))), none⟩])
             .ret)
            .skip))))
        (.ops [
          ⟨(some 19), (.mov (.t 7)), none⟩,
          ⟨(some 20), (.bin .add (.t 19) (.c (.int .i64 1))), none⟩,
          ⟨(some 7), (.mov (.t 20)), none⟩]))))))
   (.seq
    (.ops [
      ⟨(some 6), (.mov (.c (.bool true))), none⟩])
    .ret)))

section
variable {E : Env}
theorem at_pure (hP : E.P = Tryz.prog) (l : List Bool) (i : Nat) : XPure E 71 [.isl (boolRows l), .int .i64 i] (.bool (atB l i)) := by
  refine xpure1 (n := Tryz.f71.ntmps) (c := y71) (t := 4) (by rw [hP]; rfl) (by rw [hP]; kernel_rfl) (by decide) (Nat.le_of_ble_eq_true rfl) ?_
  generalize hρ : entry _ = ρ
  have h0 : ρ 0 = .isl (boolRows l) := by rw [← hρ]; rfl
  have h1 : ρ 1 = .int .i64 i := by rw [← hρ]; rfl
  clear hρ
  unfold y71
  simp only [h0, h1, boolRows_len, go_sem, Nat.reduceEqDiff, reduceIte, Int.reduceEq, Int.reduceLT, Int.reduceLE, Nat.reduceAdd, Nat.reduceLT, Nat.reduceLeDiff, Int.reduceToNat, Int.reduceSub, Int.reduceAdd, Int.reduceNeg]
  by_cases hi : i < l.length
  · have hrow := boolRows_get hi
    have e1 : ((i : Int) < (l.length : Int)) = True := by simp; exact hi
    simp only [h0, h1, e1, boolRows_len, rows_bools, hrow, go_sem, Nat.reduceEqDiff, reduceIte, Int.reduceEq, Int.reduceLT, Int.reduceLE, Nat.reduceAdd, Nat.reduceLT, Nat.reduceLeDiff, Int.reduceToNat, Int.reduceSub, Int.reduceAdd, Int.reduceNeg]
    exact ⟨hi, rfl⟩
  · have e1 : ((i : Int) < (l.length : Int)) = False := by simp; omega
    have e2 : atB l i = false := by rw [atB, List.getD_eq_getElem?_getD, List.getElem?_eq_none (by omega)]; rfl
    simp only [h0, h1, e1, go_sem, Nat.reduceEqDiff, reduceIte, Int.reduceEq, Int.reduceLT, Int.reduceLE, Nat.reduceAdd, Nat.reduceLT, Nat.reduceLeDiff, Int.reduceToNat, Int.reduceSub, Int.reduceAdd, Int.reduceNeg]
    rw [e2]; rfl

theorem may_pure (hP : E.P = Tryz.prog) (d : DefD) (i : Nat) (told : List Bool) (hi : i < d.nodes.length) (hd : d.nodes.length ≤ 9223372036854775807)
    (ha : (d.nodes.getD i default).after.length ≤ 9223372036854775807) : XPure E 60 [d.iv, .int .i64 i, .isl (boolRows told)] (.bool (d.met i (atB told))) := by
  refine xpure1 (n := Tryz.f60.ntmps) (c := y60) (t := 6) (by rw [hP]; rfl) (by rw [hP]; kernel_rfl) (by decide) (Nat.le_of_ble_eq_true rfl) ?_
  generalize hρ : entry _ = ρ
  have h0 : ρ 0 = .agg [.str d.name, .isl (nodeRows d.nodes)] := by rw [← hρ]; rfl
  have h1 : ρ 1 = .int .i64 i := by rw [← hρ]; rfl
  have h2 : ρ 2 = .isl (boolRows told) := by rw [← hρ]; rfl
  clear hρ
  unfold y60
  simp only [h0, h1, h2, go_sem, Nat.reduceEqDiff, reduceIte, Int.reduceEq, Int.reduceLT, Int.reduceLE, Nat.reduceAdd, Nat.reduceLT, Nat.reduceLeDiff, Int.reduceToNat, Int.reduceSub, Int.reduceAdd, Int.reduceNeg]
  have hrow := nodeRows_get hi
  generalize hA : (d.nodes.getD i default).after = A at *
  have hrw : (nodeRows d.nodes).getD i [] = [.str (d.nodes.getD i default).name, .int .i64 (d.nodes.getD i default).kind, .str (d.nodes.getD i default).arg, .str (d.nodes.getD i default).to, .int .i64 (d.nodes.getD i default).delay, .int .i64 (d.nodes.getD i default).tries, .isl (strRows A)] := by rw [hrow, ← hA]; rfl
  refine s_loop (fun n ρ L => ∃ j : Nat, j ≤ A.length ∧ n = A.length - j ∧ L = [.cells 2 [[.str d.name, .isl (nodeRows d.nodes)]]] ∧ ρ 1 = .int .i64 i ∧ ρ 2 = .isl (boolRows told) ∧ ρ 3 = .ptr 0 0 0 ∧
      ρ 7 = .int .i64 j ∧ (A.take j).all (depOk d i (atB told)) = true)
    ⟨0, Nat.zero_le _, rfl, rfl, by simp only [h1, go_sem, Nat.reduceEqDiff, reduceIte, Int.reduceEq, Int.reduceLT, Int.reduceLE, Nat.reduceAdd, Nat.reduceLT, Nat.reduceLeDiff, Int.reduceToNat, Int.reduceSub, Int.reduceAdd, Int.reduceNeg], by simp only [h2, go_sem, Nat.reduceEqDiff, reduceIte, Int.reduceEq, Int.reduceLT, Int.reduceLE, Nat.reduceAdd, Nat.reduceLT, Nat.reduceLeDiff, Int.reduceToNat, Int.reduceSub, Int.reduceAdd, Int.reduceNeg], by simp only [go_sem, Nat.reduceEqDiff, reduceIte, Int.reduceEq, Int.reduceLT, Int.reduceLE, Nat.reduceAdd, Nat.reduceLT, Nat.reduceLeDiff, Int.reduceToNat, Int.reduceSub, Int.reduceAdd, Int.reduceNeg], by simp only [go_sem, Nat.reduceEqDiff, reduceIte, Int.reduceEq, Int.reduceLT, Int.reduceLE, Nat.reduceAdd, Nat.reduceLT, Nat.reduceLeDiff, Int.reduceToNat, Int.reduceSub, Int.reduceAdd, Int.reduceNeg]; try rfl, rfl⟩ ?_
  clear h0 h1 h2 ρ
  rintro n ρ L ⟨j, hj, rfl, rfl, h1, h2, h3, h7, hall⟩
  simp only [h1, h2, h3, h7, nodeRows_len, rows_nodes, hrw, strRows_len, go_sem, Nat.reduceEqDiff, reduceIte, Int.reduceEq, Int.reduceLT, Int.reduceLE, Nat.reduceAdd, Nat.reduceLT, Nat.reduceLeDiff, Int.reduceToNat, Int.reduceSub, Int.reduceAdd, Int.reduceNeg]
  refine ⟨by omega, hi, ?_⟩
  refine s_cond (b := decide _) (by simp only [h1, h2, h3, h7, go_sem, Nat.reduceEqDiff, reduceIte, Int.reduceEq, Int.reduceLT, Int.reduceLE, Nat.reduceAdd, Nat.reduceLT, Nat.reduceLeDiff, Int.reduceToNat, Int.reduceSub, Int.reduceAdd, Int.reduceNeg]; try rfl) ?_ ?_ <;> intro hb <;> simp only [hb, h1, h2, h3, h7, nodeRows_len, rows_nodes, hrw, strRows_len, rows_strs, go_sem, Nat.reduceEqDiff, reduceIte, Int.reduceEq, Int.reduceLT, Int.reduceLE, Nat.reduceAdd, Nat.reduceLT, Nat.reduceLeDiff, Int.reduceToNat, Int.reduceSub, Int.reduceAdd, Int.reduceNeg]
  · rw [decide_eq_true_eq] at hb
    have hj' : j < A.length := by omega
    have hsr := strRows_get hj'
    try simp only [h1, h2, h3, h7, nodeRows_len, rows_nodes, hrw, strRows_len, rows_strs, hsr, go_sem, Nat.reduceEqDiff, reduceIte, Int.reduceEq, Int.reduceLT, Int.reduceLE, Nat.reduceAdd, Nat.reduceLT, Nat.reduceLeDiff, Int.reduceToNat, Int.reduceSub, Int.reduceAdd, Int.reduceNeg]
    refine ⟨by omega, hi, by omega, hj', ?_⟩
    refine o_pcall (args' := [d.iv, .str (A.getD j [])]) rfl (refFind_pure hP d _ hd) (fun m => rfl) ?_
    have hfin : ∀ b : Bool, depOk d i (atB told) (A.getD j []) = b → (b = false → d.met i (atB told) = false) ∧ (b = true → (A.take (j + 1)).all (depOk d i (atB told)) = true) := by
      intro b hb'
      refine ⟨fun h => ?_, fun h => ?_⟩
      · rw [DefD.met, hA]; exact all_false (d := []) hj' (by rw [hb', h])
      · rw [take_succ_all (d := []) hj' hall, hb', h]
    have hnext : A.length - (j + 1) < A.length - j := by omega
    have hwr : IntKind.i64.wrap ((j : Int) + 1) = ((j + 1 : Nat) : Int) := by rw [wrap64 (by omega) (by omega)]; rfl
    cases hf : d.find (A.getD j []) with
    | none =>
      have hd0 : depOk d i (atB told) (A.getD j []) = false := by rw [depOk, hf]
      have e1 : (none : Option Nat).isSome = false := rfl
      simp only [h1, h2, h3, h7, findN, e1, Bool.not_false, go_sem, Nat.reduceEqDiff, reduceIte, Int.reduceEq, Int.reduceLT, Int.reduceLE, Nat.reduceAdd, Nat.reduceLT, Nat.reduceLeDiff, Int.reduceToNat, Int.reduceSub, Int.reduceAdd, Int.reduceNeg]
      rw [(hfin _ hd0).1 rfl]; rfl
    | some k =>
      have hk : k < d.nodes.length := firstI_lt hf
      have e1 : (some k : Option Nat).isSome = true := rfl
      simp only [h1, h2, h3, h7, findN, e1, Bool.not_true, go_sem, Nat.reduceEqDiff, reduceIte, Int.reduceEq, Int.reduceLT, Int.reduceLE, Nat.reduceAdd, Nat.reduceLT, Nat.reduceLeDiff, Int.reduceToNat, Int.reduceSub, Int.reduceAdd, Int.reduceNeg]
      have hdep : depOk d i (atB told) (A.getD j []) = (!decide (k = i) && atB told k) := by rw [depOk, hf]
      refine s_mg (by simp only [h1, h2, h3, h7, go_sem, Nat.reduceEqDiff, reduceIte, Int.reduceEq, Int.reduceLT, Int.reduceLE, Nat.reduceAdd, Nat.reduceLT, Nat.reduceLeDiff, Int.reduceToNat, Int.reduceSub, Int.reduceAdd, Int.reduceNeg]; try rfl) ?_; simp only [cut_g, cut_t, cut_none, cut_out, memN_cons, memN_nil, Nat.reduceEqDiff, reduceIte, List.nil_append, List.cons_append, not_false_eq_true]; refine ex_merge rfl (by simp only [h1, h2, h3, h7, go_sem, Nat.reduceEqDiff, reduceIte, Int.reduceEq, Int.reduceLT, Int.reduceLE, Nat.reduceAdd, Nat.reduceLT, Nat.reduceLeDiff, Int.reduceToNat, Int.reduceSub, Int.reduceAdd, Int.reduceNeg]) (by intro hb; simp only [hb, h1, h2, h3, h7, go_sem, Nat.reduceEqDiff, reduceIte, Int.reduceEq, Int.reduceLT, Int.reduceLE, Nat.reduceAdd, Nat.reduceLT, Nat.reduceLeDiff, Int.reduceToNat, Int.reduceSub, Int.reduceAdd, Int.reduceNeg]; refine xcall_pure (args' := [.isl (boolRows told), .int .i64 k]) rfl (at_pure (E := E.noPan) hP told k) rfl ?_; (try simp only [h1, h2, h3, h7, go_sem, Nat.reduceEqDiff, reduceIte, Int.reduceEq, Int.reduceLT, Int.reduceLE, Nat.reduceAdd, Nat.reduceLT, Nat.reduceLeDiff, Int.reduceToNat, Int.reduceSub, Int.reduceAdd, Int.reduceNeg]); (try simp only [hb, h1, h2, h3, h7, go_sem, Nat.reduceEqDiff, reduceIte, Int.reduceEq, Int.reduceLT, Int.reduceLE, Nat.reduceAdd, Nat.reduceLT, Nat.reduceLeDiff, Int.reduceToNat, Int.reduceSub, Int.reduceAdd, Int.reduceNeg]); first | exact rfl | exact ⟨rfl, rfl⟩) (fun vs => ?_); simp only [h1, h2, h3, h7, go_sem, Nat.reduceEqDiff, reduceIte, Int.reduceEq, Int.reduceLT, Int.reduceLE, Nat.reduceAdd, Nat.reduceLT, Nat.reduceLeDiff, Int.reduceToNat, Int.reduceSub, Int.reduceAdd, Int.reduceNeg]
      have hki : decide ((k : Int) = (i : Int)) = decide (k = i) := by congr 1; exact propext ⟨fun h => by omega, fun h => by omega⟩
      refine s_cond (b := decide (k = i) || !atB told k) (by simp only [h1, h2, h3, h7, hki, go_sem, Nat.reduceEqDiff, reduceIte, Int.reduceEq, Int.reduceLT, Int.reduceLE, Nat.reduceAdd, Nat.reduceLT, Nat.reduceLeDiff, Int.reduceToNat, Int.reduceSub, Int.reduceAdd, Int.reduceNeg]; try rfl) ?_ ?_ <;> intro hc <;> simp only [hc, h1, h2, h3, h7, go_sem, Nat.reduceEqDiff, reduceIte, Int.reduceEq, Int.reduceLT, Int.reduceLE, Nat.reduceAdd, Nat.reduceLT, Nat.reduceLeDiff, Int.reduceToNat, Int.reduceSub, Int.reduceAdd, Int.reduceNeg]
      · have hb2 : depOk d i (atB told) (A.getD j []) = false := by
          rw [hdep]; revert hc
          show (decide (k = i) || !atB told k) = true → (!decide (k = i) && atB told k) = false
          cases decide (k = i) <;> cases atB told k <;> simp
        rw [(hfin false hb2).1 rfl]; rfl
      · have hb2 : depOk d i (atB told) (A.getD j []) = true := by
          rw [hdep]; revert hc
          show (decide (k = i) || !atB told k) = false → (!decide (k = i) && atB told k) = true
          cases decide (k = i) <;> cases atB told k <;> simp
        exact ⟨A.length - (j + 1), hnext, j + 1, by omega, rfl, by rw [hwr], (hfin true hb2).2 rfl⟩
  · rw [decide_eq_false_iff_not] at hb
    have hj' : j = A.length := by omega
    subst hj'
    rw [List.take_length] at hall
    show some (IV.bool true) = _
    rw [DefD.met, hA, hall]
end
end Go.X.TryzW
end
section
open Go Go.X Go.Proofs
set_option maxRecDepth 100000
set_option maxHeartbeats 4000000
set_option linter.unusedSimpArgs false
set_option linter.unusedVariables false
namespace Go.X.TryzW
/- "tiller/tillerref08.Order" params { toList := [24] } results { toList := [Go.ResultVar.tmp 2, Go.ResultVar.tmp 3] } -/
def y38 : XC :=
 (.seq
  (.ops [
    ⟨(some 1), (.box (.t 0)), none⟩,
    ⟨(some 2), (.mov (.c .nsl)), none⟩,
    ⟨(some 3), (.mov (.c (.bool false))), none⟩])
  (.seq
   (.ops [
     ⟨(some 8), (.fldA 1 (.t 1)), none⟩,
     ⟨(some 9), (.load1 (.t 8)), none⟩,
     ⟨(some 10), (.len (.t 9)), none⟩,
     ⟨(some 11), (.mkslice [(.bool false)] 1 (.t 10) (.t 10)), none⟩,
     ⟨(some 4), (.mov (.t 11)), none⟩])
   (.seq
    (.ops [
      ⟨(some 5), (.mov (.c .nsl)), none⟩])
    (.block 0
     (.loop
      (.block 1
       (.seq
        (.ops [
          ⟨(some 6), (.mov (.c (.int .i64 (-1)))), none⟩])
        (.seq
         (.seq
          (.ops [
            ⟨(some 12), (.fldA 1 (.t 1)), none⟩,
            ⟨(some 13), (.load1 (.t 12)), none⟩,
            ⟨(some 14), (.len (.t 13)), none⟩,
            ⟨(some 15), (.bin .sub (.t 14) (.c (.int .i64 1))), none⟩,
            ⟨(some 7), (.mov (.t 15)), none⟩])
          (.block 2
           (.loop
            (.seq
             (.seq
              (.ops [
                ⟨(some 16), (.mov (.t 7)), none⟩,
                ⟨(some 17), (.bin .geq (.t 16) (.c (.int .i64 0))), none⟩])
              (.cond (.t 17)
               .skip
               (.exit 2)))
             (.seq
              (.block 3
               (.seq
                (.ops [
                  ⟨(some 20), (.mov (.t 4)), none⟩,
                  ⟨(some 21), (.mov (.t 7)), none⟩,
                  ⟨(some 22), (.idxS 1 (.t 20) (.t 21)), none⟩,
                  ⟨(some 23), (.load1 (.t 22)), none⟩,
                  ⟨(some 24), (.un .not (.t 23)), none⟩,
                  ⟨(some 25), (.mov (.t 24)), none⟩,
                  ⟨(some 26), (.loadN 2 (.t 1)), (some (25, true))⟩,
                  ⟨(some 27), (.mov (.t 7)), (some (25, true))⟩,
                  ⟨(some 28), (.mov (.t 4)), (some (25, true))⟩,
                  ⟨(some 29), (.call (.f 60) [(.t 26), (.t 27), (.t 28)]), (some (25, true))⟩,
                  ⟨(some 30), (.pick (.t 25) (.t 29) (.c (.bool false))), none⟩])
                (.cond (.t 30)
                 (.ops [
                   ⟨(some 31), (.mov (.t 7)), none⟩,
                   ⟨(some 6), (.mov (.t 31)), none⟩])
                 .skip)))
              (.ops [
                ⟨(some 18), (.mov (.t 7)), none⟩,
                ⟨(some 19), (.bin .sub (.t 18) (.c (.int .i64 1))), none⟩,
                ⟨(some 7), (.mov (.t 19)), none⟩]))))))
         (.seq
          (.seq
           (.ops [
             ⟨(some 32), (.mov (.t 6)), none⟩,
             ⟨(some 33), (.bin .lss (.t 32) (.c (.int .i64 0))), none⟩])
           (.cond (.t 33)
            (.seq
             (.draw [
               ⟨(some 34), (.mov (.t 5)), none⟩,
               ⟨(some 35), (.mov (.t 5)), none⟩,
               ⟨(some 36), (.len (.t 35)), none⟩,
               ⟨(some 37), (.fldA 1 (.t 1)), none⟩,
               ⟨(some 38), (.load1 (.t 37)), none⟩,
               ⟨(some 39), (.len (.t 38)), none⟩,
               ⟨(some 40), (.bin .eql (.t 36) (.t 39)), none⟩,
               ⟨(some 2), (.mov (.t 34)), none⟩,
               ⟨(some 3), (.mov (.t 40)), none⟩])
             .ret)
            .skip))
          (.seq
           (.ops [
             ⟨(some 41), (.mov (.t 4)), none⟩,
             ⟨(some 42), (.mov (.t 6)), none⟩,
             ⟨(some 43), (.idxS 1 (.t 41) (.t 42)), none⟩,
             ⟨none, (.store 1 (.t 43) (.c (.bool true))), none⟩])
           (.ops [
             ⟨(some 44), (.mov (.t 5)), none⟩,
             ⟨(some 45), (.mov (.t 6)), none⟩,
             ⟨(some 46), (.bslice 1 [(.int .i64 0)] 1 [(0, (.t 45))]), none⟩,
             ⟨(some 47), (.append 1 8 (.t 44) (.t 46)), none⟩,
             ⟨(some 5), (.mov (.t 47)), none⟩])))))))))))

section
variable {E : Env}
def ordB (d : DefD) (told : List Bool) : List Blk := [.cells 2 [[.str d.name, .isl (nodeRows d.nodes)]], .cells 1 (boolRows told)]
theorem comp38 : compFn Tryz.prog Tryz.f38 = some ⟨Tryz.f38.ntmps, [.tmp 2, .tmp 3], y38⟩ := by kernel_rfl
theorem firstI_least {p : Nat → Bool} {n : Nat} {nx : Option Nat} (h1 : ∀ k, k < n → p k = true → ∃ k0, nx = some k0 ∧ k0 ≤ k) (h2 : ∀ k0, nx = some k0 → k0 < n ∧ p k0 = true) : firstI p (List.range n) = nx := by
  cases nx with
  | none =>
    refine firstI_none ?_
    rw [List.all_eq_true]
    intro k hk
    rw [List.mem_range] at hk
    cases hp : p k with
    | false => rfl
    | true => obtain ⟨k0, h, _⟩ := h1 k hk hp; cases h
  | some k0 =>
    obtain ⟨h3, h4⟩ := h2 k0 rfl
    refine firstI_range h3 ?_ h4
    rw [List.all_eq_true]
    intro k hk
    rw [List.mem_range] at hk
    cases hp : p k with
    | false => rfl
    | true => obtain ⟨k1, h, hle⟩ := h1 k (by omega) hp; cases h; omega
theorem refOrder_pure (hP : E.P = Tryz.prog) (d : DefD) (hd : d.nodes.length ≤ 1000000) (ha : ∀ n ∈ d.nodes, n.after.length ≤ 9223372036854775807) :
    XPure E 38 [d.iv] (.tup [.isl (intRows d.order), .bool (decide (d.order.length = d.nodes.length))]) := by
  refine xpure2 (n := Tryz.f38.ntmps) (c := y38) (t := 2) (t' := 3) (by rw [hP]; rfl) (by rw [hP]; exact comp38) (by decide) (Nat.le_of_ble_eq_true rfl) ?_
  generalize hρ : entry _ = ρ
  have h0 : ρ 0 = .agg [.str d.name, .isl (nodeRows d.nodes)] := by rw [← hρ]; rfl
  clear hρ
  unfold y38
  simp only [h0, nodeRows_len, List.length_replicate, boolRows_rep, go_sem, Nat.reduceEqDiff, reduceIte, Int.reduceEq, Int.reduceLT, Int.reduceLE, Nat.reduceAdd, Nat.reduceLT, Nat.reduceLeDiff, Int.reduceToNat, Int.reduceSub, Int.reduceAdd, Int.reduceNeg]
  refine ⟨by omega, by omega, by omega, ?_⟩
  refine s_loop (fun n ρ L => ∃ (told : List Bool) (out : List Nat), told.length = d.nodes.length ∧ n = d.nodes.length + 1 - out.length ∧ told.count true = out.length ∧
      ρ 1 = .ptr 0 0 0 ∧ ρ 4 = .sl 1 0 d.nodes.length d.nodes.length ∧ OutOk 1 (ordB d told) (intRows out) (ρ 5) L ∧ d.order = d.ordGo n told out)
    ⟨List.replicate d.nodes.length false, [], by simp, rfl, by rw [List.count_replicate]; rfl, by simp only [go_sem, Nat.reduceEqDiff, reduceIte, Int.reduceEq, Int.reduceLT, Int.reduceLE, Nat.reduceAdd, Nat.reduceLT, Nat.reduceLeDiff, Int.reduceToNat, Int.reduceSub, Int.reduceAdd, Int.reduceNeg], by simp only [nodeRows_len, Int.toNat_natCast, go_sem, Nat.reduceEqDiff, reduceIte, Int.reduceEq, Int.reduceLT, Int.reduceLE, Nat.reduceAdd, Nat.reduceLT, Nat.reduceLeDiff, Int.reduceToNat, Int.reduceSub, Int.reduceAdd, Int.reduceNeg], ?_, rfl⟩ ?_
  · try simp only [nodeRows_len, Int.toNat_natCast, boolRows_rep, go_sem, Nat.reduceEqDiff, reduceIte, Int.reduceEq, Int.reduceLT, Int.reduceLE, Nat.reduceAdd, Nat.reduceLT, Nat.reduceLeDiff, Int.reduceToNat, Int.reduceSub, Int.reduceAdd, Int.reduceNeg]
    exact out_nil (p := ordB d _) (J := [])
  clear h0 ρ
  rintro n ρ L ⟨told, out, htold, hn, hct, h1, h4, hO, hgo⟩
  have hle : out.length ≤ d.nodes.length := by rw [← hct, ← htold]; exact List.count_le_length
  have hcount : out.length + n = d.nodes.length + 1 := by omega
  generalize h5 : ρ 5 = v at hO
  have hOut := hO
  obtain ⟨J, rfl, hJ⟩ := hO
  show xrun _ _ _ (.cells 2 [[.str d.name, .isl (nodeRows d.nodes)]] :: .cells 1 (boolRows told) :: J) _
  simp only [h1, h4, h5, nodeRows_len, go_sem, Nat.reduceEqDiff, reduceIte, Int.reduceEq, Int.reduceLT, Int.reduceLE, Nat.reduceAdd, Nat.reduceLT, Nat.reduceLeDiff, Int.reduceToNat, Int.reduceSub, Int.reduceAdd, Int.reduceNeg]
  refine s_loop (fun n' ρ L => ∃ (m : Nat) (nx : Option Nat), m ≤ d.nodes.length ∧ n' = m ∧ L = .cells 2 [[.str d.name, .isl (nodeRows d.nodes)]] :: .cells 1 (boolRows told) :: J ∧
      ρ 1 = .ptr 0 0 0 ∧ ρ 4 = .sl 1 0 d.nodes.length d.nodes.length ∧ ρ 5 = v ∧ ρ 6 = .int .i64 (idxV nx) ∧ ρ 7 = .int .i64 ((m : Int) - 1) ∧
      (∀ k, m ≤ k → k < d.nodes.length → d.may told k = true → ∃ k0, nx = some k0 ∧ k0 ≤ k) ∧ (∀ k0, nx = some k0 → m ≤ k0 ∧ k0 < d.nodes.length ∧ d.may told k0 = true))
    ⟨d.nodes.length, none, Nat.le_refl _, rfl, rfl, by simp only [h1, go_sem, Nat.reduceEqDiff, reduceIte, Int.reduceEq, Int.reduceLT, Int.reduceLE, Nat.reduceAdd, Nat.reduceLT, Nat.reduceLeDiff, Int.reduceToNat, Int.reduceSub, Int.reduceAdd, Int.reduceNeg], by simp only [h4, go_sem, Nat.reduceEqDiff, reduceIte, Int.reduceEq, Int.reduceLT, Int.reduceLE, Nat.reduceAdd, Nat.reduceLT, Nat.reduceLeDiff, Int.reduceToNat, Int.reduceSub, Int.reduceAdd, Int.reduceNeg], by simp only [h5, go_sem, Nat.reduceEqDiff, reduceIte, Int.reduceEq, Int.reduceLT, Int.reduceLE, Nat.reduceAdd, Nat.reduceLT, Nat.reduceLeDiff, Int.reduceToNat, Int.reduceSub, Int.reduceAdd, Int.reduceNeg], by simp only [go_sem, Nat.reduceEqDiff, reduceIte, Int.reduceEq, Int.reduceLT, Int.reduceLE, Nat.reduceAdd, Nat.reduceLT, Nat.reduceLeDiff, Int.reduceToNat, Int.reduceSub, Int.reduceAdd, Int.reduceNeg]; try rfl, by simp only [go_sem, Nat.reduceEqDiff, reduceIte, Int.reduceEq, Int.reduceLT, Int.reduceLE, Nat.reduceAdd, Nat.reduceLT, Nat.reduceLeDiff, Int.reduceToNat, Int.reduceSub, Int.reduceAdd, Int.reduceNeg]; rw [wrap64 (by omega) (by omega)], fun k h1 h2 => by omega, fun k0 h => by cases h⟩ ?_
  clear h1 h4 h5 ρ
  rintro n' ρ L ⟨m, nx, hm, rfl, rfl, h1, h4, h5, h6, h7, hn1, hn2⟩
  simp only [h1, h4, h5, h6, h7, go_sem, Nat.reduceEqDiff, reduceIte, Int.reduceEq, Int.reduceLT, Int.reduceLE, Nat.reduceAdd, Nat.reduceLT, Nat.reduceLeDiff, Int.reduceToNat, Int.reduceSub, Int.reduceAdd, Int.reduceNeg]
  refine s_cond (b := decide _) (by simp only [h1, h4, h5, h6, h7, go_sem, Nat.reduceEqDiff, reduceIte, Int.reduceEq, Int.reduceLT, Int.reduceLE, Nat.reduceAdd, Nat.reduceLT, Nat.reduceLeDiff, Int.reduceToNat, Int.reduceSub, Int.reduceAdd, Int.reduceNeg]; try rfl) ?_ ?_ <;> intro hb <;> simp only [hb, h1, h4, h5, h6, h7, boolRows_len, rows_bools, nodeRows_len, htold, go_sem, Nat.reduceEqDiff, reduceIte, Int.reduceEq, Int.reduceLT, Int.reduceLE, Nat.reduceAdd, Nat.reduceLT, Nat.reduceLeDiff, Int.reduceToNat, Int.reduceSub, Int.reduceAdd, Int.reduceNeg]
  · rw [decide_eq_true_eq] at hb
    obtain ⟨i, rfl⟩ : ∃ i, n' = i + 1 := ⟨n' - 1, by omega⟩
    have hi' : i < d.nodes.length := by omega
    have hit : i < told.length := by omega
    have hrow := boolRows_get hit
    have hii : ((i + 1 : Nat) : Int) - 1 = (i : Int) := by omega
    rw [hii] at h7
    try simp only [h1, h4, h5, h6, h7, hrow, hii, Int.toNat_natCast, go_sem, Nat.reduceEqDiff, reduceIte, Int.reduceEq, Int.reduceLT, Int.reduceLE, Nat.reduceAdd, Nat.reduceLT, Nat.reduceLeDiff, Int.reduceToNat, Int.reduceSub, Int.reduceAdd, Int.reduceNeg]
    refine ⟨by omega, by omega, ?_⟩
    simp only [h1, h4, h5, h6, h7, hrow, hii, Int.toNat_natCast, go_sem, Nat.reduceEqDiff, reduceIte, Int.reduceEq, Int.reduceLT, Int.reduceLE, Nat.reduceAdd, Nat.reduceLT, Nat.reduceLeDiff, Int.reduceToNat, Int.reduceSub, Int.reduceAdd, Int.reduceNeg]
    have hmem : d.nodes.getD i default ∈ d.nodes := by rw [List.getD_eq_getElem?_getD, List.getElem?_eq_getElem hi']; exact List.getElem_mem _
    have hmay := may_pure (E := E) hP d i told hi' (by omega) (ha _ hmem)
    have hl : (boolRows told).length = d.nodes.length := by rw [boolRows_len, htold]
    have hcv : mapO (conv (.cells 2 [[.str d.name, .isl (nodeRows d.nodes)]] :: .cells 1 (boolRows told) :: J) fuel renFreeze)
        [.agg [.str d.name, .isl (nodeRows d.nodes)], .int .i64 i, .sl 1 0 d.nodes.length d.nodes.length] = some [d.iv, .int .i64 i, .isl (boolRows told)] := by
      refine mapO_cons rfl (mapO_cons rfl (mapO_cons (conv_sl_free rfl rfl (by omega) ?_) rfl))
      rw [List.drop_zero, List.take_of_length_le (by omega)]
      exact mapO_bools _ _ _ _
    refine s_mg (by simp only [h1, h4, h5, h6, h7, go_sem, Nat.reduceEqDiff, reduceIte, Int.reduceEq, Int.reduceLT, Int.reduceLE, Nat.reduceAdd, Nat.reduceLT, Nat.reduceLeDiff, Int.reduceToNat, Int.reduceSub, Int.reduceAdd, Int.reduceNeg]; try rfl) ?_; simp only [cut_g, cut_t, cut_none, cut_out, memN_cons, memN_nil, Nat.reduceEqDiff, reduceIte, List.nil_append, List.cons_append, not_false_eq_true]; refine ex_merge rfl (by simp only [h1, h4, h5, h6, h7, go_sem, Nat.reduceEqDiff, reduceIte, Int.reduceEq, Int.reduceLT, Int.reduceLE, Nat.reduceAdd, Nat.reduceLT, Nat.reduceLeDiff, Int.reduceToNat, Int.reduceSub, Int.reduceAdd, Int.reduceNeg]) (by intro hb; simp only [hb, h1, h4, h5, h6, h7, go_sem, Nat.reduceEqDiff, reduceIte, Int.reduceEq, Int.reduceLT, Int.reduceLE, Nat.reduceAdd, Nat.reduceLT, Nat.reduceLeDiff, Int.reduceToNat, Int.reduceSub, Int.reduceAdd, Int.reduceNeg]; refine xcall_lend (args' := [d.iv, .int .i64 i, .isl (boolRows told)]) hcv hmay rfl rfl ?_; (try simp only [h1, h4, h5, h6, h7, go_sem, Nat.reduceEqDiff, reduceIte, Int.reduceEq, Int.reduceLT, Int.reduceLE, Nat.reduceAdd, Nat.reduceLT, Nat.reduceLeDiff, Int.reduceToNat, Int.reduceSub, Int.reduceAdd, Int.reduceNeg]); (try simp only [hb, h1, h4, h5, h6, h7, go_sem, Nat.reduceEqDiff, reduceIte, Int.reduceEq, Int.reduceLT, Int.reduceLE, Nat.reduceAdd, Nat.reduceLT, Nat.reduceLeDiff, Int.reduceToNat, Int.reduceSub, Int.reduceAdd, Int.reduceNeg]); first | exact rfl | exact ⟨rfl, rfl⟩) (fun vs => ?_); simp only [h1, h4, h5, h6, h7, go_sem, Nat.reduceEqDiff, reduceIte, Int.reduceEq, Int.reduceLT, Int.reduceLE, Nat.reduceAdd, Nat.reduceLT, Nat.reduceLeDiff, Int.reduceToNat, Int.reduceSub, Int.reduceAdd, Int.reduceNeg]
    have hw : IntKind.i64.wrap ((i : Int) - 1) = (i : Int) - 1 := wrap64 (by omega) (by omega)
    refine s_cond (b := d.may told i) (by simp only [h1, h4, h5, h6, h7, go_sem, Nat.reduceEqDiff, reduceIte, Int.reduceEq, Int.reduceLT, Int.reduceLE, Nat.reduceAdd, Nat.reduceLT, Nat.reduceLeDiff, Int.reduceToNat, Int.reduceSub, Int.reduceAdd, Int.reduceNeg]; try rfl) ?_ ?_ <;> intro hc <;> simp only [hc, h1, h4, h5, h6, h7, go_sem, Nat.reduceEqDiff, reduceIte, Int.reduceEq, Int.reduceLT, Int.reduceLE, Nat.reduceAdd, Nat.reduceLT, Nat.reduceLeDiff, Int.reduceToNat, Int.reduceSub, Int.reduceAdd, Int.reduceNeg]
    · refine ⟨i, by omega, i, some i, by omega, rfl, ?_⟩
      rw [hw]
      refine ⟨rfl, rfl, fun k hk1 hk2 hk3 => ⟨i, rfl, hk1⟩, fun k0 hk0 => ?_⟩
      cases hk0
      exact ⟨Nat.le_refl _, hi', hc⟩
    · refine ⟨i, by omega, i, nx, by omega, rfl, ?_⟩
      rw [hw]
      refine ⟨rfl, rfl, fun k hk1 hk2 hk3 => ?_, fun k0 hk0 => ?_⟩
      · rcases Nat.eq_or_lt_of_le hk1 with h | h
        · subst h; rw [hc] at hk3; cases hk3
        · exact hn1 k h hk2 hk3
      · obtain ⟨h1', h2', h3'⟩ := hn2 k0 hk0
        exact ⟨by omega, h2', h3'⟩
  · rw [decide_eq_false_iff_not] at hb
    have hm0 : n' = 0 := by omega
    subst hm0
    have hnx : firstI (d.may told) (List.range d.nodes.length) = nx := firstI_least (fun k hk hp => hn1 k (by omega) hk hp) (fun k0 h0 => (hn2 k0 h0).2)
    have hstep0 : ∀ o, firstI (d.may told) (List.range d.nodes.length) = o → d.ordGo n told out = match o with | none => out | some i => d.ordGo (n - 1) (told.set i true) (out ++ [i]) := by
      intro o ho
      obtain ⟨m, hm⟩ : ∃ m, n = m + 1 := ⟨n - 1, by omega⟩
      rw [hm, DefD.ordGo, ho]; rfl
    have hstep := hstep0 _ hnx
    cases nx with
    | none =>
      have e1 : idxV none = -1 := rfl
      rw [e1] at h6
      simp only [h1, h4, h5, h6, h7, go_sem, Nat.reduceEqDiff, reduceIte, Int.reduceEq, Int.reduceLT, Int.reduceLE, Nat.reduceAdd, Nat.reduceLT, Nat.reduceLeDiff, Int.reduceToNat, Int.reduceSub, Int.reduceAdd, Int.reduceNeg]
      refine s_cond (b := true) (by simp only [go_sem, Nat.reduceEqDiff, reduceIte, Int.reduceEq, Int.reduceLT, Int.reduceLE, Nat.reduceAdd, Nat.reduceLT, Nat.reduceLeDiff, Int.reduceToNat, Int.reduceSub, Int.reduceAdd, Int.reduceNeg]; try rfl) ?_ ?_ <;> intro hb2 <;> simp only [h1, h4, h5, h6, h7, o_len_out hOut, intRows_len, nodeRows_len, go_sem, Nat.reduceEqDiff, reduceIte, Int.reduceEq, Int.reduceLT, Int.reduceLE, Nat.reduceAdd, Nat.reduceLT, Nat.reduceLeDiff, Int.reduceToNat, Int.reduceSub, Int.reduceAdd, Int.reduceNeg]
      rotate_left
      · cases hb2
      have hout : d.order = out := by rw [hgo, hstep]
      rw [hout]
      refine ⟨rfl, ?_⟩
      refine ⟨out_conv hOut (mapO_ints _ _ _ _), ?_⟩
      show some (IV.bool (decide ((out.length : Int) = (d.nodes.length : Int)))) = _
      congr 2
      simp only [decide_eq_decide]
      omega
    | some i =>
      obtain ⟨_, hi, hmi⟩ := hn2 i rfl
      have hit : i < told.length := by omega
      have hrow := boolRows_get hit
      have e1 : idxV (some i) = (i : Int) := rfl
      rw [e1] at h6
      have e2 : ((i : Int) < 0) = False := by simp
      simp only [h1, h4, h5, h6, h7, go_sem, Nat.reduceEqDiff, reduceIte, Int.reduceEq, Int.reduceLT, Int.reduceLE, Nat.reduceAdd, Nat.reduceLT, Nat.reduceLeDiff, Int.reduceToNat, Int.reduceSub, Int.reduceAdd, Int.reduceNeg]
      refine s_cond (b := false) (by simp only [e1, e2, decide_false, go_sem, Nat.reduceEqDiff, reduceIte, Int.reduceEq, Int.reduceLT, Int.reduceLE, Nat.reduceAdd, Nat.reduceLT, Nat.reduceLeDiff, Int.reduceToNat, Int.reduceSub, Int.reduceAdd, Int.reduceNeg]) ?_ ?_ <;> intro hb2 <;> simp only [h1, h4, h5, h6, h7, go_sem, Nat.reduceEqDiff, reduceIte, Int.reduceEq, Int.reduceLT, Int.reduceLE, Nat.reduceAdd, Nat.reduceLT, Nat.reduceLeDiff, Int.reduceToNat, Int.reduceSub, Int.reduceAdd, Int.reduceNeg]
      · cases hb2
      simp only [h1, h4, h5, h6, h7, hrow, boolRows_len, Int.toNat_natCast, go_sem, Nat.reduceEqDiff, reduceIte, Int.reduceEq, Int.reduceLT, Int.reduceLE, Nat.reduceAdd, Nat.reduceLT, Nat.reduceLeDiff, Int.reduceToNat, Int.reduceSub, Int.reduceAdd, Int.reduceNeg]
      refine ⟨by omega, hit, ?_⟩
      have hset : (boolRows told).set i [.bool true] = boolRows (told.set i true) := boolRows_set _ _
      rw [hset]
      have hO : OutOk 1 (ordB d (told.set i true)) (intRows out) v (ordB d (told.set i true) ++ J) := by
        refine ⟨J, rfl, ?_⟩
        rcases hJ with h | ⟨s, hs, h2, h3⟩
        · exact .inl h
        · refine .inr ⟨s, hs, h2, ?_⟩
          rw [List.getElem?_append_right (by exact hs)] at h3 ⊢
          exact h3
      refine out_append (row := [.int .i64 i]) hO rfl rfl ⟨rfl, rfl⟩ (by rw [intRows_len]; omega) ?_
      intro v' L' hO'
      simp only [h1, h4, h5, h6, h7, go_sem, Nat.reduceEqDiff, reduceIte, Int.reduceEq, Int.reduceLT, Int.reduceLE, Nat.reduceAdd, Nat.reduceLT, Nat.reduceLeDiff, Int.reduceToNat, Int.reduceSub, Int.reduceAdd, Int.reduceNeg]
      have hti : told.getD i false = false := by
        have : d.may told i = true := hmi
        simp only [DefD.may, Bool.and_eq_true, Bool.not_eq_true'] at this
        exact this.1
      refine ⟨n - 1, by omega, told.set i true, out ++ [i], by simp [htold], by simp; omega, ?_, ?_, by rw [hgo, hstep]⟩
      · rw [List.count_set (by omega)]
        have : told[i] = false := by simpa [List.getD_eq_getElem?_getD, List.getElem?_eq_getElem hit] using hti
        simp [this]; omega
      · have hr : intRows (out ++ [i]) = intRows out ++ [[.int .i64 i]] := by simp [intRows]
        rw [hr]; exact hO'
end
end Go.X.TryzW
end
section
open Go Go.X Go.Proofs
set_option maxRecDepth 100000
set_option maxHeartbeats 4000000
set_option linter.unusedSimpArgs false
set_option linter.unusedVariables false
namespace Go.X.TryzW
/- "tiller/tillerref08.checkNode" params { toList := [24, 3] } results { toList := [Go.ResultVar.tmp 4] } -/
def y36 : XC :=
 (.seq
  (.ops [
    ⟨(some 2), (.box (.t 0)), none⟩,
    ⟨(some 4), (.mov (.c (.int .i64 0))), none⟩])
  (.seq
   (.ops [
     ⟨(some 8), (.fldA 1 (.t 2)), none⟩,
     ⟨(some 9), (.load1 (.t 8)), none⟩,
     ⟨(some 10), (.mov (.t 1)), none⟩,
     ⟨(some 11), (.idxS 7 (.t 9) (.t 10)), none⟩,
     ⟨(some 12), (.loadN 7 (.t 11)), none⟩,
     ⟨(some 5), (.alloc [(.str []), (.int .i64 0), (.str []), (.str []), (.int .i64 0), (.int .i64 0), .nsl]), none⟩,
     ⟨none, (.store 7 (.t 5) (.t 12)), none⟩])
   (.seq
    (.seq
     (.ops [
       ⟨(some 13), (.fldA 0 (.t 5)), none⟩,
       ⟨(some 14), (.load1 (.t 13)), none⟩,
       ⟨(some 15), (.call (.f 35) [(.t 14)]), none⟩,
       ⟨(some 16), (.un .not (.t 15)), none⟩,
       ⟨(some 17), (.mov (.t 16)), none⟩,
       ⟨(some 18), (.fldA 1 (.t 5)), (some (17, false))⟩,
       ⟨(some 19), (.load1 (.t 18)), (some (17, false))⟩,
       ⟨(some 20), (.bin .neq (.t 19) (.c (.int .i64 2))), (some (17, false))⟩,
       ⟨(some 21), (.mov (.t 20)), (some (17, false))⟩,
       ⟨(some 22), (.fldA 2 (.t 5)), (some (21, true))⟩,
       ⟨(some 23), (.load1 (.t 22)), (some (21, true))⟩,
       ⟨(some 24), (.call (.f 35) [(.t 23)]), (some (21, true))⟩,
       ⟨(some 25), (.un .not (.t 24)), (some (21, true))⟩,
       ⟨(some 26), (.pick (.t 21) (.t 25) (.c (.bool false))), (some (17, false))⟩,
       ⟨(some 27), (.pick (.t 17) (.c (.bool true)) (.t 26)), none⟩,
       ⟨(some 28), (.mov (.t 27)), none⟩,
       ⟨(some 29), (.fldA 1 (.t 5)), (some (28, false))⟩,
       ⟨(some 30), (.load1 (.t 29)), (some (28, false))⟩,
       ⟨(some 31), (.bin .eql (.t 30) (.c (.int .i64 5))), (some (28, false))⟩,
       ⟨(some 32), (.mov (.t 31)), (some (28, false))⟩,
       ⟨(some 33), (.fldA 3 (.t 5)), (some (32, true))⟩,
       ⟨(some 34), (.load1 (.t 33)), (some (32, true))⟩,
       ⟨(some 35), (.call (.f 59) [(.t 34)]), (some (32, true))⟩,
       ⟨(some 36), (.un .not (.t 35)), (some (32, true))⟩,
       ⟨(some 37), (.pick (.t 32) (.t 36) (.c (.bool false))), (some (28, false))⟩,
       ⟨(some 38), (.pick (.t 28) (.c (.bool true)) (.t 37)), none⟩])
     (.cond (.t 38)
      (.seq
       (.ops [
         ⟨(some 4), (.mov (.c (.int .i64 17))), none⟩])
       .ret)
      .skip))
    (.seq
     (.ops [
       ⟨(some 40), (.loadN 2 (.t 2)), none⟩,
       ⟨(some 41), (.fldA 0 (.t 5)), none⟩,
       ⟨(some 42), (.load1 (.t 41)), none⟩,
       ⟨(some 43), (.call (.f 37) [(.t 40), (.t 42)]), none⟩,
       ⟨(some 39), (.mov (.t 43)), none⟩,
       ⟨(some 44), (.ext (.t 39) 0), none⟩,
       ⟨(some 45), (.ext (.t 39) 1), none⟩,
       ⟨(some 6), (.mov (.t 44)), none⟩,
       ⟨(some 7), (.mov (.t 45)), none⟩])
     (.seq
      (.seq
       (.ops [
         ⟨(some 46), (.mov (.t 6)), none⟩,
         ⟨(some 47), (.mov (.t 1)), none⟩,
         ⟨(some 48), (.bin .lss (.t 46) (.t 47)), none⟩])
       (.cond (.t 48)
        (.seq
         (.ops [
           ⟨(some 4), (.mov (.c (.int .i64 16))), none⟩])
         .ret)
        .skip))
      (.seq
       (.block 0
        (.seq
         (.seq
          (.ops [
            ⟨(some 50), (.fldA 1 (.t 5)), none⟩,
            ⟨(some 51), (.load1 (.t 50)), none⟩,
            ⟨(some 52), (.bin .lss (.t 51) (.c (.int .i64 1))), none⟩,
            ⟨(some 53), (.mov (.t 52)), none⟩,
            ⟨(some 54), (.fldA 1 (.t 5)), (some (53, false))⟩,
            ⟨(some 55), (.load1 (.t 54)), (some (53, false))⟩,
            ⟨(some 56), (.bin .gtr (.t 55) (.c (.int .i64 5))), (some (53, false))⟩,
            ⟨(some 57), (.pick (.t 53) (.c (.bool true)) (.t 56)), none⟩,
            ⟨(some 49), (.mov (.t 57)), none⟩])
          (.cond (.t 49)
           .skip
           (.seq
            (.ops [
              ⟨(some 58), (.fldA 4 (.t 5)), none⟩,
              ⟨(some 59), (.load1 (.t 58)), none⟩,
              ⟨(some 60), (.bin .lss (.t 59) (.c (.int .i64 0))), none⟩,
              ⟨(some 61), (.mov (.t 60)), none⟩,
              ⟨(some 62), (.fldA 4 (.t 5)), (some (61, false))⟩,
              ⟨(some 63), (.load1 (.t 62)), (some (61, false))⟩,
              ⟨(some 64), (.bin .gtr (.t 63) (.c (.int .i64 1000000))), (some (61, false))⟩,
              ⟨(some 65), (.pick (.t 61) (.c (.bool true)) (.t 64)), none⟩,
              ⟨(some 49), (.mov (.t 65)), none⟩])
            (.cond (.t 49)
             .skip
             (.ops [
               ⟨(some 66), (.fldA 4 (.t 5)), none⟩,
               ⟨(some 67), (.load1 (.t 66)), none⟩,
               ⟨(some 68), (.bin .gtr (.t 67) (.c (.int .i64 0))), none⟩,
               ⟨(some 69), (.mov (.t 68)), none⟩,
               ⟨(some 70), (.fldA 1 (.t 5)), (some (69, true))⟩,
               ⟨(some 71), (.load1 (.t 70)), (some (69, true))⟩,
               ⟨(some 72), (.bin .neq (.t 71) (.c (.int .i64 1))), (some (69, true))⟩,
               ⟨(some 73), (.pick (.t 69) (.t 72) (.c (.bool false))), none⟩,
               ⟨(some 74), (.mov (.t 73)), none⟩,
               ⟨(some 75), (.fldA 1 (.t 5)), (some (74, true))⟩,
               ⟨(some 76), (.load1 (.t 75)), (some (74, true))⟩,
               ⟨(some 77), (.bin .neq (.t 76) (.c (.int .i64 2))), (some (74, true))⟩,
               ⟨(some 78), (.pick (.t 74) (.t 77) (.c (.bool false))), none⟩,
               ⟨(some 49), (.mov (.t 78)), none⟩])))))
         (.cond (.t 49)
          (.seq
           (.ops [
             ⟨(some 4), (.mov (.c (.int .i64 1))), none⟩])
           .ret)
          (.seq
           (.seq
            (.ops [
              ⟨(some 80), (.fldA 1 (.t 5)), none⟩,
              ⟨(some 81), (.load1 (.t 80)), none⟩,
              ⟨(some 82), (.bin .eql (.t 81) (.c (.int .i64 1))), none⟩,
              ⟨(some 83), (.mov (.t 82)), none⟩,
              ⟨(some 84), (.fldA 5 (.t 5)), (some (83, true))⟩,
              ⟨(some 85), (.load1 (.t 84)), (some (83, true))⟩,
              ⟨(some 86), (.bin .lss (.t 85) (.c (.int .i64 1))), (some (83, true))⟩,
              ⟨(some 87), (.mov (.t 86)), (some (83, true))⟩,
              ⟨(some 88), (.fldA 5 (.t 5)), (some (87, false))⟩,
              ⟨(some 89), (.load1 (.t 88)), (some (87, false))⟩,
              ⟨(some 90), (.bin .gtr (.t 89) (.c (.int .i64 10))), (some (87, false))⟩,
              ⟨(some 91), (.pick (.t 87) (.c (.bool true)) (.t 90)), (some (83, true))⟩,
              ⟨(some 92), (.pick (.t 83) (.t 91) (.c (.bool false))), none⟩,
              ⟨(some 79), (.mov (.t 92)), none⟩])
            (.cond (.t 79)
             .skip
             (.ops [
               ⟨(some 93), (.fldA 1 (.t 5)), none⟩,
               ⟨(some 94), (.load1 (.t 93)), none⟩,
               ⟨(some 95), (.bin .neq (.t 94) (.c (.int .i64 1))), none⟩,
               ⟨(some 96), (.mov (.t 95)), none⟩,
               ⟨(some 97), (.fldA 5 (.t 5)), (some (96, true))⟩,
               ⟨(some 98), (.load1 (.t 97)), (some (96, true))⟩,
               ⟨(some 99), (.bin .neq (.t 98) (.c (.int .i64 0))), (some (96, true))⟩,
               ⟨(some 100), (.pick (.t 96) (.t 99) (.c (.bool false))), none⟩,
               ⟨(some 79), (.mov (.t 100)), none⟩])))
           (.cond (.t 79)
            (.seq
             (.ops [
               ⟨(some 4), (.mov (.c (.int .i64 1))), none⟩])
             .ret)
            (.seq
             (.seq
              (.ops [
                ⟨(some 102), (.fldA 1 (.t 5)), none⟩,
                ⟨(some 103), (.load1 (.t 102)), none⟩,
                ⟨(some 104), (.bin .eql (.t 103) (.c (.int .i64 2))), none⟩,
                ⟨(some 105), (.mov (.t 104)), none⟩,
                ⟨(some 106), (.fldA 2 (.t 5)), (some (105, true))⟩,
                ⟨(some 107), (.load1 (.t 106)), (some (105, true))⟩,
                ⟨(some 108), (.bin .neq (.t 107) (.c (.str []))), (some (105, true))⟩,
                ⟨(some 109), (.pick (.t 105) (.t 108) (.c (.bool false))), none⟩,
                ⟨(some 101), (.mov (.t 109)), none⟩])
              (.cond (.t 101)
               .skip
               (.ops [
                 ⟨(some 110), (.fldA 1 (.t 5)), none⟩,
                 ⟨(some 111), (.load1 (.t 110)), none⟩,
                 ⟨(some 112), (.bin .neq (.t 111) (.c (.int .i64 5))), none⟩,
                 ⟨(some 113), (.mov (.t 112)), none⟩,
                 ⟨(some 114), (.fldA 3 (.t 5)), (some (113, true))⟩,
                 ⟨(some 115), (.load1 (.t 114)), (some (113, true))⟩,
                 ⟨(some 116), (.bin .neq (.t 115) (.c (.str []))), (some (113, true))⟩,
                 ⟨(some 117), (.pick (.t 113) (.t 116) (.c (.bool false))), none⟩,
                 ⟨(some 101), (.mov (.t 117)), none⟩])))
             (.cond (.t 101)
              (.seq
               (.ops [
                 ⟨(some 4), (.mov (.c (.int .i64 1))), none⟩])
               .ret)
              .skip)))))))
       (.seq
        (.ops [
          ⟨(some 4), (.mov (.c (.int .i64 0))), none⟩])
        .ret)))))))

section
variable {E : Env}
def badA1 (n : NodeD) : Bool := decide (n.kind < 1) || decide (5 < n.kind)
def badA2 (n : NodeD) : Bool := decide (n.delay < 0) || decide (1000000 < n.delay)
def badA3 (n : NodeD) : Bool := (decide (0 < n.delay) && !decide (n.kind = 1)) && !decide (n.kind = 2)
def badB1 (n : NodeD) : Bool := decide (n.kind = 1) && (decide (n.tries < 1) || decide (10 < n.tries))
def badB2 (n : NodeD) : Bool := !decide (n.kind = 1) && !decide (n.tries = 0)
def badC1 (n : NodeD) : Bool := decide (n.kind = 2) && !decide (n.arg = [])
def badC2 (n : NodeD) : Bool := !decide (n.kind = 5) && !decide (n.to = [])
def badB (n : NodeD) : Bool := badA1 n || badA2 n || badA3 n || badB1 n || badB2 n || badC1 n || badC2 n
theorem fits_bad (n : NodeD) : fitsB n = !badB n := by
  unfold fitsB badB badA1 badA2 badA3 badB1 badB2 badC1 badC2
  rw [Bool.eq_iff_iff]
  by_cases ha : n.arg = [] <;> by_cases ht : n.to = [] <;> by_cases h1 : n.kind = 1 <;> by_cases h2 : n.kind = 2 <;> by_cases h5 : n.kind = 5 <;> simp [ha, ht, h1, h2, h5] <;> omega

theorem checkNode_pure (hP : E.P = Tryz.prog) (d : DefD) (i : Nat) (hi : i < d.nodes.length) (hd : d.nodes.length ≤ 9223372036854775807) (hok : d.ok) :
    XPure E 36 [d.iv, .int .i64 i] (.int .i64 (d.nodeE i)) := by
  have hmem : d.nodes.getD i default ∈ d.nodes := by rw [List.getD_eq_getElem?_getD, List.getElem?_eq_getElem hi]; exact List.getElem_mem _
  replace hok := hok.2 _ hmem
  have hrow := nodeRows_get hi
  have hN1 : ((!namedS (d.nodes.getD i default).name false 64 || (!decide ((d.nodes.getD i default).kind = 2) && !namedS (d.nodes.getD i default).arg false 64)) || (decide ((d.nodes.getD i default).kind = 5) && !namedS (d.nodes.getD i default).to true 256)) = true → d.nodeE i = 17 := by
    intro hc
    have : d.namedE i = 17 := by unfold DefD.namedE; exact if_pos hc
    unfold DefD.nodeE
    rw [this]; rfl
  have hN2 : ((!namedS (d.nodes.getD i default).name false 64 || (!decide ((d.nodes.getD i default).kind = 2) && !namedS (d.nodes.getD i default).arg false 64)) || (decide ((d.nodes.getD i default).kind = 5) && !namedS (d.nodes.getD i default).to true 256)) = false → findN (d.find (d.nodes.getD i default).name) < (i : Int) → d.nodeE i = 16 := by
    intro hc hf
    have : d.namedE i = 16 := by unfold DefD.namedE; show (if _ then _ else _) = _; rw [if_neg (by rw [hc]; decide)]; exact if_pos hf
    unfold DefD.nodeE
    rw [this]; rfl
  have hN3 : ((!namedS (d.nodes.getD i default).name false 64 || (!decide ((d.nodes.getD i default).kind = 2) && !namedS (d.nodes.getD i default).arg false 64)) || (decide ((d.nodes.getD i default).kind = 5) && !namedS (d.nodes.getD i default).to true 256)) = false → ¬ findN (d.find (d.nodes.getD i default).name) < (i : Int) → d.nodeE i = if badB (d.nodes.getD i default) = true then 1 else 0 := by
    intro hc hf
    have : d.namedE i = 0 := by unfold DefD.namedE; show (if _ then _ else _) = _; rw [if_neg (by rw [hc]; decide)]; exact if_neg hf
    unfold DefD.nodeE
    rw [this, if_pos rfl, fits_bad]
    cases badB (d.nodes.getD i default) <;> rfl
  generalize d.nodeE i = R at *
  generalize hn : d.nodes.getD i default = n at *
  refine xpure1 (n := Tryz.f36.ntmps) (c := y36) (t := 4) (by rw [hP]; rfl) (by rw [hP]; kernel_rfl) (by decide) (Nat.le_of_ble_eq_true rfl) ?_
  generalize hρ : entry _ = ρ
  have h0 : ρ 0 = .agg [.str d.name, .isl (nodeRows d.nodes)] := by rw [← hρ]; rfl
  have h1 : ρ 1 = .int .i64 i := by rw [← hρ]; rfl
  clear hρ
  unfold y36
  simp only [h0, h1, nodeRows_len, rows_nodes, hrow, NodeD.row, go_sem, Nat.reduceEqDiff, reduceIte, Int.reduceEq, Int.reduceLT, Int.reduceLE, Nat.reduceAdd, Nat.reduceLT, Nat.reduceLeDiff, Int.reduceToNat, Int.reduceSub, Int.reduceAdd, Int.reduceNeg]
  refine ⟨by omega, hi, ?_⟩
  refine xcall_pure (args' := [.str n.name]) rfl (refName_pure (E := E.noPan) hP _ hok.1) rfl ?_
  try simp only [h0, h1, go_sem, Nat.reduceEqDiff, reduceIte, Int.reduceEq, Int.reduceLT, Int.reduceLE, Nat.reduceAdd, Nat.reduceLT, Nat.reduceLeDiff, Int.reduceToNat, Int.reduceSub, Int.reduceAdd, Int.reduceNeg]
  refine s_mg (by simp only [h0, h1, go_sem, Nat.reduceEqDiff, reduceIte, Int.reduceEq, Int.reduceLT, Int.reduceLE, Nat.reduceAdd, Nat.reduceLT, Nat.reduceLeDiff, Int.reduceToNat, Int.reduceSub, Int.reduceAdd, Int.reduceNeg]; try rfl) ?_; simp only [cut_g, cut_t, cut_none, cut_out, memN_cons, memN_nil, Nat.reduceEqDiff, reduceIte, List.nil_append, List.cons_append, not_false_eq_true]; refine ex_merge rfl (by simp only [h0, h1, go_sem, Nat.reduceEqDiff, reduceIte, Int.reduceEq, Int.reduceLT, Int.reduceLE, Nat.reduceAdd, Nat.reduceLT, Nat.reduceLeDiff, Int.reduceToNat, Int.reduceSub, Int.reduceAdd, Int.reduceNeg]) (by intro hb; simp only [hb, h0, h1, go_sem, Nat.reduceEqDiff, reduceIte, Int.reduceEq, Int.reduceLT, Int.reduceLE, Nat.reduceAdd, Nat.reduceLT, Nat.reduceLeDiff, Int.reduceToNat, Int.reduceSub, Int.reduceAdd, Int.reduceNeg]; (refine s_mg (by simp only [h0, h1, go_sem, Nat.reduceEqDiff, reduceIte, Int.reduceEq, Int.reduceLT, Int.reduceLE, Nat.reduceAdd, Nat.reduceLT, Nat.reduceLeDiff, Int.reduceToNat, Int.reduceSub, Int.reduceAdd, Int.reduceNeg]; try rfl) ?_; simp only [cut_g, cut_t, cut_none, cut_out, memN_cons, memN_nil, Nat.reduceEqDiff, reduceIte, List.nil_append, List.cons_append, not_false_eq_true]; refine ex_merge rfl (by simp only [h0, h1, go_sem, Nat.reduceEqDiff, reduceIte, Int.reduceEq, Int.reduceLT, Int.reduceLE, Nat.reduceAdd, Nat.reduceLT, Nat.reduceLeDiff, Int.reduceToNat, Int.reduceSub, Int.reduceAdd, Int.reduceNeg]) (by intro hb; simp only [hb, h0, h1, go_sem, Nat.reduceEqDiff, reduceIte, Int.reduceEq, Int.reduceLT, Int.reduceLE, Nat.reduceAdd, Nat.reduceLT, Nat.reduceLeDiff, Int.reduceToNat, Int.reduceSub, Int.reduceAdd, Int.reduceNeg]; refine xcall_pure (args' := [.str n.arg]) rfl (refName_pure (E := E.noPan) hP _ hok.2.1) rfl ?_; try simp only [h0, h1, go_sem, Nat.reduceEqDiff, reduceIte, Int.reduceEq, Int.reduceLT, Int.reduceLE, Nat.reduceAdd, Nat.reduceLT, Nat.reduceLeDiff, Int.reduceToNat, Int.reduceSub, Int.reduceAdd, Int.reduceNeg]; (try simp only [hb, h0, h1, go_sem, Nat.reduceEqDiff, reduceIte, Int.reduceEq, Int.reduceLT, Int.reduceLE, Nat.reduceAdd, Nat.reduceLT, Nat.reduceLeDiff, Int.reduceToNat, Int.reduceSub, Int.reduceAdd, Int.reduceNeg]); first | exact rfl | exact ⟨rfl, rfl⟩) (fun vs => ?_); simp only [h0, h1, go_sem, Nat.reduceEqDiff, reduceIte, Int.reduceEq, Int.reduceLT, Int.reduceLE, Nat.reduceAdd, Nat.reduceLT, Nat.reduceLeDiff, Int.reduceToNat, Int.reduceSub, Int.reduceAdd, Int.reduceNeg]); (try simp only [hb, h0, h1, go_sem, Nat.reduceEqDiff, reduceIte, Int.reduceEq, Int.reduceLT, Int.reduceLE, Nat.reduceAdd, Nat.reduceLT, Nat.reduceLeDiff, Int.reduceToNat, Int.reduceSub, Int.reduceAdd, Int.reduceNeg]); first | exact rfl | exact ⟨rfl, rfl⟩) (fun vs => ?_); simp only [h0, h1, go_sem, Nat.reduceEqDiff, reduceIte, Int.reduceEq, Int.reduceLT, Int.reduceLE, Nat.reduceAdd, Nat.reduceLT, Nat.reduceLeDiff, Int.reduceToNat, Int.reduceSub, Int.reduceAdd, Int.reduceNeg]
  refine s_mg (by simp only [h0, h1, go_sem, Nat.reduceEqDiff, reduceIte, Int.reduceEq, Int.reduceLT, Int.reduceLE, Nat.reduceAdd, Nat.reduceLT, Nat.reduceLeDiff, Int.reduceToNat, Int.reduceSub, Int.reduceAdd, Int.reduceNeg]; try rfl) ?_; simp only [cut_g, cut_t, cut_none, cut_out, memN_cons, memN_nil, Nat.reduceEqDiff, reduceIte, List.nil_append, List.cons_append, not_false_eq_true]; refine ex_merge rfl (by simp only [h0, h1, go_sem, Nat.reduceEqDiff, reduceIte, Int.reduceEq, Int.reduceLT, Int.reduceLE, Nat.reduceAdd, Nat.reduceLT, Nat.reduceLeDiff, Int.reduceToNat, Int.reduceSub, Int.reduceAdd, Int.reduceNeg]) (by intro hb; simp only [hb, h0, h1, go_sem, Nat.reduceEqDiff, reduceIte, Int.reduceEq, Int.reduceLT, Int.reduceLE, Nat.reduceAdd, Nat.reduceLT, Nat.reduceLeDiff, Int.reduceToNat, Int.reduceSub, Int.reduceAdd, Int.reduceNeg]; (refine s_mg (by simp only [h0, h1, go_sem, Nat.reduceEqDiff, reduceIte, Int.reduceEq, Int.reduceLT, Int.reduceLE, Nat.reduceAdd, Nat.reduceLT, Nat.reduceLeDiff, Int.reduceToNat, Int.reduceSub, Int.reduceAdd, Int.reduceNeg]; try rfl) ?_; simp only [cut_g, cut_t, cut_none, cut_out, memN_cons, memN_nil, Nat.reduceEqDiff, reduceIte, List.nil_append, List.cons_append, not_false_eq_true]; refine ex_merge rfl (by simp only [h0, h1, go_sem, Nat.reduceEqDiff, reduceIte, Int.reduceEq, Int.reduceLT, Int.reduceLE, Nat.reduceAdd, Nat.reduceLT, Nat.reduceLeDiff, Int.reduceToNat, Int.reduceSub, Int.reduceAdd, Int.reduceNeg]) (by intro hb; simp only [hb, h0, h1, go_sem, Nat.reduceEqDiff, reduceIte, Int.reduceEq, Int.reduceLT, Int.reduceLE, Nat.reduceAdd, Nat.reduceLT, Nat.reduceLeDiff, Int.reduceToNat, Int.reduceSub, Int.reduceAdd, Int.reduceNeg]; refine xcall_pure (args' := [.str n.to]) rfl (refFlow_pure (E := E.noPan) hP _ hok.2.2.1) rfl ?_; try simp only [h0, h1, go_sem, Nat.reduceEqDiff, reduceIte, Int.reduceEq, Int.reduceLT, Int.reduceLE, Nat.reduceAdd, Nat.reduceLT, Nat.reduceLeDiff, Int.reduceToNat, Int.reduceSub, Int.reduceAdd, Int.reduceNeg]; (try simp only [hb, h0, h1, go_sem, Nat.reduceEqDiff, reduceIte, Int.reduceEq, Int.reduceLT, Int.reduceLE, Nat.reduceAdd, Nat.reduceLT, Nat.reduceLeDiff, Int.reduceToNat, Int.reduceSub, Int.reduceAdd, Int.reduceNeg]); first | exact rfl | exact ⟨rfl, rfl⟩) (fun vs => ?_); simp only [h0, h1, go_sem, Nat.reduceEqDiff, reduceIte, Int.reduceEq, Int.reduceLT, Int.reduceLE, Nat.reduceAdd, Nat.reduceLT, Nat.reduceLeDiff, Int.reduceToNat, Int.reduceSub, Int.reduceAdd, Int.reduceNeg]); (try simp only [hb, h0, h1, go_sem, Nat.reduceEqDiff, reduceIte, Int.reduceEq, Int.reduceLT, Int.reduceLE, Nat.reduceAdd, Nat.reduceLT, Nat.reduceLeDiff, Int.reduceToNat, Int.reduceSub, Int.reduceAdd, Int.reduceNeg]); first | exact rfl | exact ⟨rfl, rfl⟩) (fun vs => ?_); simp only [h0, h1, go_sem, Nat.reduceEqDiff, reduceIte, Int.reduceEq, Int.reduceLT, Int.reduceLE, Nat.reduceAdd, Nat.reduceLT, Nat.reduceLeDiff, Int.reduceToNat, Int.reduceSub, Int.reduceAdd, Int.reduceNeg]
  refine s_cond (b := (!namedS n.name false 64 || (!decide (n.kind = 2) && !namedS n.arg false 64)) || (decide (n.kind = 5) && !namedS n.to true 256)) (by simp only [h0, h1, go_sem, Nat.reduceEqDiff, reduceIte, Int.reduceEq, Int.reduceLT, Int.reduceLE, Nat.reduceAdd, Nat.reduceLT, Nat.reduceLeDiff, Int.reduceToNat, Int.reduceSub, Int.reduceAdd, Int.reduceNeg]; try rfl) ?_ ?_ <;> intro hc <;> simp only [hc, h0, h1, go_sem, Nat.reduceEqDiff, reduceIte, Int.reduceEq, Int.reduceLT, Int.reduceLE, Nat.reduceAdd, Nat.reduceLT, Nat.reduceLeDiff, Int.reduceToNat, Int.reduceSub, Int.reduceAdd, Int.reduceNeg]
  · rw [hN1 hc]; rfl
  refine xcall_pure (args' := [d.iv, .str n.name]) rfl (refFind_pure (E := E.noPan) hP d _ hd) rfl ?_
  try simp only [h0, h1, go_sem, Nat.reduceEqDiff, reduceIte, Int.reduceEq, Int.reduceLT, Int.reduceLE, Nat.reduceAdd, Nat.reduceLT, Nat.reduceLeDiff, Int.reduceToNat, Int.reduceSub, Int.reduceAdd, Int.reduceNeg]
  refine s_cond (b := decide _) (by simp only [h0, h1, go_sem, Nat.reduceEqDiff, reduceIte, Int.reduceEq, Int.reduceLT, Int.reduceLE, Nat.reduceAdd, Nat.reduceLT, Nat.reduceLeDiff, Int.reduceToNat, Int.reduceSub, Int.reduceAdd, Int.reduceNeg]; try rfl) ?_ ?_ <;> intro hf <;> simp only [hf, h0, h1, go_sem, Nat.reduceEqDiff, reduceIte, Int.reduceEq, Int.reduceLT, Int.reduceLE, Nat.reduceAdd, Nat.reduceLT, Nat.reduceLeDiff, Int.reduceToNat, Int.reduceSub, Int.reduceAdd, Int.reduceNeg]
  · rw [decide_eq_true_eq] at hf
    rw [hN2 hc hf]; rfl
  rw [decide_eq_false_iff_not] at hf
  replace hN3 := hN3 hc hf
  clear hN1 hN2
  refine s_mg (by simp only [h0, h1, go_sem, Nat.reduceEqDiff, reduceIte, Int.reduceEq, Int.reduceLT, Int.reduceLE, Nat.reduceAdd, Nat.reduceLT, Nat.reduceLeDiff, Int.reduceToNat, Int.reduceSub, Int.reduceAdd, Int.reduceNeg]; try rfl) ?_; simp only [cut_g, cut_t, cut_none, cut_out, memN_cons, memN_nil, Nat.reduceEqDiff, reduceIte, List.nil_append, List.cons_append, not_false_eq_true]; refine ex_merge rfl (by simp only [h0, h1, go_sem, Nat.reduceEqDiff, reduceIte, Int.reduceEq, Int.reduceLT, Int.reduceLE, Nat.reduceAdd, Nat.reduceLT, Nat.reduceLeDiff, Int.reduceToNat, Int.reduceSub, Int.reduceAdd, Int.reduceNeg]) (by intro hb; simp only [hb, h0, h1, go_sem, Nat.reduceEqDiff, reduceIte, Int.reduceEq, Int.reduceLT, Int.reduceLE, Nat.reduceAdd, Nat.reduceLT, Nat.reduceLeDiff, Int.reduceToNat, Int.reduceSub, Int.reduceAdd, Int.reduceNeg]; first | exact rfl | exact ⟨rfl, rfl⟩) (fun vs => ?_); simp only [h0, h1, go_sem, Nat.reduceEqDiff, reduceIte, Int.reduceEq, Int.reduceLT, Int.reduceLE, Nat.reduceAdd, Nat.reduceLT, Nat.reduceLeDiff, Int.reduceToNat, Int.reduceSub, Int.reduceAdd, Int.reduceNeg]
  refine s_cond (b := badA1 n) (by simp only [h0, h1, go_sem, Nat.reduceEqDiff, reduceIte, Int.reduceEq, Int.reduceLT, Int.reduceLE, Nat.reduceAdd, Nat.reduceLT, Nat.reduceLeDiff, Int.reduceToNat, Int.reduceSub, Int.reduceAdd, Int.reduceNeg]; try rfl) ?_ ?_ <;> intro hA1 <;> simp only [hA1, h0, h1, go_sem, Nat.reduceEqDiff, reduceIte, Int.reduceEq, Int.reduceLT, Int.reduceLE, Nat.reduceAdd, Nat.reduceLT, Nat.reduceLeDiff, Int.reduceToNat, Int.reduceSub, Int.reduceAdd, Int.reduceNeg]
  · refine s_cond (b := true) (by simp only [h0, h1, go_sem, Nat.reduceEqDiff, reduceIte, Int.reduceEq, Int.reduceLT, Int.reduceLE, Nat.reduceAdd, Nat.reduceLT, Nat.reduceLeDiff, Int.reduceToNat, Int.reduceSub, Int.reduceAdd, Int.reduceNeg]; first | exact congrArg IV.bool hA1 | rfl) ?_ ?_ <;> intro h9 <;> simp only [h0, h1, go_sem, Nat.reduceEqDiff, reduceIte, Int.reduceEq, Int.reduceLT, Int.reduceLE, Nat.reduceAdd, Nat.reduceLT, Nat.reduceLeDiff, Int.reduceToNat, Int.reduceSub, Int.reduceAdd, Int.reduceNeg]
    · have hb : badB n = true := by unfold badB; rw [hA1]; simp
      rw [hN3, if_pos hb]; rfl
    · cases h9
  refine s_mg (by simp only [h0, h1, go_sem, Nat.reduceEqDiff, reduceIte, Int.reduceEq, Int.reduceLT, Int.reduceLE, Nat.reduceAdd, Nat.reduceLT, Nat.reduceLeDiff, Int.reduceToNat, Int.reduceSub, Int.reduceAdd, Int.reduceNeg]; try rfl) ?_; simp only [cut_g, cut_t, cut_none, cut_out, memN_cons, memN_nil, Nat.reduceEqDiff, reduceIte, List.nil_append, List.cons_append, not_false_eq_true]; refine ex_merge rfl (by simp only [h0, h1, go_sem, Nat.reduceEqDiff, reduceIte, Int.reduceEq, Int.reduceLT, Int.reduceLE, Nat.reduceAdd, Nat.reduceLT, Nat.reduceLeDiff, Int.reduceToNat, Int.reduceSub, Int.reduceAdd, Int.reduceNeg]) (by intro hb; simp only [hb, h0, h1, go_sem, Nat.reduceEqDiff, reduceIte, Int.reduceEq, Int.reduceLT, Int.reduceLE, Nat.reduceAdd, Nat.reduceLT, Nat.reduceLeDiff, Int.reduceToNat, Int.reduceSub, Int.reduceAdd, Int.reduceNeg]; first | exact rfl | exact ⟨rfl, rfl⟩) (fun vs => ?_); simp only [h0, h1, go_sem, Nat.reduceEqDiff, reduceIte, Int.reduceEq, Int.reduceLT, Int.reduceLE, Nat.reduceAdd, Nat.reduceLT, Nat.reduceLeDiff, Int.reduceToNat, Int.reduceSub, Int.reduceAdd, Int.reduceNeg]
  refine s_cond (b := badA2 n) (by simp only [h0, h1, go_sem, Nat.reduceEqDiff, reduceIte, Int.reduceEq, Int.reduceLT, Int.reduceLE, Nat.reduceAdd, Nat.reduceLT, Nat.reduceLeDiff, Int.reduceToNat, Int.reduceSub, Int.reduceAdd, Int.reduceNeg]; try rfl) ?_ ?_ <;> intro hA2 <;> simp only [hA2, h0, h1, go_sem, Nat.reduceEqDiff, reduceIte, Int.reduceEq, Int.reduceLT, Int.reduceLE, Nat.reduceAdd, Nat.reduceLT, Nat.reduceLeDiff, Int.reduceToNat, Int.reduceSub, Int.reduceAdd, Int.reduceNeg]
  · refine s_cond (b := true) (by simp only [h0, h1, go_sem, Nat.reduceEqDiff, reduceIte, Int.reduceEq, Int.reduceLT, Int.reduceLE, Nat.reduceAdd, Nat.reduceLT, Nat.reduceLeDiff, Int.reduceToNat, Int.reduceSub, Int.reduceAdd, Int.reduceNeg]; first | exact congrArg IV.bool hA2 | rfl) ?_ ?_ <;> intro h9 <;> simp only [h0, h1, go_sem, Nat.reduceEqDiff, reduceIte, Int.reduceEq, Int.reduceLT, Int.reduceLE, Nat.reduceAdd, Nat.reduceLT, Nat.reduceLeDiff, Int.reduceToNat, Int.reduceSub, Int.reduceAdd, Int.reduceNeg]
    · have hb : badB n = true := by unfold badB; rw [hA2]; simp
      rw [hN3, if_pos hb]; rfl
    · cases h9
  refine s_mg (by simp only [h0, h1, go_sem, Nat.reduceEqDiff, reduceIte, Int.reduceEq, Int.reduceLT, Int.reduceLE, Nat.reduceAdd, Nat.reduceLT, Nat.reduceLeDiff, Int.reduceToNat, Int.reduceSub, Int.reduceAdd, Int.reduceNeg]; try rfl) ?_; simp only [cut_g, cut_t, cut_none, cut_out, memN_cons, memN_nil, Nat.reduceEqDiff, reduceIte, List.nil_append, List.cons_append, not_false_eq_true]; refine ex_merge rfl (by simp only [h0, h1, go_sem, Nat.reduceEqDiff, reduceIte, Int.reduceEq, Int.reduceLT, Int.reduceLE, Nat.reduceAdd, Nat.reduceLT, Nat.reduceLeDiff, Int.reduceToNat, Int.reduceSub, Int.reduceAdd, Int.reduceNeg]) (by intro hb; simp only [hb, h0, h1, go_sem, Nat.reduceEqDiff, reduceIte, Int.reduceEq, Int.reduceLT, Int.reduceLE, Nat.reduceAdd, Nat.reduceLT, Nat.reduceLeDiff, Int.reduceToNat, Int.reduceSub, Int.reduceAdd, Int.reduceNeg]; first | exact rfl | exact ⟨rfl, rfl⟩) (fun vs => ?_); simp only [h0, h1, go_sem, Nat.reduceEqDiff, reduceIte, Int.reduceEq, Int.reduceLT, Int.reduceLE, Nat.reduceAdd, Nat.reduceLT, Nat.reduceLeDiff, Int.reduceToNat, Int.reduceSub, Int.reduceAdd, Int.reduceNeg]
  refine s_mg (by simp only [h0, h1, go_sem, Nat.reduceEqDiff, reduceIte, Int.reduceEq, Int.reduceLT, Int.reduceLE, Nat.reduceAdd, Nat.reduceLT, Nat.reduceLeDiff, Int.reduceToNat, Int.reduceSub, Int.reduceAdd, Int.reduceNeg]; try rfl) ?_; simp only [cut_g, cut_t, cut_none, cut_out, memN_cons, memN_nil, Nat.reduceEqDiff, reduceIte, List.nil_append, List.cons_append, not_false_eq_true]; refine ex_merge rfl (by simp only [h0, h1, go_sem, Nat.reduceEqDiff, reduceIte, Int.reduceEq, Int.reduceLT, Int.reduceLE, Nat.reduceAdd, Nat.reduceLT, Nat.reduceLeDiff, Int.reduceToNat, Int.reduceSub, Int.reduceAdd, Int.reduceNeg]) (by intro hb; simp only [hb, h0, h1, go_sem, Nat.reduceEqDiff, reduceIte, Int.reduceEq, Int.reduceLT, Int.reduceLE, Nat.reduceAdd, Nat.reduceLT, Nat.reduceLeDiff, Int.reduceToNat, Int.reduceSub, Int.reduceAdd, Int.reduceNeg]; first | exact rfl | exact ⟨rfl, rfl⟩) (fun vs => ?_); simp only [h0, h1, go_sem, Nat.reduceEqDiff, reduceIte, Int.reduceEq, Int.reduceLT, Int.reduceLE, Nat.reduceAdd, Nat.reduceLT, Nat.reduceLeDiff, Int.reduceToNat, Int.reduceSub, Int.reduceAdd, Int.reduceNeg]
  refine s_cond (b := badA3 n) (by simp only [h0, h1, go_sem, Nat.reduceEqDiff, reduceIte, Int.reduceEq, Int.reduceLT, Int.reduceLE, Nat.reduceAdd, Nat.reduceLT, Nat.reduceLeDiff, Int.reduceToNat, Int.reduceSub, Int.reduceAdd, Int.reduceNeg]; try rfl) ?_ ?_ <;> intro hA3 <;> simp only [hA3, h0, h1, go_sem, Nat.reduceEqDiff, reduceIte, Int.reduceEq, Int.reduceLT, Int.reduceLE, Nat.reduceAdd, Nat.reduceLT, Nat.reduceLeDiff, Int.reduceToNat, Int.reduceSub, Int.reduceAdd, Int.reduceNeg]
  · have hb : badB n = true := by unfold badB; rw [hA3]; simp
    rw [hN3, if_pos hb]; rfl
  refine s_mg (by simp only [h0, h1, go_sem, Nat.reduceEqDiff, reduceIte, Int.reduceEq, Int.reduceLT, Int.reduceLE, Nat.reduceAdd, Nat.reduceLT, Nat.reduceLeDiff, Int.reduceToNat, Int.reduceSub, Int.reduceAdd, Int.reduceNeg]; try rfl) ?_; simp only [cut_g, cut_t, cut_none, cut_out, memN_cons, memN_nil, Nat.reduceEqDiff, reduceIte, List.nil_append, List.cons_append, not_false_eq_true]; refine ex_merge rfl (by simp only [h0, h1, go_sem, Nat.reduceEqDiff, reduceIte, Int.reduceEq, Int.reduceLT, Int.reduceLE, Nat.reduceAdd, Nat.reduceLT, Nat.reduceLeDiff, Int.reduceToNat, Int.reduceSub, Int.reduceAdd, Int.reduceNeg]) (by intro hb; simp only [hb, h0, h1, go_sem, Nat.reduceEqDiff, reduceIte, Int.reduceEq, Int.reduceLT, Int.reduceLE, Nat.reduceAdd, Nat.reduceLT, Nat.reduceLeDiff, Int.reduceToNat, Int.reduceSub, Int.reduceAdd, Int.reduceNeg]; (repeat (refine s_mg (by simp only [h0, h1, go_sem, Nat.reduceEqDiff, reduceIte, Int.reduceEq, Int.reduceLT, Int.reduceLE, Nat.reduceAdd, Nat.reduceLT, Nat.reduceLeDiff, Int.reduceToNat, Int.reduceSub, Int.reduceAdd, Int.reduceNeg]; try rfl) ?_; simp only [cut_g, cut_t, cut_none, cut_out, memN_cons, memN_nil, Nat.reduceEqDiff, reduceIte, List.nil_append, List.cons_append, not_false_eq_true]; refine ex_merge rfl (by simp only [h0, h1, go_sem, Nat.reduceEqDiff, reduceIte, Int.reduceEq, Int.reduceLT, Int.reduceLE, Nat.reduceAdd, Nat.reduceLT, Nat.reduceLeDiff, Int.reduceToNat, Int.reduceSub, Int.reduceAdd, Int.reduceNeg]) (by intro hb; simp only [hb, h0, h1, go_sem, Nat.reduceEqDiff, reduceIte, Int.reduceEq, Int.reduceLT, Int.reduceLE, Nat.reduceAdd, Nat.reduceLT, Nat.reduceLeDiff, Int.reduceToNat, Int.reduceSub, Int.reduceAdd, Int.reduceNeg]; first | exact rfl | exact ⟨rfl, rfl⟩) (fun vs => ?_); simp only [h0, h1, go_sem, Nat.reduceEqDiff, reduceIte, Int.reduceEq, Int.reduceLT, Int.reduceLE, Nat.reduceAdd, Nat.reduceLT, Nat.reduceLeDiff, Int.reduceToNat, Int.reduceSub, Int.reduceAdd, Int.reduceNeg])); first | exact rfl | exact ⟨rfl, rfl⟩) (fun vs => ?_); simp only [h0, h1, go_sem, Nat.reduceEqDiff, reduceIte, Int.reduceEq, Int.reduceLT, Int.reduceLE, Nat.reduceAdd, Nat.reduceLT, Nat.reduceLeDiff, Int.reduceToNat, Int.reduceSub, Int.reduceAdd, Int.reduceNeg]
  refine s_cond (b := badB1 n) (by simp only [h0, h1, go_sem, Nat.reduceEqDiff, reduceIte, Int.reduceEq, Int.reduceLT, Int.reduceLE, Nat.reduceAdd, Nat.reduceLT, Nat.reduceLeDiff, Int.reduceToNat, Int.reduceSub, Int.reduceAdd, Int.reduceNeg]; try rfl) ?_ ?_ <;> intro hB1 <;> simp only [hB1, h0, h1, go_sem, Nat.reduceEqDiff, reduceIte, Int.reduceEq, Int.reduceLT, Int.reduceLE, Nat.reduceAdd, Nat.reduceLT, Nat.reduceLeDiff, Int.reduceToNat, Int.reduceSub, Int.reduceAdd, Int.reduceNeg]
  · refine s_cond (b := true) (by simp only [h0, h1, go_sem, Nat.reduceEqDiff, reduceIte, Int.reduceEq, Int.reduceLT, Int.reduceLE, Nat.reduceAdd, Nat.reduceLT, Nat.reduceLeDiff, Int.reduceToNat, Int.reduceSub, Int.reduceAdd, Int.reduceNeg]; first | exact congrArg IV.bool hB1 | rfl) ?_ ?_ <;> intro h9 <;> simp only [h0, h1, go_sem, Nat.reduceEqDiff, reduceIte, Int.reduceEq, Int.reduceLT, Int.reduceLE, Nat.reduceAdd, Nat.reduceLT, Nat.reduceLeDiff, Int.reduceToNat, Int.reduceSub, Int.reduceAdd, Int.reduceNeg]
    · have hb : badB n = true := by unfold badB; rw [hB1]; simp
      rw [hN3, if_pos hb]; rfl
    · cases h9
  refine s_mg (by simp only [h0, h1, go_sem, Nat.reduceEqDiff, reduceIte, Int.reduceEq, Int.reduceLT, Int.reduceLE, Nat.reduceAdd, Nat.reduceLT, Nat.reduceLeDiff, Int.reduceToNat, Int.reduceSub, Int.reduceAdd, Int.reduceNeg]; try rfl) ?_; simp only [cut_g, cut_t, cut_none, cut_out, memN_cons, memN_nil, Nat.reduceEqDiff, reduceIte, List.nil_append, List.cons_append, not_false_eq_true]; refine ex_merge rfl (by simp only [h0, h1, go_sem, Nat.reduceEqDiff, reduceIte, Int.reduceEq, Int.reduceLT, Int.reduceLE, Nat.reduceAdd, Nat.reduceLT, Nat.reduceLeDiff, Int.reduceToNat, Int.reduceSub, Int.reduceAdd, Int.reduceNeg]) (by intro hb; simp only [hb, h0, h1, go_sem, Nat.reduceEqDiff, reduceIte, Int.reduceEq, Int.reduceLT, Int.reduceLE, Nat.reduceAdd, Nat.reduceLT, Nat.reduceLeDiff, Int.reduceToNat, Int.reduceSub, Int.reduceAdd, Int.reduceNeg]; first | exact rfl | exact ⟨rfl, rfl⟩) (fun vs => ?_); simp only [h0, h1, go_sem, Nat.reduceEqDiff, reduceIte, Int.reduceEq, Int.reduceLT, Int.reduceLE, Nat.reduceAdd, Nat.reduceLT, Nat.reduceLeDiff, Int.reduceToNat, Int.reduceSub, Int.reduceAdd, Int.reduceNeg]
  refine s_cond (b := badB2 n) (by simp only [h0, h1, go_sem, Nat.reduceEqDiff, reduceIte, Int.reduceEq, Int.reduceLT, Int.reduceLE, Nat.reduceAdd, Nat.reduceLT, Nat.reduceLeDiff, Int.reduceToNat, Int.reduceSub, Int.reduceAdd, Int.reduceNeg]; try rfl) ?_ ?_ <;> intro hB2 <;> simp only [hB2, h0, h1, go_sem, Nat.reduceEqDiff, reduceIte, Int.reduceEq, Int.reduceLT, Int.reduceLE, Nat.reduceAdd, Nat.reduceLT, Nat.reduceLeDiff, Int.reduceToNat, Int.reduceSub, Int.reduceAdd, Int.reduceNeg]
  · have hb : badB n = true := by unfold badB; rw [hB2]; simp
    rw [hN3, if_pos hb]; rfl
  refine s_mg (by simp only [h0, h1, go_sem, Nat.reduceEqDiff, reduceIte, Int.reduceEq, Int.reduceLT, Int.reduceLE, Nat.reduceAdd, Nat.reduceLT, Nat.reduceLeDiff, Int.reduceToNat, Int.reduceSub, Int.reduceAdd, Int.reduceNeg]; try rfl) ?_; simp only [cut_g, cut_t, cut_none, cut_out, memN_cons, memN_nil, Nat.reduceEqDiff, reduceIte, List.nil_append, List.cons_append, not_false_eq_true]; refine ex_merge rfl (by simp only [h0, h1, go_sem, Nat.reduceEqDiff, reduceIte, Int.reduceEq, Int.reduceLT, Int.reduceLE, Nat.reduceAdd, Nat.reduceLT, Nat.reduceLeDiff, Int.reduceToNat, Int.reduceSub, Int.reduceAdd, Int.reduceNeg]) (by intro hb; simp only [hb, h0, h1, go_sem, Nat.reduceEqDiff, reduceIte, Int.reduceEq, Int.reduceLT, Int.reduceLE, Nat.reduceAdd, Nat.reduceLT, Nat.reduceLeDiff, Int.reduceToNat, Int.reduceSub, Int.reduceAdd, Int.reduceNeg]; first | exact rfl | exact ⟨rfl, rfl⟩) (fun vs => ?_); simp only [h0, h1, go_sem, Nat.reduceEqDiff, reduceIte, Int.reduceEq, Int.reduceLT, Int.reduceLE, Nat.reduceAdd, Nat.reduceLT, Nat.reduceLeDiff, Int.reduceToNat, Int.reduceSub, Int.reduceAdd, Int.reduceNeg]
  refine s_cond (b := badC1 n) (by simp only [h0, h1, go_sem, Nat.reduceEqDiff, reduceIte, Int.reduceEq, Int.reduceLT, Int.reduceLE, Nat.reduceAdd, Nat.reduceLT, Nat.reduceLeDiff, Int.reduceToNat, Int.reduceSub, Int.reduceAdd, Int.reduceNeg]; try rfl) ?_ ?_ <;> intro hC1 <;> simp only [hC1, h0, h1, go_sem, Nat.reduceEqDiff, reduceIte, Int.reduceEq, Int.reduceLT, Int.reduceLE, Nat.reduceAdd, Nat.reduceLT, Nat.reduceLeDiff, Int.reduceToNat, Int.reduceSub, Int.reduceAdd, Int.reduceNeg]
  · refine s_cond (b := true) (by simp only [h0, h1, go_sem, Nat.reduceEqDiff, reduceIte, Int.reduceEq, Int.reduceLT, Int.reduceLE, Nat.reduceAdd, Nat.reduceLT, Nat.reduceLeDiff, Int.reduceToNat, Int.reduceSub, Int.reduceAdd, Int.reduceNeg]; first | exact congrArg IV.bool hC1 | rfl) ?_ ?_ <;> intro h9 <;> simp only [h0, h1, go_sem, Nat.reduceEqDiff, reduceIte, Int.reduceEq, Int.reduceLT, Int.reduceLE, Nat.reduceAdd, Nat.reduceLT, Nat.reduceLeDiff, Int.reduceToNat, Int.reduceSub, Int.reduceAdd, Int.reduceNeg]
    · have hb : badB n = true := by unfold badB; rw [hC1]; simp
      rw [hN3, if_pos hb]; rfl
    · cases h9
  refine s_mg (by simp only [h0, h1, go_sem, Nat.reduceEqDiff, reduceIte, Int.reduceEq, Int.reduceLT, Int.reduceLE, Nat.reduceAdd, Nat.reduceLT, Nat.reduceLeDiff, Int.reduceToNat, Int.reduceSub, Int.reduceAdd, Int.reduceNeg]; try rfl) ?_; simp only [cut_g, cut_t, cut_none, cut_out, memN_cons, memN_nil, Nat.reduceEqDiff, reduceIte, List.nil_append, List.cons_append, not_false_eq_true]; refine ex_merge rfl (by simp only [h0, h1, go_sem, Nat.reduceEqDiff, reduceIte, Int.reduceEq, Int.reduceLT, Int.reduceLE, Nat.reduceAdd, Nat.reduceLT, Nat.reduceLeDiff, Int.reduceToNat, Int.reduceSub, Int.reduceAdd, Int.reduceNeg]) (by intro hb; simp only [hb, h0, h1, go_sem, Nat.reduceEqDiff, reduceIte, Int.reduceEq, Int.reduceLT, Int.reduceLE, Nat.reduceAdd, Nat.reduceLT, Nat.reduceLeDiff, Int.reduceToNat, Int.reduceSub, Int.reduceAdd, Int.reduceNeg]; first | exact rfl | exact ⟨rfl, rfl⟩) (fun vs => ?_); simp only [h0, h1, go_sem, Nat.reduceEqDiff, reduceIte, Int.reduceEq, Int.reduceLT, Int.reduceLE, Nat.reduceAdd, Nat.reduceLT, Nat.reduceLeDiff, Int.reduceToNat, Int.reduceSub, Int.reduceAdd, Int.reduceNeg]
  refine s_cond (b := badC2 n) (by simp only [h0, h1, go_sem, Nat.reduceEqDiff, reduceIte, Int.reduceEq, Int.reduceLT, Int.reduceLE, Nat.reduceAdd, Nat.reduceLT, Nat.reduceLeDiff, Int.reduceToNat, Int.reduceSub, Int.reduceAdd, Int.reduceNeg]; try rfl) ?_ ?_ <;> intro hC2 <;> simp only [hC2, h0, h1, go_sem, Nat.reduceEqDiff, reduceIte, Int.reduceEq, Int.reduceLT, Int.reduceLE, Nat.reduceAdd, Nat.reduceLT, Nat.reduceLeDiff, Int.reduceToNat, Int.reduceSub, Int.reduceAdd, Int.reduceNeg]
  · have hb : badB n = true := by unfold badB; rw [hC2]; simp
    rw [hN3, if_pos hb]; rfl
  have hb : badB n = false := by unfold badB; rw [hA1, hA2, hA3, hB1, hB2, hC1, hC2]; rfl
  rw [hN3, if_neg (by rw [hb]; decide)]; rfl
end
end Go.X.TryzW
end
section
open Go Go.X Go.Proofs
set_option maxRecDepth 100000
set_option maxHeartbeats 4000000
set_option linter.unusedSimpArgs false
set_option linter.unusedVariables false
namespace Go.X.TryzW
/- "tiller/tillerref08.Check" params { toList := [24] } results { toList := [Go.ResultVar.tmp 2, Go.ResultVar.tmp 3] } -/
def y16 : XC :=
 (.seq
  (.ops [
    ⟨(some 1), (.box (.t 0)), none⟩,
    ⟨(some 2), (.mov (.c (.int .i64 0))), none⟩,
    ⟨(some 3), (.mov (.c (.int .i64 0))), none⟩])
  (.seq
   (.seq
    (.ops [
      ⟨(some 15), (.fldA 0 (.t 1)), none⟩,
      ⟨(some 16), (.load1 (.t 15)), none⟩,
      ⟨(some 17), (.call (.f 35) [(.t 16)]), none⟩,
      ⟨(some 18), (.un .not (.t 17)), none⟩])
    (.cond (.t 18)
     (.seq
      (.ops [
        ⟨(some 2), (.mov (.c (.int .i64 (-1)))), none⟩,
        ⟨(some 3), (.mov (.c (.int .i64 17))), none⟩])
      .ret)
     .skip))
   (.seq
    (.seq
     (.ops [
       ⟨(some 19), (.fldA 1 (.t 1)), none⟩,
       ⟨(some 20), (.load1 (.t 19)), none⟩,
       ⟨(some 21), (.len (.t 20)), none⟩,
       ⟨(some 22), (.bin .eql (.t 21) (.c (.int .i64 0))), none⟩,
       ⟨(some 23), (.mov (.t 22)), none⟩,
       ⟨(some 24), (.fldA 1 (.t 1)), (some (23, false))⟩,
       ⟨(some 25), (.load1 (.t 24)), (some (23, false))⟩,
       ⟨(some 26), (.len (.t 25)), (some (23, false))⟩,
       ⟨(some 27), (.bin .gtr (.t 26) (.c (.int .i64 32))), (some (23, false))⟩,
       ⟨(some 28), (.pick (.t 23) (.c (.bool true)) (.t 27)), none⟩])
     (.cond (.t 28)
      (.seq
       (.ops [
         ⟨(some 2), (.mov (.c (.int .i64 (-1)))), none⟩,
         ⟨(some 3), (.mov (.c (.int .i64 10))), none⟩])
       .ret)
      .skip))
    (.seq
     (.seq
      (.ops [
        ⟨(some 4), (.mov (.c (.int .i64 0))), none⟩])
      (.block 0
       (.loop
        (.seq
         (.seq
          (.ops [
            ⟨(some 29), (.mov (.t 4)), none⟩,
            ⟨(some 30), (.fldA 1 (.t 1)), none⟩,
            ⟨(some 31), (.load1 (.t 30)), none⟩,
            ⟨(some 32), (.len (.t 31)), none⟩,
            ⟨(some 33), (.bin .lss (.t 29) (.t 32)), none⟩])
          (.cond (.t 33)
           .skip
           (.exit 0)))
         (.seq
          (.block 1
           (.seq
            (.ops [
              ⟨(some 36), (.loadN 2 (.t 1)), none⟩,
              ⟨(some 37), (.mov (.t 4)), none⟩,
              ⟨(some 38), (.call (.f 36) [(.t 36), (.t 37)]), none⟩,
              ⟨(some 5), (.mov (.t 38)), none⟩])
            (.seq
             (.ops [
               ⟨(some 39), (.mov (.t 5)), none⟩,
               ⟨(some 40), (.bin .neq (.t 39) (.c (.int .i64 0))), none⟩])
             (.cond (.t 40)
              (.seq
               (.ops [
                 ⟨(some 41), (.mov (.t 4)), none⟩,
                 ⟨(some 42), (.mov (.t 5)), none⟩,
                 ⟨(some 2), (.mov (.t 41)), none⟩,
                 ⟨(some 3), (.mov (.t 42)), none⟩])
               .ret)
              .skip))))
          (.ops [
            ⟨(some 34), (.mov (.t 4)), none⟩,
            ⟨(some 35), (.bin .add (.t 34) (.c (.int .i64 1))), none⟩,
            ⟨(some 4), (.mov (.t 35)), none⟩]))))))
     (.seq
      (.seq
       (.ops [
         ⟨(some 6), (.mov (.c (.int .i64 0))), none⟩])
       (.block 2
        (.loop
         (.seq
          (.seq
           (.ops [
             ⟨(some 43), (.mov (.t 6)), none⟩,
             ⟨(some 44), (.fldA 1 (.t 1)), none⟩,
             ⟨(some 45), (.load1 (.t 44)), none⟩,
             ⟨(some 46), (.len (.t 45)), none⟩,
             ⟨(some 47), (.bin .lss (.t 43) (.t 46)), none⟩])
           (.cond (.t 47)
            .skip
            (.exit 2)))
          (.seq
           (.block 3
            (.seq
             (.ops [
               ⟨(some 50), (.fldA 1 (.t 1)), none⟩,
               ⟨(some 51), (.load1 (.t 50)), none⟩,
               ⟨(some 52), (.mov (.t 6)), none⟩,
               ⟨(some 53), (.idxS 7 (.t 51) (.t 52)), none⟩,
               ⟨(some 54), (.fldA 6 (.t 53)), none⟩,
               ⟨(some 55), (.load1 (.t 54)), none⟩,
               ⟨(some 7), (.mov (.t 55)), none⟩])
             (.seq
              (.seq
               (.ops [
                 ⟨(some 8), (.mov (.c (.int .i64 0))), none⟩])
               (.block 4
                (.loop
                 (.seq
                  (.seq
                   (.ops [
                     ⟨(some 56), (.mov (.t 8)), none⟩,
                     ⟨(some 57), (.mov (.t 7)), none⟩,
                     ⟨(some 58), (.len (.t 57)), none⟩,
                     ⟨(some 59), (.bin .lss (.t 56) (.t 58)), none⟩])
                   (.cond (.t 59)
                    .skip
                    (.exit 4)))
                  (.seq
                   (.block 5
                    (.seq
                     (.drawE [
                       ⟨(some 63), (.loadN 2 (.t 1)), none⟩,
                       ⟨(some 64), (.mov (.t 7)), none⟩,
                       ⟨(some 65), (.mov (.t 8)), none⟩,
                       ⟨(some 66), (.idxS 1 (.t 64) (.t 65)), none⟩,
                       ⟨(some 67), (.load1 (.t 66)), none⟩,
                       ⟨(some 68), (.pcall (.f 37) [(.t 63), (.t 67)]), none⟩,
                       ⟨(some 62), (.mov (.t 68)), none⟩,
                       ⟨(some 69), (.ext (.t 62) 0), none⟩,
                       ⟨(some 70), (.ext (.t 62) 1), none⟩,
                       ⟨(some 9), (.mov (.t 69)), none⟩,
                       ⟨(some 10), (.mov (.t 70)), none⟩])
                     (.seq
                      (.ops [
                        ⟨(some 71), (.mov (.t 10)), none⟩,
                        ⟨(some 72), (.un .not (.t 71)), none⟩])
                      (.cond (.t 72)
                       (.seq
                        (.ops [
                          ⟨(some 73), (.mov (.t 6)), none⟩,
                          ⟨(some 2), (.mov (.t 73)), none⟩,
                          ⟨(some 3), (.mov (.c (.int .i64 6))), none⟩])
                        .ret)
                       .skip))))
                   (.ops [
                     ⟨(some 60), (.mov (.t 8)), none⟩,
                     ⟨(some 61), (.bin .add (.t 60) (.c (.int .i64 1))), none⟩,
                     ⟨(some 8), (.mov (.t 61)), none⟩]))))))
              (.seq
               (.ops [
                 ⟨(some 11), (.mov (.c (.int .i64 0))), none⟩])
               (.block 6
                (.loop
                 (.seq
                  (.seq
                   (.ops [
                     ⟨(some 74), (.mov (.t 11)), none⟩,
                     ⟨(some 75), (.mov (.t 7)), none⟩,
                     ⟨(some 76), (.len (.t 75)), none⟩,
                     ⟨(some 77), (.bin .lss (.t 74) (.t 76)), none⟩])
                   (.cond (.t 77)
                    .skip
                    (.exit 6)))
                  (.seq
                   (.block 7
                    (.seq
                     (.ops [
                       ⟨(some 12), (.mov (.c (.int .i64 0))), none⟩])
                     (.block 8
                      (.loop
                       (.seq
                        (.seq
                         (.ops [
                           ⟨(some 80), (.mov (.t 12)), none⟩,
                           ⟨(some 81), (.mov (.t 11)), none⟩,
                           ⟨(some 82), (.bin .lss (.t 80) (.t 81)), none⟩])
                         (.cond (.t 82)
                          .skip
                          (.exit 8)))
                        (.seq
                         (.block 9
                          (.seq
                           (.draw [
                             ⟨(some 85), (.mov (.t 7)), none⟩,
                             ⟨(some 86), (.mov (.t 12)), none⟩,
                             ⟨(some 87), (.idxS 1 (.t 85) (.t 86)), none⟩,
                             ⟨(some 88), (.load1 (.t 87)), none⟩,
                             ⟨(some 89), (.mov (.t 7)), none⟩,
                             ⟨(some 90), (.mov (.t 11)), none⟩,
                             ⟨(some 91), (.idxS 1 (.t 89) (.t 90)), none⟩,
                             ⟨(some 92), (.load1 (.t 91)), none⟩,
                             ⟨(some 93), (.bin .eql (.t 88) (.t 92)), none⟩])
                           (.cond (.t 93)
                            (.seq
                             (.ops [
                               ⟨(some 94), (.mov (.t 6)), none⟩,
                               ⟨(some 2), (.mov (.t 94)), none⟩,
                               ⟨(some 3), (.mov (.c (.int .i64 16))), none⟩])
                             .ret)
                            .skip)))
                         (.ops [
                           ⟨(some 83), (.mov (.t 12)), none⟩,
                           ⟨(some 84), (.bin .add (.t 83) (.c (.int .i64 1))), none⟩,
                           ⟨(some 12), (.mov (.t 84)), none⟩])))))))
                   (.ops [
                     ⟨(some 78), (.mov (.t 11)), none⟩,
                     ⟨(some 79), (.bin .add (.t 78) (.c (.int .i64 1))), none⟩,
                     ⟨(some 11), (.mov (.t 79)), none⟩])))))))))
           (.ops [
             ⟨(some 48), (.mov (.t 6)), none⟩,
             ⟨(some 49), (.bin .add (.t 48) (.c (.int .i64 1))), none⟩,
             ⟨(some 6), (.mov (.t 49)), none⟩]))))))
      (.seq
       (.ops [
         ⟨(some 96), (.loadN 2 (.t 1)), none⟩,
         ⟨(some 97), (.call (.f 38) [(.t 96)]), none⟩,
         ⟨(some 95), (.mov (.t 97)), none⟩,
         ⟨(some 98), (.ext (.t 95) 0), none⟩,
         ⟨(some 99), (.ext (.t 95) 1), none⟩,
         ⟨(some 13), (.mov (.t 98)), none⟩,
         ⟨(some 14), (.mov (.t 99)), none⟩])
       (.seq
        (.seq
         (.ops [
           ⟨(some 100), (.mov (.t 14)), none⟩,
           ⟨(some 101), (.un .not (.t 100)), none⟩])
         (.cond (.t 101)
          (.seq
           (.ops [
             ⟨(some 2), (.mov (.c (.int .i64 (-1)))), none⟩,
             ⟨(some 3), (.mov (.c (.int .i64 15))), none⟩])
           .ret)
          .skip))
        (.seq
         (.ops [
           ⟨(some 2), (.mov (.c (.int .i64 (-1)))), none⟩,
           ⟨(some 3), (.mov (.c (.int .i64 0))), none⟩])
         .ret))))))))

section
variable {E : Env}
theorem refCheck_pure (hP : E.P = Tryz.prog) (d : DefD) (hd : d.nodes.length ≤ 1000000) (hok : d.ok) :
    XPure E 16 [d.iv] (.tup [.int .i64 d.check.1, .int .i64 d.check.2]) := by
  refine xpure2 (n := Tryz.f16.ntmps) (c := y16) (t := 2) (t' := 3) (by rw [hP]; rfl) (by rw [hP]; kernel_rfl) (by decide) (Nat.le_of_ble_eq_true rfl) ?_
  generalize hρ : entry _ = ρ
  have h0 : ρ 0 = .agg [.str d.name, .isl (nodeRows d.nodes)] := by rw [← hρ]; rfl
  clear hρ
  unfold y16
  simp only [h0, go_sem, Nat.reduceEqDiff, reduceIte, Int.reduceEq, Int.reduceLT, Int.reduceLE, Nat.reduceAdd, Nat.reduceLT, Nat.reduceLeDiff, Int.reduceToNat, Int.reduceSub, Int.reduceAdd, Int.reduceNeg]
  refine xcall_pure (args' := [.str d.name]) rfl (refName_pure (E := E.noPan) hP _ hok.1) rfl ?_
  try simp only [h0, go_sem, Nat.reduceEqDiff, reduceIte, Int.reduceEq, Int.reduceLT, Int.reduceLE, Nat.reduceAdd, Nat.reduceLT, Nat.reduceLeDiff, Int.reduceToNat, Int.reduceSub, Int.reduceAdd, Int.reduceNeg]
  refine s_cond (b := !namedS d.name false 64) (by simp only [go_sem, Nat.reduceEqDiff, reduceIte, Int.reduceEq, Int.reduceLT, Int.reduceLE, Nat.reduceAdd, Nat.reduceLT, Nat.reduceLeDiff, Int.reduceToNat, Int.reduceSub, Int.reduceAdd, Int.reduceNeg]; try rfl) ?_ ?_ <;> intro hc0 <;> simp only [h0, nodeRows_len, go_sem, Nat.reduceEqDiff, reduceIte, Int.reduceEq, Int.reduceLT, Int.reduceLE, Nat.reduceAdd, Nat.reduceLT, Nat.reduceLeDiff, Int.reduceToNat, Int.reduceSub, Int.reduceAdd, Int.reduceNeg]
  · have hf : d.check = (-1, 17) := by rw [DefD.check, if_pos (by simpa using hc0)]
    rw [hf]; exact ⟨rfl, rfl⟩
  refine s_mg (by simp only [h0, nodeRows_len, go_sem, Nat.reduceEqDiff, reduceIte, Int.reduceEq, Int.reduceLT, Int.reduceLE, Nat.reduceAdd, Nat.reduceLT, Nat.reduceLeDiff, Int.reduceToNat, Int.reduceSub, Int.reduceAdd, Int.reduceNeg]; try rfl) ?_; simp only [cut_g, cut_t, cut_none, cut_out, memN_cons, memN_nil, Nat.reduceEqDiff, reduceIte, List.nil_append, List.cons_append, not_false_eq_true]; refine ex_merge rfl (by simp only [h0, nodeRows_len, go_sem, Nat.reduceEqDiff, reduceIte, Int.reduceEq, Int.reduceLT, Int.reduceLE, Nat.reduceAdd, Nat.reduceLT, Nat.reduceLeDiff, Int.reduceToNat, Int.reduceSub, Int.reduceAdd, Int.reduceNeg]) (by intro hb; simp only [hb, h0, nodeRows_len, go_sem, Nat.reduceEqDiff, reduceIte, Int.reduceEq, Int.reduceLT, Int.reduceLE, Nat.reduceAdd, Nat.reduceLT, Nat.reduceLeDiff, Int.reduceToNat, Int.reduceSub, Int.reduceAdd, Int.reduceNeg]; first | exact rfl | exact ⟨rfl, rfl⟩) (fun vs => ?_); simp only [h0, nodeRows_len, go_sem, Nat.reduceEqDiff, reduceIte, Int.reduceEq, Int.reduceLT, Int.reduceLE, Nat.reduceAdd, Nat.reduceLT, Nat.reduceLeDiff, Int.reduceToNat, Int.reduceSub, Int.reduceAdd, Int.reduceNeg]
  refine s_cond (b := decide ((d.nodes.length : Int) = 0) || decide (32 < (d.nodes.length : Int))) (by simp only [go_sem, Nat.reduceEqDiff, reduceIte, Int.reduceEq, Int.reduceLT, Int.reduceLE, Nat.reduceAdd, Nat.reduceLT, Nat.reduceLeDiff, Int.reduceToNat, Int.reduceSub, Int.reduceAdd, Int.reduceNeg]; try rfl) ?_ ?_ <;> intro hc1 <;> simp only [h0, nodeRows_len, go_sem, Nat.reduceEqDiff, reduceIte, Int.reduceEq, Int.reduceLT, Int.reduceLE, Nat.reduceAdd, Nat.reduceLT, Nat.reduceLeDiff, Int.reduceToNat, Int.reduceSub, Int.reduceAdd, Int.reduceNeg]
  · have hf : d.check = (-1, 10) := by rw [DefD.check, if_neg (by simpa using hc0), if_pos hc1]
    rw [hf]; exact ⟨rfl, rfl⟩
  have hcheck : d.check = match firstI (fun i => !decide (d.nodeE i = 0)) (List.range d.nodes.length) with
    | some i => ((i : Int), d.nodeE i)
    | none => match firstI (fun i => !decide (d.depE i = 0)) (List.range d.nodes.length) with
      | some i => ((i : Int), d.depE i)
      | none => if d.order.length = d.nodes.length then (-1, 0) else (-1, 15) := by
    rw [DefD.check, if_neg (by simpa using hc0), if_neg (by rw [hc1]; decide)]; rfl
  refine s_loop (fun n' ρ L => ∃ (i : Nat), i ≤ d.nodes.length ∧ n' = d.nodes.length - i ∧ L = [.cells 2 [[.str d.name, .isl (nodeRows d.nodes)]]] ∧
      ρ 1 = .ptr 0 0 0 ∧ ρ 4 = .int .i64 i ∧ (List.range i).all (fun k => !!decide (d.nodeE k = 0)) = true)
    ⟨0, Nat.zero_le _, rfl, rfl, by simp only [go_sem, Nat.reduceEqDiff, reduceIte, Int.reduceEq, Int.reduceLT, Int.reduceLE, Nat.reduceAdd, Nat.reduceLT, Nat.reduceLeDiff, Int.reduceToNat, Int.reduceSub, Int.reduceAdd, Int.reduceNeg], by simp only [go_sem, Nat.reduceEqDiff, reduceIte, Int.reduceEq, Int.reduceLT, Int.reduceLE, Nat.reduceAdd, Nat.reduceLT, Nat.reduceLeDiff, Int.reduceToNat, Int.reduceSub, Int.reduceAdd, Int.reduceNeg]; try rfl, rfl⟩ ?_
  clear h0 ρ
  rintro n' ρ L ⟨i, hi, rfl, rfl, h1, h4, hall⟩
  simp only [h1, h4, go_sem, Nat.reduceEqDiff, reduceIte, Int.reduceEq, Int.reduceLT, Int.reduceLE, Nat.reduceAdd, Nat.reduceLT, Nat.reduceLeDiff, Int.reduceToNat, Int.reduceSub, Int.reduceAdd, Int.reduceNeg]
  refine s_cond (b := decide _) (by simp only [h1, h4, nodeRows_len, rows_nodes, go_sem, Nat.reduceEqDiff, reduceIte, Int.reduceEq, Int.reduceLT, Int.reduceLE, Nat.reduceAdd, Nat.reduceLT, Nat.reduceLeDiff, Int.reduceToNat, Int.reduceSub, Int.reduceAdd, Int.reduceNeg]; try rfl) ?_ ?_ <;> intro hb <;> simp only [hb, h1, h4, nodeRows_len, rows_nodes, go_sem, Nat.reduceEqDiff, reduceIte, Int.reduceEq, Int.reduceLT, Int.reduceLE, Nat.reduceAdd, Nat.reduceLT, Nat.reduceLeDiff, Int.reduceToNat, Int.reduceSub, Int.reduceAdd, Int.reduceNeg]
  · rw [decide_eq_true_eq] at hb
    have hi' : i < d.nodes.length := by omega
    refine xcall_pure (args' := [d.iv, .int .i64 i]) rfl (checkNode_pure (E := E.noPan) hP d i hi' (by omega) hok) rfl ?_
    try simp only [h1, h4, go_sem, Nat.reduceEqDiff, reduceIte, Int.reduceEq, Int.reduceLT, Int.reduceLE, Nat.reduceAdd, Nat.reduceLT, Nat.reduceLeDiff, Int.reduceToNat, Int.reduceSub, Int.reduceAdd, Int.reduceNeg]
    refine s_cond (b := !decide (d.nodeE i = 0)) (by simp only [h1, h4, go_sem, Nat.reduceEqDiff, reduceIte, Int.reduceEq, Int.reduceLT, Int.reduceLE, Nat.reduceAdd, Nat.reduceLT, Nat.reduceLeDiff, Int.reduceToNat, Int.reduceSub, Int.reduceAdd, Int.reduceNeg]; try rfl) ?_ ?_ <;> intro hc2 <;> simp only [h1, h4, go_sem, Nat.reduceEqDiff, reduceIte, Int.reduceEq, Int.reduceLT, Int.reduceLE, Nat.reduceAdd, Nat.reduceLT, Nat.reduceLeDiff, Int.reduceToNat, Int.reduceSub, Int.reduceAdd, Int.reduceNeg]
    · have hne : d.nodeE i ≠ 0 := by simpa using hc2
      have hf : d.check = ((i : Int), d.nodeE i) := by rw [hcheck, firstI_range hi' hall (by simpa using hne)]
      rw [hf]; exact ⟨rfl, rfl⟩
    have hnode : d.nodeE i = 0 := by simpa using hc2
    have hnx := all_range_succ (p := fun k => !!decide (d.nodeE k = 0)) hall (by rw [hnode]; rfl)
    have hwr : IntKind.i64.wrap ((i : Int) + 1) = ((i + 1 : Nat) : Int) := by rw [wrap64 (by omega) (by omega)]; rfl
    refine ⟨d.nodes.length - (i + 1), by omega, i + 1, by omega, rfl, ?_⟩
    rw [hwr]
    first | exact ⟨rfl, hnx⟩ | exact ⟨rfl, rfl, hnx⟩ | exact ⟨rfl, rfl, rfl, hnx⟩ | exact ⟨rfl, rfl, rfl, rfl, hnx⟩ | exact ⟨rfl, rfl, rfl, rfl, rfl, hnx⟩ | exact ⟨rfl, rfl, rfl, rfl, rfl, rfl, hnx⟩ | exact ⟨rfl, rfl, rfl, rfl, rfl, rfl, rfl, hnx⟩ | exact hnx
  rw [decide_eq_false_iff_not] at hb
  have hi' : i = d.nodes.length := by omega
  subst hi'
  rw [firstI_none hall] at hcheck
  clear hall hb hi h4
  refine s_loop (fun n' ρ L => ∃ (i : Nat), i ≤ d.nodes.length ∧ n' = d.nodes.length - i ∧ L = [.cells 2 [[.str d.name, .isl (nodeRows d.nodes)]]] ∧
      ρ 1 = .ptr 0 0 0 ∧ ρ 6 = .int .i64 i ∧ (List.range i).all (fun k => !!decide (d.depE k = 0)) = true)
    ⟨0, Nat.zero_le _, rfl, rfl, by simp only [h1, go_sem, Nat.reduceEqDiff, reduceIte, Int.reduceEq, Int.reduceLT, Int.reduceLE, Nat.reduceAdd, Nat.reduceLT, Nat.reduceLeDiff, Int.reduceToNat, Int.reduceSub, Int.reduceAdd, Int.reduceNeg], by simp only [go_sem, Nat.reduceEqDiff, reduceIte, Int.reduceEq, Int.reduceLT, Int.reduceLE, Nat.reduceAdd, Nat.reduceLT, Nat.reduceLeDiff, Int.reduceToNat, Int.reduceSub, Int.reduceAdd, Int.reduceNeg]; try rfl, rfl⟩ ?_
  clear h1 ρ
  rintro n' ρ L ⟨i, hi, rfl, rfl, h1, h6, hall⟩
  simp only [h1, h6, go_sem, Nat.reduceEqDiff, reduceIte, Int.reduceEq, Int.reduceLT, Int.reduceLE, Nat.reduceAdd, Nat.reduceLT, Nat.reduceLeDiff, Int.reduceToNat, Int.reduceSub, Int.reduceAdd, Int.reduceNeg]
  refine s_cond (b := decide _) (by simp only [h1, h6, nodeRows_len, rows_nodes, go_sem, Nat.reduceEqDiff, reduceIte, Int.reduceEq, Int.reduceLT, Int.reduceLE, Nat.reduceAdd, Nat.reduceLT, Nat.reduceLeDiff, Int.reduceToNat, Int.reduceSub, Int.reduceAdd, Int.reduceNeg]; try rfl) ?_ ?_ <;> intro hb <;> simp only [hb, h1, h6, nodeRows_len, rows_nodes, go_sem, Nat.reduceEqDiff, reduceIte, Int.reduceEq, Int.reduceLT, Int.reduceLE, Nat.reduceAdd, Nat.reduceLT, Nat.reduceLeDiff, Int.reduceToNat, Int.reduceSub, Int.reduceAdd, Int.reduceNeg]
  · rw [decide_eq_true_eq] at hb
    have hi' : i < d.nodes.length := by omega
    have hrow := nodeRows_get hi'
    have hmem : d.nodes.getD i default ∈ d.nodes := by rw [List.getD_eq_getElem?_getD, List.getElem?_eq_getElem hi']; exact List.getElem_mem _
    have hnok := hok.2 _ hmem
    have hlen := hnok.2.2.2.1
    have hdep : d.depE i = if (firstI (fun s => !(d.find s).isSome) (d.nodes.getD i default).after).isSome = true then 6
      else if (firstI (twiceB (d.nodes.getD i default).after) (List.range (d.nodes.getD i default).after.length)).isSome = true then 16 else 0 := rfl
    generalize hn : d.nodes.getD i default = n at *
    try simp only [h1, h6, hrow, NodeD.row, nodeRows_len, rows_nodes, go_sem, Nat.reduceEqDiff, reduceIte, Int.reduceEq, Int.reduceLT, Int.reduceLE, Nat.reduceAdd, Nat.reduceLT, Nat.reduceLeDiff, Int.reduceToNat, Int.reduceSub, Int.reduceAdd, Int.reduceNeg]
    refine ⟨by omega, hi', ?_⟩
    try simp only [h1, h6, hrow, NodeD.row, go_sem, Nat.reduceEqDiff, reduceIte, Int.reduceEq, Int.reduceLT, Int.reduceLE, Nat.reduceAdd, Nat.reduceLT, Nat.reduceLeDiff, Int.reduceToNat, Int.reduceSub, Int.reduceAdd, Int.reduceNeg]
    refine s_loop (fun n3 ρ L => ∃ (k : Nat), k ≤ n.after.length ∧ n3 = n.after.length - k ∧ L = [.cells 2 [[.str d.name, .isl (nodeRows d.nodes)]]] ∧
        ρ 1 = .ptr 0 0 0 ∧ ρ 6 = .int .i64 i ∧ ρ 7 = .isl (strRows n.after) ∧ ρ 8 = .int .i64 k ∧ (n.after.take k).all (fun s => !!(d.find s).isSome) = true)
      ⟨0, Nat.zero_le _, rfl, rfl, by simp only [h1, h6, go_sem, Nat.reduceEqDiff, reduceIte, Int.reduceEq, Int.reduceLT, Int.reduceLE, Nat.reduceAdd, Nat.reduceLT, Nat.reduceLeDiff, Int.reduceToNat, Int.reduceSub, Int.reduceAdd, Int.reduceNeg], by simp only [h1, h6, go_sem, Nat.reduceEqDiff, reduceIte, Int.reduceEq, Int.reduceLT, Int.reduceLE, Nat.reduceAdd, Nat.reduceLT, Nat.reduceLeDiff, Int.reduceToNat, Int.reduceSub, Int.reduceAdd, Int.reduceNeg], by simp only [h1, h6, hrow, NodeD.row, go_sem, Nat.reduceEqDiff, reduceIte, Int.reduceEq, Int.reduceLT, Int.reduceLE, Nat.reduceAdd, Nat.reduceLT, Nat.reduceLeDiff, Int.reduceToNat, Int.reduceSub, Int.reduceAdd, Int.reduceNeg]; try rfl, by simp only [h1, h6, go_sem, Nat.reduceEqDiff, reduceIte, Int.reduceEq, Int.reduceLT, Int.reduceLE, Nat.reduceAdd, Nat.reduceLT, Nat.reduceLeDiff, Int.reduceToNat, Int.reduceSub, Int.reduceAdd, Int.reduceNeg]; try rfl, rfl⟩ ?_
    clear h1 h6 ρ
    rintro n3 ρ L ⟨k, hk, rfl, rfl, h1, h6, h7, h8, hall3⟩
    simp only [h1, h6, h7, h8, strRows_len, go_sem, Nat.reduceEqDiff, reduceIte, Int.reduceEq, Int.reduceLT, Int.reduceLE, Nat.reduceAdd, Nat.reduceLT, Nat.reduceLeDiff, Int.reduceToNat, Int.reduceSub, Int.reduceAdd, Int.reduceNeg]
    refine s_cond (b := decide _) (by simp only [h1, h6, h7, h8, strRows_len, rows_strs, go_sem, Nat.reduceEqDiff, reduceIte, Int.reduceEq, Int.reduceLT, Int.reduceLE, Nat.reduceAdd, Nat.reduceLT, Nat.reduceLeDiff, Int.reduceToNat, Int.reduceSub, Int.reduceAdd, Int.reduceNeg]; try rfl) ?_ ?_ <;> intro hb3 <;> simp only [hb3, h1, h6, h7, h8, strRows_len, rows_strs, go_sem, Nat.reduceEqDiff, reduceIte, Int.reduceEq, Int.reduceLT, Int.reduceLE, Nat.reduceAdd, Nat.reduceLT, Nat.reduceLeDiff, Int.reduceToNat, Int.reduceSub, Int.reduceAdd, Int.reduceNeg]
    · rw [decide_eq_true_eq] at hb3
      have hk' : k < n.after.length := by omega
      have hrow3 := strRows_get hk'
      try simp only [h1, h6, h7, h8, hrow3, strRows_len, rows_strs, go_sem, Nat.reduceEqDiff, reduceIte, Int.reduceEq, Int.reduceLT, Int.reduceLE, Nat.reduceAdd, Nat.reduceLT, Nat.reduceLeDiff, Int.reduceToNat, Int.reduceSub, Int.reduceAdd, Int.reduceNeg]
      refine ⟨by omega, hk', ?_⟩
      refine o_pcall (args' := [d.iv, .str (n.after.getD k [])]) rfl (refFind_pure (E := E.noPan) hP d _ (by omega)) (fun m => rfl) ?_
      simp only [h1, h6, h7, h8, go_sem, Nat.reduceEqDiff, reduceIte, Int.reduceEq, Int.reduceLT, Int.reduceLE, Nat.reduceAdd, Nat.reduceLT, Nat.reduceLeDiff, Int.reduceToNat, Int.reduceSub, Int.reduceAdd, Int.reduceNeg]
      refine s_cond (b := !(d.find (n.after.getD k [])).isSome) (by simp only [h1, h6, h7, h8, go_sem, Nat.reduceEqDiff, reduceIte, Int.reduceEq, Int.reduceLT, Int.reduceLE, Nat.reduceAdd, Nat.reduceLT, Nat.reduceLeDiff, Int.reduceToNat, Int.reduceSub, Int.reduceAdd, Int.reduceNeg]; try rfl) ?_ ?_ <;> intro hc4 <;> simp only [h1, h6, h7, h8, go_sem, Nat.reduceEqDiff, reduceIte, Int.reduceEq, Int.reduceLT, Int.reduceLE, Nat.reduceAdd, Nat.reduceLT, Nat.reduceLeDiff, Int.reduceToNat, Int.reduceSub, Int.reduceAdd, Int.reduceNeg]
      · have hf3 : (firstI (fun s => !(d.find s).isSome) n.after).isSome = true := by
          rw [firstI_some (d := []) hk' hall3 hc4]; rfl
        rw [if_pos hf3] at hdep
        have hf : d.check = ((i : Int), d.depE i) := by rw [hcheck, firstI_range hi' hall (by rw [hdep]; rfl)]
        rw [hf, hdep]; exact ⟨rfl, rfl⟩
      · have hnx : (n.after.take (k + 1)).all (fun s => !!(d.find s).isSome) = true := by rw [take_succ_all (d := []) hk' hall3, hc4]; rfl
        have hwr : IntKind.i64.wrap ((k : Int) + 1) = ((k + 1 : Nat) : Int) := by rw [wrap64 (by omega) (by omega)]; rfl
        refine ⟨n.after.length - (k + 1), by omega, k + 1, by omega, rfl, ?_⟩
        rw [hwr]
        first | exact ⟨rfl, hnx⟩ | exact ⟨rfl, rfl, hnx⟩ | exact ⟨rfl, rfl, rfl, hnx⟩ | exact ⟨rfl, rfl, rfl, rfl, hnx⟩ | exact ⟨rfl, rfl, rfl, rfl, rfl, hnx⟩ | exact ⟨rfl, rfl, rfl, rfl, rfl, rfl, hnx⟩ | exact ⟨rfl, rfl, rfl, rfl, rfl, rfl, rfl, hnx⟩ | exact hnx
    rw [decide_eq_false_iff_not] at hb3
    have hk' : k = n.after.length := by omega
    subst hk'
    rw [List.take_length] at hall3
    rw [firstI_none hall3, if_neg (by decide)] at hdep
    clear h8 hall3 hb3 hk
    refine s_loop (fun n3 ρ L => ∃ (k : Nat), k ≤ n.after.length ∧ n3 = n.after.length - k ∧ L = [.cells 2 [[.str d.name, .isl (nodeRows d.nodes)]]] ∧
        ρ 1 = .ptr 0 0 0 ∧ ρ 6 = .int .i64 i ∧ ρ 7 = .isl (strRows n.after) ∧ ρ 11 = .int .i64 k ∧ (List.range k).all (fun k => !twiceB n.after k) = true)
      ⟨0, Nat.zero_le _, rfl, rfl, by simp only [h1, go_sem, Nat.reduceEqDiff, reduceIte, Int.reduceEq, Int.reduceLT, Int.reduceLE, Nat.reduceAdd, Nat.reduceLT, Nat.reduceLeDiff, Int.reduceToNat, Int.reduceSub, Int.reduceAdd, Int.reduceNeg], by simp only [h6, go_sem, Nat.reduceEqDiff, reduceIte, Int.reduceEq, Int.reduceLT, Int.reduceLE, Nat.reduceAdd, Nat.reduceLT, Nat.reduceLeDiff, Int.reduceToNat, Int.reduceSub, Int.reduceAdd, Int.reduceNeg], by simp only [h7, go_sem, Nat.reduceEqDiff, reduceIte, Int.reduceEq, Int.reduceLT, Int.reduceLE, Nat.reduceAdd, Nat.reduceLT, Nat.reduceLeDiff, Int.reduceToNat, Int.reduceSub, Int.reduceAdd, Int.reduceNeg], by simp only [go_sem, Nat.reduceEqDiff, reduceIte, Int.reduceEq, Int.reduceLT, Int.reduceLE, Nat.reduceAdd, Nat.reduceLT, Nat.reduceLeDiff, Int.reduceToNat, Int.reduceSub, Int.reduceAdd, Int.reduceNeg]; try rfl, rfl⟩ ?_
    clear h1 h6 h7 ρ
    rintro n3 ρ L ⟨k, hk, rfl, rfl, h1, h6, h7, h11, hall3⟩
    simp only [h1, h6, h7, h11, strRows_len, go_sem, Nat.reduceEqDiff, reduceIte, Int.reduceEq, Int.reduceLT, Int.reduceLE, Nat.reduceAdd, Nat.reduceLT, Nat.reduceLeDiff, Int.reduceToNat, Int.reduceSub, Int.reduceAdd, Int.reduceNeg]
    refine s_cond (b := decide _) (by simp only [h1, h6, h7, h11, strRows_len, rows_strs, go_sem, Nat.reduceEqDiff, reduceIte, Int.reduceEq, Int.reduceLT, Int.reduceLE, Nat.reduceAdd, Nat.reduceLT, Nat.reduceLeDiff, Int.reduceToNat, Int.reduceSub, Int.reduceAdd, Int.reduceNeg]; try rfl) ?_ ?_ <;> intro hb3 <;> simp only [hb3, h1, h6, h7, h11, strRows_len, rows_strs, go_sem, Nat.reduceEqDiff, reduceIte, Int.reduceEq, Int.reduceLT, Int.reduceLE, Nat.reduceAdd, Nat.reduceLT, Nat.reduceLeDiff, Int.reduceToNat, Int.reduceSub, Int.reduceAdd, Int.reduceNeg]
    · rw [decide_eq_true_eq] at hb3
      have hk' : k < n.after.length := by omega
      have hrow3 := strRows_get hk'
      have htw : twiceB n.after k = (firstI (fun x => decide (n.after.getD k [] = x)) (n.after.take k)).isSome := rfl
      refine s_loop (fun n4 ρ L => ∃ (j : Nat), j ≤ k ∧ n4 = k - j ∧ L = [.cells 2 [[.str d.name, .isl (nodeRows d.nodes)]]] ∧
          ρ 1 = .ptr 0 0 0 ∧ ρ 6 = .int .i64 i ∧ ρ 7 = .isl (strRows n.after) ∧ ρ 11 = .int .i64 k ∧ ρ 12 = .int .i64 j ∧ ((n.after.take k).take j).all (fun x => !decide (n.after.getD k [] = x)) = true)
        ⟨0, Nat.zero_le _, rfl, rfl, by simp only [h1, go_sem, Nat.reduceEqDiff, reduceIte, Int.reduceEq, Int.reduceLT, Int.reduceLE, Nat.reduceAdd, Nat.reduceLT, Nat.reduceLeDiff, Int.reduceToNat, Int.reduceSub, Int.reduceAdd, Int.reduceNeg], by simp only [h6, go_sem, Nat.reduceEqDiff, reduceIte, Int.reduceEq, Int.reduceLT, Int.reduceLE, Nat.reduceAdd, Nat.reduceLT, Nat.reduceLeDiff, Int.reduceToNat, Int.reduceSub, Int.reduceAdd, Int.reduceNeg], by simp only [h7, go_sem, Nat.reduceEqDiff, reduceIte, Int.reduceEq, Int.reduceLT, Int.reduceLE, Nat.reduceAdd, Nat.reduceLT, Nat.reduceLeDiff, Int.reduceToNat, Int.reduceSub, Int.reduceAdd, Int.reduceNeg], by simp only [h11, go_sem, Nat.reduceEqDiff, reduceIte, Int.reduceEq, Int.reduceLT, Int.reduceLE, Nat.reduceAdd, Nat.reduceLT, Nat.reduceLeDiff, Int.reduceToNat, Int.reduceSub, Int.reduceAdd, Int.reduceNeg], by simp only [go_sem, Nat.reduceEqDiff, reduceIte, Int.reduceEq, Int.reduceLT, Int.reduceLE, Nat.reduceAdd, Nat.reduceLT, Nat.reduceLeDiff, Int.reduceToNat, Int.reduceSub, Int.reduceAdd, Int.reduceNeg]; try rfl, rfl⟩ ?_
      clear h1 h6 h7 h11 ρ
      rintro n4 ρ L ⟨j, hj, rfl, rfl, h1, h6, h7, h11, h12, hall4⟩
      simp only [h1, h6, h7, h11, h12, strRows_len, go_sem, Nat.reduceEqDiff, reduceIte, Int.reduceEq, Int.reduceLT, Int.reduceLE, Nat.reduceAdd, Nat.reduceLT, Nat.reduceLeDiff, Int.reduceToNat, Int.reduceSub, Int.reduceAdd, Int.reduceNeg]
      refine s_cond (b := decide _) (by simp only [h1, h6, h7, h11, h12, strRows_len, rows_strs, go_sem, Nat.reduceEqDiff, reduceIte, Int.reduceEq, Int.reduceLT, Int.reduceLE, Nat.reduceAdd, Nat.reduceLT, Nat.reduceLeDiff, Int.reduceToNat, Int.reduceSub, Int.reduceAdd, Int.reduceNeg]; try rfl) ?_ ?_ <;> intro hb4 <;> simp only [hb4, h1, h6, h7, h11, h12, strRows_len, rows_strs, go_sem, Nat.reduceEqDiff, reduceIte, Int.reduceEq, Int.reduceLT, Int.reduceLE, Nat.reduceAdd, Nat.reduceLT, Nat.reduceLeDiff, Int.reduceToNat, Int.reduceSub, Int.reduceAdd, Int.reduceNeg]
      · rw [decide_eq_true_eq] at hb4
        have hj' : j < k := by omega
        have hjn : j < n.after.length := by omega
        have hrow4 := strRows_get hjn
        have hjt : j < (n.after.take k).length := by rw [List.length_take]; omega
        have hjg : (n.after.take k).getD j [] = n.after.getD j [] := by
          rw [List.getD_eq_getElem?_getD, List.getD_eq_getElem?_getD, List.getElem?_take, if_pos hj']
        try simp only [h1, h6, h7, h11, h12, hrow3, hrow4, strRows_len, rows_strs, go_sem, Nat.reduceEqDiff, reduceIte, Int.reduceEq, Int.reduceLT, Int.reduceLE, Nat.reduceAdd, Nat.reduceLT, Nat.reduceLeDiff, Int.reduceToNat, Int.reduceSub, Int.reduceAdd, Int.reduceNeg]
        refine ⟨rfl, ?_⟩
        try simp only [h1, h6, h7, h11, h12, hrow3, hrow4, strRows_len, rows_strs, go_sem, Nat.reduceEqDiff, reduceIte, Int.reduceEq, Int.reduceLT, Int.reduceLE, Nat.reduceAdd, Nat.reduceLT, Nat.reduceLeDiff, Int.reduceToNat, Int.reduceSub, Int.reduceAdd, Int.reduceNeg]
        refine ⟨by omega, hjn, by omega, hk', ?_⟩
        refine s_cond (b := decide (n.after.getD j [] = n.after.getD k [])) (by simp only [h1, h6, h7, h11, h12, go_sem, Nat.reduceEqDiff, reduceIte, Int.reduceEq, Int.reduceLT, Int.reduceLE, Nat.reduceAdd, Nat.reduceLT, Nat.reduceLeDiff, Int.reduceToNat, Int.reduceSub, Int.reduceAdd, Int.reduceNeg]; try rfl) ?_ ?_ <;> intro hc4 <;> simp only [h1, h6, h7, h11, h12, go_sem, Nat.reduceEqDiff, reduceIte, Int.reduceEq, Int.reduceLT, Int.reduceLE, Nat.reduceAdd, Nat.reduceLT, Nat.reduceLeDiff, Int.reduceToNat, Int.reduceSub, Int.reduceAdd, Int.reduceNeg]
        · rw [decide_eq_true_eq] at hc4
          have ht : twiceB n.after k = true := by
            rw [htw, firstI_some (d := []) hjt hall4 (by rw [hjg, hc4]; simp)]; rfl
          rw [firstI_range hk' hall3 ht, if_pos (show (some k).isSome = true from rfl)] at hdep
          have hf : d.check = ((i : Int), d.depE i) := by rw [hcheck, firstI_range hi' hall (by rw [hdep]; rfl)]
          rw [hf, hdep]; exact ⟨rfl, rfl⟩
        · rw [decide_eq_false_iff_not] at hc4
          have hnx : ((n.after.take k).take (j + 1)).all (fun x => !decide (n.after.getD k [] = x)) = true := by
            rw [take_succ_all (d := []) hjt hall4, hjg]
            simp
            exact fun h => hc4 h.symm
          have hwr : IntKind.i64.wrap ((j : Int) + 1) = ((j + 1 : Nat) : Int) := by rw [wrap64 (by omega) (by omega)]; rfl
          refine ⟨k - (j + 1), by omega, j + 1, by omega, rfl, ?_⟩
          rw [hwr]
          first | exact ⟨rfl, hnx⟩ | exact ⟨rfl, rfl, hnx⟩ | exact ⟨rfl, rfl, rfl, hnx⟩ | exact ⟨rfl, rfl, rfl, rfl, hnx⟩ | exact ⟨rfl, rfl, rfl, rfl, rfl, hnx⟩ | exact ⟨rfl, rfl, rfl, rfl, rfl, rfl, hnx⟩ | exact ⟨rfl, rfl, rfl, rfl, rfl, rfl, rfl, hnx⟩ | exact hnx
      · rw [decide_eq_false_iff_not] at hb4
        have hj' : j = k := by omega
        subst hj'
        rw [List.take_of_length_le (by rw [List.length_take]; omega)] at hall4
        have ht : twiceB n.after j = false := by rw [htw, firstI_none hall4]; rfl
        have hnx := all_range_succ (p := fun k => !twiceB n.after k) hall3 (by rw [ht]; rfl)
        have hwr : IntKind.i64.wrap ((j : Int) + 1) = ((j + 1 : Nat) : Int) := by rw [wrap64 (by omega) (by omega)]; rfl
        refine ⟨n.after.length - (j + 1), by omega, j + 1, by omega, rfl, ?_⟩
        rw [hwr]
        first | exact ⟨rfl, hnx⟩ | exact ⟨rfl, rfl, hnx⟩ | exact ⟨rfl, rfl, rfl, hnx⟩ | exact ⟨rfl, rfl, rfl, rfl, hnx⟩ | exact ⟨rfl, rfl, rfl, rfl, rfl, hnx⟩ | exact ⟨rfl, rfl, rfl, rfl, rfl, rfl, hnx⟩ | exact ⟨rfl, rfl, rfl, rfl, rfl, rfl, rfl, hnx⟩ | exact hnx
    · rw [decide_eq_false_iff_not] at hb3
      have hk' : k = n.after.length := by omega
      subst hk'
      rw [firstI_none hall3, if_neg (by decide)] at hdep
      have hnx := all_range_succ (p := fun k => !!decide (d.depE k = 0)) hall (by rw [hdep]; rfl)
      have hwr : IntKind.i64.wrap ((i : Int) + 1) = ((i + 1 : Nat) : Int) := by rw [wrap64 (by omega) (by omega)]; rfl
      refine ⟨d.nodes.length - (i + 1), by omega, i + 1, by omega, rfl, ?_⟩
      rw [hwr]
      first | exact ⟨rfl, hnx⟩ | exact ⟨rfl, rfl, hnx⟩ | exact ⟨rfl, rfl, rfl, hnx⟩ | exact ⟨rfl, rfl, rfl, rfl, hnx⟩ | exact ⟨rfl, rfl, rfl, rfl, rfl, hnx⟩ | exact ⟨rfl, rfl, rfl, rfl, rfl, rfl, hnx⟩ | exact ⟨rfl, rfl, rfl, rfl, rfl, rfl, rfl, hnx⟩ | exact hnx
  rw [decide_eq_false_iff_not] at hb
  have hi' : i = d.nodes.length := by omega
  subst hi'
  rw [firstI_none hall] at hcheck
  refine xcall_pure (args' := [d.iv]) rfl (refOrder_pure (E := E.noPan) hP d hd (fun n hn => (hok.2 n hn).2.2.2.1)) rfl ?_
  try simp only [h1, h6, go_sem, Nat.reduceEqDiff, reduceIte, Int.reduceEq, Int.reduceLT, Int.reduceLE, Nat.reduceAdd, Nat.reduceLT, Nat.reduceLeDiff, Int.reduceToNat, Int.reduceSub, Int.reduceAdd, Int.reduceNeg]
  refine s_cond (b := !decide (d.order.length = d.nodes.length)) (by simp only [h1, h6, go_sem, Nat.reduceEqDiff, reduceIte, Int.reduceEq, Int.reduceLT, Int.reduceLE, Nat.reduceAdd, Nat.reduceLT, Nat.reduceLeDiff, Int.reduceToNat, Int.reduceSub, Int.reduceAdd, Int.reduceNeg]; try rfl) ?_ ?_ <;> intro hc5 <;> simp only [h1, h6, go_sem, Nat.reduceEqDiff, reduceIte, Int.reduceEq, Int.reduceLT, Int.reduceLE, Nat.reduceAdd, Nat.reduceLT, Nat.reduceLeDiff, Int.reduceToNat, Int.reduceSub, Int.reduceAdd, Int.reduceNeg]
  · rw [if_neg (by simpa using hc5)] at hcheck
    rw [hcheck]; exact ⟨rfl, rfl⟩
  · rw [if_pos (by simpa using hc5)] at hcheck
    rw [hcheck]; exact ⟨rfl, rfl⟩
end
end Go.X.TryzW
end
section
/- Plain laws: a graph whose nodes stand in a ring; names of a definition that is taken. -/
open Go Go.X Go.Proofs
set_option linter.unusedSimpArgs false
set_option linter.unusedVariables false
namespace Go.X.TryzW

/-- b stands (not at once) behind j. -/
inductive Behind (d : DefD) (b : Nat) : Nat → Prop
  | self : Behind d b b
  | step {i j : Nat} {s : List UInt8} : Behind d b i → s ∈ d.after i → d.find s = some j → Behind d b j

/-- The definition with one edge more: node a behind node b. -/
def DefD.link (d : DefD) (a b : Nat) : DefD := ⟨d.name, d.nodes.set a { d.nodes.getD a default with after := d.after a ++ [(d.nodes.getD b default).name] }⟩
theorem firstI_none_iff {α : Type} {p : α → Bool} {l : List α} : firstI p l = none ↔ ∀ x ∈ l, p x = false :=
  ⟨firstI_no, fun h => firstI_none (by simpa using h)⟩
theorem depE_0 {d : DefD} {i : Nat} : d.depE i = 0 ↔ (∀ s ∈ d.after i, (d.find s).isSome = true) ∧ ∀ k, k < (d.after i).length → (d.after i).getD k [] ∉ (d.after i).take k := by
  unfold DefD.depE DefD.after
  constructor
  · intro h
    split at h
    · cases h
    · rename_i h1
      split at h
      · cases h
      · rename_i h2
        simp only [Bool.not_eq_true, Option.isSome_eq_false_iff, Option.isNone_iff_eq_none] at h1 h2
        refine ⟨fun s hs => by simpa using firstI_no h1 s hs, fun k hk hm => ?_⟩
        have h3 := firstI_no h2 k (List.mem_range.2 hk)
        unfold twiceB at h3
        simp only [Option.isSome_eq_false_iff, Option.isNone_iff_eq_none] at h3
        have := firstI_no h3 _ hm
        simp at this
  · rintro ⟨h1, h2⟩
    have e1 : firstI (fun s => !(d.find s).isSome) (d.nodes.getD i default).after = none := firstI_none_iff.2 fun s hs => by simpa using h1 s hs
    have e2 : firstI (twiceB (d.nodes.getD i default).after) (List.range (d.nodes.getD i default).after.length) = none := firstI_none_iff.2 fun k hk => by
      unfold twiceB
      have : firstI (fun x => decide ((d.nodes.getD i default).after.getD k [] = x)) ((d.nodes.getD i default).after.take k) = none := firstI_none_iff.2 fun x hx => by
        simp only [decide_eq_false_iff_not]
        rintro rfl
        exact h2 k (List.mem_range.1 hk) hx
      rw [this]; rfl
    rw [e1, e2]; rfl
end Go.X.TryzW
end
section
open Go Go.X Go.Proofs
set_option maxRecDepth 100000
set_option maxHeartbeats 4000000
set_option linter.unusedSimpArgs false
set_option linter.unusedVariables false
namespace Go.X.TryzW
/- "(*strings.Builder).copyCheck" params { toList := [40] } results { toList := [] } -/
def y32 : XC :=
 (.seq
  (.ops [
    ⟨(some 2), (.mov (.t 0)), none⟩,
    ⟨(some 3), (.nilck (.t 2)), none⟩,
    ⟨(some 4), (.fldA 0 (.t 3)), none⟩,
    ⟨(some 5), (.load1 (.t 4)), none⟩,
    ⟨(some 6), (.ex (.eqP false) [(.t 5), (.c (.raw (.pointer none)))]), none⟩])
  (.cond (.t 6)
   (.ops [
     ⟨(some 7), (.mov (.t 0)), none⟩,
     ⟨(some 8), (.mov (.t 0)), none⟩,
     ⟨(some 9), (.ex (.toU 43 1) [(.t 8)]), none⟩,
     ⟨(some 10), (.call (.f 55) [(.t 9)]), none⟩,
     ⟨(some 11), (.ex (.ofU 43 2) [(.t 10)]), none⟩,
     ⟨(some 12), (.nilck (.t 7)), none⟩,
     ⟨(some 13), (.fldA 0 (.t 12)), none⟩,
     ⟨none, (.store 1 (.t 13) (.t 11)), none⟩])
   (.seq
    (.ops [
      ⟨(some 14), (.mov (.t 0)), none⟩,
      ⟨(some 15), (.nilck (.t 14)), none⟩,
      ⟨(some 16), (.fldA 0 (.t 15)), none⟩,
      ⟨(some 17), (.load1 (.t 16)), none⟩,
      ⟨(some 18), (.mov (.t 0)), none⟩,
      ⟨(some 19), (.ex (.eqP true) [(.t 17), (.t 18)]), none⟩])
    (.cond (.t 19)
     .bad
     .skip))))

/- "(*strings.Builder).WriteString" params { toList := [40, 9] } results { toList := [Go.ResultVar.tmp 4, Go.ResultVar.tmp 5] } -/
def y13 : XC :=
 (.seq
  (.ops [
    ⟨(some 4), (.mov (.c (.int .i64 0))), none⟩,
    ⟨(some 5), (.mov (.c (.raw .nilIface))), none⟩])
  (.seq
   (.ops [
     ⟨(some 6), (.mov (.t 0)), none⟩,
     ⟨(some 7), (.call (.f 32) [(.t 6)]), none⟩])
   (.seq
    (.ops [
      ⟨(some 8), (.mov (.t 0)), none⟩,
      ⟨(some 9), (.mov (.t 0)), none⟩,
      ⟨(some 10), (.nilck (.t 9)), none⟩,
      ⟨(some 11), (.fldA 1 (.t 10)), none⟩,
      ⟨(some 12), (.load1 (.t 11)), none⟩,
      ⟨(some 13), (.mov (.t 1)), none⟩,
      ⟨(some 14), (.ex (.appT 5 1) [(.t 12), (.t 13)]), none⟩,
      ⟨(some 15), (.nilck (.t 8)), none⟩,
      ⟨(some 16), (.fldA 1 (.t 15)), none⟩,
      ⟨none, (.store 1 (.t 16) (.t 14)), none⟩])
    (.seq
     (.ops [
       ⟨(some 17), (.mov (.t 1)), none⟩,
       ⟨(some 18), (.lenS (.t 17)), none⟩,
       ⟨(some 4), (.mov (.t 18)), none⟩,
       ⟨(some 5), (.mov (.c (.raw .nilIface))), none⟩])
     .ret))))

/- "(*strings.Builder).String" params { toList := [40] } results { toList := [Go.ResultVar.tmp 2] } -/
def y15 : XC :=
 (.seq
  (.ops [
    ⟨(some 2), (.mov (.c (.str []))), none⟩])
  (.seq
   (.drawE [
     ⟨(some 3), (.mov (.t 0)), none⟩,
     ⟨(some 4), (.nilck (.t 3)), none⟩,
     ⟨(some 5), (.fldA 1 (.t 4)), none⟩,
     ⟨(some 6), (.load1 (.t 5)), none⟩,
     ⟨(some 7), (.ex .sdata [(.t 6)]), none⟩,
     ⟨(some 8), (.mov (.t 0)), none⟩,
     ⟨(some 9), (.nilck (.t 8)), none⟩,
     ⟨(some 10), (.fldA 1 (.t 9)), none⟩,
     ⟨(some 11), (.load1 (.t 10)), none⟩,
     ⟨(some 12), (.len (.t 11)), none⟩,
     ⟨(some 13), (.ex (.ustr 5) [(.t 7), (.t 12)]), none⟩,
     ⟨(some 2), (.mov (.t 13)), none⟩])
   .ret))

section
variable {E : Env}
theorem al1 {k : Blk} {L : List Blk} (h : L[0]? = some k) (ha : k.alive = true := by rfl) : ∀ s ∈ [0], aliveAt L s := fun s hs => by
  rw [List.mem_singleton] at hs; subst hs; exact ⟨k, h, ha⟩
theorem noEsc (hP : E.P = Tryz.prog) (s r o : Nat) : XExt E 55 [.ptr s r o] (.ptr s r o) := by
  refine ext_mk (fn := Tryz.f55) (en := Extern.AbiNoEscape.same) (by rw [hP]; rfl) (by rfl) (by rfl) (by rfl) (by rfl) fun C vs _ hl hv => ?_
  match vs, hl with
  | [v], _ => exact ⟨v, rfl, hv 0 _ rfl⟩
theorem copyCheck_fresh (hP : E.P = Tryz.prog) : XT E 32 [.ptr 0 0 0] [.tcells 43 2 [[.raw (.pointer none), .raw (.slice none 0 0)]]] fun r L1 => r = .tup [] ∧ L1 = [.tcells 43 2 [[.ptr 0 0 0, .raw (.slice none 0 0)]]] := by
  refine xt_of_fun (F := ⟨Tryz.f32.ntmps, [], y32⟩) (by rw [hP]; rfl) (by rw [hP]; kernel_rfl) (by decide) (Nat.le_of_ble_eq_true rfl) (xfun0 ?_)
  generalize hρ : entry _ = ρ
  have h0 : ρ 0 = .ptr 0 0 0 := by rw [← hρ]; rfl
  clear hρ
  unfold y32
  simp only [h0, go_sem, Nat.reduceEqDiff, reduceIte, Int.reduceEq, Int.reduceLT, Int.reduceLE, Nat.reduceAdd, Nat.reduceLT, Nat.reduceLeDiff, Int.reduceToNat, Int.reduceSub, Int.reduceAdd, Int.reduceNeg]
  refine xptrU_at (sz := 2) rfl (by decide) (by decide) ?_
  simp only [h0, go_sem, Nat.reduceEqDiff, reduceIte, Int.reduceEq, Int.reduceLT, Int.reduceLE, Nat.reduceAdd, Nat.reduceLT, Nat.reduceLeDiff, Int.reduceToNat, Int.reduceSub, Int.reduceAdd, Int.reduceNeg]
  refine xcall_ext (noEsc (E := E.noPan) hP 0 0 0) ?_
  simp only [h0, go_sem, Nat.reduceEqDiff, reduceIte, Int.reduceEq, Int.reduceLT, Int.reduceLE, Nat.reduceAdd, Nat.reduceLT, Nat.reduceLeDiff, Int.reduceToNat, Int.reduceSub, Int.reduceAdd, Int.reduceNeg]
  refine xptrU_at (sz := 2) rfl (by decide) (by decide) ?_
  simp only [h0, go_sem, Nat.reduceEqDiff, reduceIte, Int.reduceEq, Int.reduceLT, Int.reduceLE, Nat.reduceAdd, Nat.reduceLT, Nat.reduceLeDiff, Int.reduceToNat, Int.reduceSub, Int.reduceAdd, Int.reduceNeg]
  exact leave_all .nil (by simp) rfl rfl ⟨rfl, rfl⟩

def usedB (s k n : Nat) : List IV := [.ptr s 0 0, .sl k 0 n n]
def freshB : List IV := [.raw (.pointer none), .raw (.slice none 0 0)]
theorem convB_bytes (L : List Blk) (m : Ren) (ty : Nat) (bs : List UInt8) : convB L 12 m (.tcells ty 1 (bytesRows bs)) = some (.tcells ty 1 (bytesRows bs)) := by
  show (mapO (mapO (conv L 12 m)) (bytesRows bs)).map _ = _
  rw [mapO_bytes]; rfl
theorem convB_used (L : List Blk) {m : Ren} {s k s' k' n : Nat} (h1 : m s = some (some s')) (h2 : m k = some (some k')) : convB L 12 m (.tcells 43 2 [usedB s k n]) = some (.tcells 43 2 [usedB s' k' n]) := by
  simp only [convB, usedB, mapO, conv, h1, h2, Option.map_some]
theorem copyCheck_used (hP : E.P = Tryz.prog) (bs : List UInt8) : XT E 32 [.ptr 0 0 0] [.tcells 43 2 [usedB 0 1 bs.length], .tcells 5 1 (bytesRows bs)] fun r L1 => r = .tup [] ∧ L1 = [.tcells 43 2 [usedB 0 1 bs.length], .tcells 5 1 (bytesRows bs)] := by
  unfold usedB
  refine xt_of_fun (F := ⟨Tryz.f32.ntmps, [], y32⟩) (by rw [hP]; rfl) (by rw [hP]; kernel_rfl) (by decide) (Nat.le_of_ble_eq_true rfl) (xfun0 ?_)
  generalize hρ : entry _ = ρ
  have h0 : ρ 0 = .ptr 0 0 0 := by rw [← hρ]; rfl
  clear hρ
  unfold y32
  simp only [h0, go_sem, Nat.reduceEqDiff, reduceIte, Int.reduceEq, Int.reduceLT, Int.reduceLE, Nat.reduceAdd, Nat.reduceLT, Nat.reduceLeDiff, Int.reduceToNat, Int.reduceSub, Int.reduceAdd, Int.reduceNeg]
  refine leave_all (keep := []) (r' := .tup []) (L'' := [.tcells 43 2 [usedB 0 1 bs.length], .tcells 5 1 (bytesRows bs)]) .nil ?_ ?_ ?_ ?_
  · simp
  · rfl
  case refine_4 => exact ⟨rfl, rfl⟩
  show mapO (convB _ 12 _) [.tcells 43 2 [usedB 0 1 bs.length], .tcells 5 1 (bytesRows bs)] = _
  simp only [mapO, convB_bytes, convB_used (s := 0) (k := 1) (s' := 0) (k' := 1) _ (m := renLeave 2 []) rfl rfl]

theorem write_fresh (hP : E.P = Tryz.prog) (x : List UInt8) (hx : x ≠ []) (hb : x.length ≤ 70368744177664) : XT E 13 [.ptr 0 0 0, .str x] [.tcells 43 2 [freshB]] fun r L1 => r = .tup [.int .i64 x.length, .raw .nilIface] ∧ L1 = [.tcells 43 2 [usedB 0 1 x.length], .tcells 5 1 (bytesRows x)] := by
  unfold freshB
  refine xt_of_fun (F := ⟨Tryz.f13.ntmps, [.tmp 4, .tmp 5], y13⟩) (by rw [hP]; rfl) (by rw [hP]; kernel_rfl) (by decide) (Nat.le_of_ble_eq_true rfl) (xfun2 ?_)
  generalize hρ : entry _ = ρ
  have h0 : ρ 0 = .ptr 0 0 0 := by rw [← hρ]; rfl
  have h1 : ρ 1 = .str x := by rw [← hρ]; rfl
  clear hρ
  unfold y13
  simp only [h0, h1, go_sem, Nat.reduceEqDiff, reduceIte, Int.reduceEq, Int.reduceLT, Int.reduceLE, Nat.reduceAdd, Nat.reduceLT, Nat.reduceLeDiff, Int.reduceToNat, Int.reduceSub, Int.reduceAdd, Int.reduceNeg]
  refine xcall_sel [0] (by simp) (al1 rfl) (args' := [.ptr 0 0 0]) rfl (L0 := [.tcells 43 2 [[.raw (.pointer none), .raw (.slice none 0 0)]]]) rfl (copyCheck_fresh (E := E.noPan) hP) ?_
  rintro r L1 ⟨rfl, rfl⟩
  refine ⟨.tup [], _, rfl, rfl, ?_⟩
  show xops _ _ _ [.tcells 43 2 [[.ptr 0 0 0, .raw (.slice none 0 0)]]] _
  simp only [h0, h1, go_sem, Nat.reduceEqDiff, reduceIte, Int.reduceEq, Int.reduceLT, Int.reduceLE, Nat.reduceAdd, Nat.reduceLT, Nat.reduceLeDiff, Int.reduceToNat, Int.reduceSub, Int.reduceAdd, Int.reduceNeg]
  refine appT_nil rfl hx hb ?_
  simp only [h0, h1, go_sem, Nat.reduceEqDiff, reduceIte, Int.reduceEq, Int.reduceLT, Int.reduceLE, Nat.reduceAdd, Nat.reduceLT, Nat.reduceLeDiff, Int.reduceToNat, Int.reduceSub, Int.reduceAdd, Int.reduceNeg]
  refine leave_all (keep := [1]) (r' := .tup [.int .i64 x.length, .raw .nilIface]) (L'' := [.tcells 43 2 [usedB 0 1 x.length], .tcells 5 1 (bytesRows x)]) ?_ ?_ ?_ ?_ ?_
  · simp
  · simp
  · rfl
  case refine_5 => exact ⟨rfl, rfl⟩
  show mapO (convB _ 12 _) [.tcells 43 2 [usedB 0 1 x.length], .tcells 5 1 (bytesRows x)] = _
  simp only [mapO, convB_bytes, convB_used (s := 0) (k := 1) (s' := 0) (k' := 1) _ (m := renLeave 1 [1]) rfl rfl]

theorem al2 {k l : Blk} {L : List Blk} (h : L[0]? = some k) (h' : L[1]? = some l) (ha : k.alive = true := by rfl) (hb : l.alive = true := by rfl) : ∀ s ∈ [0, 1], aliveAt L s := fun s hs => by
  simp only [List.mem_cons, List.not_mem_nil, or_false] at hs
  rcases hs with rfl | rfl
  · exact ⟨k, h, ha⟩
  · exact ⟨l, h', hb⟩
theorem write_used (hP : E.P = Tryz.prog) (bs x : List UInt8) (hx : x ≠ []) (hb : bs.length + x.length ≤ 70368744177664) : XT E 13 [.ptr 0 0 0, .str x] [.tcells 43 2 [usedB 0 1 bs.length], .tcells 5 1 (bytesRows bs)]
    fun r L1 => r = .tup [.int .i64 x.length, .raw .nilIface] ∧ L1 = [.tcells 43 2 [usedB 0 2 (bs.length + x.length)], .dead, .tcells 5 1 (bytesRows (bs ++ x))] := by
  unfold usedB
  refine xt_of_fun (F := ⟨Tryz.f13.ntmps, [.tmp 4, .tmp 5], y13⟩) (by rw [hP]; rfl) (by rw [hP]; kernel_rfl) (by decide) (Nat.le_of_ble_eq_true rfl) (xfun2 ?_)
  generalize hρ : entry _ = ρ
  have h0 : ρ 0 = .ptr 0 0 0 := by rw [← hρ]; rfl
  have h1 : ρ 1 = .str x := by rw [← hρ]; rfl
  clear hρ
  unfold y13
  simp only [h0, h1, go_sem, Nat.reduceEqDiff, reduceIte, Int.reduceEq, Int.reduceLT, Int.reduceLE, Nat.reduceAdd, Nat.reduceLT, Nat.reduceLeDiff, Int.reduceToNat, Int.reduceSub, Int.reduceAdd, Int.reduceNeg]
  refine xcall_sel [0, 1] (by simp) (al2 rfl rfl) (args' := [.ptr 0 0 0]) rfl (L0 := [.tcells 43 2 [usedB 0 1 bs.length], .tcells 5 1 (bytesRows bs)]) ?_ (copyCheck_used (E := E.noPan) hP bs) ?_
  · show mapO (convB _ 12 _) [.tcells 43 2 [usedB 0 1 bs.length], .tcells 5 1 (bytesRows bs)] = _
    simp only [mapO, convB_bytes, convB_used (s := 0) (k := 1) (s' := 0) (k' := 1) _ (m := renSel [0, 1] [] false) rfl rfl]
  rintro r L1 ⟨rfl, rfl⟩
  refine ⟨.tup [], [.tcells 43 2 [usedB 0 1 bs.length], .tcells 5 1 (bytesRows bs)], rfl, ?_, ?_⟩
  · show mapO (convB _ 12 _) [.tcells 43 2 [usedB 0 1 bs.length], .tcells 5 1 (bytesRows bs)] = _
    simp only [mapO, convB_bytes, convB_used (s := 0) (k := 1) (s' := 0) (k' := 1) _ (m := renBack [0, 1] _) rfl rfl]
  show xops _ _ _ [.tcells 43 2 [[.ptr 0 0 0, .sl 1 0 bs.length bs.length]], .tcells 5 1 (bytesRows bs)] _
  simp only [h0, h1, go_sem, Nat.reduceEqDiff, reduceIte, Int.reduceEq, Int.reduceLT, Int.reduceLE, Nat.reduceAdd, Nat.reduceLT, Nat.reduceLeDiff, Int.reduceToNat, Int.reduceSub, Int.reduceAdd, Int.reduceNeg]
  refine appT_used rfl rfl hx hb ?_
  simp only [h0, h1, go_sem, Nat.reduceEqDiff, reduceIte, Int.reduceEq, Int.reduceLT, Int.reduceLE, Nat.reduceAdd, Nat.reduceLT, Nat.reduceLeDiff, Int.reduceToNat, Int.reduceSub, Int.reduceAdd, Int.reduceNeg]
  refine leave_all (keep := [2]) (r' := .tup [.int .i64 x.length, .raw .nilIface]) (L'' := [.tcells 43 2 [usedB 0 2 (bs.length + x.length)], .dead, .tcells 5 1 (bytesRows (bs ++ x))]) ?_ ?_ ?_ ?_ ?_
  · simp
  · simp
  · rfl
  case refine_5 => exact ⟨rfl, rfl⟩
  show mapO (convB _ 12 _) [.tcells 43 2 [usedB 0 2 (bs.length + x.length)], .dead, .tcells 5 1 (bytesRows (bs ++ x))] = _
  simp only [mapO, convB_bytes, convB_used (s := 0) (k := 2) (s' := 0) (k' := 2) _ (m := renLeave 2 [2]) rfl rfl]
  rfl

theorem string_used (hP : E.P = Tryz.prog) (bs : List UInt8) (h0 : bs ≠ []) (hb : bs.length ≤ 9223372036854775807) : XT E 15 [.ptr 0 0 0] [.tcells 43 2 [usedB 0 1 bs.length], .tcells 5 1 (bytesRows bs)]
    fun r L1 => r = .str bs ∧ L1 = [.tcells 43 2 [usedB 0 1 bs.length], .dead] := by
  unfold usedB
  have hne : bs.length ≠ 0 := by simpa using h0
  refine xt_of_fun (F := ⟨Tryz.f15.ntmps, [.tmp 2], y15⟩) (by rw [hP]; rfl) (by rw [hP]; kernel_rfl) (by decide) (Nat.le_of_ble_eq_true rfl) (xfun1 ?_)
  generalize hρ : entry _ = ρ
  have h0 : ρ 0 = .ptr 0 0 0 := by rw [← hρ]; rfl
  clear hρ
  unfold y15
  simp only [h0, go_sem, Nat.reduceEqDiff, reduceIte, Int.reduceEq, Int.reduceLT, Int.reduceLE, Nat.reduceAdd, Nat.reduceLT, Nat.reduceLeDiff, Int.reduceToNat, Int.reduceSub, Int.reduceAdd, Int.reduceNeg]
  refine ⟨by omega, ?_⟩
  rw [← bytesRows_len bs]
  refine xusU_at (rows := bytesRows bs) ?_ (bytesRows_of bs) ?_ ?_ ?_
  · rfl
  · rw [bytesRows_len]; exact hne
  · rw [bytesRows_len]; exact hb
  rw [bytesRows_len]
  simp only [h0, go_sem, Nat.reduceEqDiff, reduceIte, Int.reduceEq, Int.reduceLT, Int.reduceLE, Nat.reduceAdd, Nat.reduceLT, Nat.reduceLeDiff, Int.reduceToNat, Int.reduceSub, Int.reduceAdd, Int.reduceNeg]
  refine leave_all (keep := []) (r' := .str bs) (L'' := [.tcells 43 2 [usedB 0 1 bs.length], .dead]) .nil ?_ ?_ ?_ ?_
  · simp
  · rfl
  case refine_4 => exact ⟨rfl, rfl⟩
  show mapO (convB _ 12 _) [.tcells 43 2 [usedB 0 1 bs.length], .dead] = _
  simp only [mapO, convB_bytes, convB_used (s := 0) (k := 1) (s' := 0) (k' := 1) _ (m := renLeave 2 []) rfl rfl]
  rfl
variable {L : List Blk} {K : IV → List Blk → Prop}
theorem xcall_write0 (hP : E.P = Tryz.prog) {s : Nat} {x : List UInt8} (hs : L[s]? = some (.tcells 43 2 [freshB])) (hx : x ≠ []) (hb : x.length ≤ 70368744177664)
    (h : K (.tup [.int .i64 x.length, .raw .nilIface]) (L.set s (.tcells 43 2 [usedB s L.length x.length]) ++ [.tcells 5 1 (bytesRows x)])) : xcall E 13 [.ptr s 0 0, .str x] L K := by
  have hg : L.getD s .dead = .tcells 43 2 [freshB] := by rw [List.getD_eq_getElem?_getD, hs]; rfl
  have hr : renSel [s] [] false s = some (some 0) := by simp [renSel, pos]
  refine xcall_sel [s] (by simp) (fun t ht => ?_) (args' := [.ptr 0 0 0, .str x]) ?_ (L0 := [.tcells 43 2 [freshB]]) ?_ (write_fresh hP x hx hb) ?_
  · rw [List.mem_singleton] at ht; subst ht; exact ⟨_, hs, rfl⟩
  · show mapO (conv L 12 _) [.ptr s 0 0, .str x] = _
    simp only [mapO, conv, hr]
  · rw [List.map_cons, List.map_nil, hg]; rfl
  rintro r L1 ⟨rfl, rfl⟩
  refine ⟨_, [.tcells 43 2 [usedB s L.length x.length], .tcells 5 1 (bytesRows x)], rfl, ?_, ?_⟩
  · show mapO (convB _ 12 _) [.tcells 43 2 [usedB 0 1 x.length], .tcells 5 1 (bytesRows x)] = _
    simp only [mapO, convB_bytes, convB_used (s := 0) (k := 1) (s' := s) (k' := L.length) _ (m := renBack [s] L.length) rfl (by simp [renBack])]
  · exact h
theorem xcall_write (hP : E.P = Tryz.prog) {s k : Nat} {bs x : List UInt8} (hs : L[s]? = some (.tcells 43 2 [usedB s k bs.length])) (hk : L[k]? = some (.tcells 5 1 (bytesRows bs))) (hx : x ≠ []) (hb : bs.length + x.length ≤ 70368744177664)
    (h : K (.tup [.int .i64 x.length, .raw .nilIface]) ((L.set s (.tcells 43 2 [usedB s L.length (bs.length + x.length)])).set k .dead ++ [.tcells 5 1 (bytesRows (bs ++ x))])) : xcall E 13 [.ptr s 0 0, .str x] L K := by
  have hne : s ≠ k := fun h0 => by subst h0; rw [hs] at hk; simp at hk
  have hgs : L.getD s .dead = .tcells 43 2 [usedB s k bs.length] := by rw [List.getD_eq_getElem?_getD, hs]; rfl
  have hgk : L.getD k .dead = .tcells 5 1 (bytesRows bs) := by rw [List.getD_eq_getElem?_getD, hk]; rfl
  have hr : renSel [s, k] [] false s = some (some 0) := by simp [renSel, pos]
  have hr' : renSel [s, k] [] false k = some (some 1) := by simp [renSel, pos, Ne.symm hne]
  refine xcall_sel [s, k] (by simp [hne]) (fun t ht => ?_) (args' := [.ptr 0 0 0, .str x]) ?_ (L0 := [.tcells 43 2 [usedB 0 1 bs.length], .tcells 5 1 (bytesRows bs)]) ?_ (write_used hP bs x hx hb) ?_
  · simp only [List.mem_cons, List.not_mem_nil, or_false] at ht
    rcases ht with rfl | rfl
    · exact ⟨_, hs, rfl⟩
    · exact ⟨_, hk, rfl⟩
  · show mapO (conv L 12 _) [.ptr s 0 0, .str x] = _
    simp only [mapO, conv, hr]
  · rw [List.map_cons, List.map_cons, List.map_nil, hgs, hgk]
    show mapO (convB _ 12 _) [.tcells 43 2 [usedB s k bs.length], .tcells 5 1 (bytesRows bs)] = _
    simp only [mapO, convB_bytes, convB_used (s := s) (k := k) (s' := 0) (k' := 1) _ hr hr']
  rintro r L1 ⟨rfl, rfl⟩
  refine ⟨_, [.tcells 43 2 [usedB s L.length (bs.length + x.length)], .dead, .tcells 5 1 (bytesRows (bs ++ x))], rfl, ?_, ?_⟩
  · show mapO (convB _ 12 _) [.tcells 43 2 [usedB 0 2 (bs.length + x.length)], .dead, .tcells 5 1 (bytesRows (bs ++ x))] = _
    simp only [mapO, convB_bytes, convB_used (s := 0) (k := 2) (s' := s) (k' := L.length) _ (m := renBack [s, k] L.length) rfl (by simp [renBack])]
    rfl
  · exact h
theorem xcall_string (hP : E.P = Tryz.prog) {s k : Nat} {bs : List UInt8} (hs : L[s]? = some (.tcells 43 2 [usedB s k bs.length])) (hk : L[k]? = some (.tcells 5 1 (bytesRows bs))) (h0 : bs ≠ []) (hb : bs.length ≤ 9223372036854775807)
    (h : K (.str bs) ((L.set s (.tcells 43 2 [usedB s k bs.length])).set k .dead ++ [])) : xcall E 15 [.ptr s 0 0] L K := by
  have hne : s ≠ k := fun h0 => by subst h0; rw [hs] at hk; simp at hk
  have hgs : L.getD s .dead = .tcells 43 2 [usedB s k bs.length] := by rw [List.getD_eq_getElem?_getD, hs]; rfl
  have hgk : L.getD k .dead = .tcells 5 1 (bytesRows bs) := by rw [List.getD_eq_getElem?_getD, hk]; rfl
  have hr : renSel [s, k] [] false s = some (some 0) := by simp [renSel, pos]
  have hr' : renSel [s, k] [] false k = some (some 1) := by simp [renSel, pos, Ne.symm hne]
  refine xcall_sel [s, k] (by simp [hne]) (fun t ht => ?_) (args' := [.ptr 0 0 0]) ?_ (L0 := [.tcells 43 2 [usedB 0 1 bs.length], .tcells 5 1 (bytesRows bs)]) ?_ (string_used hP bs h0 hb) ?_
  · simp only [List.mem_cons, List.not_mem_nil, or_false] at ht
    rcases ht with rfl | rfl
    · exact ⟨_, hs, rfl⟩
    · exact ⟨_, hk, rfl⟩
  · show mapO (conv L 12 _) [.ptr s 0 0] = _
    simp only [mapO, conv, hr]
  · rw [List.map_cons, List.map_cons, List.map_nil, hgs, hgk]
    show mapO (convB _ 12 _) [.tcells 43 2 [usedB s k bs.length], .tcells 5 1 (bytesRows bs)] = _
    simp only [mapO, convB_bytes, convB_used (s := s) (k := k) (s' := 0) (k' := 1) _ hr hr']
  rintro r L1 ⟨rfl, rfl⟩
  refine ⟨_, [.tcells 43 2 [usedB s k bs.length], .dead], rfl, ?_, ?_⟩
  · show mapO (convB _ 12 _) [.tcells 43 2 [usedB 0 1 bs.length], .dead] = _
    simp only [mapO, convB_bytes, convB_used (s := 0) (k := 1) (s' := s) (k' := k) _ (m := renBack [s, k] L.length) rfl rfl]
    rfl
  · exact h
end
end Go.X.TryzW
end
