import Derived.Test.YtnejaochjehhgaaDoorXDag13
set_option linter.unusedVariables false
set_option linter.unusedSimpArgs false
set_option linter.unusedSectionVars false
open Go Go.X Go.Proofs
set_option maxRecDepth 100000
set_option maxHeartbeats 4000000
set_option linter.unusedSimpArgs false
set_option linter.unusedVariables false
namespace Go.X.TrydW
/- "tiller/tillerlaw08.wakes" params { toList := [] } results { toList := [Go.ResultVar.tmp 0] } -/
def x11 : XC :=
 (.seq
  (.ops [
    ⟨(some 0), (.mov (.c (.bool false))), none⟩])
  (.seq
   (.ops [
     ⟨(some 7), (.call (.f 23) [(.c (.str [119, 111, 114, 107, 102, 108, 111, 119, 32, 119, 10, 98, 32, 119, 97, 105, 116, 32, 115, 32, 97, 102, 116, 101, 114, 32, 97, 10, 97, 32, 97, 99, 116, 105, 118, 105, 116, 121, 32, 113, 10]))]), none⟩,
     ⟨(some 6), (.mov (.t 7)), none⟩,
     ⟨(some 8), (.ext (.t 6) 0), none⟩,
     ⟨(some 9), (.ext (.t 6) 1), none⟩,
     ⟨(some 10), (.ext (.t 6) 2), none⟩,
     ⟨(some 1), (.alloc [(.str []), .nsl]), none⟩,
     ⟨none, (.store 2 (.t 1) (.t 8)), none⟩,
     ⟨(some 2), (.mov (.t 9)), none⟩,
     ⟨(some 3), (.mov (.t 10)), none⟩])
   (.seq
    (.ops [
      ⟨(some 12), (.loadN 2 (.t 1)), none⟩,
      ⟨(some 13), (.call (.f 17) [(.t 12)]), none⟩,
      ⟨(some 11), (.mov (.t 13)), none⟩,
      ⟨(some 14), (.ext (.t 11) 0), none⟩,
      ⟨(some 15), (.ext (.t 11) 1), none⟩,
      ⟨(some 4), (.mov (.t 14)), none⟩,
      ⟨(some 5), (.mov (.t 15)), none⟩])
    (.seq
     (.ops [
       ⟨(some 16), (.mov (.t 3)), none⟩,
       ⟨(some 17), (.bin .eql (.t 16) (.c (.int .i64 0))), none⟩,
       ⟨(some 18), (.mov (.t 17)), none⟩,
       ⟨(some 19), (.mov (.t 5)), (some (18, true))⟩,
       ⟨(some 20), (.pick (.t 18) (.t 19) (.c (.bool false))), none⟩,
       ⟨(some 21), (.mov (.t 20)), none⟩,
       ⟨(some 22), (.mov (.t 4)), (some (21, true))⟩,
       ⟨(some 23), (.bslice 1 [(.int .i64 0)] 2 [(0, (.c (.int .i64 1))), (1, (.c (.int .i64 0)))]), (some (21, true))⟩,
       ⟨(some 24), (.call (.f 24) [(.t 22), (.t 23)]), (some (21, true))⟩,
       ⟨(some 25), (.pick (.t 21) (.t 24) (.c (.bool false))), none⟩,
       ⟨(some 26), (.mov (.t 25)), none⟩,
       ⟨(some 27), (.loadN 2 (.t 1)), (some (26, true))⟩,
       ⟨(some 28), (.call (.f 19) [(.t 27)]), (some (26, true))⟩,
       ⟨(some 29), (.bin .eql (.t 28) (.c (.int .i64 2))), (some (26, true))⟩,
       ⟨(some 30), (.pick (.t 26) (.t 29) (.c (.bool false))), none⟩,
       ⟨(some 31), (.mov (.t 30)), none⟩,
       ⟨(some 32), (.fldA 1 (.t 1)), (some (31, true))⟩,
       ⟨(some 33), (.load1 (.t 32)), (some (31, true))⟩,
       ⟨(some 34), (.idxS 7 (.t 33) (.c (.int .i64 1))), (some (31, true))⟩,
       ⟨(some 35), (.fldA 5 (.t 34)), (some (31, true))⟩,
       ⟨(some 36), (.load1 (.t 35)), (some (31, true))⟩,
       ⟨(some 37), (.bin .eql (.t 36) (.c (.int .i64 1))), (some (31, true))⟩,
       ⟨(some 38), (.pick (.t 31) (.t 37) (.c (.bool false))), none⟩,
       ⟨(some 0), (.mov (.t 38)), none⟩])
     .ret))))

/- "tiller/tillerlaw08.DagNames" params { toList := [22] } results { toList := [Go.ResultVar.tmp 2] } -/
def x3 : XC :=
 (.seq
  (.ops [
    ⟨(some 2), (.mov (.c (.bool false))), none⟩])
  (.seq
   (.seq
    (.ops [
      ⟨(some 3), (.mov (.c (.int .i64 0))), none⟩])
    (.block 0
     (.loop
      (.seq
       (.seq
        (.ops [
          ⟨(some 4), (.mov (.t 3)), none⟩,
          ⟨(some 5), (.mov (.t 0)), none⟩,
          ⟨(some 6), (.len (.t 5)), none⟩,
          ⟨(some 7), (.bin .lss (.t 4) (.t 6)), none⟩,
          ⟨(some 8), (.mov (.t 7)), none⟩,
          ⟨(some 9), (.mov (.t 3)), (some (8, true))⟩,
          ⟨(some 10), (.bin .lss (.t 9) (.c (.int .i64 60))), (some (8, true))⟩,
          ⟨(some 11), (.pick (.t 8) (.t 10) (.c (.bool false))), none⟩])
        (.cond (.t 11)
         .skip
         (.exit 0)))
       (.seq
        (.block 1
         (.seq
          (.drawE [
            ⟨(some 14), (.mov (.t 0)), none⟩,
            ⟨(some 15), (.mov (.t 3)), none⟩,
            ⟨(some 16), (.idxS 1 (.t 14) (.t 15)), none⟩,
            ⟨(some 17), (.load1 (.t 16)), none⟩,
            ⟨(some 18), (.pcall (.f 7) [(.t 17)]), none⟩,
            ⟨(some 19), (.mov (.t 0)), none⟩,
            ⟨(some 20), (.mov (.t 3)), none⟩,
            ⟨(some 21), (.idxS 1 (.t 19) (.t 20)), none⟩,
            ⟨(some 22), (.load1 (.t 21)), none⟩,
            ⟨(some 23), (.pcall (.f 8) [(.t 22)]), none⟩,
            ⟨(some 24), (.eqB true (.t 18) (.t 23)), none⟩,
            ⟨(some 25), (.mov (.t 24)), none⟩,
            ⟨(some 26), (.mov (.t 0)), (some (25, false))⟩,
            ⟨(some 27), (.mov (.t 3)), (some (25, false))⟩,
            ⟨(some 28), (.idxS 1 (.t 26) (.t 27)), (some (25, false))⟩,
            ⟨(some 29), (.load1 (.t 28)), (some (25, false))⟩,
            ⟨(some 30), (.pcall (.f 9) [(.t 29)]), (some (25, false))⟩,
            ⟨(some 31), (.mov (.t 0)), (some (25, false))⟩,
            ⟨(some 32), (.mov (.t 3)), (some (25, false))⟩,
            ⟨(some 33), (.idxS 1 (.t 31) (.t 32)), (some (25, false))⟩,
            ⟨(some 34), (.load1 (.t 33)), (some (25, false))⟩,
            ⟨(some 35), (.pcall (.f 10) [(.t 34)]), (some (25, false))⟩,
            ⟨(some 36), (.eqB true (.t 30) (.t 35)), (some (25, false))⟩,
            ⟨(some 37), (.pick (.t 25) (.c (.bool true)) (.t 36)), none⟩])
          (.cond (.t 37)
           (.seq
            (.ops [
              ⟨(some 2), (.mov (.c (.bool false))), none⟩])
            .ret)
           .skip)))
        (.ops [
          ⟨(some 12), (.mov (.t 3)), none⟩,
          ⟨(some 13), (.bin .add (.t 12) (.c (.int .i64 1))), none⟩,
          ⟨(some 3), (.mov (.t 13)), none⟩]))))))
   (.seq
    (.ops [
      ⟨(some 38), (.mov (.c (.bool true))), none⟩,
      ⟨(some 39), (.call (.f 11) []), (some (38, true))⟩,
      ⟨(some 40), (.pick (.t 38) (.t 39) (.c (.bool false))), none⟩,
      ⟨(some 2), (.mov (.t 40)), none⟩])
    .ret)))

section
variable {E : Env}
theorem strRows_conv (L : List Blk) (l : List (List UInt8)) : True := trivial
theorem wakes_pure (hP : E.P = Tryd.prog) : XPure E 11 [] (.bool true) := by
  refine xpure1 (n := Tryd.f11.ntmps) (c := x11) (t := 0) (by rw [hP]; rfl) (by rw [hP]; kernel_rfl) (by decide) (Nat.le_of_ble_eq_true rfl) ?_
  generalize hρ : entry _ = ρ
  clear hρ
  unfold x11
  simp only [go_sem, Nat.reduceEqDiff, reduceIte, Bool.false_eq_true, Bool.not_true, Bool.not_false, Bool.and_true, Bool.true_and, Bool.or_false, Bool.false_or, Bool.and_false, Bool.false_and, Bool.or_true, Bool.true_or, true_and, and_true, eq_self, not_false_eq_true, List.map_cons, List.map_nil, List.nil_append, List.append_nil, decide_true, decide_false, Int.reduceEq, Int.reduceLT, Int.reduceLE, List.length_cons, List.length_nil, Nat.reduceAdd, Nat.reduceLT, Nat.reduceLeDiff, List.getD_cons_zero, List.getD_cons_succ, Int.cast_ofNat_Int, Int.reduceToNat, Int.reduceSub, Int.reduceAdd, Int.reduceNeg, Int.toNat_natCast, Int.natCast_nonneg, List.getElem?_cons_zero, List.getElem?_cons_succ, List.cons_append, List.set_cons_zero, List.set_cons_succ, List.take_zero, List.take_succ_cons, List.drop_zero, List.drop_succ_cons, List.drop_nil, List.take_nil, List.all_cons, List.all_nil, Nat.zero_add, Nat.zero_lt_one, Nat.le_refl]
  have hd2 : (decide (2 = dW.nodes.length)) = true := rfl
  refine xcall_pure (args' := [.str textW]) rfl (evFun_sound (tabD_ok hP) (parseW_ev E.gl)) rfl ?_
  simp only [DefD.iv, go_sem, Nat.reduceEqDiff, reduceIte, Bool.false_eq_true, Bool.not_true, Bool.not_false, Bool.and_true, Bool.true_and, Bool.or_false, Bool.false_or, Bool.and_false, Bool.false_and, Bool.or_true, Bool.true_or, true_and, and_true, eq_self, not_false_eq_true, List.map_cons, List.map_nil, List.nil_append, List.append_nil, decide_true, decide_false, Int.reduceEq, Int.reduceLT, Int.reduceLE, List.length_cons, List.length_nil, Nat.reduceAdd, Nat.reduceLT, Nat.reduceLeDiff, List.getD_cons_zero, List.getD_cons_succ, Int.cast_ofNat_Int, Int.reduceToNat, Int.reduceSub, Int.reduceAdd, Int.reduceNeg, Int.toNat_natCast, Int.natCast_nonneg, List.getElem?_cons_zero, List.getElem?_cons_succ, List.cons_append, List.set_cons_zero, List.set_cons_succ, List.take_zero, List.take_succ_cons, List.drop_zero, List.drop_succ_cons, List.drop_nil, List.take_nil, List.all_cons, List.all_nil, Nat.zero_add, Nat.zero_lt_one, Nat.le_refl]
  refine xcall_pure (args' := [dW.iv]) rfl (order_pure hP dW (by decide) (by decide)) rfl ?_
  simp only [orderW, hd2, go_sem, Nat.reduceEqDiff, reduceIte, Bool.false_eq_true, Bool.not_true, Bool.not_false, Bool.and_true, Bool.true_and, Bool.or_false, Bool.false_or, Bool.and_false, Bool.false_and, Bool.or_true, Bool.true_or, true_and, and_true, eq_self, not_false_eq_true, List.map_cons, List.map_nil, List.nil_append, List.append_nil, decide_true, decide_false, Int.reduceEq, Int.reduceLT, Int.reduceLE, List.length_cons, List.length_nil, Nat.reduceAdd, Nat.reduceLT, Nat.reduceLeDiff, List.getD_cons_zero, List.getD_cons_succ, Int.cast_ofNat_Int, Int.reduceToNat, Int.reduceSub, Int.reduceAdd, Int.reduceNeg, Int.toNat_natCast, Int.natCast_nonneg, List.getElem?_cons_zero, List.getElem?_cons_succ, List.cons_append, List.set_cons_zero, List.set_cons_succ, List.take_zero, List.take_succ_cons, List.drop_zero, List.drop_succ_cons, List.drop_nil, List.take_nil, List.all_cons, List.all_nil, Nat.zero_add, Nat.zero_lt_one, Nat.le_refl]
  refine xcall_lend (args' := [.isl (intRows [1, 0]), .isl (intRows [1, 0])]) rfl (evFun_sound (tabD_ok hP) (intsW_ev E.gl)) rfl rfl ?_
  simp only [orderW, hd2, go_sem, Nat.reduceEqDiff, reduceIte, Bool.false_eq_true, Bool.not_true, Bool.not_false, Bool.and_true, Bool.true_and, Bool.or_false, Bool.false_or, Bool.and_false, Bool.false_and, Bool.or_true, Bool.true_or, true_and, and_true, eq_self, not_false_eq_true, List.map_cons, List.map_nil, List.nil_append, List.append_nil, decide_true, decide_false, Int.reduceEq, Int.reduceLT, Int.reduceLE, List.length_cons, List.length_nil, Nat.reduceAdd, Nat.reduceLT, Nat.reduceLeDiff, List.getD_cons_zero, List.getD_cons_succ, Int.cast_ofNat_Int, Int.reduceToNat, Int.reduceSub, Int.reduceAdd, Int.reduceNeg, Int.toNat_natCast, Int.natCast_nonneg, List.getElem?_cons_zero, List.getElem?_cons_succ, List.cons_append, List.set_cons_zero, List.set_cons_succ, List.take_zero, List.take_succ_cons, List.drop_zero, List.drop_succ_cons, List.drop_nil, List.take_nil, List.all_cons, List.all_nil, Nat.zero_add, Nat.zero_lt_one, Nat.le_refl]
  refine xcall_pure (args' := [dW.iv]) rfl (depth_pure hP dW (by decide) (by decide)) rfl ?_
  simp only [depthW, hd2, go_sem, Nat.reduceEqDiff, reduceIte, Bool.false_eq_true, Bool.not_true, Bool.not_false, Bool.and_true, Bool.true_and, Bool.or_false, Bool.false_or, Bool.and_false, Bool.false_and, Bool.or_true, Bool.true_or, true_and, and_true, eq_self, not_false_eq_true, List.map_cons, List.map_nil, List.nil_append, List.append_nil, decide_true, decide_false, Int.reduceEq, Int.reduceLT, Int.reduceLE, List.length_cons, List.length_nil, Nat.reduceAdd, Nat.reduceLT, Nat.reduceLeDiff, List.getD_cons_zero, List.getD_cons_succ, Int.cast_ofNat_Int, Int.reduceToNat, Int.reduceSub, Int.reduceAdd, Int.reduceNeg, Int.toNat_natCast, Int.natCast_nonneg, List.getElem?_cons_zero, List.getElem?_cons_succ, List.cons_append, List.set_cons_zero, List.set_cons_succ, List.take_zero, List.take_succ_cons, List.drop_zero, List.drop_succ_cons, List.drop_nil, List.take_nil, List.all_cons, List.all_nil, Nat.zero_add, Nat.zero_lt_one, Nat.le_refl]
  have h1 : (nodeRows dW.nodes).getD 1 [] = [.str [97], .int .i64 1, .str [113], .str [], .int .i64 0, .int .i64 1, .isl []] := rfl
  have h2 : (nodeRows dW.nodes).length = 2 := rfl
  simp only [depthW, hd2, h1, h2, rows_nodes, go_sem, Nat.reduceEqDiff, reduceIte, Bool.false_eq_true, Bool.not_true, Bool.not_false, Bool.and_true, Bool.true_and, Bool.or_false, Bool.false_or, Bool.and_false, Bool.false_and, Bool.or_true, Bool.true_or, true_and, and_true, eq_self, not_false_eq_true, List.map_cons, List.map_nil, List.nil_append, List.append_nil, decide_true, decide_false, Int.reduceEq, Int.reduceLT, Int.reduceLE, List.length_cons, List.length_nil, Nat.reduceAdd, Nat.reduceLT, Nat.reduceLeDiff, List.getD_cons_zero, List.getD_cons_succ, Int.cast_ofNat_Int, Int.reduceToNat, Int.reduceSub, Int.reduceAdd, Int.reduceNeg, Int.toNat_natCast, Int.natCast_nonneg, List.getElem?_cons_zero, List.getElem?_cons_succ, List.cons_append, List.set_cons_zero, List.set_cons_succ, List.take_zero, List.take_succ_cons, List.drop_zero, List.drop_succ_cons, List.drop_nil, List.take_nil, List.all_cons, List.all_nil, Nat.zero_add, Nat.zero_lt_one, Nat.le_refl]
  rfl

theorem names_pure (hP : E.P = Tryd.prog) {m : Int} (hm : E.gl 0 = some [.int .i64 m]) (l : List (List UInt8)) (hl : l.length ≤ 9223372036854775807) (hll : ∀ s ∈ l, s.length ≤ 9223372036854775807) : XPure E 3 [.isl (strRows l)] (.bool true) := by
  refine xpure1 (n := Tryd.f3.ntmps) (c := x3) (t := 2) (by rw [hP]; rfl) (by rw [hP]; kernel_rfl) (by decide) (Nat.le_of_ble_eq_true rfl) ?_
  generalize hρ : entry _ = ρ
  have h0 : ρ 0 = .isl (strRows l) := by rw [← hρ]; rfl
  clear hρ
  unfold x3
  simp only [h0, go_sem, Nat.reduceEqDiff, reduceIte, Bool.false_eq_true, Bool.not_true, Bool.not_false, Bool.and_true, Bool.true_and, Bool.or_false, Bool.false_or, Bool.and_false, Bool.false_and, Bool.or_true, Bool.true_or, true_and, and_true, eq_self, not_false_eq_true, List.map_cons, List.map_nil, List.nil_append, List.append_nil, decide_true, decide_false, Int.reduceEq, Int.reduceLT, Int.reduceLE, List.length_cons, List.length_nil, Nat.reduceAdd, Nat.reduceLT, Nat.reduceLeDiff, List.getD_cons_zero, List.getD_cons_succ, Int.cast_ofNat_Int, Int.reduceToNat, Int.reduceSub, Int.reduceAdd, Int.reduceNeg, Int.toNat_natCast, Int.natCast_nonneg, List.getElem?_cons_zero, List.getElem?_cons_succ, List.cons_append, List.set_cons_zero, List.set_cons_succ, List.take_zero, List.take_succ_cons, List.drop_zero, List.drop_succ_cons, List.drop_nil, List.take_nil, List.all_cons, List.all_nil, Nat.zero_add, Nat.zero_lt_one, Nat.le_refl]
  refine s_loop (fun n' ρ L => ∃ i : Nat, i ≤ l.length ∧ n' = l.length - i ∧ L = [] ∧ ρ 0 = .isl (strRows l) ∧ ρ 3 = .int .i64 i)
    ⟨0, Nat.zero_le _, rfl, rfl, by simp only [h0, go_sem, Nat.reduceEqDiff, reduceIte, Bool.false_eq_true, Bool.not_true, Bool.not_false, Bool.and_true, Bool.true_and, Bool.or_false, Bool.false_or, Bool.and_false, Bool.false_and, Bool.or_true, Bool.true_or, true_and, and_true, eq_self, not_false_eq_true, List.map_cons, List.map_nil, List.nil_append, List.append_nil, decide_true, decide_false, Int.reduceEq, Int.reduceLT, Int.reduceLE, List.length_cons, List.length_nil, Nat.reduceAdd, Nat.reduceLT, Nat.reduceLeDiff, List.getD_cons_zero, List.getD_cons_succ, Int.cast_ofNat_Int, Int.reduceToNat, Int.reduceSub, Int.reduceAdd, Int.reduceNeg, Int.toNat_natCast, Int.natCast_nonneg, List.getElem?_cons_zero, List.getElem?_cons_succ, List.cons_append, List.set_cons_zero, List.set_cons_succ, List.take_zero, List.take_succ_cons, List.drop_zero, List.drop_succ_cons, List.drop_nil, List.take_nil, List.all_cons, List.all_nil, Nat.zero_add, Nat.zero_lt_one, Nat.le_refl], by simp only [go_sem, Nat.reduceEqDiff, reduceIte, Bool.false_eq_true, Bool.not_true, Bool.not_false, Bool.and_true, Bool.true_and, Bool.or_false, Bool.false_or, Bool.and_false, Bool.false_and, Bool.or_true, Bool.true_or, true_and, and_true, eq_self, not_false_eq_true, List.map_cons, List.map_nil, List.nil_append, List.append_nil, decide_true, decide_false, Int.reduceEq, Int.reduceLT, Int.reduceLE, List.length_cons, List.length_nil, Nat.reduceAdd, Nat.reduceLT, Nat.reduceLeDiff, List.getD_cons_zero, List.getD_cons_succ, Int.cast_ofNat_Int, Int.reduceToNat, Int.reduceSub, Int.reduceAdd, Int.reduceNeg, Int.toNat_natCast, Int.natCast_nonneg, List.getElem?_cons_zero, List.getElem?_cons_succ, List.cons_append, List.set_cons_zero, List.set_cons_succ, List.take_zero, List.take_succ_cons, List.drop_zero, List.drop_succ_cons, List.drop_nil, List.take_nil, List.all_cons, List.all_nil, Nat.zero_add, Nat.zero_lt_one, Nat.le_refl]; try rfl⟩ ?_
  clear h0 ρ
  rintro n' ρ L ⟨i, hi, rfl, rfl, h0, h3⟩
  simp only [h0, h3, strRows_len, go_sem, Nat.reduceEqDiff, reduceIte, Bool.false_eq_true, Bool.not_true, Bool.not_false, Bool.and_true, Bool.true_and, Bool.or_false, Bool.false_or, Bool.and_false, Bool.false_and, Bool.or_true, Bool.true_or, true_and, and_true, eq_self, not_false_eq_true, List.map_cons, List.map_nil, List.nil_append, List.append_nil, decide_true, decide_false, Int.reduceEq, Int.reduceLT, Int.reduceLE, List.length_cons, List.length_nil, Nat.reduceAdd, Nat.reduceLT, Nat.reduceLeDiff, List.getD_cons_zero, List.getD_cons_succ, Int.cast_ofNat_Int, Int.reduceToNat, Int.reduceSub, Int.reduceAdd, Int.reduceNeg, Int.toNat_natCast, Int.natCast_nonneg, List.getElem?_cons_zero, List.getElem?_cons_succ, List.cons_append, List.set_cons_zero, List.set_cons_succ, List.take_zero, List.take_succ_cons, List.drop_zero, List.drop_succ_cons, List.drop_nil, List.take_nil, List.all_cons, List.all_nil, Nat.zero_add, Nat.zero_lt_one, Nat.le_refl]
  refine s_mg (by simp only [h0, h3, strRows_len, go_sem, Nat.reduceEqDiff, reduceIte, Bool.false_eq_true, Bool.not_true, Bool.not_false, Bool.and_true, Bool.true_and, Bool.or_false, Bool.false_or, Bool.and_false, Bool.false_and, Bool.or_true, Bool.true_or, true_and, and_true, eq_self, not_false_eq_true, List.map_cons, List.map_nil, List.nil_append, List.append_nil, decide_true, decide_false, Int.reduceEq, Int.reduceLT, Int.reduceLE, List.length_cons, List.length_nil, Nat.reduceAdd, Nat.reduceLT, Nat.reduceLeDiff, List.getD_cons_zero, List.getD_cons_succ, Int.cast_ofNat_Int, Int.reduceToNat, Int.reduceSub, Int.reduceAdd, Int.reduceNeg, Int.toNat_natCast, Int.natCast_nonneg, List.getElem?_cons_zero, List.getElem?_cons_succ, List.cons_append, List.set_cons_zero, List.set_cons_succ, List.take_zero, List.take_succ_cons, List.drop_zero, List.drop_succ_cons, List.drop_nil, List.take_nil, List.all_cons, List.all_nil, Nat.zero_add, Nat.zero_lt_one, Nat.le_refl]; try rfl) ?_; simp only [cut_g, cut_t, cut_none, cut_out, memN_cons, memN_nil, Nat.reduceEqDiff, reduceIte, List.nil_append, List.cons_append, not_false_eq_true]; refine ex_merge rfl (by simp only [h0, h3, strRows_len, go_sem, Nat.reduceEqDiff, reduceIte, Bool.false_eq_true, Bool.not_true, Bool.not_false, Bool.and_true, Bool.true_and, Bool.or_false, Bool.false_or, Bool.and_false, Bool.false_and, Bool.or_true, Bool.true_or, true_and, and_true, eq_self, not_false_eq_true, List.map_cons, List.map_nil, List.nil_append, List.append_nil, decide_true, decide_false, Int.reduceEq, Int.reduceLT, Int.reduceLE, List.length_cons, List.length_nil, Nat.reduceAdd, Nat.reduceLT, Nat.reduceLeDiff, List.getD_cons_zero, List.getD_cons_succ, Int.cast_ofNat_Int, Int.reduceToNat, Int.reduceSub, Int.reduceAdd, Int.reduceNeg, Int.toNat_natCast, Int.natCast_nonneg, List.getElem?_cons_zero, List.getElem?_cons_succ, List.cons_append, List.set_cons_zero, List.set_cons_succ, List.take_zero, List.take_succ_cons, List.drop_zero, List.drop_succ_cons, List.drop_nil, List.take_nil, List.all_cons, List.all_nil, Nat.zero_add, Nat.zero_lt_one, Nat.le_refl]) (by intro hb; simp only [hb, h0, h3, strRows_len, go_sem, Nat.reduceEqDiff, reduceIte, Bool.false_eq_true, Bool.not_true, Bool.not_false, Bool.and_true, Bool.true_and, Bool.or_false, Bool.false_or, Bool.and_false, Bool.false_and, Bool.or_true, Bool.true_or, true_and, and_true, eq_self, not_false_eq_true, List.map_cons, List.map_nil, List.nil_append, List.append_nil, decide_true, decide_false, Int.reduceEq, Int.reduceLT, Int.reduceLE, List.length_cons, List.length_nil, Nat.reduceAdd, Nat.reduceLT, Nat.reduceLeDiff, List.getD_cons_zero, List.getD_cons_succ, Int.cast_ofNat_Int, Int.reduceToNat, Int.reduceSub, Int.reduceAdd, Int.reduceNeg, Int.toNat_natCast, Int.natCast_nonneg, List.getElem?_cons_zero, List.getElem?_cons_succ, List.cons_append, List.set_cons_zero, List.set_cons_succ, List.take_zero, List.take_succ_cons, List.drop_zero, List.drop_succ_cons, List.drop_nil, List.take_nil, List.all_cons, List.all_nil, Nat.zero_add, Nat.zero_lt_one, Nat.le_refl]; first | exact rfl | exact ⟨rfl, rfl⟩) (fun vs => ?_); simp only [h0, h3, strRows_len, go_sem, Nat.reduceEqDiff, reduceIte, Bool.false_eq_true, Bool.not_true, Bool.not_false, Bool.and_true, Bool.true_and, Bool.or_false, Bool.false_or, Bool.and_false, Bool.false_and, Bool.or_true, Bool.true_or, true_and, and_true, eq_self, not_false_eq_true, List.map_cons, List.map_nil, List.nil_append, List.append_nil, decide_true, decide_false, Int.reduceEq, Int.reduceLT, Int.reduceLE, List.length_cons, List.length_nil, Nat.reduceAdd, Nat.reduceLT, Nat.reduceLeDiff, List.getD_cons_zero, List.getD_cons_succ, Int.cast_ofNat_Int, Int.reduceToNat, Int.reduceSub, Int.reduceAdd, Int.reduceNeg, Int.toNat_natCast, Int.natCast_nonneg, List.getElem?_cons_zero, List.getElem?_cons_succ, List.cons_append, List.set_cons_zero, List.set_cons_succ, List.take_zero, List.take_succ_cons, List.drop_zero, List.drop_succ_cons, List.drop_nil, List.take_nil, List.all_cons, List.all_nil, Nat.zero_add, Nat.zero_lt_one, Nat.le_refl]
  refine s_cond (b := decide ((i : Int) < (l.length : Int)) && decide ((i : Int) < 60)) (by simp only [h0, h3, go_sem, Nat.reduceEqDiff, reduceIte, Bool.false_eq_true, Bool.not_true, Bool.not_false, Bool.and_true, Bool.true_and, Bool.or_false, Bool.false_or, Bool.and_false, Bool.false_and, Bool.or_true, Bool.true_or, true_and, and_true, eq_self, not_false_eq_true, List.map_cons, List.map_nil, List.nil_append, List.append_nil, decide_true, decide_false, Int.reduceEq, Int.reduceLT, Int.reduceLE, List.length_cons, List.length_nil, Nat.reduceAdd, Nat.reduceLT, Nat.reduceLeDiff, List.getD_cons_zero, List.getD_cons_succ, Int.cast_ofNat_Int, Int.reduceToNat, Int.reduceSub, Int.reduceAdd, Int.reduceNeg, Int.toNat_natCast, Int.natCast_nonneg, List.getElem?_cons_zero, List.getElem?_cons_succ, List.cons_append, List.set_cons_zero, List.set_cons_succ, List.take_zero, List.take_succ_cons, List.drop_zero, List.drop_succ_cons, List.drop_nil, List.take_nil, List.all_cons, List.all_nil, Nat.zero_add, Nat.zero_lt_one, Nat.le_refl]; try rfl) ?_ ?_ <;> intro hb <;> simp only [hb, h0, h3, go_sem, Nat.reduceEqDiff, reduceIte, Bool.false_eq_true, Bool.not_true, Bool.not_false, Bool.and_true, Bool.true_and, Bool.or_false, Bool.false_or, Bool.and_false, Bool.false_and, Bool.or_true, Bool.true_or, true_and, and_true, eq_self, not_false_eq_true, List.map_cons, List.map_nil, List.nil_append, List.append_nil, decide_true, decide_false, Int.reduceEq, Int.reduceLT, Int.reduceLE, List.length_cons, List.length_nil, Nat.reduceAdd, Nat.reduceLT, Nat.reduceLeDiff, List.getD_cons_zero, List.getD_cons_succ, Int.cast_ofNat_Int, Int.reduceToNat, Int.reduceSub, Int.reduceAdd, Int.reduceNeg, Int.toNat_natCast, Int.natCast_nonneg, List.getElem?_cons_zero, List.getElem?_cons_succ, List.cons_append, List.set_cons_zero, List.set_cons_succ, List.take_zero, List.take_succ_cons, List.drop_zero, List.drop_succ_cons, List.drop_nil, List.take_nil, List.all_cons, List.all_nil, Nat.zero_add, Nat.zero_lt_one, Nat.le_refl]
  · rw [Bool.and_eq_true, decide_eq_true_eq, decide_eq_true_eq] at hb
    have hi' : i < l.length := by omega
    have hsr := strRows_get hi'
    have hs : (l.getD i []).length ≤ 9223372036854775807 := hll _ (by rw [List.getD_eq_getElem?_getD, List.getElem?_eq_getElem hi']; exact List.getElem_mem _)
    try simp only [h0, h3, strRows_len, rows_strs, hsr, go_sem, Nat.reduceEqDiff, reduceIte, Bool.false_eq_true, Bool.not_true, Bool.not_false, Bool.and_true, Bool.true_and, Bool.or_false, Bool.false_or, Bool.and_false, Bool.false_and, Bool.or_true, Bool.true_or, true_and, and_true, eq_self, not_false_eq_true, List.map_cons, List.map_nil, List.nil_append, List.append_nil, decide_true, decide_false, Int.reduceEq, Int.reduceLT, Int.reduceLE, List.length_cons, List.length_nil, Nat.reduceAdd, Nat.reduceLT, Nat.reduceLeDiff, List.getD_cons_zero, List.getD_cons_succ, Int.cast_ofNat_Int, Int.reduceToNat, Int.reduceSub, Int.reduceAdd, Int.reduceNeg, Int.toNat_natCast, Int.natCast_nonneg, List.getElem?_cons_zero, List.getElem?_cons_succ, List.cons_append, List.set_cons_zero, List.set_cons_succ, List.take_zero, List.take_succ_cons, List.drop_zero, List.drop_succ_cons, List.drop_nil, List.take_nil, List.all_cons, List.all_nil, Nat.zero_add, Nat.zero_lt_one, Nat.le_refl]
    refine ⟨by omega, hi', ?_⟩
    refine o_pcall (args' := [.str (l.getD i [])]) rfl (dagName_pure hP hm _ hs) (fun m => rfl) ?_
    try simp only [h0, h3, strRows_len, rows_strs, hsr, go_sem, Nat.reduceEqDiff, reduceIte, Bool.false_eq_true, Bool.not_true, Bool.not_false, Bool.and_true, Bool.true_and, Bool.or_false, Bool.false_or, Bool.and_false, Bool.false_and, Bool.or_true, Bool.true_or, true_and, and_true, eq_self, not_false_eq_true, List.map_cons, List.map_nil, List.nil_append, List.append_nil, decide_true, decide_false, Int.reduceEq, Int.reduceLT, Int.reduceLE, List.length_cons, List.length_nil, Nat.reduceAdd, Nat.reduceLT, Nat.reduceLeDiff, List.getD_cons_zero, List.getD_cons_succ, Int.cast_ofNat_Int, Int.reduceToNat, Int.reduceSub, Int.reduceAdd, Int.reduceNeg, Int.toNat_natCast, Int.natCast_nonneg, List.getElem?_cons_zero, List.getElem?_cons_succ, List.cons_append, List.set_cons_zero, List.set_cons_succ, List.take_zero, List.take_succ_cons, List.drop_zero, List.drop_succ_cons, List.drop_nil, List.take_nil, List.all_cons, List.all_nil, Nat.zero_add, Nat.zero_lt_one, Nat.le_refl]
    refine ⟨by omega, hi', ?_⟩
    refine o_pcall (args' := [.str (l.getD i [])]) rfl (refName_pure hP _ hs) (fun m => rfl) ?_
    try simp only [h0, h3, strRows_len, rows_strs, hsr, go_sem, Nat.reduceEqDiff, reduceIte, Bool.false_eq_true, Bool.not_true, Bool.not_false, Bool.and_true, Bool.true_and, Bool.or_false, Bool.false_or, Bool.and_false, Bool.false_and, Bool.or_true, Bool.true_or, true_and, and_true, eq_self, not_false_eq_true, List.map_cons, List.map_nil, List.nil_append, List.append_nil, decide_true, decide_false, Int.reduceEq, Int.reduceLT, Int.reduceLE, List.length_cons, List.length_nil, Nat.reduceAdd, Nat.reduceLT, Nat.reduceLeDiff, List.getD_cons_zero, List.getD_cons_succ, Int.cast_ofNat_Int, Int.reduceToNat, Int.reduceSub, Int.reduceAdd, Int.reduceNeg, Int.toNat_natCast, Int.natCast_nonneg, List.getElem?_cons_zero, List.getElem?_cons_succ, List.cons_append, List.set_cons_zero, List.set_cons_succ, List.take_zero, List.take_succ_cons, List.drop_zero, List.drop_succ_cons, List.drop_nil, List.take_nil, List.all_cons, List.all_nil, Nat.zero_add, Nat.zero_lt_one, Nat.le_refl]
    refine ⟨by omega, hi', ?_⟩
    refine o_pcall (args' := [.str (l.getD i [])]) rfl (dagFlow_pure hP hm _ hs) (fun m => rfl) ?_
    try simp only [h0, h3, strRows_len, rows_strs, hsr, go_sem, Nat.reduceEqDiff, reduceIte, Bool.false_eq_true, Bool.not_true, Bool.not_false, Bool.and_true, Bool.true_and, Bool.or_false, Bool.false_or, Bool.and_false, Bool.false_and, Bool.or_true, Bool.true_or, true_and, and_true, eq_self, not_false_eq_true, List.map_cons, List.map_nil, List.nil_append, List.append_nil, decide_true, decide_false, Int.reduceEq, Int.reduceLT, Int.reduceLE, List.length_cons, List.length_nil, Nat.reduceAdd, Nat.reduceLT, Nat.reduceLeDiff, List.getD_cons_zero, List.getD_cons_succ, Int.cast_ofNat_Int, Int.reduceToNat, Int.reduceSub, Int.reduceAdd, Int.reduceNeg, Int.toNat_natCast, Int.natCast_nonneg, List.getElem?_cons_zero, List.getElem?_cons_succ, List.cons_append, List.set_cons_zero, List.set_cons_succ, List.take_zero, List.take_succ_cons, List.drop_zero, List.drop_succ_cons, List.drop_nil, List.take_nil, List.all_cons, List.all_nil, Nat.zero_add, Nat.zero_lt_one, Nat.le_refl]
    refine ⟨by omega, hi', ?_⟩
    refine o_pcall (args' := [.str (l.getD i [])]) rfl (refFlow_pure hP _ hs) (fun m => rfl) ?_
    try simp only [h0, h3, strRows_len, rows_strs, hsr, go_sem, Nat.reduceEqDiff, reduceIte, Bool.false_eq_true, Bool.not_true, Bool.not_false, Bool.and_true, Bool.true_and, Bool.or_false, Bool.false_or, Bool.and_false, Bool.false_and, Bool.or_true, Bool.true_or, true_and, and_true, eq_self, not_false_eq_true, List.map_cons, List.map_nil, List.nil_append, List.append_nil, decide_true, decide_false, Int.reduceEq, Int.reduceLT, Int.reduceLE, List.length_cons, List.length_nil, Nat.reduceAdd, Nat.reduceLT, Nat.reduceLeDiff, List.getD_cons_zero, List.getD_cons_succ, Int.cast_ofNat_Int, Int.reduceToNat, Int.reduceSub, Int.reduceAdd, Int.reduceNeg, Int.toNat_natCast, Int.natCast_nonneg, List.getElem?_cons_zero, List.getElem?_cons_succ, List.cons_append, List.set_cons_zero, List.set_cons_succ, List.take_zero, List.take_succ_cons, List.drop_zero, List.drop_succ_cons, List.drop_nil, List.take_nil, List.all_cons, List.all_nil, Nat.zero_add, Nat.zero_lt_one, Nat.le_refl]
    refine ⟨l.length - (i + 1), by omega, i + 1, by omega, rfl, by rw [wrap64 (by omega) (by omega)]; rfl⟩
  · try simp only [h0, h3, go_sem, Nat.reduceEqDiff, reduceIte, Bool.false_eq_true, Bool.not_true, Bool.not_false, Bool.and_true, Bool.true_and, Bool.or_false, Bool.false_or, Bool.and_false, Bool.false_and, Bool.or_true, Bool.true_or, true_and, and_true, eq_self, not_false_eq_true, List.map_cons, List.map_nil, List.nil_append, List.append_nil, decide_true, decide_false, Int.reduceEq, Int.reduceLT, Int.reduceLE, List.length_cons, List.length_nil, Nat.reduceAdd, Nat.reduceLT, Nat.reduceLeDiff, List.getD_cons_zero, List.getD_cons_succ, Int.cast_ofNat_Int, Int.reduceToNat, Int.reduceSub, Int.reduceAdd, Int.reduceNeg, Int.toNat_natCast, Int.natCast_nonneg, List.getElem?_cons_zero, List.getElem?_cons_succ, List.cons_append, List.set_cons_zero, List.set_cons_succ, List.take_zero, List.take_succ_cons, List.drop_zero, List.drop_succ_cons, List.drop_nil, List.take_nil, List.all_cons, List.all_nil, Nat.zero_add, Nat.zero_lt_one, Nat.le_refl]
    refine xcall_pure (args' := []) rfl (wakes_pure hP) rfl ?_
    try simp only [h0, h3, go_sem, Nat.reduceEqDiff, reduceIte, Bool.false_eq_true, Bool.not_true, Bool.not_false, Bool.and_true, Bool.true_and, Bool.or_false, Bool.false_or, Bool.and_false, Bool.false_and, Bool.or_true, Bool.true_or, true_and, and_true, eq_self, not_false_eq_true, List.map_cons, List.map_nil, List.nil_append, List.append_nil, decide_true, decide_false, Int.reduceEq, Int.reduceLT, Int.reduceLE, List.length_cons, List.length_nil, Nat.reduceAdd, Nat.reduceLT, Nat.reduceLeDiff, List.getD_cons_zero, List.getD_cons_succ, Int.cast_ofNat_Int, Int.reduceToNat, Int.reduceSub, Int.reduceAdd, Int.reduceNeg, Int.toNat_natCast, Int.natCast_nonneg, List.getElem?_cons_zero, List.getElem?_cons_succ, List.cons_append, List.set_cons_zero, List.set_cons_succ, List.take_zero, List.take_succ_cons, List.drop_zero, List.drop_succ_cons, List.drop_nil, List.take_nil, List.all_cons, List.all_nil, Nat.zero_add, Nat.zero_lt_one, Nat.le_refl]
    rfl
end
end Go.X.TrydW

