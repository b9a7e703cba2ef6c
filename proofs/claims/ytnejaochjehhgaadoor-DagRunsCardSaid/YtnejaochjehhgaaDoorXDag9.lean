import Derived.Test.YtnejaochjehhgaaDoorXDag8
set_option linter.unusedVariables false
set_option linter.unusedSimpArgs false
set_option linter.unusedSectionVars false
open Go Go.X Go.Proofs
set_option maxRecDepth 100000
set_option maxHeartbeats 4000000
set_option linter.unusedSimpArgs false
set_option linter.unusedVariables false
namespace Go.X.TrydW
/- "tiller/dag.Check" params { toList := [28] } results { toList := [Go.ResultVar.tmp 2, Go.ResultVar.tmp 3] } -/
def x13 : XC :=
 (.seq
  (.ops [
    ⟨(some 1), (.box (.t 0)), none⟩,
    ⟨(some 2), (.mov (.c (.int .i64 0))), none⟩,
    ⟨(some 3), (.mov (.c (.int .i64 0))), none⟩])
  (.seq
   (.seq
    (.ops [
      ⟨(some 13), (.fldA 0 (.t 1)), none⟩,
      ⟨(some 14), (.load1 (.t 13)), none⟩,
      ⟨(some 15), (.call (.f 7) [(.t 14)]), none⟩,
      ⟨(some 16), (.un .not (.t 15)), none⟩])
    (.cond (.t 16)
     (.seq
      (.ops [
        ⟨(some 2), (.mov (.c (.int .i64 (-1)))), none⟩,
        ⟨(some 3), (.mov (.c (.int .i64 17))), none⟩])
      .ret)
     .skip))
   (.seq
    (.seq
     (.ops [
       ⟨(some 17), (.fldA 1 (.t 1)), none⟩,
       ⟨(some 18), (.load1 (.t 17)), none⟩,
       ⟨(some 19), (.len (.t 18)), none⟩,
       ⟨(some 20), (.bin .eql (.t 19) (.c (.int .i64 0))), none⟩,
       ⟨(some 21), (.mov (.t 20)), none⟩,
       ⟨(some 22), (.fldA 1 (.t 1)), (some (21, false))⟩,
       ⟨(some 23), (.load1 (.t 22)), (some (21, false))⟩,
       ⟨(some 24), (.len (.t 23)), (some (21, false))⟩,
       ⟨(some 25), (.bin .gtr (.t 24) (.c (.int .i64 32))), (some (21, false))⟩,
       ⟨(some 26), (.pick (.t 21) (.c (.bool true)) (.t 25)), none⟩])
     (.cond (.t 26)
      (.seq
       (.ops [
         ⟨(some 2), (.mov (.c (.int .i64 (-1)))), none⟩,
         ⟨(some 3), (.mov (.c (.int .i64 10))), none⟩])
       .ret)
      .skip))
    (.seq
     (.seq
      (.ops [
        ⟨(some 27), (.fldA 1 (.t 1)), none⟩,
        ⟨(some 28), (.load1 (.t 27)), none⟩,
        ⟨(some 29), (.len (.t 28)), none⟩,
        ⟨(some 30), (.mov (.c (.int .i64 0))), none⟩])
      (.block 0
       (.loop
        (.seq
         (.ops [
           ⟨(some 31), (.bin .lss (.t 30) (.t 29)), none⟩])
         (.seq
          (.cond (.t 31)
           .skip
           (.exit 0))
          (.seq
           (.block 1
            (.seq
             (.ops [
               ⟨(some 32), (.mov (.t 30)), none⟩,
               ⟨(some 33), (.idxS 7 (.t 28) (.t 30)), none⟩,
               ⟨(some 34), (.loadN 7 (.t 33)), none⟩,
               ⟨(some 5), (.alloc [(.str []), (.int .i64 0), (.str []), (.str []), (.int .i64 0), (.int .i64 0), .nsl]), none⟩,
               ⟨(some 4), (.mov (.t 32)), none⟩,
               ⟨none, (.store 7 (.t 5) (.t 34)), none⟩])
             (.seq
              (.seq
               (.ops [
                 ⟨(some 35), (.loadN 2 (.t 1)), none⟩,
                 ⟨(some 36), (.mov (.t 4)), none⟩,
                 ⟨(some 37), (.call (.f 25) [(.t 35), (.t 36)]), none⟩,
                 ⟨(some 6), (.mov (.t 37)), none⟩])
               (.seq
                (.ops [
                  ⟨(some 38), (.mov (.t 6)), none⟩,
                  ⟨(some 39), (.bin .neq (.t 38) (.c (.int .i64 0))), none⟩])
                (.cond (.t 39)
                 (.seq
                  (.ops [
                    ⟨(some 40), (.mov (.t 4)), none⟩,
                    ⟨(some 41), (.mov (.t 6)), none⟩,
                    ⟨(some 2), (.mov (.t 40)), none⟩,
                    ⟨(some 3), (.mov (.t 41)), none⟩])
                  .ret)
                 .skip)))
              (.seq
               (.ops [
                 ⟨(some 42), (.loadN 7 (.t 5)), none⟩,
                 ⟨(some 43), (.call (.f 26) [(.t 42)]), none⟩,
                 ⟨(some 44), (.un .not (.t 43)), none⟩])
               (.cond (.t 44)
                (.seq
                 (.ops [
                   ⟨(some 45), (.mov (.t 4)), none⟩,
                   ⟨(some 2), (.mov (.t 45)), none⟩,
                   ⟨(some 3), (.mov (.c (.int .i64 1))), none⟩])
                 .ret)
                .skip)))))
           (.ops [
             ⟨(some 46), (.bin .add (.t 30) (.c (.int .i64 1))), none⟩,
             ⟨(some 30), (.mov (.t 46)), none⟩])))))))
     (.seq
      (.seq
       (.ops [
         ⟨(some 47), (.fldA 1 (.t 1)), none⟩,
         ⟨(some 48), (.load1 (.t 47)), none⟩,
         ⟨(some 49), (.len (.t 48)), none⟩,
         ⟨(some 50), (.mov (.c (.int .i64 0))), none⟩])
       (.block 2
        (.loop
         (.seq
          (.ops [
            ⟨(some 51), (.bin .lss (.t 50) (.t 49)), none⟩])
          (.seq
           (.cond (.t 51)
            .skip
            (.exit 2))
           (.seq
            (.block 3
             (.seq
              (.ops [
                ⟨(some 52), (.mov (.t 50)), none⟩,
                ⟨(some 53), (.idxS 7 (.t 48) (.t 50)), none⟩,
                ⟨(some 54), (.loadN 7 (.t 53)), none⟩,
                ⟨(some 8), (.alloc [(.str []), (.int .i64 0), (.str []), (.str []), (.int .i64 0), (.int .i64 0), .nsl]), none⟩,
                ⟨(some 7), (.mov (.t 52)), none⟩,
                ⟨none, (.store 7 (.t 8) (.t 54)), none⟩])
              (.seq
               (.seq
                (.ops [
                  ⟨(some 55), (.fldA 6 (.t 8)), none⟩,
                  ⟨(some 56), (.load1 (.t 55)), none⟩,
                  ⟨(some 57), (.mkfn (.func 28) [] [(.t 1)]), none⟩,
                  ⟨(some 58), (.call (.f 27) [(.t 56), (.t 57)]), none⟩])
                (.cond (.t 58)
                 (.seq
                  (.ops [
                    ⟨(some 59), (.mov (.t 7)), none⟩,
                    ⟨(some 2), (.mov (.t 59)), none⟩,
                    ⟨(some 3), (.mov (.c (.int .i64 6))), none⟩])
                  .ret)
                 .skip))
               (.seq
                (.ops [
                  ⟨(some 60), (.fldA 6 (.t 8)), none⟩,
                  ⟨(some 61), (.load1 (.t 60)), none⟩,
                  ⟨(some 62), (.len (.t 61)), none⟩,
                  ⟨(some 63), (.mov (.c (.int .i64 0))), none⟩])
                (.block 4
                 (.loop
                  (.seq
                   (.ops [
                     ⟨(some 64), (.bin .lss (.t 63) (.t 62)), none⟩])
                   (.seq
                    (.cond (.t 64)
                     .skip
                     (.exit 4))
                    (.seq
                     (.block 5
                      (.seq
                       (.ops [
                         ⟨(some 65), (.mov (.t 63)), none⟩,
                         ⟨(some 66), (.idxS 1 (.t 61) (.t 63)), none⟩,
                         ⟨(some 67), (.load1 (.t 66)), none⟩,
                         ⟨(some 9), (.mov (.t 65)), none⟩,
                         ⟨(some 10), (.mov (.t 67)), none⟩])
                       (.seq
                        (.ops [
                          ⟨(some 68), (.fldA 6 (.t 8)), none⟩,
                          ⟨(some 69), (.load1 (.t 68)), none⟩,
                          ⟨(some 70), (.mov (.t 9)), none⟩,
                          ⟨(some 71), (.slice 1 (.t 69) none (some (.t 70))), none⟩,
                          ⟨(some 72), (.mov (.t 10)), none⟩,
                          ⟨(some 73), (.call (.f 30) [(.t 71), (.t 72)]), none⟩])
                        (.cond (.t 73)
                         (.seq
                          (.ops [
                            ⟨(some 74), (.mov (.t 7)), none⟩,
                            ⟨(some 2), (.mov (.t 74)), none⟩,
                            ⟨(some 3), (.mov (.c (.int .i64 16))), none⟩])
                          .ret)
                         .skip))))
                     (.ops [
                       ⟨(some 75), (.bin .add (.t 63) (.c (.int .i64 1))), none⟩,
                       ⟨(some 63), (.mov (.t 75)), none⟩]))))))))))
            (.ops [
              ⟨(some 76), (.bin .add (.t 50) (.c (.int .i64 1))), none⟩,
              ⟨(some 50), (.mov (.t 76)), none⟩])))))))
      (.seq
       (.seq
        (.ops [
          ⟨(some 78), (.loadN 2 (.t 1)), none⟩,
          ⟨(some 79), (.call (.f 17) [(.t 78)]), none⟩,
          ⟨(some 77), (.mov (.t 79)), none⟩,
          ⟨(some 80), (.ext (.t 77) 0), none⟩,
          ⟨(some 81), (.ext (.t 77) 1), none⟩,
          ⟨(some 11), (.mov (.t 80)), none⟩,
          ⟨(some 12), (.mov (.t 81)), none⟩])
        (.seq
         (.ops [
           ⟨(some 82), (.mov (.t 12)), none⟩,
           ⟨(some 83), (.un .not (.t 82)), none⟩])
         (.cond (.t 83)
          (.seq
           (.ops [
             ⟨(some 2), (.mov (.c (.int .i64 (-1)))), none⟩,
             ⟨(some 3), (.mov (.c (.int .i64 15))), none⟩])
           .ret)
          .skip)))
       (.seq
        (.ops [
          ⟨(some 2), (.mov (.c (.int .i64 (-1)))), none⟩,
          ⟨(some 3), (.mov (.c (.int .i64 0))), none⟩])
        .ret)))))))

section
variable {E : Env}
def DefD.nodeE (d : DefD) (i : Nat) : Int := if d.namedE i = 0 then (if fitsB (d.nodes.getD i default) = true then 0 else 1) else d.namedE i
def twiceB (l : List (List UInt8)) (k : Nat) : Bool := (firstI (fun x => decide (l.getD k [] = x)) (l.take k)).isSome
def DefD.depE (d : DefD) (i : Nat) : Int :=
  if (firstI (fun s => !(d.find s).isSome) (d.nodes.getD i default).after).isSome = true then 6
  else if (firstI (twiceB (d.nodes.getD i default).after) (List.range (d.nodes.getD i default).after.length)).isSome = true then 16 else 0
def DefD.check (d : DefD) : Int × Int :=
  if namedS d.name false 64 = false then (-1, 17)
  else if (decide ((d.nodes.length : Int) = 0) || decide (32 < (d.nodes.length : Int))) = true then (-1, 10)
  else match firstI (fun i => !decide (d.nodeE i = 0)) (List.range d.nodes.length) with
    | some i => (i, d.nodeE i)
    | none => match firstI (fun i => !decide (d.depE i = 0)) (List.range d.nodes.length) with
      | some i => (i, d.depE i)
      | none => if d.order.length = d.nodes.length then (-1, 0) else (-1, 15)

theorem firstI_range {p : Nat → Bool} {n i : Nat} (hi : i < n) (ha : (List.range i).all (fun k => !p k) = true) (hp : p i = true) : firstI p (List.range n) = some i := by
  refine firstI_some (d := 0) (by simpa using hi) ?_ ?_
  · rw [List.take_range, Nat.min_eq_left (by omega)]; exact ha
  · simpa [List.getD_eq_getElem?_getD, hi] using hp
theorem all_range_succ {p : Nat → Bool} {i : Nat} (ha : (List.range i).all p = true) (hp : p i = true) : (List.range (i + 1)).all p = true := by
  rw [List.range_succ, List.all_append, ha]; simpa using hp

theorem check_pure (hP : E.P = Tryd.prog) {m : Int} (hm : E.gl 0 = some [.int .i64 m]) (d : DefD) (hd : d.nodes.length ≤ 1000000) (hok : d.ok) :
    XPure E 13 [d.iv] (.tup [.int .i64 d.check.1, .int .i64 d.check.2]) := by
  refine xpure2 (n := Tryd.f13.ntmps) (c := x13) (t := 2) (t' := 3) (by rw [hP]; rfl) (by rw [hP]; kernel_rfl) (by decide) (Nat.le_of_ble_eq_true rfl) ?_
  generalize hρ : entry _ = ρ
  have h0 : ρ 0 = .agg [.str d.name, .isl (nodeRows d.nodes)] := by rw [← hρ]; rfl
  clear hρ
  unfold x13
  simp only [h0, go_sem, Nat.reduceEqDiff, reduceIte, Bool.false_eq_true, Bool.not_true, Bool.not_false, Bool.and_true, Bool.true_and, Bool.or_false, Bool.false_or, Bool.and_false, Bool.false_and, Bool.or_true, Bool.true_or, true_and, and_true, eq_self, not_false_eq_true, List.map_cons, List.map_nil, List.nil_append, List.append_nil, decide_true, decide_false, Int.reduceEq, Int.reduceLT, Int.reduceLE, List.length_cons, List.length_nil, Nat.reduceAdd, Nat.reduceLT, Nat.reduceLeDiff, List.getD_cons_zero, List.getD_cons_succ, Int.cast_ofNat_Int, Int.reduceToNat, Int.reduceSub, Int.reduceAdd, Int.reduceNeg, Int.toNat_natCast, Int.natCast_nonneg, List.getElem?_cons_zero, List.getElem?_cons_succ, List.cons_append, List.set_cons_zero, List.set_cons_succ, List.take_zero, List.take_succ_cons, List.drop_zero, List.drop_succ_cons, List.drop_nil, List.take_nil, List.all_cons, List.all_nil, Nat.zero_add, Nat.zero_lt_one, Nat.le_refl]
  refine xcall_pure (args' := [.str d.name]) rfl (dagName_pure hP hm _ hok.1) rfl ?_
  try simp only [h0, go_sem, Nat.reduceEqDiff, reduceIte, Bool.false_eq_true, Bool.not_true, Bool.not_false, Bool.and_true, Bool.true_and, Bool.or_false, Bool.false_or, Bool.and_false, Bool.false_and, Bool.or_true, Bool.true_or, true_and, and_true, eq_self, not_false_eq_true, List.map_cons, List.map_nil, List.nil_append, List.append_nil, decide_true, decide_false, Int.reduceEq, Int.reduceLT, Int.reduceLE, List.length_cons, List.length_nil, Nat.reduceAdd, Nat.reduceLT, Nat.reduceLeDiff, List.getD_cons_zero, List.getD_cons_succ, Int.cast_ofNat_Int, Int.reduceToNat, Int.reduceSub, Int.reduceAdd, Int.reduceNeg, Int.toNat_natCast, Int.natCast_nonneg, List.getElem?_cons_zero, List.getElem?_cons_succ, List.cons_append, List.set_cons_zero, List.set_cons_succ, List.take_zero, List.take_succ_cons, List.drop_zero, List.drop_succ_cons, List.drop_nil, List.take_nil, List.all_cons, List.all_nil, Nat.zero_add, Nat.zero_lt_one, Nat.le_refl]
  refine s_cond (b := !namedS d.name false 64) (by simp only [go_sem, Nat.reduceEqDiff, reduceIte, Bool.false_eq_true, Bool.not_true, Bool.not_false, Bool.and_true, Bool.true_and, Bool.or_false, Bool.false_or, Bool.and_false, Bool.false_and, Bool.or_true, Bool.true_or, true_and, and_true, eq_self, not_false_eq_true, List.map_cons, List.map_nil, List.nil_append, List.append_nil, decide_true, decide_false, Int.reduceEq, Int.reduceLT, Int.reduceLE, List.length_cons, List.length_nil, Nat.reduceAdd, Nat.reduceLT, Nat.reduceLeDiff, List.getD_cons_zero, List.getD_cons_succ, Int.cast_ofNat_Int, Int.reduceToNat, Int.reduceSub, Int.reduceAdd, Int.reduceNeg, Int.toNat_natCast, Int.natCast_nonneg, List.getElem?_cons_zero, List.getElem?_cons_succ, List.cons_append, List.set_cons_zero, List.set_cons_succ, List.take_zero, List.take_succ_cons, List.drop_zero, List.drop_succ_cons, List.drop_nil, List.take_nil, List.all_cons, List.all_nil, Nat.zero_add, Nat.zero_lt_one, Nat.le_refl]; try rfl) ?_ ?_ <;> intro hc0 <;> simp only [h0, nodeRows_len, go_sem, Nat.reduceEqDiff, reduceIte, Bool.false_eq_true, Bool.not_true, Bool.not_false, Bool.and_true, Bool.true_and, Bool.or_false, Bool.false_or, Bool.and_false, Bool.false_and, Bool.or_true, Bool.true_or, true_and, and_true, eq_self, not_false_eq_true, List.map_cons, List.map_nil, List.nil_append, List.append_nil, decide_true, decide_false, Int.reduceEq, Int.reduceLT, Int.reduceLE, List.length_cons, List.length_nil, Nat.reduceAdd, Nat.reduceLT, Nat.reduceLeDiff, List.getD_cons_zero, List.getD_cons_succ, Int.cast_ofNat_Int, Int.reduceToNat, Int.reduceSub, Int.reduceAdd, Int.reduceNeg, Int.toNat_natCast, Int.natCast_nonneg, List.getElem?_cons_zero, List.getElem?_cons_succ, List.cons_append, List.set_cons_zero, List.set_cons_succ, List.take_zero, List.take_succ_cons, List.drop_zero, List.drop_succ_cons, List.drop_nil, List.take_nil, List.all_cons, List.all_nil, Nat.zero_add, Nat.zero_lt_one, Nat.le_refl]
  · have hf : d.check = (-1, 17) := by rw [DefD.check, if_pos (by simpa using hc0)]
    rw [hf]; exact ⟨rfl, rfl⟩
  refine s_mg (by simp only [h0, nodeRows_len, go_sem, Nat.reduceEqDiff, reduceIte, Bool.false_eq_true, Bool.not_true, Bool.not_false, Bool.and_true, Bool.true_and, Bool.or_false, Bool.false_or, Bool.and_false, Bool.false_and, Bool.or_true, Bool.true_or, true_and, and_true, eq_self, not_false_eq_true, List.map_cons, List.map_nil, List.nil_append, List.append_nil, decide_true, decide_false, Int.reduceEq, Int.reduceLT, Int.reduceLE, List.length_cons, List.length_nil, Nat.reduceAdd, Nat.reduceLT, Nat.reduceLeDiff, List.getD_cons_zero, List.getD_cons_succ, Int.cast_ofNat_Int, Int.reduceToNat, Int.reduceSub, Int.reduceAdd, Int.reduceNeg, Int.toNat_natCast, Int.natCast_nonneg, List.getElem?_cons_zero, List.getElem?_cons_succ, List.cons_append, List.set_cons_zero, List.set_cons_succ, List.take_zero, List.take_succ_cons, List.drop_zero, List.drop_succ_cons, List.drop_nil, List.take_nil, List.all_cons, List.all_nil, Nat.zero_add, Nat.zero_lt_one, Nat.le_refl]; try rfl) ?_; simp only [cut_g, cut_t, cut_none, cut_out, memN_cons, memN_nil, Nat.reduceEqDiff, reduceIte, List.nil_append, List.cons_append, not_false_eq_true]; refine ex_merge rfl (by simp only [h0, nodeRows_len, go_sem, Nat.reduceEqDiff, reduceIte, Bool.false_eq_true, Bool.not_true, Bool.not_false, Bool.and_true, Bool.true_and, Bool.or_false, Bool.false_or, Bool.and_false, Bool.false_and, Bool.or_true, Bool.true_or, true_and, and_true, eq_self, not_false_eq_true, List.map_cons, List.map_nil, List.nil_append, List.append_nil, decide_true, decide_false, Int.reduceEq, Int.reduceLT, Int.reduceLE, List.length_cons, List.length_nil, Nat.reduceAdd, Nat.reduceLT, Nat.reduceLeDiff, List.getD_cons_zero, List.getD_cons_succ, Int.cast_ofNat_Int, Int.reduceToNat, Int.reduceSub, Int.reduceAdd, Int.reduceNeg, Int.toNat_natCast, Int.natCast_nonneg, List.getElem?_cons_zero, List.getElem?_cons_succ, List.cons_append, List.set_cons_zero, List.set_cons_succ, List.take_zero, List.take_succ_cons, List.drop_zero, List.drop_succ_cons, List.drop_nil, List.take_nil, List.all_cons, List.all_nil, Nat.zero_add, Nat.zero_lt_one, Nat.le_refl]) (by intro hb; simp only [hb, h0, nodeRows_len, go_sem, Nat.reduceEqDiff, reduceIte, Bool.false_eq_true, Bool.not_true, Bool.not_false, Bool.and_true, Bool.true_and, Bool.or_false, Bool.false_or, Bool.and_false, Bool.false_and, Bool.or_true, Bool.true_or, true_and, and_true, eq_self, not_false_eq_true, List.map_cons, List.map_nil, List.nil_append, List.append_nil, decide_true, decide_false, Int.reduceEq, Int.reduceLT, Int.reduceLE, List.length_cons, List.length_nil, Nat.reduceAdd, Nat.reduceLT, Nat.reduceLeDiff, List.getD_cons_zero, List.getD_cons_succ, Int.cast_ofNat_Int, Int.reduceToNat, Int.reduceSub, Int.reduceAdd, Int.reduceNeg, Int.toNat_natCast, Int.natCast_nonneg, List.getElem?_cons_zero, List.getElem?_cons_succ, List.cons_append, List.set_cons_zero, List.set_cons_succ, List.take_zero, List.take_succ_cons, List.drop_zero, List.drop_succ_cons, List.drop_nil, List.take_nil, List.all_cons, List.all_nil, Nat.zero_add, Nat.zero_lt_one, Nat.le_refl]; first | exact rfl | exact ⟨rfl, rfl⟩) (fun vs => ?_); simp only [h0, nodeRows_len, go_sem, Nat.reduceEqDiff, reduceIte, Bool.false_eq_true, Bool.not_true, Bool.not_false, Bool.and_true, Bool.true_and, Bool.or_false, Bool.false_or, Bool.and_false, Bool.false_and, Bool.or_true, Bool.true_or, true_and, and_true, eq_self, not_false_eq_true, List.map_cons, List.map_nil, List.nil_append, List.append_nil, decide_true, decide_false, Int.reduceEq, Int.reduceLT, Int.reduceLE, List.length_cons, List.length_nil, Nat.reduceAdd, Nat.reduceLT, Nat.reduceLeDiff, List.getD_cons_zero, List.getD_cons_succ, Int.cast_ofNat_Int, Int.reduceToNat, Int.reduceSub, Int.reduceAdd, Int.reduceNeg, Int.toNat_natCast, Int.natCast_nonneg, List.getElem?_cons_zero, List.getElem?_cons_succ, List.cons_append, List.set_cons_zero, List.set_cons_succ, List.take_zero, List.take_succ_cons, List.drop_zero, List.drop_succ_cons, List.drop_nil, List.take_nil, List.all_cons, List.all_nil, Nat.zero_add, Nat.zero_lt_one, Nat.le_refl]
  refine s_cond (b := decide ((d.nodes.length : Int) = 0) || decide (32 < (d.nodes.length : Int))) (by simp only [go_sem, Nat.reduceEqDiff, reduceIte, Bool.false_eq_true, Bool.not_true, Bool.not_false, Bool.and_true, Bool.true_and, Bool.or_false, Bool.false_or, Bool.and_false, Bool.false_and, Bool.or_true, Bool.true_or, true_and, and_true, eq_self, not_false_eq_true, List.map_cons, List.map_nil, List.nil_append, List.append_nil, decide_true, decide_false, Int.reduceEq, Int.reduceLT, Int.reduceLE, List.length_cons, List.length_nil, Nat.reduceAdd, Nat.reduceLT, Nat.reduceLeDiff, List.getD_cons_zero, List.getD_cons_succ, Int.cast_ofNat_Int, Int.reduceToNat, Int.reduceSub, Int.reduceAdd, Int.reduceNeg, Int.toNat_natCast, Int.natCast_nonneg, List.getElem?_cons_zero, List.getElem?_cons_succ, List.cons_append, List.set_cons_zero, List.set_cons_succ, List.take_zero, List.take_succ_cons, List.drop_zero, List.drop_succ_cons, List.drop_nil, List.take_nil, List.all_cons, List.all_nil, Nat.zero_add, Nat.zero_lt_one, Nat.le_refl]; try rfl) ?_ ?_ <;> intro hc1 <;> simp only [h0, nodeRows_len, go_sem, Nat.reduceEqDiff, reduceIte, Bool.false_eq_true, Bool.not_true, Bool.not_false, Bool.and_true, Bool.true_and, Bool.or_false, Bool.false_or, Bool.and_false, Bool.false_and, Bool.or_true, Bool.true_or, true_and, and_true, eq_self, not_false_eq_true, List.map_cons, List.map_nil, List.nil_append, List.append_nil, decide_true, decide_false, Int.reduceEq, Int.reduceLT, Int.reduceLE, List.length_cons, List.length_nil, Nat.reduceAdd, Nat.reduceLT, Nat.reduceLeDiff, List.getD_cons_zero, List.getD_cons_succ, Int.cast_ofNat_Int, Int.reduceToNat, Int.reduceSub, Int.reduceAdd, Int.reduceNeg, Int.toNat_natCast, Int.natCast_nonneg, List.getElem?_cons_zero, List.getElem?_cons_succ, List.cons_append, List.set_cons_zero, List.set_cons_succ, List.take_zero, List.take_succ_cons, List.drop_zero, List.drop_succ_cons, List.drop_nil, List.take_nil, List.all_cons, List.all_nil, Nat.zero_add, Nat.zero_lt_one, Nat.le_refl]
  · have hf : d.check = (-1, 10) := by rw [DefD.check, if_neg (by simpa using hc0), if_pos hc1]
    rw [hf]; exact ⟨rfl, rfl⟩
  have hcheck : d.check = match firstI (fun i => !decide (d.nodeE i = 0)) (List.range d.nodes.length) with
    | some i => ((i : Int), d.nodeE i)
    | none => match firstI (fun i => !decide (d.depE i = 0)) (List.range d.nodes.length) with
      | some i => ((i : Int), d.depE i)
      | none => if d.order.length = d.nodes.length then (-1, 0) else (-1, 15) := by
    rw [DefD.check, if_neg (by simpa using hc0), if_neg (by rw [hc1]; decide)]
  refine s_loop (fun n' ρ L => ∃ (i : Nat) (J : List Blk), i ≤ d.nodes.length ∧ n' = d.nodes.length - i ∧ L = .cells 2 [[.str d.name, .isl (nodeRows d.nodes)]] :: J ∧
      ρ 1 = .ptr 0 0 0 ∧ ρ 28 = .isl (nodeRows d.nodes) ∧ ρ 29 = .int .i64 d.nodes.length ∧ ρ 30 = .int .i64 i ∧ (List.range i).all (fun k => !!decide (d.nodeE k = 0)) = true)
    ⟨0, [], Nat.zero_le _, rfl, rfl, by simp only [go_sem, Nat.reduceEqDiff, reduceIte, Bool.false_eq_true, Bool.not_true, Bool.not_false, Bool.and_true, Bool.true_and, Bool.or_false, Bool.false_or, Bool.and_false, Bool.false_and, Bool.or_true, Bool.true_or, true_and, and_true, eq_self, not_false_eq_true, List.map_cons, List.map_nil, List.nil_append, List.append_nil, decide_true, decide_false, Int.reduceEq, Int.reduceLT, Int.reduceLE, List.length_cons, List.length_nil, Nat.reduceAdd, Nat.reduceLT, Nat.reduceLeDiff, List.getD_cons_zero, List.getD_cons_succ, Int.cast_ofNat_Int, Int.reduceToNat, Int.reduceSub, Int.reduceAdd, Int.reduceNeg, Int.toNat_natCast, Int.natCast_nonneg, List.getElem?_cons_zero, List.getElem?_cons_succ, List.cons_append, List.set_cons_zero, List.set_cons_succ, List.take_zero, List.take_succ_cons, List.drop_zero, List.drop_succ_cons, List.drop_nil, List.take_nil, List.all_cons, List.all_nil, Nat.zero_add, Nat.zero_lt_one, Nat.le_refl], by simp only [go_sem, Nat.reduceEqDiff, reduceIte, Bool.false_eq_true, Bool.not_true, Bool.not_false, Bool.and_true, Bool.true_and, Bool.or_false, Bool.false_or, Bool.and_false, Bool.false_and, Bool.or_true, Bool.true_or, true_and, and_true, eq_self, not_false_eq_true, List.map_cons, List.map_nil, List.nil_append, List.append_nil, decide_true, decide_false, Int.reduceEq, Int.reduceLT, Int.reduceLE, List.length_cons, List.length_nil, Nat.reduceAdd, Nat.reduceLT, Nat.reduceLeDiff, List.getD_cons_zero, List.getD_cons_succ, Int.cast_ofNat_Int, Int.reduceToNat, Int.reduceSub, Int.reduceAdd, Int.reduceNeg, Int.toNat_natCast, Int.natCast_nonneg, List.getElem?_cons_zero, List.getElem?_cons_succ, List.cons_append, List.set_cons_zero, List.set_cons_succ, List.take_zero, List.take_succ_cons, List.drop_zero, List.drop_succ_cons, List.drop_nil, List.take_nil, List.all_cons, List.all_nil, Nat.zero_add, Nat.zero_lt_one, Nat.le_refl], by simp only [go_sem, Nat.reduceEqDiff, reduceIte, Bool.false_eq_true, Bool.not_true, Bool.not_false, Bool.and_true, Bool.true_and, Bool.or_false, Bool.false_or, Bool.and_false, Bool.false_and, Bool.or_true, Bool.true_or, true_and, and_true, eq_self, not_false_eq_true, List.map_cons, List.map_nil, List.nil_append, List.append_nil, decide_true, decide_false, Int.reduceEq, Int.reduceLT, Int.reduceLE, List.length_cons, List.length_nil, Nat.reduceAdd, Nat.reduceLT, Nat.reduceLeDiff, List.getD_cons_zero, List.getD_cons_succ, Int.cast_ofNat_Int, Int.reduceToNat, Int.reduceSub, Int.reduceAdd, Int.reduceNeg, Int.toNat_natCast, Int.natCast_nonneg, List.getElem?_cons_zero, List.getElem?_cons_succ, List.cons_append, List.set_cons_zero, List.set_cons_succ, List.take_zero, List.take_succ_cons, List.drop_zero, List.drop_succ_cons, List.drop_nil, List.take_nil, List.all_cons, List.all_nil, Nat.zero_add, Nat.zero_lt_one, Nat.le_refl], by simp only [go_sem, Nat.reduceEqDiff, reduceIte, Bool.false_eq_true, Bool.not_true, Bool.not_false, Bool.and_true, Bool.true_and, Bool.or_false, Bool.false_or, Bool.and_false, Bool.false_and, Bool.or_true, Bool.true_or, true_and, and_true, eq_self, not_false_eq_true, List.map_cons, List.map_nil, List.nil_append, List.append_nil, decide_true, decide_false, Int.reduceEq, Int.reduceLT, Int.reduceLE, List.length_cons, List.length_nil, Nat.reduceAdd, Nat.reduceLT, Nat.reduceLeDiff, List.getD_cons_zero, List.getD_cons_succ, Int.cast_ofNat_Int, Int.reduceToNat, Int.reduceSub, Int.reduceAdd, Int.reduceNeg, Int.toNat_natCast, Int.natCast_nonneg, List.getElem?_cons_zero, List.getElem?_cons_succ, List.cons_append, List.set_cons_zero, List.set_cons_succ, List.take_zero, List.take_succ_cons, List.drop_zero, List.drop_succ_cons, List.drop_nil, List.take_nil, List.all_cons, List.all_nil, Nat.zero_add, Nat.zero_lt_one, Nat.le_refl]; try rfl, rfl⟩ ?_
  clear h0 ρ
  rintro n' ρ L ⟨i, J, hi, rfl, rfl, h1, h28, h29, h30, hall⟩
  simp only [h1, h28, h29, h30, go_sem, Nat.reduceEqDiff, reduceIte, Bool.false_eq_true, Bool.not_true, Bool.not_false, Bool.and_true, Bool.true_and, Bool.or_false, Bool.false_or, Bool.and_false, Bool.false_and, Bool.or_true, Bool.true_or, true_and, and_true, eq_self, not_false_eq_true, List.map_cons, List.map_nil, List.nil_append, List.append_nil, decide_true, decide_false, Int.reduceEq, Int.reduceLT, Int.reduceLE, List.length_cons, List.length_nil, Nat.reduceAdd, Nat.reduceLT, Nat.reduceLeDiff, List.getD_cons_zero, List.getD_cons_succ, Int.cast_ofNat_Int, Int.reduceToNat, Int.reduceSub, Int.reduceAdd, Int.reduceNeg, Int.toNat_natCast, Int.natCast_nonneg, List.getElem?_cons_zero, List.getElem?_cons_succ, List.cons_append, List.set_cons_zero, List.set_cons_succ, List.take_zero, List.take_succ_cons, List.drop_zero, List.drop_succ_cons, List.drop_nil, List.take_nil, List.all_cons, List.all_nil, Nat.zero_add, Nat.zero_lt_one, Nat.le_refl]
  refine s_cond (b := decide _) (by simp only [h1, h28, h29, h30, nodeRows_len, rows_nodes, go_sem, Nat.reduceEqDiff, reduceIte, Bool.false_eq_true, Bool.not_true, Bool.not_false, Bool.and_true, Bool.true_and, Bool.or_false, Bool.false_or, Bool.and_false, Bool.false_and, Bool.or_true, Bool.true_or, true_and, and_true, eq_self, not_false_eq_true, List.map_cons, List.map_nil, List.nil_append, List.append_nil, decide_true, decide_false, Int.reduceEq, Int.reduceLT, Int.reduceLE, List.length_cons, List.length_nil, Nat.reduceAdd, Nat.reduceLT, Nat.reduceLeDiff, List.getD_cons_zero, List.getD_cons_succ, Int.cast_ofNat_Int, Int.reduceToNat, Int.reduceSub, Int.reduceAdd, Int.reduceNeg, Int.toNat_natCast, Int.natCast_nonneg, List.getElem?_cons_zero, List.getElem?_cons_succ, List.cons_append, List.set_cons_zero, List.set_cons_succ, List.take_zero, List.take_succ_cons, List.drop_zero, List.drop_succ_cons, List.drop_nil, List.take_nil, List.all_cons, List.all_nil, Nat.zero_add, Nat.zero_lt_one, Nat.le_refl]; try rfl) ?_ ?_ <;> intro hb <;> simp only [hb, h1, h28, h29, h30, nodeRows_len, rows_nodes, go_sem, Nat.reduceEqDiff, reduceIte, Bool.false_eq_true, Bool.not_true, Bool.not_false, Bool.and_true, Bool.true_and, Bool.or_false, Bool.false_or, Bool.and_false, Bool.false_and, Bool.or_true, Bool.true_or, true_and, and_true, eq_self, not_false_eq_true, List.map_cons, List.map_nil, List.nil_append, List.append_nil, decide_true, decide_false, Int.reduceEq, Int.reduceLT, Int.reduceLE, List.length_cons, List.length_nil, Nat.reduceAdd, Nat.reduceLT, Nat.reduceLeDiff, List.getD_cons_zero, List.getD_cons_succ, Int.cast_ofNat_Int, Int.reduceToNat, Int.reduceSub, Int.reduceAdd, Int.reduceNeg, Int.toNat_natCast, Int.natCast_nonneg, List.getElem?_cons_zero, List.getElem?_cons_succ, List.cons_append, List.set_cons_zero, List.set_cons_succ, List.take_zero, List.take_succ_cons, List.drop_zero, List.drop_succ_cons, List.drop_nil, List.take_nil, List.all_cons, List.all_nil, Nat.zero_add, Nat.zero_lt_one, Nat.le_refl]
  · rw [decide_eq_true_eq] at hb
    have hi' : i < d.nodes.length := by omega
    have hrow := nodeRows_get hi'
    refine ⟨hb, ?_⟩
    simp only [h1, h28, h29, h30, hrow, NodeD.row, go_sem, Nat.reduceEqDiff, reduceIte, Bool.false_eq_true, Bool.not_true, Bool.not_false, Bool.and_true, Bool.true_and, Bool.or_false, Bool.false_or, Bool.and_false, Bool.false_and, Bool.or_true, Bool.true_or, true_and, and_true, eq_self, not_false_eq_true, List.map_cons, List.map_nil, List.nil_append, List.append_nil, decide_true, decide_false, Int.reduceEq, Int.reduceLT, Int.reduceLE, List.length_cons, List.length_nil, Nat.reduceAdd, Nat.reduceLT, Nat.reduceLeDiff, List.getD_cons_zero, List.getD_cons_succ, Int.cast_ofNat_Int, Int.reduceToNat, Int.reduceSub, Int.reduceAdd, Int.reduceNeg, Int.toNat_natCast, Int.natCast_nonneg, List.getElem?_cons_zero, List.getElem?_cons_succ, List.cons_append, List.set_cons_zero, List.set_cons_succ, List.take_zero, List.take_succ_cons, List.drop_zero, List.drop_succ_cons, List.drop_nil, List.take_nil, List.all_cons, List.all_nil, Nat.zero_add, Nat.zero_lt_one, Nat.le_refl]
    refine ⟨hi', ?_⟩
    refine xcall_pure (args' := [d.iv, .int .i64 i]) rfl (dagNamed_pure hP hm d i hi' (by omega) hok) rfl ?_
    try simp only [h1, h28, h29, h30, go_sem, Nat.reduceEqDiff, reduceIte, Bool.false_eq_true, Bool.not_true, Bool.not_false, Bool.and_true, Bool.true_and, Bool.or_false, Bool.false_or, Bool.and_false, Bool.false_and, Bool.or_true, Bool.true_or, true_and, and_true, eq_self, not_false_eq_true, List.map_cons, List.map_nil, List.nil_append, List.append_nil, decide_true, decide_false, Int.reduceEq, Int.reduceLT, Int.reduceLE, List.length_cons, List.length_nil, Nat.reduceAdd, Nat.reduceLT, Nat.reduceLeDiff, List.getD_cons_zero, List.getD_cons_succ, Int.cast_ofNat_Int, Int.reduceToNat, Int.reduceSub, Int.reduceAdd, Int.reduceNeg, Int.toNat_natCast, Int.natCast_nonneg, List.getElem?_cons_zero, List.getElem?_cons_succ, List.cons_append, List.set_cons_zero, List.set_cons_succ, List.take_zero, List.take_succ_cons, List.drop_zero, List.drop_succ_cons, List.drop_nil, List.take_nil, List.all_cons, List.all_nil, Nat.zero_add, Nat.zero_lt_one, Nat.le_refl]
    refine s_cond (b := !decide (d.namedE i = 0)) (by simp only [h1, h28, h29, h30, go_sem, Nat.reduceEqDiff, reduceIte, Bool.false_eq_true, Bool.not_true, Bool.not_false, Bool.and_true, Bool.true_and, Bool.or_false, Bool.false_or, Bool.and_false, Bool.false_and, Bool.or_true, Bool.true_or, true_and, and_true, eq_self, not_false_eq_true, List.map_cons, List.map_nil, List.nil_append, List.append_nil, decide_true, decide_false, Int.reduceEq, Int.reduceLT, Int.reduceLE, List.length_cons, List.length_nil, Nat.reduceAdd, Nat.reduceLT, Nat.reduceLeDiff, List.getD_cons_zero, List.getD_cons_succ, Int.cast_ofNat_Int, Int.reduceToNat, Int.reduceSub, Int.reduceAdd, Int.reduceNeg, Int.toNat_natCast, Int.natCast_nonneg, List.getElem?_cons_zero, List.getElem?_cons_succ, List.cons_append, List.set_cons_zero, List.set_cons_succ, List.take_zero, List.take_succ_cons, List.drop_zero, List.drop_succ_cons, List.drop_nil, List.take_nil, List.all_cons, List.all_nil, Nat.zero_add, Nat.zero_lt_one, Nat.le_refl]; try rfl) ?_ ?_ <;> intro hc2 <;> simp only [h1, h28, h29, h30, go_sem, Nat.reduceEqDiff, reduceIte, Bool.false_eq_true, Bool.not_true, Bool.not_false, Bool.and_true, Bool.true_and, Bool.or_false, Bool.false_or, Bool.and_false, Bool.false_and, Bool.or_true, Bool.true_or, true_and, and_true, eq_self, not_false_eq_true, List.map_cons, List.map_nil, List.nil_append, List.append_nil, decide_true, decide_false, Int.reduceEq, Int.reduceLT, Int.reduceLE, List.length_cons, List.length_nil, Nat.reduceAdd, Nat.reduceLT, Nat.reduceLeDiff, List.getD_cons_zero, List.getD_cons_succ, Int.cast_ofNat_Int, Int.reduceToNat, Int.reduceSub, Int.reduceAdd, Int.reduceNeg, Int.toNat_natCast, Int.natCast_nonneg, List.getElem?_cons_zero, List.getElem?_cons_succ, List.cons_append, List.set_cons_zero, List.set_cons_succ, List.take_zero, List.take_succ_cons, List.drop_zero, List.drop_succ_cons, List.drop_nil, List.take_nil, List.all_cons, List.all_nil, Nat.zero_add, Nat.zero_lt_one, Nat.le_refl]
    · have hne : d.namedE i ≠ 0 := by simpa using hc2
      have hnode : d.nodeE i = d.namedE i := by rw [DefD.nodeE, if_neg hne]
      have hf : d.check = ((i : Int), d.nodeE i) := by rw [hcheck, firstI_range hi' hall (by rw [hnode]; simpa using hne)]
      rw [hf, hnode]; exact ⟨rfl, rfl⟩
    have hz : d.namedE i = 0 := by simpa using hc2
    refine xcall_pure (args' := [.agg (d.nodes.getD i default).row]) rfl (fits_pure hP _) rfl ?_
    try simp only [h1, h28, h29, h30, go_sem, Nat.reduceEqDiff, reduceIte, Bool.false_eq_true, Bool.not_true, Bool.not_false, Bool.and_true, Bool.true_and, Bool.or_false, Bool.false_or, Bool.and_false, Bool.false_and, Bool.or_true, Bool.true_or, true_and, and_true, eq_self, not_false_eq_true, List.map_cons, List.map_nil, List.nil_append, List.append_nil, decide_true, decide_false, Int.reduceEq, Int.reduceLT, Int.reduceLE, List.length_cons, List.length_nil, Nat.reduceAdd, Nat.reduceLT, Nat.reduceLeDiff, List.getD_cons_zero, List.getD_cons_succ, Int.cast_ofNat_Int, Int.reduceToNat, Int.reduceSub, Int.reduceAdd, Int.reduceNeg, Int.toNat_natCast, Int.natCast_nonneg, List.getElem?_cons_zero, List.getElem?_cons_succ, List.cons_append, List.set_cons_zero, List.set_cons_succ, List.take_zero, List.take_succ_cons, List.drop_zero, List.drop_succ_cons, List.drop_nil, List.take_nil, List.all_cons, List.all_nil, Nat.zero_add, Nat.zero_lt_one, Nat.le_refl]
    refine s_cond (b := !fitsB (d.nodes.getD i default)) (by simp only [h1, h28, h29, h30, go_sem, Nat.reduceEqDiff, reduceIte, Bool.false_eq_true, Bool.not_true, Bool.not_false, Bool.and_true, Bool.true_and, Bool.or_false, Bool.false_or, Bool.and_false, Bool.false_and, Bool.or_true, Bool.true_or, true_and, and_true, eq_self, not_false_eq_true, List.map_cons, List.map_nil, List.nil_append, List.append_nil, decide_true, decide_false, Int.reduceEq, Int.reduceLT, Int.reduceLE, List.length_cons, List.length_nil, Nat.reduceAdd, Nat.reduceLT, Nat.reduceLeDiff, List.getD_cons_zero, List.getD_cons_succ, Int.cast_ofNat_Int, Int.reduceToNat, Int.reduceSub, Int.reduceAdd, Int.reduceNeg, Int.toNat_natCast, Int.natCast_nonneg, List.getElem?_cons_zero, List.getElem?_cons_succ, List.cons_append, List.set_cons_zero, List.set_cons_succ, List.take_zero, List.take_succ_cons, List.drop_zero, List.drop_succ_cons, List.drop_nil, List.take_nil, List.all_cons, List.all_nil, Nat.zero_add, Nat.zero_lt_one, Nat.le_refl]; try rfl) ?_ ?_ <;> intro hc3 <;> simp only [h1, h28, h29, h30, go_sem, Nat.reduceEqDiff, reduceIte, Bool.false_eq_true, Bool.not_true, Bool.not_false, Bool.and_true, Bool.true_and, Bool.or_false, Bool.false_or, Bool.and_false, Bool.false_and, Bool.or_true, Bool.true_or, true_and, and_true, eq_self, not_false_eq_true, List.map_cons, List.map_nil, List.nil_append, List.append_nil, decide_true, decide_false, Int.reduceEq, Int.reduceLT, Int.reduceLE, List.length_cons, List.length_nil, Nat.reduceAdd, Nat.reduceLT, Nat.reduceLeDiff, List.getD_cons_zero, List.getD_cons_succ, Int.cast_ofNat_Int, Int.reduceToNat, Int.reduceSub, Int.reduceAdd, Int.reduceNeg, Int.toNat_natCast, Int.natCast_nonneg, List.getElem?_cons_zero, List.getElem?_cons_succ, List.cons_append, List.set_cons_zero, List.set_cons_succ, List.take_zero, List.take_succ_cons, List.drop_zero, List.drop_succ_cons, List.drop_nil, List.take_nil, List.all_cons, List.all_nil, Nat.zero_add, Nat.zero_lt_one, Nat.le_refl]
    · have hnode : d.nodeE i = 1 := by rw [DefD.nodeE, if_pos hz, if_neg (by simpa using hc3)]
      have hf : d.check = ((i : Int), d.nodeE i) := by rw [hcheck, firstI_range hi' hall (by rw [hnode]; rfl)]
      rw [hf, hnode]; exact ⟨rfl, rfl⟩
    have hnode : d.nodeE i = 0 := by rw [DefD.nodeE, if_pos hz, if_pos (by simpa using hc3)]
    refine ⟨d.nodes.length - (i + 1), by omega, i + 1, _, by omega, rfl, rfl, by rw [wrap64 (by omega) (by omega)]; rfl, ?_⟩
    exact all_range_succ hall (by rw [hnode]; rfl)
  rw [decide_eq_false_iff_not] at hb
  have hi' : i = d.nodes.length := by omega
  subst hi'
  rw [firstI_none hall] at hcheck
  clear hall hb hi h28 h29 h30
  refine s_loop (fun n' ρ L => ∃ (i : Nat) (J : List Blk), i ≤ d.nodes.length ∧ n' = d.nodes.length - i ∧ L = .cells 2 [[.str d.name, .isl (nodeRows d.nodes)]] :: J ∧
      ρ 1 = .ptr 0 0 0 ∧ ρ 48 = .isl (nodeRows d.nodes) ∧ ρ 49 = .int .i64 d.nodes.length ∧ ρ 50 = .int .i64 i ∧ (List.range i).all (fun k => !!decide (d.depE k = 0)) = true)
    ⟨0, J, Nat.zero_le _, rfl, rfl, by simp only [h1, go_sem, Nat.reduceEqDiff, reduceIte, Bool.false_eq_true, Bool.not_true, Bool.not_false, Bool.and_true, Bool.true_and, Bool.or_false, Bool.false_or, Bool.and_false, Bool.false_and, Bool.or_true, Bool.true_or, true_and, and_true, eq_self, not_false_eq_true, List.map_cons, List.map_nil, List.nil_append, List.append_nil, decide_true, decide_false, Int.reduceEq, Int.reduceLT, Int.reduceLE, List.length_cons, List.length_nil, Nat.reduceAdd, Nat.reduceLT, Nat.reduceLeDiff, List.getD_cons_zero, List.getD_cons_succ, Int.cast_ofNat_Int, Int.reduceToNat, Int.reduceSub, Int.reduceAdd, Int.reduceNeg, Int.toNat_natCast, Int.natCast_nonneg, List.getElem?_cons_zero, List.getElem?_cons_succ, List.cons_append, List.set_cons_zero, List.set_cons_succ, List.take_zero, List.take_succ_cons, List.drop_zero, List.drop_succ_cons, List.drop_nil, List.take_nil, List.all_cons, List.all_nil, Nat.zero_add, Nat.zero_lt_one, Nat.le_refl], by simp only [go_sem, Nat.reduceEqDiff, reduceIte, Bool.false_eq_true, Bool.not_true, Bool.not_false, Bool.and_true, Bool.true_and, Bool.or_false, Bool.false_or, Bool.and_false, Bool.false_and, Bool.or_true, Bool.true_or, true_and, and_true, eq_self, not_false_eq_true, List.map_cons, List.map_nil, List.nil_append, List.append_nil, decide_true, decide_false, Int.reduceEq, Int.reduceLT, Int.reduceLE, List.length_cons, List.length_nil, Nat.reduceAdd, Nat.reduceLT, Nat.reduceLeDiff, List.getD_cons_zero, List.getD_cons_succ, Int.cast_ofNat_Int, Int.reduceToNat, Int.reduceSub, Int.reduceAdd, Int.reduceNeg, Int.toNat_natCast, Int.natCast_nonneg, List.getElem?_cons_zero, List.getElem?_cons_succ, List.cons_append, List.set_cons_zero, List.set_cons_succ, List.take_zero, List.take_succ_cons, List.drop_zero, List.drop_succ_cons, List.drop_nil, List.take_nil, List.all_cons, List.all_nil, Nat.zero_add, Nat.zero_lt_one, Nat.le_refl], by simp only [go_sem, Nat.reduceEqDiff, reduceIte, Bool.false_eq_true, Bool.not_true, Bool.not_false, Bool.and_true, Bool.true_and, Bool.or_false, Bool.false_or, Bool.and_false, Bool.false_and, Bool.or_true, Bool.true_or, true_and, and_true, eq_self, not_false_eq_true, List.map_cons, List.map_nil, List.nil_append, List.append_nil, decide_true, decide_false, Int.reduceEq, Int.reduceLT, Int.reduceLE, List.length_cons, List.length_nil, Nat.reduceAdd, Nat.reduceLT, Nat.reduceLeDiff, List.getD_cons_zero, List.getD_cons_succ, Int.cast_ofNat_Int, Int.reduceToNat, Int.reduceSub, Int.reduceAdd, Int.reduceNeg, Int.toNat_natCast, Int.natCast_nonneg, List.getElem?_cons_zero, List.getElem?_cons_succ, List.cons_append, List.set_cons_zero, List.set_cons_succ, List.take_zero, List.take_succ_cons, List.drop_zero, List.drop_succ_cons, List.drop_nil, List.take_nil, List.all_cons, List.all_nil, Nat.zero_add, Nat.zero_lt_one, Nat.le_refl], by simp only [go_sem, Nat.reduceEqDiff, reduceIte, Bool.false_eq_true, Bool.not_true, Bool.not_false, Bool.and_true, Bool.true_and, Bool.or_false, Bool.false_or, Bool.and_false, Bool.false_and, Bool.or_true, Bool.true_or, true_and, and_true, eq_self, not_false_eq_true, List.map_cons, List.map_nil, List.nil_append, List.append_nil, decide_true, decide_false, Int.reduceEq, Int.reduceLT, Int.reduceLE, List.length_cons, List.length_nil, Nat.reduceAdd, Nat.reduceLT, Nat.reduceLeDiff, List.getD_cons_zero, List.getD_cons_succ, Int.cast_ofNat_Int, Int.reduceToNat, Int.reduceSub, Int.reduceAdd, Int.reduceNeg, Int.toNat_natCast, Int.natCast_nonneg, List.getElem?_cons_zero, List.getElem?_cons_succ, List.cons_append, List.set_cons_zero, List.set_cons_succ, List.take_zero, List.take_succ_cons, List.drop_zero, List.drop_succ_cons, List.drop_nil, List.take_nil, List.all_cons, List.all_nil, Nat.zero_add, Nat.zero_lt_one, Nat.le_refl]; try rfl, rfl⟩ ?_
  clear h1 ρ
  rintro n' ρ L ⟨i, J, hi, rfl, rfl, h1, h48, h49, h50, hall⟩
  simp only [h1, h48, h49, h50, go_sem, Nat.reduceEqDiff, reduceIte, Bool.false_eq_true, Bool.not_true, Bool.not_false, Bool.and_true, Bool.true_and, Bool.or_false, Bool.false_or, Bool.and_false, Bool.false_and, Bool.or_true, Bool.true_or, true_and, and_true, eq_self, not_false_eq_true, List.map_cons, List.map_nil, List.nil_append, List.append_nil, decide_true, decide_false, Int.reduceEq, Int.reduceLT, Int.reduceLE, List.length_cons, List.length_nil, Nat.reduceAdd, Nat.reduceLT, Nat.reduceLeDiff, List.getD_cons_zero, List.getD_cons_succ, Int.cast_ofNat_Int, Int.reduceToNat, Int.reduceSub, Int.reduceAdd, Int.reduceNeg, Int.toNat_natCast, Int.natCast_nonneg, List.getElem?_cons_zero, List.getElem?_cons_succ, List.cons_append, List.set_cons_zero, List.set_cons_succ, List.take_zero, List.take_succ_cons, List.drop_zero, List.drop_succ_cons, List.drop_nil, List.take_nil, List.all_cons, List.all_nil, Nat.zero_add, Nat.zero_lt_one, Nat.le_refl]
  refine s_cond (b := decide _) (by simp only [h1, h48, h49, h50, nodeRows_len, rows_nodes, go_sem, Nat.reduceEqDiff, reduceIte, Bool.false_eq_true, Bool.not_true, Bool.not_false, Bool.and_true, Bool.true_and, Bool.or_false, Bool.false_or, Bool.and_false, Bool.false_and, Bool.or_true, Bool.true_or, true_and, and_true, eq_self, not_false_eq_true, List.map_cons, List.map_nil, List.nil_append, List.append_nil, decide_true, decide_false, Int.reduceEq, Int.reduceLT, Int.reduceLE, List.length_cons, List.length_nil, Nat.reduceAdd, Nat.reduceLT, Nat.reduceLeDiff, List.getD_cons_zero, List.getD_cons_succ, Int.cast_ofNat_Int, Int.reduceToNat, Int.reduceSub, Int.reduceAdd, Int.reduceNeg, Int.toNat_natCast, Int.natCast_nonneg, List.getElem?_cons_zero, List.getElem?_cons_succ, List.cons_append, List.set_cons_zero, List.set_cons_succ, List.take_zero, List.take_succ_cons, List.drop_zero, List.drop_succ_cons, List.drop_nil, List.take_nil, List.all_cons, List.all_nil, Nat.zero_add, Nat.zero_lt_one, Nat.le_refl]; try rfl) ?_ ?_ <;> intro hb <;> simp only [hb, h1, h48, h49, h50, nodeRows_len, rows_nodes, go_sem, Nat.reduceEqDiff, reduceIte, Bool.false_eq_true, Bool.not_true, Bool.not_false, Bool.and_true, Bool.true_and, Bool.or_false, Bool.false_or, Bool.and_false, Bool.false_and, Bool.or_true, Bool.true_or, true_and, and_true, eq_self, not_false_eq_true, List.map_cons, List.map_nil, List.nil_append, List.append_nil, decide_true, decide_false, Int.reduceEq, Int.reduceLT, Int.reduceLE, List.length_cons, List.length_nil, Nat.reduceAdd, Nat.reduceLT, Nat.reduceLeDiff, List.getD_cons_zero, List.getD_cons_succ, Int.cast_ofNat_Int, Int.reduceToNat, Int.reduceSub, Int.reduceAdd, Int.reduceNeg, Int.toNat_natCast, Int.natCast_nonneg, List.getElem?_cons_zero, List.getElem?_cons_succ, List.cons_append, List.set_cons_zero, List.set_cons_succ, List.take_zero, List.take_succ_cons, List.drop_zero, List.drop_succ_cons, List.drop_nil, List.take_nil, List.all_cons, List.all_nil, Nat.zero_add, Nat.zero_lt_one, Nat.le_refl]
  · rw [decide_eq_true_eq] at hb
    have hi' : i < d.nodes.length := by omega
    have hrow := nodeRows_get hi'
    have hmem : d.nodes.getD i default ∈ d.nodes := by rw [List.getD_eq_getElem?_getD, List.getElem?_eq_getElem hi']; exact List.getElem_mem _
    have hnok := hok.2 _ hmem
    have hlen := hnok.2.2.2.1
    have hdep : d.depE i = if (firstI (fun s => !(d.find s).isSome) (d.nodes.getD i default).after).isSome = true then 6
      else if (firstI (twiceB (d.nodes.getD i default).after) (List.range (d.nodes.getD i default).after.length)).isSome = true then 16 else 0 := rfl
    refine ⟨hb, ?_⟩
    simp only [h1, h48, h49, h50, hrow, NodeD.row, go_sem, Nat.reduceEqDiff, reduceIte, Bool.false_eq_true, Bool.not_true, Bool.not_false, Bool.and_true, Bool.true_and, Bool.or_false, Bool.false_or, Bool.and_false, Bool.false_and, Bool.or_true, Bool.true_or, true_and, and_true, eq_self, not_false_eq_true, List.map_cons, List.map_nil, List.nil_append, List.append_nil, decide_true, decide_false, Int.reduceEq, Int.reduceLT, Int.reduceLE, List.length_cons, List.length_nil, Nat.reduceAdd, Nat.reduceLT, Nat.reduceLeDiff, List.getD_cons_zero, List.getD_cons_succ, Int.cast_ofNat_Int, Int.reduceToNat, Int.reduceSub, Int.reduceAdd, Int.reduceNeg, Int.toNat_natCast, Int.natCast_nonneg, List.getElem?_cons_zero, List.getElem?_cons_succ, List.cons_append, List.set_cons_zero, List.set_cons_succ, List.take_zero, List.take_succ_cons, List.drop_zero, List.drop_succ_cons, List.drop_nil, List.take_nil, List.all_cons, List.all_nil, Nat.zero_add, Nat.zero_lt_one, Nat.le_refl]
    refine ⟨hi', ?_⟩
    generalize hn : d.nodes.getD i default = n at *
    refine xcall_lend (args' := [.isl (strRows n.after), .fn (.func 28) [] [.iptr [[.str d.name, .isl (nodeRows d.nodes)]] 0 0]])
      (mapO_cons rfl (mapO_cons (conv_fn rfl (mapO_cons (conv_ptr_free rfl rfl rfl) rfl)) rfl))
      (containsFuncS_pure hP n.after 28 _ (fun s => !(d.find s).isSome) hnok.2.2.2.1 rfl rfl (fun s _ => check1_pure hP d s (by omega))) rfl rfl ?_
    try simp only [h1, h48, h49, h50, go_sem, Nat.reduceEqDiff, reduceIte, Bool.false_eq_true, Bool.not_true, Bool.not_false, Bool.and_true, Bool.true_and, Bool.or_false, Bool.false_or, Bool.and_false, Bool.false_and, Bool.or_true, Bool.true_or, true_and, and_true, eq_self, not_false_eq_true, List.map_cons, List.map_nil, List.nil_append, List.append_nil, decide_true, decide_false, Int.reduceEq, Int.reduceLT, Int.reduceLE, List.length_cons, List.length_nil, Nat.reduceAdd, Nat.reduceLT, Nat.reduceLeDiff, List.getD_cons_zero, List.getD_cons_succ, Int.cast_ofNat_Int, Int.reduceToNat, Int.reduceSub, Int.reduceAdd, Int.reduceNeg, Int.toNat_natCast, Int.natCast_nonneg, List.getElem?_cons_zero, List.getElem?_cons_succ, List.cons_append, List.set_cons_zero, List.set_cons_succ, List.take_zero, List.take_succ_cons, List.drop_zero, List.drop_succ_cons, List.drop_nil, List.take_nil, List.all_cons, List.all_nil, Nat.zero_add, Nat.zero_lt_one, Nat.le_refl]
    refine s_cond (b := (firstI (fun s => !(d.find s).isSome) n.after).isSome) (by simp only [h1, h48, h49, h50, go_sem, Nat.reduceEqDiff, reduceIte, Bool.false_eq_true, Bool.not_true, Bool.not_false, Bool.and_true, Bool.true_and, Bool.or_false, Bool.false_or, Bool.and_false, Bool.false_and, Bool.or_true, Bool.true_or, true_and, and_true, eq_self, not_false_eq_true, List.map_cons, List.map_nil, List.nil_append, List.append_nil, decide_true, decide_false, Int.reduceEq, Int.reduceLT, Int.reduceLE, List.length_cons, List.length_nil, Nat.reduceAdd, Nat.reduceLT, Nat.reduceLeDiff, List.getD_cons_zero, List.getD_cons_succ, Int.cast_ofNat_Int, Int.reduceToNat, Int.reduceSub, Int.reduceAdd, Int.reduceNeg, Int.toNat_natCast, Int.natCast_nonneg, List.getElem?_cons_zero, List.getElem?_cons_succ, List.cons_append, List.set_cons_zero, List.set_cons_succ, List.take_zero, List.take_succ_cons, List.drop_zero, List.drop_succ_cons, List.drop_nil, List.take_nil, List.all_cons, List.all_nil, Nat.zero_add, Nat.zero_lt_one, Nat.le_refl]; try rfl) ?_ ?_ <;> intro hc2 <;> simp only [h1, h48, h49, h50, strRows_len, go_sem, Nat.reduceEqDiff, reduceIte, Bool.false_eq_true, Bool.not_true, Bool.not_false, Bool.and_true, Bool.true_and, Bool.or_false, Bool.false_or, Bool.and_false, Bool.false_and, Bool.or_true, Bool.true_or, true_and, and_true, eq_self, not_false_eq_true, List.map_cons, List.map_nil, List.nil_append, List.append_nil, decide_true, decide_false, Int.reduceEq, Int.reduceLT, Int.reduceLE, List.length_cons, List.length_nil, Nat.reduceAdd, Nat.reduceLT, Nat.reduceLeDiff, List.getD_cons_zero, List.getD_cons_succ, Int.cast_ofNat_Int, Int.reduceToNat, Int.reduceSub, Int.reduceAdd, Int.reduceNeg, Int.toNat_natCast, Int.natCast_nonneg, List.getElem?_cons_zero, List.getElem?_cons_succ, List.cons_append, List.set_cons_zero, List.set_cons_succ, List.take_zero, List.take_succ_cons, List.drop_zero, List.drop_succ_cons, List.drop_nil, List.take_nil, List.all_cons, List.all_nil, Nat.zero_add, Nat.zero_lt_one, Nat.le_refl]
    · rw [if_pos hc2] at hdep
      have hf : d.check = ((i : Int), d.depE i) := by rw [hcheck, firstI_range hi' hall (by rw [hdep]; rfl)]
      rw [hf, hdep]; exact ⟨rfl, rfl⟩
    rw [if_neg (by rw [hc2]; decide)] at hdep
    refine s_loop (fun n3 ρ L => ∃ (k : Nat), k ≤ n.after.length ∧ n3 = n.after.length - k ∧ L = .cells 2 [[.str d.name, .isl (nodeRows d.nodes)]] :: (J ++ [.cells 7 [n.row]]) ∧
        ρ 1 = .ptr 0 0 0 ∧ ρ 7 = .int .i64 i ∧ ρ 8 = .ptr (J.length + 1) 0 0 ∧ ρ 48 = .isl (nodeRows d.nodes) ∧ ρ 49 = .int .i64 d.nodes.length ∧ ρ 50 = .int .i64 i ∧
        ρ 61 = .isl (strRows n.after) ∧ ρ 62 = .int .i64 n.after.length ∧ ρ 63 = .int .i64 k ∧ (List.range k).all (fun k => !twiceB n.after k) = true)
      ⟨0, Nat.zero_le _, rfl, rfl, by simp only [h1, h48, h49, h50, go_sem, Nat.reduceEqDiff, reduceIte, Bool.false_eq_true, Bool.not_true, Bool.not_false, Bool.and_true, Bool.true_and, Bool.or_false, Bool.false_or, Bool.and_false, Bool.false_and, Bool.or_true, Bool.true_or, true_and, and_true, eq_self, not_false_eq_true, List.map_cons, List.map_nil, List.nil_append, List.append_nil, decide_true, decide_false, Int.reduceEq, Int.reduceLT, Int.reduceLE, List.length_cons, List.length_nil, Nat.reduceAdd, Nat.reduceLT, Nat.reduceLeDiff, List.getD_cons_zero, List.getD_cons_succ, Int.cast_ofNat_Int, Int.reduceToNat, Int.reduceSub, Int.reduceAdd, Int.reduceNeg, Int.toNat_natCast, Int.natCast_nonneg, List.getElem?_cons_zero, List.getElem?_cons_succ, List.cons_append, List.set_cons_zero, List.set_cons_succ, List.take_zero, List.take_succ_cons, List.drop_zero, List.drop_succ_cons, List.drop_nil, List.take_nil, List.all_cons, List.all_nil, Nat.zero_add, Nat.zero_lt_one, Nat.le_refl], by simp only [h1, h48, h49, h50, go_sem, Nat.reduceEqDiff, reduceIte, Bool.false_eq_true, Bool.not_true, Bool.not_false, Bool.and_true, Bool.true_and, Bool.or_false, Bool.false_or, Bool.and_false, Bool.false_and, Bool.or_true, Bool.true_or, true_and, and_true, eq_self, not_false_eq_true, List.map_cons, List.map_nil, List.nil_append, List.append_nil, decide_true, decide_false, Int.reduceEq, Int.reduceLT, Int.reduceLE, List.length_cons, List.length_nil, Nat.reduceAdd, Nat.reduceLT, Nat.reduceLeDiff, List.getD_cons_zero, List.getD_cons_succ, Int.cast_ofNat_Int, Int.reduceToNat, Int.reduceSub, Int.reduceAdd, Int.reduceNeg, Int.toNat_natCast, Int.natCast_nonneg, List.getElem?_cons_zero, List.getElem?_cons_succ, List.cons_append, List.set_cons_zero, List.set_cons_succ, List.take_zero, List.take_succ_cons, List.drop_zero, List.drop_succ_cons, List.drop_nil, List.take_nil, List.all_cons, List.all_nil, Nat.zero_add, Nat.zero_lt_one, Nat.le_refl], by simp only [h1, h48, h49, h50, go_sem, Nat.reduceEqDiff, reduceIte, Bool.false_eq_true, Bool.not_true, Bool.not_false, Bool.and_true, Bool.true_and, Bool.or_false, Bool.false_or, Bool.and_false, Bool.false_and, Bool.or_true, Bool.true_or, true_and, and_true, eq_self, not_false_eq_true, List.map_cons, List.map_nil, List.nil_append, List.append_nil, decide_true, decide_false, Int.reduceEq, Int.reduceLT, Int.reduceLE, List.length_cons, List.length_nil, Nat.reduceAdd, Nat.reduceLT, Nat.reduceLeDiff, List.getD_cons_zero, List.getD_cons_succ, Int.cast_ofNat_Int, Int.reduceToNat, Int.reduceSub, Int.reduceAdd, Int.reduceNeg, Int.toNat_natCast, Int.natCast_nonneg, List.getElem?_cons_zero, List.getElem?_cons_succ, List.cons_append, List.set_cons_zero, List.set_cons_succ, List.take_zero, List.take_succ_cons, List.drop_zero, List.drop_succ_cons, List.drop_nil, List.take_nil, List.all_cons, List.all_nil, Nat.zero_add, Nat.zero_lt_one, Nat.le_refl], by simp only [h1, h48, h49, h50, go_sem, Nat.reduceEqDiff, reduceIte, Bool.false_eq_true, Bool.not_true, Bool.not_false, Bool.and_true, Bool.true_and, Bool.or_false, Bool.false_or, Bool.and_false, Bool.false_and, Bool.or_true, Bool.true_or, true_and, and_true, eq_self, not_false_eq_true, List.map_cons, List.map_nil, List.nil_append, List.append_nil, decide_true, decide_false, Int.reduceEq, Int.reduceLT, Int.reduceLE, List.length_cons, List.length_nil, Nat.reduceAdd, Nat.reduceLT, Nat.reduceLeDiff, List.getD_cons_zero, List.getD_cons_succ, Int.cast_ofNat_Int, Int.reduceToNat, Int.reduceSub, Int.reduceAdd, Int.reduceNeg, Int.toNat_natCast, Int.natCast_nonneg, List.getElem?_cons_zero, List.getElem?_cons_succ, List.cons_append, List.set_cons_zero, List.set_cons_succ, List.take_zero, List.take_succ_cons, List.drop_zero, List.drop_succ_cons, List.drop_nil, List.take_nil, List.all_cons, List.all_nil, Nat.zero_add, Nat.zero_lt_one, Nat.le_refl], by simp only [h1, h48, h49, h50, go_sem, Nat.reduceEqDiff, reduceIte, Bool.false_eq_true, Bool.not_true, Bool.not_false, Bool.and_true, Bool.true_and, Bool.or_false, Bool.false_or, Bool.and_false, Bool.false_and, Bool.or_true, Bool.true_or, true_and, and_true, eq_self, not_false_eq_true, List.map_cons, List.map_nil, List.nil_append, List.append_nil, decide_true, decide_false, Int.reduceEq, Int.reduceLT, Int.reduceLE, List.length_cons, List.length_nil, Nat.reduceAdd, Nat.reduceLT, Nat.reduceLeDiff, List.getD_cons_zero, List.getD_cons_succ, Int.cast_ofNat_Int, Int.reduceToNat, Int.reduceSub, Int.reduceAdd, Int.reduceNeg, Int.toNat_natCast, Int.natCast_nonneg, List.getElem?_cons_zero, List.getElem?_cons_succ, List.cons_append, List.set_cons_zero, List.set_cons_succ, List.take_zero, List.take_succ_cons, List.drop_zero, List.drop_succ_cons, List.drop_nil, List.take_nil, List.all_cons, List.all_nil, Nat.zero_add, Nat.zero_lt_one, Nat.le_refl], by simp only [h1, h48, h49, h50, go_sem, Nat.reduceEqDiff, reduceIte, Bool.false_eq_true, Bool.not_true, Bool.not_false, Bool.and_true, Bool.true_and, Bool.or_false, Bool.false_or, Bool.and_false, Bool.false_and, Bool.or_true, Bool.true_or, true_and, and_true, eq_self, not_false_eq_true, List.map_cons, List.map_nil, List.nil_append, List.append_nil, decide_true, decide_false, Int.reduceEq, Int.reduceLT, Int.reduceLE, List.length_cons, List.length_nil, Nat.reduceAdd, Nat.reduceLT, Nat.reduceLeDiff, List.getD_cons_zero, List.getD_cons_succ, Int.cast_ofNat_Int, Int.reduceToNat, Int.reduceSub, Int.reduceAdd, Int.reduceNeg, Int.toNat_natCast, Int.natCast_nonneg, List.getElem?_cons_zero, List.getElem?_cons_succ, List.cons_append, List.set_cons_zero, List.set_cons_succ, List.take_zero, List.take_succ_cons, List.drop_zero, List.drop_succ_cons, List.drop_nil, List.take_nil, List.all_cons, List.all_nil, Nat.zero_add, Nat.zero_lt_one, Nat.le_refl], by simp only [h1, h48, h49, h50, go_sem, Nat.reduceEqDiff, reduceIte, Bool.false_eq_true, Bool.not_true, Bool.not_false, Bool.and_true, Bool.true_and, Bool.or_false, Bool.false_or, Bool.and_false, Bool.false_and, Bool.or_true, Bool.true_or, true_and, and_true, eq_self, not_false_eq_true, List.map_cons, List.map_nil, List.nil_append, List.append_nil, decide_true, decide_false, Int.reduceEq, Int.reduceLT, Int.reduceLE, List.length_cons, List.length_nil, Nat.reduceAdd, Nat.reduceLT, Nat.reduceLeDiff, List.getD_cons_zero, List.getD_cons_succ, Int.cast_ofNat_Int, Int.reduceToNat, Int.reduceSub, Int.reduceAdd, Int.reduceNeg, Int.toNat_natCast, Int.natCast_nonneg, List.getElem?_cons_zero, List.getElem?_cons_succ, List.cons_append, List.set_cons_zero, List.set_cons_succ, List.take_zero, List.take_succ_cons, List.drop_zero, List.drop_succ_cons, List.drop_nil, List.take_nil, List.all_cons, List.all_nil, Nat.zero_add, Nat.zero_lt_one, Nat.le_refl], by simp only [h1, h48, h49, h50, go_sem, Nat.reduceEqDiff, reduceIte, Bool.false_eq_true, Bool.not_true, Bool.not_false, Bool.and_true, Bool.true_and, Bool.or_false, Bool.false_or, Bool.and_false, Bool.false_and, Bool.or_true, Bool.true_or, true_and, and_true, eq_self, not_false_eq_true, List.map_cons, List.map_nil, List.nil_append, List.append_nil, decide_true, decide_false, Int.reduceEq, Int.reduceLT, Int.reduceLE, List.length_cons, List.length_nil, Nat.reduceAdd, Nat.reduceLT, Nat.reduceLeDiff, List.getD_cons_zero, List.getD_cons_succ, Int.cast_ofNat_Int, Int.reduceToNat, Int.reduceSub, Int.reduceAdd, Int.reduceNeg, Int.toNat_natCast, Int.natCast_nonneg, List.getElem?_cons_zero, List.getElem?_cons_succ, List.cons_append, List.set_cons_zero, List.set_cons_succ, List.take_zero, List.take_succ_cons, List.drop_zero, List.drop_succ_cons, List.drop_nil, List.take_nil, List.all_cons, List.all_nil, Nat.zero_add, Nat.zero_lt_one, Nat.le_refl], by simp only [h1, h48, h49, h50, go_sem, Nat.reduceEqDiff, reduceIte, Bool.false_eq_true, Bool.not_true, Bool.not_false, Bool.and_true, Bool.true_and, Bool.or_false, Bool.false_or, Bool.and_false, Bool.false_and, Bool.or_true, Bool.true_or, true_and, and_true, eq_self, not_false_eq_true, List.map_cons, List.map_nil, List.nil_append, List.append_nil, decide_true, decide_false, Int.reduceEq, Int.reduceLT, Int.reduceLE, List.length_cons, List.length_nil, Nat.reduceAdd, Nat.reduceLT, Nat.reduceLeDiff, List.getD_cons_zero, List.getD_cons_succ, Int.cast_ofNat_Int, Int.reduceToNat, Int.reduceSub, Int.reduceAdd, Int.reduceNeg, Int.toNat_natCast, Int.natCast_nonneg, List.getElem?_cons_zero, List.getElem?_cons_succ, List.cons_append, List.set_cons_zero, List.set_cons_succ, List.take_zero, List.take_succ_cons, List.drop_zero, List.drop_succ_cons, List.drop_nil, List.take_nil, List.all_cons, List.all_nil, Nat.zero_add, Nat.zero_lt_one, Nat.le_refl]; try rfl, rfl⟩ ?_
    clear h1 h48 h49 h50 ρ
    rintro n3 ρ L ⟨k, hk, rfl, rfl, h1, h7, h8, h48, h49, h50, h61, h62, h63, hall3⟩
    simp only [h1, h7, h8, h48, h49, h50, h61, h62, h63, go_sem, Nat.reduceEqDiff, reduceIte, Bool.false_eq_true, Bool.not_true, Bool.not_false, Bool.and_true, Bool.true_and, Bool.or_false, Bool.false_or, Bool.and_false, Bool.false_and, Bool.or_true, Bool.true_or, true_and, and_true, eq_self, not_false_eq_true, List.map_cons, List.map_nil, List.nil_append, List.append_nil, decide_true, decide_false, Int.reduceEq, Int.reduceLT, Int.reduceLE, List.length_cons, List.length_nil, Nat.reduceAdd, Nat.reduceLT, Nat.reduceLeDiff, List.getD_cons_zero, List.getD_cons_succ, Int.cast_ofNat_Int, Int.reduceToNat, Int.reduceSub, Int.reduceAdd, Int.reduceNeg, Int.toNat_natCast, Int.natCast_nonneg, List.getElem?_cons_zero, List.getElem?_cons_succ, List.cons_append, List.set_cons_zero, List.set_cons_succ, List.take_zero, List.take_succ_cons, List.drop_zero, List.drop_succ_cons, List.drop_nil, List.take_nil, List.all_cons, List.all_nil, Nat.zero_add, Nat.zero_lt_one, Nat.le_refl]
    refine s_cond (b := decide _) (by simp only [h1, h7, h8, h48, h49, h50, h61, h62, h63, strRows_len, rows_strs, go_sem, Nat.reduceEqDiff, reduceIte, Bool.false_eq_true, Bool.not_true, Bool.not_false, Bool.and_true, Bool.true_and, Bool.or_false, Bool.false_or, Bool.and_false, Bool.false_and, Bool.or_true, Bool.true_or, true_and, and_true, eq_self, not_false_eq_true, List.map_cons, List.map_nil, List.nil_append, List.append_nil, decide_true, decide_false, Int.reduceEq, Int.reduceLT, Int.reduceLE, List.length_cons, List.length_nil, Nat.reduceAdd, Nat.reduceLT, Nat.reduceLeDiff, List.getD_cons_zero, List.getD_cons_succ, Int.cast_ofNat_Int, Int.reduceToNat, Int.reduceSub, Int.reduceAdd, Int.reduceNeg, Int.toNat_natCast, Int.natCast_nonneg, List.getElem?_cons_zero, List.getElem?_cons_succ, List.cons_append, List.set_cons_zero, List.set_cons_succ, List.take_zero, List.take_succ_cons, List.drop_zero, List.drop_succ_cons, List.drop_nil, List.take_nil, List.all_cons, List.all_nil, Nat.zero_add, Nat.zero_lt_one, Nat.le_refl]; try rfl) ?_ ?_ <;> intro hb3 <;> simp only [hb3, h1, h7, h8, h48, h49, h50, h61, h62, h63, strRows_len, rows_strs, go_sem, Nat.reduceEqDiff, reduceIte, Bool.false_eq_true, Bool.not_true, Bool.not_false, Bool.and_true, Bool.true_and, Bool.or_false, Bool.false_or, Bool.and_false, Bool.false_and, Bool.or_true, Bool.true_or, true_and, and_true, eq_self, not_false_eq_true, List.map_cons, List.map_nil, List.nil_append, List.append_nil, decide_true, decide_false, Int.reduceEq, Int.reduceLT, Int.reduceLE, List.length_cons, List.length_nil, Nat.reduceAdd, Nat.reduceLT, Nat.reduceLeDiff, List.getD_cons_zero, List.getD_cons_succ, Int.cast_ofNat_Int, Int.reduceToNat, Int.reduceSub, Int.reduceAdd, Int.reduceNeg, Int.toNat_natCast, Int.natCast_nonneg, List.getElem?_cons_zero, List.getElem?_cons_succ, List.cons_append, List.set_cons_zero, List.set_cons_succ, List.take_zero, List.take_succ_cons, List.drop_zero, List.drop_succ_cons, List.drop_nil, List.take_nil, List.all_cons, List.all_nil, Nat.zero_add, Nat.zero_lt_one, Nat.le_refl]
    · rw [decide_eq_true_eq] at hb3
      have hk' : k < n.after.length := by omega
      have hrow3 := strRows_get hk'
      have htake : List.take k (strRows n.after) = strRows (n.after.take k) := by simp [strRows, List.map_take]
      refine ⟨hb3, ?_⟩
      simp only [h1, h7, h8, h48, h49, h50, h61, h62, h63, hrow3, NodeD.row, rows_strs, strRows_len, htake, go_sem, Nat.reduceEqDiff, reduceIte, Bool.false_eq_true, Bool.not_true, Bool.not_false, Bool.and_true, Bool.true_and, Bool.or_false, Bool.false_or, Bool.and_false, Bool.false_and, Bool.or_true, Bool.true_or, true_and, and_true, eq_self, not_false_eq_true, List.map_cons, List.map_nil, List.nil_append, List.append_nil, decide_true, decide_false, Int.reduceEq, Int.reduceLT, Int.reduceLE, List.length_cons, List.length_nil, Nat.reduceAdd, Nat.reduceLT, Nat.reduceLeDiff, List.getD_cons_zero, List.getD_cons_succ, Int.cast_ofNat_Int, Int.reduceToNat, Int.reduceSub, Int.reduceAdd, Int.reduceNeg, Int.toNat_natCast, Int.natCast_nonneg, List.getElem?_cons_zero, List.getElem?_cons_succ, List.cons_append, List.set_cons_zero, List.set_cons_succ, List.take_zero, List.take_succ_cons, List.drop_zero, List.drop_succ_cons, List.drop_nil, List.take_nil, List.all_cons, List.all_nil, Nat.zero_add, Nat.zero_lt_one, Nat.le_refl]
      refine ⟨hk', by omega, ?_⟩
      refine xcall_pure (args' := [.isl (strRows (n.after.take k)), .str (n.after.getD k [])]) rfl (containsS_pure hP _ _ (Nat.le_trans (List.length_take_le ..) (by have := hnok.2.2.2.1; omega))) rfl ?_
      try simp only [h1, h7, h8, h48, h49, h50, h61, h62, h63, go_sem, Nat.reduceEqDiff, reduceIte, Bool.false_eq_true, Bool.not_true, Bool.not_false, Bool.and_true, Bool.true_and, Bool.or_false, Bool.false_or, Bool.and_false, Bool.false_and, Bool.or_true, Bool.true_or, true_and, and_true, eq_self, not_false_eq_true, List.map_cons, List.map_nil, List.nil_append, List.append_nil, decide_true, decide_false, Int.reduceEq, Int.reduceLT, Int.reduceLE, List.length_cons, List.length_nil, Nat.reduceAdd, Nat.reduceLT, Nat.reduceLeDiff, List.getD_cons_zero, List.getD_cons_succ, Int.cast_ofNat_Int, Int.reduceToNat, Int.reduceSub, Int.reduceAdd, Int.reduceNeg, Int.toNat_natCast, Int.natCast_nonneg, List.getElem?_cons_zero, List.getElem?_cons_succ, List.cons_append, List.set_cons_zero, List.set_cons_succ, List.take_zero, List.take_succ_cons, List.drop_zero, List.drop_succ_cons, List.drop_nil, List.take_nil, List.all_cons, List.all_nil, Nat.zero_add, Nat.zero_lt_one, Nat.le_refl]
      refine s_cond (b := twiceB n.after k) (by simp only [h1, h7, h8, h48, h49, h50, h61, h62, h63, go_sem, Nat.reduceEqDiff, reduceIte, Bool.false_eq_true, Bool.not_true, Bool.not_false, Bool.and_true, Bool.true_and, Bool.or_false, Bool.false_or, Bool.and_false, Bool.false_and, Bool.or_true, Bool.true_or, true_and, and_true, eq_self, not_false_eq_true, List.map_cons, List.map_nil, List.nil_append, List.append_nil, decide_true, decide_false, Int.reduceEq, Int.reduceLT, Int.reduceLE, List.length_cons, List.length_nil, Nat.reduceAdd, Nat.reduceLT, Nat.reduceLeDiff, List.getD_cons_zero, List.getD_cons_succ, Int.cast_ofNat_Int, Int.reduceToNat, Int.reduceSub, Int.reduceAdd, Int.reduceNeg, Int.toNat_natCast, Int.natCast_nonneg, List.getElem?_cons_zero, List.getElem?_cons_succ, List.cons_append, List.set_cons_zero, List.set_cons_succ, List.take_zero, List.take_succ_cons, List.drop_zero, List.drop_succ_cons, List.drop_nil, List.take_nil, List.all_cons, List.all_nil, Nat.zero_add, Nat.zero_lt_one, Nat.le_refl]; try rfl) ?_ ?_ <;> intro hc4 <;> simp only [h1, h7, h8, h48, h49, h50, h61, h62, h63, go_sem, Nat.reduceEqDiff, reduceIte, Bool.false_eq_true, Bool.not_true, Bool.not_false, Bool.and_true, Bool.true_and, Bool.or_false, Bool.false_or, Bool.and_false, Bool.false_and, Bool.or_true, Bool.true_or, true_and, and_true, eq_self, not_false_eq_true, List.map_cons, List.map_nil, List.nil_append, List.append_nil, decide_true, decide_false, Int.reduceEq, Int.reduceLT, Int.reduceLE, List.length_cons, List.length_nil, Nat.reduceAdd, Nat.reduceLT, Nat.reduceLeDiff, List.getD_cons_zero, List.getD_cons_succ, Int.cast_ofNat_Int, Int.reduceToNat, Int.reduceSub, Int.reduceAdd, Int.reduceNeg, Int.toNat_natCast, Int.natCast_nonneg, List.getElem?_cons_zero, List.getElem?_cons_succ, List.cons_append, List.set_cons_zero, List.set_cons_succ, List.take_zero, List.take_succ_cons, List.drop_zero, List.drop_succ_cons, List.drop_nil, List.take_nil, List.all_cons, List.all_nil, Nat.zero_add, Nat.zero_lt_one, Nat.le_refl]
      · rw [firstI_range hk' hall3 hc4, if_pos (show (some k).isSome = true from rfl)] at hdep
        have hf : d.check = ((i : Int), d.depE i) := by rw [hcheck, firstI_range hi' hall (by rw [hdep]; rfl)]
        rw [hf, hdep]; exact ⟨rfl, rfl⟩
      · refine ⟨n.after.length - (k + 1), by omega, k + 1, by omega, rfl, by rw [wrap64 (by omega) (by omega)]; rfl, ?_⟩
        exact all_range_succ hall3 (by rw [hc4]; rfl)
    · rw [decide_eq_false_iff_not] at hb3
      have hk' : k = n.after.length := by omega
      subst hk'
      rw [firstI_none hall3, if_neg (by decide)] at hdep
      refine ⟨d.nodes.length - (i + 1), by omega, i + 1, _, by omega, rfl, rfl, by rw [wrap64 (by omega) (by omega)]; rfl, ?_⟩
      exact all_range_succ hall (by rw [hdep]; rfl)
  rw [decide_eq_false_iff_not] at hb
  have hi' : i = d.nodes.length := by omega
  subst hi'
  rw [firstI_none hall] at hcheck
  refine xcall_pure (args' := [d.iv]) rfl (order_pure hP d hd (fun n hn => (hok.2 n hn).2.2.2.1)) rfl ?_
  try simp only [h1, h48, h49, h50, go_sem, Nat.reduceEqDiff, reduceIte, Bool.false_eq_true, Bool.not_true, Bool.not_false, Bool.and_true, Bool.true_and, Bool.or_false, Bool.false_or, Bool.and_false, Bool.false_and, Bool.or_true, Bool.true_or, true_and, and_true, eq_self, not_false_eq_true, List.map_cons, List.map_nil, List.nil_append, List.append_nil, decide_true, decide_false, Int.reduceEq, Int.reduceLT, Int.reduceLE, List.length_cons, List.length_nil, Nat.reduceAdd, Nat.reduceLT, Nat.reduceLeDiff, List.getD_cons_zero, List.getD_cons_succ, Int.cast_ofNat_Int, Int.reduceToNat, Int.reduceSub, Int.reduceAdd, Int.reduceNeg, Int.toNat_natCast, Int.natCast_nonneg, List.getElem?_cons_zero, List.getElem?_cons_succ, List.cons_append, List.set_cons_zero, List.set_cons_succ, List.take_zero, List.take_succ_cons, List.drop_zero, List.drop_succ_cons, List.drop_nil, List.take_nil, List.all_cons, List.all_nil, Nat.zero_add, Nat.zero_lt_one, Nat.le_refl]
  refine s_cond (b := !decide (d.order.length = d.nodes.length)) (by simp only [h1, h48, h49, h50, go_sem, Nat.reduceEqDiff, reduceIte, Bool.false_eq_true, Bool.not_true, Bool.not_false, Bool.and_true, Bool.true_and, Bool.or_false, Bool.false_or, Bool.and_false, Bool.false_and, Bool.or_true, Bool.true_or, true_and, and_true, eq_self, not_false_eq_true, List.map_cons, List.map_nil, List.nil_append, List.append_nil, decide_true, decide_false, Int.reduceEq, Int.reduceLT, Int.reduceLE, List.length_cons, List.length_nil, Nat.reduceAdd, Nat.reduceLT, Nat.reduceLeDiff, List.getD_cons_zero, List.getD_cons_succ, Int.cast_ofNat_Int, Int.reduceToNat, Int.reduceSub, Int.reduceAdd, Int.reduceNeg, Int.toNat_natCast, Int.natCast_nonneg, List.getElem?_cons_zero, List.getElem?_cons_succ, List.cons_append, List.set_cons_zero, List.set_cons_succ, List.take_zero, List.take_succ_cons, List.drop_zero, List.drop_succ_cons, List.drop_nil, List.take_nil, List.all_cons, List.all_nil, Nat.zero_add, Nat.zero_lt_one, Nat.le_refl]; try rfl) ?_ ?_ <;> intro hc5 <;> simp only [h1, h48, h49, h50, go_sem, Nat.reduceEqDiff, reduceIte, Bool.false_eq_true, Bool.not_true, Bool.not_false, Bool.and_true, Bool.true_and, Bool.or_false, Bool.false_or, Bool.and_false, Bool.false_and, Bool.or_true, Bool.true_or, true_and, and_true, eq_self, not_false_eq_true, List.map_cons, List.map_nil, List.nil_append, List.append_nil, decide_true, decide_false, Int.reduceEq, Int.reduceLT, Int.reduceLE, List.length_cons, List.length_nil, Nat.reduceAdd, Nat.reduceLT, Nat.reduceLeDiff, List.getD_cons_zero, List.getD_cons_succ, Int.cast_ofNat_Int, Int.reduceToNat, Int.reduceSub, Int.reduceAdd, Int.reduceNeg, Int.toNat_natCast, Int.natCast_nonneg, List.getElem?_cons_zero, List.getElem?_cons_succ, List.cons_append, List.set_cons_zero, List.set_cons_succ, List.take_zero, List.take_succ_cons, List.drop_zero, List.drop_succ_cons, List.drop_nil, List.take_nil, List.all_cons, List.all_nil, Nat.zero_add, Nat.zero_lt_one, Nat.le_refl]
  · rw [if_neg (by simpa using hc5)] at hcheck
    rw [hcheck]; exact ⟨rfl, rfl⟩
  · rw [if_pos (by simpa using hc5)] at hcheck
    rw [hcheck]; exact ⟨rfl, rfl⟩
end
end Go.X.TrydW

