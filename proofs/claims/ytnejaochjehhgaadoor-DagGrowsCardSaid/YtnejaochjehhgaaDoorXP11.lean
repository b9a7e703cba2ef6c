/- Parts of the proof: XDag14, XDag15, XDag16, XDag17, XDag18, XDag19. -/
import Derived.Test.YtnejaochjehhgaaDoorXP10
set_option linter.unusedVariables false
set_option linter.unusedSimpArgs false
set_option linter.unusedSectionVars false
section
open Go Go.X Go.Proofs
set_option maxRecDepth 100000
set_option maxHeartbeats 4000000
set_option linter.unusedSimpArgs false
set_option linter.unusedVariables false
namespace Go.X.TrydW
/- "tiller/tillerlaw08.wakes" params { toList := [] } results { toList := [Go.ResultVar.tmp 0] } -/
def x11 : XC :=
 (.seq
  (.ops [
    ⟨(some 0), (.mov (.c (.bool false))), none⟩])
  (.seq
   (.ops [
     ⟨(some 7), (.call (.f 23) [(.c (.str [119, 111, 114, 107, 102, 108, 111, 119, 32, 119, 10, 98, 32, 119, 97, 105, 116, 32, 115, 32, 97, 102, 116, 101, 114, 32, 97, 10, 97, 32, 97, 99, 116, 105, 118, 105, 116, 121, 32, 113, 10]))]), none⟩,
     ⟨(some 6), (.mov (.t 7)), none⟩,
     ⟨(some 8), (.ext (.t 6) 0), none⟩,
     ⟨(some 9), (.ext (.t 6) 1), none⟩,
     ⟨(some 10), (.ext (.t 6) 2), none⟩,
     ⟨(some 1), (.alloc [(.str []), .nsl]), none⟩,
     ⟨none, (.store 2 (.t 1) (.t 8)), none⟩,
     ⟨(some 2), (.mov (.t 9)), none⟩,
     ⟨(some 3), (.mov (.t 10)), none⟩])
   (.seq
    (.ops [
      ⟨(some 12), (.loadN 2 (.t 1)), none⟩,
      ⟨(some 13), (.call (.f 17) [(.t 12)]), none⟩,
      ⟨(some 11), (.mov (.t 13)), none⟩,
      ⟨(some 14), (.ext (.t 11) 0), none⟩,
      ⟨(some 15), (.ext (.t 11) 1), none⟩,
      ⟨(some 4), (.mov (.t 14)), none⟩,
      ⟨(some 5), (.mov (.t 15)), none⟩])
    (.seq
     (.ops [
       ⟨(some 16), (.mov (.t 3)), none⟩,
       ⟨(some 17), (.bin .eql (.t 16) (.c (.int .i64 0))), none⟩,
       ⟨(some 18), (.mov (.t 17)), none⟩,
       ⟨(some 19), (.mov (.t 5)), (some (18, true))⟩,
       ⟨(some 20), (.pick (.t 18) (.t 19) (.c (.bool false))), none⟩,
       ⟨(some 21), (.mov (.t 20)), none⟩,
       ⟨(some 22), (.mov (.t 4)), (some (21, true))⟩,
       ⟨(some 23), (.bslice 1 [(.int .i64 0)] 2 [(0, (.c (.int .i64 1))), (1, (.c (.int .i64 0)))]), (some (21, true))⟩,
       ⟨(some 24), (.call (.f 24) [(.t 22), (.t 23)]), (some (21, true))⟩,
       ⟨(some 25), (.pick (.t 21) (.t 24) (.c (.bool false))), none⟩,
       ⟨(some 26), (.mov (.t 25)), none⟩,
       ⟨(some 27), (.loadN 2 (.t 1)), (some (26, true))⟩,
       ⟨(some 28), (.call (.f 19) [(.t 27)]), (some (26, true))⟩,
       ⟨(some 29), (.bin .eql (.t 28) (.c (.int .i64 2))), (some (26, true))⟩,
       ⟨(some 30), (.pick (.t 26) (.t 29) (.c (.bool false))), none⟩,
       ⟨(some 31), (.mov (.t 30)), none⟩,
       ⟨(some 32), (.fldA 1 (.t 1)), (some (31, true))⟩,
       ⟨(some 33), (.load1 (.t 32)), (some (31, true))⟩,
       ⟨(some 34), (.idxS 7 (.t 33) (.c (.int .i64 1))), (some (31, true))⟩,
       ⟨(some 35), (.fldA 5 (.t 34)), (some (31, true))⟩,
       ⟨(some 36), (.load1 (.t 35)), (some (31, true))⟩,
       ⟨(some 37), (.bin .eql (.t 36) (.c (.int .i64 1))), (some (31, true))⟩,
       ⟨(some 38), (.pick (.t 31) (.t 37) (.c (.bool false))), none⟩,
       ⟨(some 0), (.mov (.t 38)), none⟩])
     .ret))))

/- "tiller/tillerlaw08.DagNames" params { toList := [22] } results { toList := [Go.ResultVar.tmp 2] } -/
def x3 : XC :=
 (.seq
  (.ops [
    ⟨(some 2), (.mov (.c (.bool false))), none⟩])
  (.seq
   (.seq
    (.ops [
      ⟨(some 3), (.mov (.c (.int .i64 0))), none⟩])
    (.block 0
     (.loop
      (.seq
       (.seq
        (.ops [
          ⟨(some 4), (.mov (.t 3)), none⟩,
          ⟨(some 5), (.mov (.t 0)), none⟩,
          ⟨(some 6), (.len (.t 5)), none⟩,
          ⟨(some 7), (.bin .lss (.t 4) (.t 6)), none⟩,
          ⟨(some 8), (.mov (.t 7)), none⟩,
          ⟨(some 9), (.mov (.t 3)), (some (8, true))⟩,
          ⟨(some 10), (.bin .lss (.t 9) (.c (.int .i64 60))), (some (8, true))⟩,
          ⟨(some 11), (.pick (.t 8) (.t 10) (.c (.bool false))), none⟩])
        (.cond (.t 11)
         .skip
         (.exit 0)))
       (.seq
        (.block 1
         (.seq
          (.drawE [
            ⟨(some 14), (.mov (.t 0)), none⟩,
            ⟨(some 15), (.mov (.t 3)), none⟩,
            ⟨(some 16), (.idxS 1 (.t 14) (.t 15)), none⟩,
            ⟨(some 17), (.load1 (.t 16)), none⟩,
            ⟨(some 18), (.pcall (.f 7) [(.t 17)]), none⟩,
            ⟨(some 19), (.mov (.t 0)), none⟩,
            ⟨(some 20), (.mov (.t 3)), none⟩,
            ⟨(some 21), (.idxS 1 (.t 19) (.t 20)), none⟩,
            ⟨(some 22), (.load1 (.t 21)), none⟩,
            ⟨(some 23), (.pcall (.f 8) [(.t 22)]), none⟩,
            ⟨(some 24), (.eqB true (.t 18) (.t 23)), none⟩,
            ⟨(some 25), (.mov (.t 24)), none⟩,
            ⟨(some 26), (.mov (.t 0)), (some (25, false))⟩,
            ⟨(some 27), (.mov (.t 3)), (some (25, false))⟩,
            ⟨(some 28), (.idxS 1 (.t 26) (.t 27)), (some (25, false))⟩,
            ⟨(some 29), (.load1 (.t 28)), (some (25, false))⟩,
            ⟨(some 30), (.pcall (.f 9) [(.t 29)]), (some (25, false))⟩,
            ⟨(some 31), (.mov (.t 0)), (some (25, false))⟩,
            ⟨(some 32), (.mov (.t 3)), (some (25, false))⟩,
            ⟨(some 33), (.idxS 1 (.t 31) (.t 32)), (some (25, false))⟩,
            ⟨(some 34), (.load1 (.t 33)), (some (25, false))⟩,
            ⟨(some 35), (.pcall (.f 10) [(.t 34)]), (some (25, false))⟩,
            ⟨(some 36), (.eqB true (.t 30) (.t 35)), (some (25, false))⟩,
            ⟨(some 37), (.pick (.t 25) (.c (.bool true)) (.t 36)), none⟩])
          (.cond (.t 37)
           (.seq
            (.ops [
              ⟨(some 2), (.mov (.c (.bool false))), none⟩])
            .ret)
           .skip)))
        (.ops [
          ⟨(some 12), (.mov (.t 3)), none⟩,
          ⟨(some 13), (.bin .add (.t 12) (.c (.int .i64 1))), none⟩,
          ⟨(some 3), (.mov (.t 13)), none⟩]))))))
   (.seq
    (.ops [
      ⟨(some 38), (.mov (.c (.bool true))), none⟩,
      ⟨(some 39), (.call (.f 11) []), (some (38, true))⟩,
      ⟨(some 40), (.pick (.t 38) (.t 39) (.c (.bool false))), none⟩,
      ⟨(some 2), (.mov (.t 40)), none⟩])
    .ret)))

section
variable {E : Env}
theorem strRows_conv (L : List Blk) (l : List (List UInt8)) : True := trivial
theorem wakes_pure (hP : E.P = Tryd.prog) : XPure E 11 [] (.bool true) := by
  refine xpure1 (n := Tryd.f11.ntmps) (c := x11) (t := 0) (by rw [hP]; rfl) (by rw [hP]; kernel_rfl) (by decide) (Nat.le_of_ble_eq_true rfl) ?_
  generalize hρ : entry _ = ρ
  clear hρ
  unfold x11
  simp only [go_sem, Nat.reduceEqDiff, reduceIte, Int.reduceEq, Int.reduceLT, Int.reduceLE, Nat.reduceAdd, Nat.reduceLT, Nat.reduceLeDiff, Int.reduceToNat, Int.reduceSub, Int.reduceAdd, Int.reduceNeg]
  have hd2 : (decide (2 = dW.nodes.length)) = true := rfl
  refine xcall_pure (args' := [.str textW]) rfl (evFun_sound (tabD_ok hP) (parseW_ev E.gl)) rfl ?_
  simp only [DefD.iv, go_sem, Nat.reduceEqDiff, reduceIte, Int.reduceEq, Int.reduceLT, Int.reduceLE, Nat.reduceAdd, Nat.reduceLT, Nat.reduceLeDiff, Int.reduceToNat, Int.reduceSub, Int.reduceAdd, Int.reduceNeg]
  refine xcall_pure (args' := [dW.iv]) rfl (order_pure hP dW (by decide) (by decide)) rfl ?_
  simp only [orderW, hd2, go_sem, Nat.reduceEqDiff, reduceIte, Int.reduceEq, Int.reduceLT, Int.reduceLE, Nat.reduceAdd, Nat.reduceLT, Nat.reduceLeDiff, Int.reduceToNat, Int.reduceSub, Int.reduceAdd, Int.reduceNeg]
  refine xcall_lend (args' := [.isl (intRows [1, 0]), .isl (intRows [1, 0])]) rfl (evFun_sound (tabD_ok hP) (intsW_ev E.gl)) rfl rfl ?_
  simp only [orderW, hd2, go_sem, Nat.reduceEqDiff, reduceIte, Int.reduceEq, Int.reduceLT, Int.reduceLE, Nat.reduceAdd, Nat.reduceLT, Nat.reduceLeDiff, Int.reduceToNat, Int.reduceSub, Int.reduceAdd, Int.reduceNeg]
  refine xcall_pure (args' := [dW.iv]) rfl (depth_pure hP dW (by decide) (by decide)) rfl ?_
  simp only [depthW, hd2, go_sem, Nat.reduceEqDiff, reduceIte, Int.reduceEq, Int.reduceLT, Int.reduceLE, Nat.reduceAdd, Nat.reduceLT, Nat.reduceLeDiff, Int.reduceToNat, Int.reduceSub, Int.reduceAdd, Int.reduceNeg]
  have h1 : (nodeRows dW.nodes).getD 1 [] = [.str [97], .int .i64 1, .str [113], .str [], .int .i64 0, .int .i64 1, .isl []] := rfl
  have h2 : (nodeRows dW.nodes).length = 2 := rfl
  simp only [depthW, hd2, h1, h2, rows_nodes, go_sem, Nat.reduceEqDiff, reduceIte, Int.reduceEq, Int.reduceLT, Int.reduceLE, Nat.reduceAdd, Nat.reduceLT, Nat.reduceLeDiff, Int.reduceToNat, Int.reduceSub, Int.reduceAdd, Int.reduceNeg]
  rfl

theorem names_pure (hP : E.P = Tryd.prog) {m : Int} (hm : E.gl 0 = some [.int .i64 m]) (l : List (List UInt8)) (hl : l.length ≤ 9223372036854775807) (hll : ∀ s ∈ l, s.length ≤ 9223372036854775807) : XPure E 3 [.isl (strRows l)] (.bool true) := by
  refine xpure1 (n := Tryd.f3.ntmps) (c := x3) (t := 2) (by rw [hP]; rfl) (by rw [hP]; kernel_rfl) (by decide) (Nat.le_of_ble_eq_true rfl) ?_
  generalize hρ : entry _ = ρ
  have h0 : ρ 0 = .isl (strRows l) := by rw [← hρ]; rfl
  clear hρ
  unfold x3
  simp only [h0, go_sem, Nat.reduceEqDiff, reduceIte, Int.reduceEq, Int.reduceLT, Int.reduceLE, Nat.reduceAdd, Nat.reduceLT, Nat.reduceLeDiff, Int.reduceToNat, Int.reduceSub, Int.reduceAdd, Int.reduceNeg]
  refine s_loop (fun n' ρ L => ∃ i : Nat, i ≤ l.length ∧ n' = l.length - i ∧ L = [] ∧ ρ 0 = .isl (strRows l) ∧ ρ 3 = .int .i64 i)
    ⟨0, Nat.zero_le _, rfl, rfl, by simp only [h0, go_sem, Nat.reduceEqDiff, reduceIte, Int.reduceEq, Int.reduceLT, Int.reduceLE, Nat.reduceAdd, Nat.reduceLT, Nat.reduceLeDiff, Int.reduceToNat, Int.reduceSub, Int.reduceAdd, Int.reduceNeg], by simp only [go_sem, Nat.reduceEqDiff, reduceIte, Int.reduceEq, Int.reduceLT, Int.reduceLE, Nat.reduceAdd, Nat.reduceLT, Nat.reduceLeDiff, Int.reduceToNat, Int.reduceSub, Int.reduceAdd, Int.reduceNeg]; try rfl⟩ ?_
  clear h0 ρ
  rintro n' ρ L ⟨i, hi, rfl, rfl, h0, h3⟩
  simp only [h0, h3, strRows_len, go_sem, Nat.reduceEqDiff, reduceIte, Int.reduceEq, Int.reduceLT, Int.reduceLE, Nat.reduceAdd, Nat.reduceLT, Nat.reduceLeDiff, Int.reduceToNat, Int.reduceSub, Int.reduceAdd, Int.reduceNeg]
  refine s_mg (by simp only [h0, h3, strRows_len, go_sem, Nat.reduceEqDiff, reduceIte, Int.reduceEq, Int.reduceLT, Int.reduceLE, Nat.reduceAdd, Nat.reduceLT, Nat.reduceLeDiff, Int.reduceToNat, Int.reduceSub, Int.reduceAdd, Int.reduceNeg]; try rfl) ?_; simp only [cut_g, cut_t, cut_none, cut_out, memN_cons, memN_nil, Nat.reduceEqDiff, reduceIte, List.nil_append, List.cons_append, not_false_eq_true]; refine ex_merge rfl (by simp only [h0, h3, strRows_len, go_sem, Nat.reduceEqDiff, reduceIte, Int.reduceEq, Int.reduceLT, Int.reduceLE, Nat.reduceAdd, Nat.reduceLT, Nat.reduceLeDiff, Int.reduceToNat, Int.reduceSub, Int.reduceAdd, Int.reduceNeg]) (by intro hb; simp only [hb, h0, h3, strRows_len, go_sem, Nat.reduceEqDiff, reduceIte, Int.reduceEq, Int.reduceLT, Int.reduceLE, Nat.reduceAdd, Nat.reduceLT, Nat.reduceLeDiff, Int.reduceToNat, Int.reduceSub, Int.reduceAdd, Int.reduceNeg]; first | exact rfl | exact ⟨rfl, rfl⟩) (fun vs => ?_); simp only [h0, h3, strRows_len, go_sem, Nat.reduceEqDiff, reduceIte, Int.reduceEq, Int.reduceLT, Int.reduceLE, Nat.reduceAdd, Nat.reduceLT, Nat.reduceLeDiff, Int.reduceToNat, Int.reduceSub, Int.reduceAdd, Int.reduceNeg]
  refine s_cond (b := decide ((i : Int) < (l.length : Int)) && decide ((i : Int) < 60)) (by simp only [h0, h3, go_sem, Nat.reduceEqDiff, reduceIte, Int.reduceEq, Int.reduceLT, Int.reduceLE, Nat.reduceAdd, Nat.reduceLT, Nat.reduceLeDiff, Int.reduceToNat, Int.reduceSub, Int.reduceAdd, Int.reduceNeg]; try rfl) ?_ ?_ <;> intro hb <;> simp only [hb, h0, h3, go_sem, Nat.reduceEqDiff, reduceIte, Int.reduceEq, Int.reduceLT, Int.reduceLE, Nat.reduceAdd, Nat.reduceLT, Nat.reduceLeDiff, Int.reduceToNat, Int.reduceSub, Int.reduceAdd, Int.reduceNeg]
  · rw [Bool.and_eq_true, decide_eq_true_eq, decide_eq_true_eq] at hb
    have hi' : i < l.length := by omega
    have hsr := strRows_get hi'
    have hs : (l.getD i []).length ≤ 9223372036854775807 := hll _ (by rw [List.getD_eq_getElem?_getD, List.getElem?_eq_getElem hi']; exact List.getElem_mem _)
    try simp only [h0, h3, strRows_len, rows_strs, hsr, go_sem, Nat.reduceEqDiff, reduceIte, Int.reduceEq, Int.reduceLT, Int.reduceLE, Nat.reduceAdd, Nat.reduceLT, Nat.reduceLeDiff, Int.reduceToNat, Int.reduceSub, Int.reduceAdd, Int.reduceNeg]
    refine ⟨by omega, hi', ?_⟩
    refine o_pcall (args' := [.str (l.getD i [])]) rfl (dagName_pure hP hm _ hs) (fun m => rfl) ?_
    try simp only [h0, h3, strRows_len, rows_strs, hsr, go_sem, Nat.reduceEqDiff, reduceIte, Int.reduceEq, Int.reduceLT, Int.reduceLE, Nat.reduceAdd, Nat.reduceLT, Nat.reduceLeDiff, Int.reduceToNat, Int.reduceSub, Int.reduceAdd, Int.reduceNeg]
    refine ⟨by omega, hi', ?_⟩
    refine o_pcall (args' := [.str (l.getD i [])]) rfl (refName_pure hP _ hs) (fun m => rfl) ?_
    try simp only [h0, h3, strRows_len, rows_strs, hsr, go_sem, Nat.reduceEqDiff, reduceIte, Int.reduceEq, Int.reduceLT, Int.reduceLE, Nat.reduceAdd, Nat.reduceLT, Nat.reduceLeDiff, Int.reduceToNat, Int.reduceSub, Int.reduceAdd, Int.reduceNeg]
    refine ⟨by omega, hi', ?_⟩
    refine o_pcall (args' := [.str (l.getD i [])]) rfl (dagFlow_pure hP hm _ hs) (fun m => rfl) ?_
    try simp only [h0, h3, strRows_len, rows_strs, hsr, go_sem, Nat.reduceEqDiff, reduceIte, Int.reduceEq, Int.reduceLT, Int.reduceLE, Nat.reduceAdd, Nat.reduceLT, Nat.reduceLeDiff, Int.reduceToNat, Int.reduceSub, Int.reduceAdd, Int.reduceNeg]
    refine ⟨by omega, hi', ?_⟩
    refine o_pcall (args' := [.str (l.getD i [])]) rfl (refFlow_pure hP _ hs) (fun m => rfl) ?_
    try simp only [h0, h3, strRows_len, rows_strs, hsr, go_sem, Nat.reduceEqDiff, reduceIte, Int.reduceEq, Int.reduceLT, Int.reduceLE, Nat.reduceAdd, Nat.reduceLT, Nat.reduceLeDiff, Int.reduceToNat, Int.reduceSub, Int.reduceAdd, Int.reduceNeg]
    refine ⟨l.length - (i + 1), by omega, i + 1, by omega, rfl, by rw [wrap64 (by omega) (by omega)]; rfl⟩
  · try simp only [h0, h3, go_sem, Nat.reduceEqDiff, reduceIte, Int.reduceEq, Int.reduceLT, Int.reduceLE, Nat.reduceAdd, Nat.reduceLT, Nat.reduceLeDiff, Int.reduceToNat, Int.reduceSub, Int.reduceAdd, Int.reduceNeg]
    refine xcall_pure (args' := []) rfl (wakes_pure hP) rfl ?_
    try simp only [h0, h3, go_sem, Nat.reduceEqDiff, reduceIte, Int.reduceEq, Int.reduceLT, Int.reduceLE, Nat.reduceAdd, Nat.reduceLT, Nat.reduceLeDiff, Int.reduceToNat, Int.reduceSub, Int.reduceAdd, Int.reduceNeg]
    rfl
end
end Go.X.TrydW
end
section
open Go Go.X Go.Proofs
set_option maxRecDepth 100000
set_option maxHeartbeats 4000000
set_option linter.unusedSimpArgs false
set_option linter.unusedVariables false
namespace Go.X.TrydW
/- "tiller/tillerlaw08.cut" params { toList := [28] } results { toList := [Go.ResultVar.cell 2 28] } -/
def x12 : XC :=
 (.seq
  (.ops [
    ⟨(some 1), (.box (.t 0)), none⟩,
    ⟨(some 2), (.alloc [(.str []), .nsl]), none⟩])
  (.seq
   (.seq
    (.ops [
      ⟨(some 6), (.fldA 1 (.t 1)), none⟩,
      ⟨(some 7), (.load1 (.t 6)), none⟩,
      ⟨(some 8), (.len (.t 7)), none⟩,
      ⟨(some 9), (.bin .gtr (.t 8) (.c (.int .i64 40))), none⟩])
    (.cond (.t 9)
     (.ops [
       ⟨(some 10), (.fldA 1 (.t 1)), none⟩,
       ⟨(some 11), (.load1 (.t 10)), none⟩,
       ⟨(some 12), (.slice 7 (.t 11) none (some (.c (.int .i64 40)))), none⟩,
       ⟨(some 13), (.fldA 1 (.t 1)), none⟩,
       ⟨none, (.store 1 (.t 13) (.t 12)), none⟩])
     .skip))
   (.seq
    (.ops [
      ⟨(some 3), (.mov (.c .nsl)), none⟩])
    (.seq
     (.seq
      (.ops [
        ⟨(some 4), (.mov (.c (.int .i64 0))), none⟩])
      (.block 0
       (.loop
        (.seq
         (.seq
          (.ops [
            ⟨(some 14), (.mov (.t 4)), none⟩,
            ⟨(some 15), (.fldA 1 (.t 1)), none⟩,
            ⟨(some 16), (.load1 (.t 15)), none⟩,
            ⟨(some 17), (.len (.t 16)), none⟩,
            ⟨(some 18), (.bin .lss (.t 14) (.t 17)), none⟩])
          (.cond (.t 18)
           .skip
           (.exit 0)))
         (.seq
          (.block 1
           (.seq
            (.ops [
              ⟨(some 21), (.fldA 1 (.t 1)), none⟩,
              ⟨(some 22), (.load1 (.t 21)), none⟩,
              ⟨(some 23), (.mov (.t 4)), none⟩,
              ⟨(some 24), (.idxS 7 (.t 22) (.t 23)), none⟩,
              ⟨(some 25), (.loadN 7 (.t 24)), none⟩,
              ⟨(some 5), (.alloc [(.str []), (.int .i64 0), (.str []), (.str []), (.int .i64 0), (.int .i64 0), .nsl]), none⟩,
              ⟨none, (.store 7 (.t 5) (.t 25)), none⟩])
            (.seq
             (.seq
              (.ops [
                ⟨(some 26), (.fldA 6 (.t 5)), none⟩,
                ⟨(some 27), (.load1 (.t 26)), none⟩,
                ⟨(some 28), (.len (.t 27)), none⟩,
                ⟨(some 29), (.bin .gtr (.t 28) (.c (.int .i64 10))), none⟩])
              (.cond (.t 29)
               (.ops [
                 ⟨(some 30), (.fldA 6 (.t 5)), none⟩,
                 ⟨(some 31), (.load1 (.t 30)), none⟩,
                 ⟨(some 32), (.slice 1 (.t 31) none (some (.c (.int .i64 10)))), none⟩,
                 ⟨(some 33), (.fldA 6 (.t 5)), none⟩,
                 ⟨none, (.store 1 (.t 33) (.t 32)), none⟩])
               .skip))
             (.ops [
               ⟨(some 34), (.mov (.t 3)), none⟩,
               ⟨(some 35), (.loadN 7 (.t 5)), none⟩,
               ⟨(some 36), (.bslice 7 [(.str []), (.int .i64 0), (.str []), (.str []), (.int .i64 0), (.int .i64 0), .nsl] 1 [(0, (.t 35))]), none⟩,
               ⟨(some 37), (.append 7 96 (.t 34) (.t 36)), none⟩,
               ⟨(some 3), (.mov (.t 37)), none⟩]))))
          (.ops [
            ⟨(some 19), (.mov (.t 4)), none⟩,
            ⟨(some 20), (.bin .add (.t 19) (.c (.int .i64 1))), none⟩,
            ⟨(some 4), (.mov (.t 20)), none⟩]))))))
     (.seq
      (.ops [
        ⟨(some 38), (.mov (.t 3)), none⟩,
        ⟨(some 39), (.fldA 1 (.t 1)), none⟩,
        ⟨none, (.store 1 (.t 39) (.t 38)), none⟩])
      (.seq
       (.ops [
         ⟨(some 40), (.loadN 2 (.t 1)), none⟩,
         ⟨none, (.store 2 (.t 2) (.t 40)), none⟩])
       .ret))))))

section
variable {E : Env}
theorem xcut_norm {c : XC} {ρ : Rho} {L : List Blk} {K : XE → Rho → List Blk → Prop} (M : Rho → List Blk → Prop) (h1 : xrun E c ρ L (Norm M)) (h2 : ∀ ρ L, M ρ L → K .normal ρ L) : xrun E c ρ L K := by
  refine xrun_mono c (fun e ρ L h => ?_) h1
  cases e with
  | normal => exact h2 ρ L h
  | exit => exact h.elim
  | goto => exact h.elim
  | ret => exact h.elim
@[go_sem ↓] theorem norm_normal {M : Rho → List Blk → Prop} {ρ : Rho} {L : List Blk} : Norm M .normal ρ L = M ρ L := nr rfl
/-- One answer that lies in cells. -/
theorem xpureC {f : FuncId} {fn : Func} {t k n : Nat} {c : XC} {args : List IV} {r : IV} (hf : E.P.funcs[f]? = some fn) (hF : compFn E.P fn = some ⟨n, [.cellN t k], c⟩) (hnm : fn.name ≠ "runtime.NumGoroutine")
    (hargs : args.length ≤ fn.ntmps) (h : xrun E c (entry args) [] (doneK fun ρ L' => xop E ((XO.loadN k (.t t)).sub (Opd.ev ρ)) cev L' fun v _ => conv L' fuel renFreeze v = some r)) : XPure E f args r := by
  refine xpure_of_fun hf hF hnm hargs (xrun_mono _ (fun e ρ L h => ?_) h)
  have key : ∀ {ρ : Rho} {L : List Blk}, xop E ((XO.loadN k (.t t)).sub (Opd.ev ρ)) cev L (fun v _ => conv L fuel renFreeze v = some r) → xresults E [.cellN t k] ρ L fun r' => conv L fuel renFreeze r' = some r := fun h => by
    rw [← xop_sub] at h
    exact h
  cases e with
  | normal => exact ⟨Or.inr rfl, key h⟩
  | ret => exact ⟨Or.inl rfl, key h⟩
  | exit => exact h.elim
  | goto => exact h.elim

def NodeD.cut (n : NodeD) : NodeD := { n with after := n.after.take 10 }
def DefD.cut (d : DefD) : DefD := ⟨d.name, (d.nodes.take 40).map NodeD.cut⟩
theorem strRows_take (l : List (List UInt8)) (k : Nat) : (strRows l).take k = strRows (l.take k) := by simp [strRows, List.map_take]
theorem nodeRows_take (l : List NodeD) (k : Nat) : (nodeRows l).take k = nodeRows (l.take k) := by simp [nodeRows, List.map_take]

theorem get2' {a b x : Blk} {J : List Blk} : (a :: b :: (J ++ [x]))[J.length + 1 + 1]? = some x := by simp
theorem set2' {a b x y : Blk} {J : List Blk} : (a :: b :: (J ++ [x])).set (J.length + 1 + 1) y = a :: b :: (J ++ [y]) := by simp
theorem out_cell {sz : Nat} {p L : List Blk} {rows : List (List IV)} {v : IV} (h : OutOk sz p rows v L) : cellsOf v = [v] ∧ isCell v = true := by
  obtain ⟨J, _, ⟨_, rfl⟩ | ⟨s, _, rfl, _⟩⟩ := h <;> exact ⟨rfl, rfl⟩
theorem out_grow {sz : Nat} {p L : List Blk} {rows : List (List IV)} {v : IV} {b : Blk} (h : OutOk sz p rows v L) : OutOk sz p rows v (L ++ [b]) := by
  obtain ⟨J, rfl, h⟩ := h
  refine ⟨J ++ [b], by simp, ?_⟩
  rcases h with h | ⟨s, hs, h1, h2⟩
  · exact .inl h
  · exact .inr ⟨s, hs, h1, get_app h2⟩
theorem cut_pure (hP : E.P = Tryd.prog) (d : DefD) (hd : d.nodes.length ≤ 9223372036854775807) (ha : ∀ n ∈ d.nodes, n.after.length ≤ 9223372036854775807) : XPure E 12 [d.iv] d.cut.iv := by
  refine xpureC (n := Tryd.f12.ntmps) (c := x12) (t := 2) (k := 2) (by rw [hP]; rfl) (by rw [hP]; kernel_rfl) (by decide) (Nat.le_of_ble_eq_true rfl) ?_
  generalize hρ : entry _ = ρ
  have h0 : ρ 0 = .agg [.str d.name, .isl (nodeRows d.nodes)] := by rw [← hρ]; rfl
  clear hρ
  unfold x12
  simp only [h0, nodeRows_len, go_sem, Nat.reduceEqDiff, reduceIte, Int.reduceEq, Int.reduceLT, Int.reduceLE, Nat.reduceAdd, Nat.reduceLT, Nat.reduceLeDiff, Int.reduceToNat, Int.reduceSub, Int.reduceAdd, Int.reduceNeg]
  refine xcut_norm (fun ρ' L' => ρ' 1 = .ptr 0 0 0 ∧ ρ' 2 = .ptr 1 0 0 ∧ L' = [.cells 2 [[.str d.name, .isl (nodeRows (d.nodes.take 40))]], .cells 2 [[.str [], .nsl]]]) ?_ ?_
  · refine s_cond (b := decide _) (by simp only [h0, go_sem, Nat.reduceEqDiff, reduceIte, Int.reduceEq, Int.reduceLT, Int.reduceLE, Nat.reduceAdd, Nat.reduceLT, Nat.reduceLeDiff, Int.reduceToNat, Int.reduceSub, Int.reduceAdd, Int.reduceNeg]; try rfl) ?_ ?_ <;> intro hb <;> simp only [hb, h0, go_sem, Nat.reduceEqDiff, reduceIte, Int.reduceEq, Int.reduceLT, Int.reduceLE, Nat.reduceAdd, Nat.reduceLT, Nat.reduceLeDiff, Int.reduceToNat, Int.reduceSub, Int.reduceAdd, Int.reduceNeg]
    · rw [decide_eq_true_eq] at hb
      simp only [h0, nodeRows_len, rows_nodes, nodeRows_take, go_sem, Nat.reduceEqDiff, reduceIte, Int.reduceEq, Int.reduceLT, Int.reduceLE, Nat.reduceAdd, Nat.reduceLT, Nat.reduceLeDiff, Int.reduceToNat, Int.reduceSub, Int.reduceAdd, Int.reduceNeg]
      omega
    · rw [decide_eq_false_iff_not] at hb
      have : d.nodes.take 40 = d.nodes := List.take_of_length_le (by omega)
      simp only [h0, this, go_sem, Nat.reduceEqDiff, reduceIte, Int.reduceEq, Int.reduceLT, Int.reduceLE, Nat.reduceAdd, Nat.reduceLT, Nat.reduceLeDiff, Int.reduceToNat, Int.reduceSub, Int.reduceAdd, Int.reduceNeg]
  clear h0 ρ
  rintro ρ L ⟨h1, h2, rfl⟩
  have ha' : ∀ n ∈ d.nodes.take 40, n.after.length ≤ 9223372036854775807 := fun n hn => ha n (List.mem_of_mem_take hn)
  have hn40 : (d.nodes.take 40).length ≤ 40 := List.length_take_le ..
  have hcut : d.cut = ⟨d.name, (d.nodes.take 40).map NodeD.cut⟩ := rfl
  rw [hcut]
  generalize d.nodes.take 40 = ns at *
  simp only [h1, h2, go_sem, Nat.reduceEqDiff, reduceIte, Int.reduceEq, Int.reduceLT, Int.reduceLE, Nat.reduceAdd, Nat.reduceLT, Nat.reduceLeDiff, Int.reduceToNat, Int.reduceSub, Int.reduceAdd, Int.reduceNeg]
  refine s_loop (fun n' ρ L => ∃ i : Nat, i ≤ ns.length ∧ n' = ns.length - i ∧ OutOk 7 [.cells 2 [[.str d.name, .isl (nodeRows ns)]], .cells 2 [[.str [], .nsl]]] (nodeRows ((ns.take i).map NodeD.cut)) (ρ 3) L ∧
      ρ 1 = .ptr 0 0 0 ∧ ρ 2 = .ptr 1 0 0 ∧ ρ 4 = .int .i64 i)
    ⟨0, Nat.zero_le _, rfl, ?_, by simp only [h1, go_sem, Nat.reduceEqDiff, reduceIte, Int.reduceEq, Int.reduceLT, Int.reduceLE, Nat.reduceAdd, Nat.reduceLT, Nat.reduceLeDiff, Int.reduceToNat, Int.reduceSub, Int.reduceAdd, Int.reduceNeg], by simp only [h2, go_sem, Nat.reduceEqDiff, reduceIte, Int.reduceEq, Int.reduceLT, Int.reduceLE, Nat.reduceAdd, Nat.reduceLT, Nat.reduceLeDiff, Int.reduceToNat, Int.reduceSub, Int.reduceAdd, Int.reduceNeg], by simp only [go_sem, Nat.reduceEqDiff, reduceIte, Int.reduceEq, Int.reduceLT, Int.reduceLE, Nat.reduceAdd, Nat.reduceLT, Nat.reduceLeDiff, Int.reduceToNat, Int.reduceSub, Int.reduceAdd, Int.reduceNeg]; try rfl⟩ ?_
  · try simp only [go_sem, Nat.reduceEqDiff, reduceIte, Int.reduceEq, Int.reduceLT, Int.reduceLE, Nat.reduceAdd, Nat.reduceLT, Nat.reduceLeDiff, Int.reduceToNat, Int.reduceSub, Int.reduceAdd, Int.reduceNeg]
    exact out_nil (p := [.cells 2 [[.str d.name, .isl (nodeRows ns)]], .cells 2 [[.str [], .nsl]]]) (J := [])
  clear h1 h2 ρ
  rintro n' ρ L ⟨i, hi, rfl, hO, h1, h2, h4⟩
  generalize h3 : ρ 3 = v at hO
  have hOut := hO
  obtain ⟨J, rfl, hJ⟩ := hO
  simp only [h1, h2, h3, h4, nodeRows_len, go_sem, Nat.reduceEqDiff, reduceIte, Int.reduceEq, Int.reduceLT, Int.reduceLE, Nat.reduceAdd, Nat.reduceLT, Nat.reduceLeDiff, Int.reduceToNat, Int.reduceSub, Int.reduceAdd, Int.reduceNeg]
  refine s_cond (b := decide _) (by simp only [h1, h2, h3, h4, go_sem, Nat.reduceEqDiff, reduceIte, Int.reduceEq, Int.reduceLT, Int.reduceLE, Nat.reduceAdd, Nat.reduceLT, Nat.reduceLeDiff, Int.reduceToNat, Int.reduceSub, Int.reduceAdd, Int.reduceNeg]; try rfl) ?_ ?_ <;> intro hb <;> simp only [hb, h1, h2, h3, h4, go_sem, Nat.reduceEqDiff, reduceIte, Int.reduceEq, Int.reduceLT, Int.reduceLE, Nat.reduceAdd, Nat.reduceLT, Nat.reduceLeDiff, Int.reduceToNat, Int.reduceSub, Int.reduceAdd, Int.reduceNeg]
  · rw [decide_eq_true_eq] at hb
    have hi' : i < ns.length := by omega
    have hrow := nodeRows_get hi'
    have hmem : ns.getD i default ∈ ns := by rw [List.getD_eq_getElem?_getD, List.getElem?_eq_getElem hi']; exact List.getElem_mem _
    have haf := ha' _ hmem
    have htk : (ns.take (i + 1)).map NodeD.cut = (ns.take i).map NodeD.cut ++ [(ns.getD i default).cut] := by
      rw [List.take_add_one, getD_get (d := default) hi']; simp
    generalize ns.getD i default = nd at *
    simp only [h1, h2, h3, h4, nodeRows_len, rows_nodes, hrow, NodeD.row, get2', set2', strRows_len, go_sem, Nat.reduceEqDiff, reduceIte, Int.reduceEq, Int.reduceLT, Int.reduceLE, Nat.reduceAdd, Nat.reduceLT, Nat.reduceLeDiff, Int.reduceToNat, Int.reduceSub, Int.reduceAdd, Int.reduceNeg]
    refine ⟨by omega, hi', ?_⟩
    refine xcut_norm (fun ρ' L' => ρ' 1 = .ptr 0 0 0 ∧ ρ' 2 = .ptr 1 0 0 ∧ ρ' 3 = v ∧ ρ' 4 = .int .i64 i ∧ ρ' 5 = .ptr (J.length + 1 + 1) 0 0 ∧
      L' = .cells 2 [[.str d.name, .isl (nodeRows ns)]] :: .cells 2 [[.str [], .nsl]] :: (J ++ [.cells 7 [nd.cut.row]])) ?_ ?_
    · refine s_cond (b := decide _) (by simp only [h1, h2, h3, h4, go_sem, Nat.reduceEqDiff, reduceIte, Int.reduceEq, Int.reduceLT, Int.reduceLE, Nat.reduceAdd, Nat.reduceLT, Nat.reduceLeDiff, Int.reduceToNat, Int.reduceSub, Int.reduceAdd, Int.reduceNeg]; try rfl) ?_ ?_ <;> intro hc <;> simp only [hc, h1, h2, h3, h4, go_sem, Nat.reduceEqDiff, reduceIte, Int.reduceEq, Int.reduceLT, Int.reduceLE, Nat.reduceAdd, Nat.reduceLT, Nat.reduceLeDiff, Int.reduceToNat, Int.reduceSub, Int.reduceAdd, Int.reduceNeg]
      · rw [decide_eq_true_eq] at hc
        simp only [h1, h2, h3, h4, get2', set2', rows_strs, strRows_len, strRows_take, go_sem, Nat.reduceEqDiff, reduceIte, Int.reduceEq, Int.reduceLT, Int.reduceLE, Nat.reduceAdd, Nat.reduceLT, Nat.reduceLeDiff, Int.reduceToNat, Int.reduceSub, Int.reduceAdd, Int.reduceNeg]
        refine ⟨by omega, ?_⟩
        rfl
      · rw [decide_eq_false_iff_not] at hc
        have hcut : nd.cut = nd := by
          obtain ⟨_, _, _, _, _, _, af⟩ := nd
          simp only [NodeD.cut]
          rw [List.take_of_length_le (by simp only at hc; omega)]
        simp only [h1, h2, h3, h4, hcut, NodeD.row, go_sem, Nat.reduceEqDiff, reduceIte, Int.reduceEq, Int.reduceLT, Int.reduceLE, Nat.reduceAdd, Nat.reduceLT, Nat.reduceLeDiff, Int.reduceToNat, Int.reduceSub, Int.reduceAdd, Int.reduceNeg]
    · clear h1 h2 h3 h4 ρ
      rintro ρ L ⟨h1, h2, h3, h4, h5, rfl⟩
      simp only [h1, h2, h3, h4, h5, get2', set2', NodeD.row, go_sem, Nat.reduceEqDiff, reduceIte, Int.reduceEq, Int.reduceLT, Int.reduceLE, Nat.reduceAdd, Nat.reduceLT, Nat.reduceLeDiff, Int.reduceToNat, Int.reduceSub, Int.reduceAdd, Int.reduceNeg]
      have hgo : OutOk 7 [.cells 2 [[.str d.name, .isl (nodeRows ns)]], .cells 2 [[.str [], .nsl]]] (nodeRows ((ns.take i).map NodeD.cut)) v (.cells 2 [[.str d.name, .isl (nodeRows ns)]] :: .cells 2 [[.str [], .nsl]] :: (J ++ [.cells 7 [nd.cut.row]])) := out_grow hOut
      refine out_append (row := nd.cut.row) hgo rfl rfl ⟨rfl, rfl⟩ (by rw [nodeRows_len, List.length_map, List.length_take]; omega) ?_
      intro v' L' hO'
      try simp only [h1, h2, h3, h4, h5, go_sem, Nat.reduceEqDiff, reduceIte, Int.reduceEq, Int.reduceLT, Int.reduceLE, Nat.reduceAdd, Nat.reduceLT, Nat.reduceLeDiff, Int.reduceToNat, Int.reduceSub, Int.reduceAdd, Int.reduceNeg]
      refine ⟨ns.length - (i + 1), by omega, i + 1, by omega, rfl, ?_, by rw [wrap64 (by omega) (by omega)]; rfl⟩
      have hr : nodeRows ((ns.take (i + 1)).map NodeD.cut) = nodeRows ((ns.take i).map NodeD.cut) ++ [nd.cut.row] := by rw [htk]; simp [nodeRows]
      rw [hr]; exact hO'
  · rw [decide_eq_false_iff_not] at hb
    have hii : i = ns.length := by omega
    obtain ⟨hc1, hc2⟩ := out_cell hOut
    simp only [h1, h2, h3, h4, hc1, hc2, go_sem, Nat.reduceEqDiff, reduceIte, Int.reduceEq, Int.reduceLT, Int.reduceLE, Nat.reduceAdd, Nat.reduceLT, Nat.reduceLeDiff, Int.reduceToNat, Int.reduceSub, Int.reduceAdd, Int.reduceNeg]
    have hO2 : OutOk 7 [.cells 2 [[.str d.name, v]], .cells 2 [[.str d.name, v]]] (nodeRows (ns.map NodeD.cut)) v (.cells 2 [[.str d.name, v]] :: .cells 2 [[.str d.name, v]] :: J) := by
      refine ⟨J, rfl, ?_⟩
      rw [hii, List.take_length] at hJ
      rcases hJ with h | ⟨s, hs, h1, h2⟩
      · exact .inl h
      · refine .inr ⟨s, hs, h1, ?_⟩
        have hs' : 2 ≤ s := hs
        obtain ⟨s', rfl⟩ : ∃ s', s = s' + 2 := ⟨s - 2, by omega⟩
        exact h2
    exact conv_agg (mapO_cons rfl (mapO_cons (out_conv hO2 (mapO_nodes _ _ _ _)) rfl))
end
end Go.X.TrydW
end
section
/- Plain laws of a definition's graph: its order, its depth, what is ready. -/
open Go Go.X Go.Proofs
set_option linter.unusedSimpArgs false
set_option linter.unusedVariables false
namespace Go.X.TrydW

def DefD.after (d : DefD) (i : Nat) : List (List UInt8) := (d.nodes.getD i default).after

/-- Each stands behind those ahead of it. -/
def Good (d : DefD) (out : List Nat) : Prop :=
  ∀ l1 i l2, out = l1 ++ i :: l2 → i ∉ l1 ∧ i < d.nodes.length ∧ ∀ s ∈ d.after i, ∃ k, d.find s = some k ∧ k ∈ l1

theorem firstI_spec {α : Type} {p : α → Bool} {df : α} : ∀ {l : List α} {i : Nat}, firstI p l = some i → p (l.getD i df) = true ∧ ∀ j, j < i → p (l.getD j df) = false
  | x :: r, i, h => by
    simp only [firstI] at h
    split at h
    · rename_i hx
      simp only [Option.some.injEq] at h; subst h
      exact ⟨by simpa using hx, fun j hj => absurd hj (Nat.not_lt_zero _)⟩
    · rename_i hx
      rw [Option.map_eq_some_iff] at h
      obtain ⟨j, hj, rfl⟩ := h
      obtain ⟨h1, h2⟩ := firstI_spec (df := df) hj
      refine ⟨by simpa using h1, fun k hk => ?_⟩
      cases k with
      | zero => simpa using hx
      | succ k => simpa using h2 k (by omega)
theorem firstI_no {α : Type} {p : α → Bool} : ∀ {l : List α}, firstI p l = none → ∀ x ∈ l, p x = false
  | x :: r, h, y, hy => by
    simp only [firstI] at h
    split at h
    · cases h
    · rename_i hx
      rw [Option.map_eq_none_iff] at h
      rcases List.mem_cons.1 hy with rfl | hy
      · simpa using hx
      · exact firstI_no h y hy

theorem getD_range {n i : Nat} (h : i < n) : (List.range n).getD i 0 = i := by simp [List.getD_eq_getElem?_getD, h]

/-- What is told so far, and the list of it. -/
def Told (d : DefD) (told : List Bool) (out : List Nat) : Prop := told.length = d.nodes.length ∧ (∀ k, told.getD k false = true ↔ k ∈ out) ∧ Good d out

theorem good_snoc {d : DefD} {out : List Nat} {i : Nat} (h : Good d out) (hi : i ∉ out) (hn : i < d.nodes.length) (ha : ∀ s ∈ d.after i, ∃ k, d.find s = some k ∧ k ∈ out) : Good d (out ++ [i]) := by
  intro l1 j l2 he
  rcases List.append_eq_append_iff.1 he with ⟨a, h1, h2⟩ | ⟨a, h1, h2⟩
  · cases a with
    | nil => simp at h1 h2; obtain ⟨rfl, rfl⟩ := h2; subst h1; exact ⟨hi, hn, ha⟩
    | cons x a => simp at h2
  · cases a with
    | nil => simp at h1 h2; obtain ⟨rfl, rfl⟩ := h2; subst h1; exact ⟨hi, hn, ha⟩
    | cons x a =>
      simp only [List.cons_append, List.cons.injEq] at h2
      obtain ⟨rfl, rfl⟩ := h2
      exact h l1 j a h1

theorem met_iff {d : DefD} {i : Nat} {p : Nat → Bool} : d.met i p = true ↔ ∀ s ∈ d.after i, ∃ k, d.find s = some k ∧ k ≠ i ∧ p k = true := by
  unfold DefD.met DefD.after
  rw [List.all_eq_true]
  refine forall_congr' fun s => forall_congr' fun _ => ?_
  unfold depOk
  cases d.find s with
  | none => simp
  | some k => simp

theorem told_step {d : DefD} {told : List Bool} {out : List Nat} {i : Nat} (h : Told d told out) (hf : firstI (d.may told) (List.range d.nodes.length) = some i) : Told d (told.set i true) (out ++ [i]) := by
  obtain ⟨h1, h2, h3⟩ := h
  have hlt : i < d.nodes.length := by simpa using firstI_lt hf
  have hp := (firstI_spec (df := 0) hf).1
  rw [getD_range hlt] at hp
  unfold DefD.may at hp
  simp only [Bool.and_eq_true, Bool.not_eq_true'] at hp
  have hni : i ∉ out := fun hm => by rw [(h2 i).2 hm] at hp; exact absurd hp.1 (by simp)
  refine ⟨by simp [h1], fun k => ?_, good_snoc h3 hni hlt fun s hs => ?_⟩
  · rw [List.getD_eq_getElem?_getD, List.getElem?_set, List.mem_append, List.mem_singleton]
    by_cases hk : i = k
    · subst hk; simp [h1, hlt]
    · rw [if_neg hk, ← List.getD_eq_getElem?_getD, h2 k]
      exact ⟨.inl, fun h => h.elim id fun h => absurd h.symm hk⟩
  · obtain ⟨k, e1, _, e3⟩ := met_iff.1 hp.2 s hs
    exact ⟨k, e1, (h2 k).1 e3⟩

theorem ordGo_good (d : DefD) : ∀ (n : Nat) (told : List Bool) (out : List Nat), Told d told out → ∃ told', Told d told' (d.ordGo n told out) ∧ (out.length + n > d.nodes.length → firstI (d.may told') (List.range d.nodes.length) = none)
  | 0, told, out, h => ⟨told, h, fun hlt => by
      exfalso
      have hnd : out.Nodup := by
        obtain ⟨_, _, hg⟩ := h
        rw [List.nodup_iff_pairwise_ne, List.pairwise_iff_forall_sublist]
        intro a b hab hne
        subst hne
        obtain ⟨l1, l2, rfl, h1, h2⟩ := List.cons_sublist_iff.1 hab |>.imp fun r h => h
        obtain ⟨m1, m2, rfl⟩ := List.append_of_mem (List.singleton_sublist.1 h2)
        exact (hg (l1 ++ m1) a m2 (by simp)).1 (List.mem_append_left _ h1)
      have hsub : ∀ x ∈ out, x ∈ List.range d.nodes.length := fun x hx => by
        obtain ⟨l1, l2, rfl⟩ := List.append_of_mem hx
        exact List.mem_range.2 (h.2.2 l1 x l2 rfl).2.1
      have := (List.nodup_range (n := d.nodes.length)).length_le_of_subset (l₂ := out)
      have h3 := hnd.length_le_of_subset hsub
      simp at h3
      omega⟩
  | n + 1, told, out, h => by
    rw [DefD.ordGo]
    split
    · rename_i hf; exact ⟨told, h, fun _ => hf⟩
    · rename_i i hf
      obtain ⟨told', h1, h2⟩ := ordGo_good d n _ _ (told_step h hf)
      exact ⟨told', h1, fun hlt => h2 (by simp; omega)⟩

theorem order_told (d : DefD) : ∃ told, Told d told d.order ∧ firstI (d.may told) (List.range d.nodes.length) = none := by
  obtain ⟨told', h1, h2⟩ := ordGo_good d (d.nodes.length + 1) (List.replicate d.nodes.length false) [] ⟨by simp, fun k => by
    rw [List.getD_eq_getElem?_getD, List.getElem?_replicate]; split <;> simp, fun l1 i l2 h => by simp at h⟩
  exact ⟨told', h1, h2 (by simp)⟩
theorem order_good (d : DefD) : Good d d.order := (order_told d).choose_spec.1.2.2

theorem good_nodup {d : DefD} {out : List Nat} (hg : Good d out) : out.Nodup := by
  rw [List.nodup_iff_pairwise_ne, List.pairwise_iff_forall_sublist]
  intro a b hab hne
  subst hne
  obtain ⟨l1, l2, rfl, h1, h2⟩ := List.cons_sublist_iff.1 hab |>.imp fun r h => h
  obtain ⟨m1, m2, rfl⟩ := List.append_of_mem (List.singleton_sublist.1 h2)
  exact (hg (l1 ++ m1) a m2 (by simp)).1 (List.mem_append_left _ h1)
theorem good_lt {d : DefD} {out : List Nat} (hg : Good d out) {i : Nat} (h : i ∈ out) : i < d.nodes.length := by
  obtain ⟨l1, l2, rfl⟩ := List.append_of_mem h
  exact (hg l1 i l2 rfl).2.1
theorem good_pred {d : DefD} {out : List Nat} (hg : Good d out) {i : Nat} (h : i ∈ out) {s : List UInt8} (hs : s ∈ d.after i) : ∃ k, d.find s = some k ∧ k ∈ out := by
  obtain ⟨l1, l2, rfl⟩ := List.append_of_mem h
  obtain ⟨k, h1, h2⟩ := (hg l1 i l2 rfl).2.2 s hs
  exact ⟨k, h1, List.mem_append_left _ h2⟩
/-- All are told: each is. -/
theorem order_all {d : DefD} (h : d.order.length = d.nodes.length) {i : Nat} (hi : i < d.nodes.length) : i ∈ d.order := by
  have hg := order_good d
  by_cases hm : i ∈ d.order
  · exact hm
  · exfalso
    have hnd : (i :: d.order).Nodup := List.nodup_cons.2 ⟨hm, good_nodup hg⟩
    have hsub : ∀ x ∈ i :: d.order, x ∈ List.range d.nodes.length := fun x hx => by
      rcases List.mem_cons.1 hx with rfl | hx
      · exact List.mem_range.2 hi
      · exact List.mem_range.2 (good_lt hg hx)
    have := hnd.length_le_of_subset hsub
    simp at this
    omega

/-- What 'deep' says of those told in l. -/
structure Lev (d : DefD) (l : List Nat) (deep : List Nat) (longest : Nat) : Prop where
  len : deep.length = d.nodes.length
  one : ∀ i ∈ l, 1 ≤ deep.getD i 0
  pre : ∀ i ∈ l, ∀ s ∈ d.after i, deep.getD (findK d s) 0 + 1 ≤ deep.getD i 0
  why : ∀ i ∈ l, deep.getD i 0 = 1 ∨ ∃ s ∈ d.after i, deep.getD (findK d s) 0 + 1 = deep.getD i 0
  top : ∀ i ∈ l, deep.getD i 0 ≤ longest
  is : longest = 0 ∨ ∃ i ∈ l, deep.getD i 0 = longest

theorem getD_set_eq {l : List Nat} {i v : Nat} (h : i < l.length) : (l.set i v).getD i 0 = v := by simp [List.getD_eq_getElem?_getD, h]
theorem getD_set_ne {l : List Nat} {i j v : Nat} (h : j ≠ i) : (l.set i v).getD j 0 = l.getD j 0 := by
  simp only [List.getD_eq_getElem?_getD, List.getElem?_set, if_neg (Ne.symm h)]

theorem foldIn (d : DefD) {i : Nat} : ∀ (a : List (List UInt8)) (deep : List Nat), i < deep.length → (∀ s ∈ a, findK d s ≠ i) →
    (∀ j, j ≠ i → (a.foldl (stepIn d i) deep).getD j 0 = deep.getD j 0) ∧ deep.getD i 0 ≤ (a.foldl (stepIn d i) deep).getD i 0 ∧
    (∀ s ∈ a, deep.getD (findK d s) 0 + 1 ≤ (a.foldl (stepIn d i) deep).getD i 0) ∧
    ((a.foldl (stepIn d i) deep).getD i 0 = deep.getD i 0 ∨ ∃ s ∈ a, deep.getD (findK d s) 0 + 1 = (a.foldl (stepIn d i) deep).getD i 0)
  | [], deep, hi, _ => ⟨fun _ _ => rfl, Nat.le_refl _, fun s hs => (by cases hs), .inl rfl⟩
  | s :: a, deep, hi, hne => by
    rw [List.foldl_cons]
    have hl : i < (stepIn d i deep s).length := by rw [stepIn_len]; exact hi
    obtain ⟨h1, h2, h3, h4⟩ := foldIn d a (stepIn d i deep s) hl (fun t ht => hne t (List.mem_cons_of_mem _ ht))
    have e1 : (stepIn d i deep s).getD i 0 = max (deep.getD i 0) (deep.getD (findK d s) 0 + 1) := getD_set_eq hi
    have e2 : ∀ j, j ≠ i → (stepIn d i deep s).getD j 0 = deep.getD j 0 := fun j hj => getD_set_ne hj
    refine ⟨fun j hj => (h1 j hj).trans (e2 j hj), by omega, fun t ht => ?_, ?_⟩
    · rcases List.mem_cons.1 ht with rfl | ht
      · omega
      · have := h3 t ht; rw [e2 _ (hne t (List.mem_cons_of_mem _ ht))] at this; exact this
    · rcases h4 with h4 | ⟨t, ht, h4⟩
      · rw [h4, e1]
        by_cases hc : deep.getD (findK d s) 0 + 1 ≤ deep.getD i 0
        · exact .inl (by omega)
        · exact .inr ⟨s, List.mem_cons_self, by omega⟩
      · rw [e2 _ (hne t (List.mem_cons_of_mem _ ht))] at h4
        exact .inr ⟨t, List.mem_cons_of_mem _ ht, h4⟩

theorem lev_step {d : DefD} {l : List Nat} {i : Nat} {st : List Nat × Nat} (h : Lev d l st.1 st.2) (hg : Good d (l ++ [i])) : Lev d (l ++ [i]) (stepD d st i).1 (stepD d st i).2 := by
  obtain ⟨hni, hlt, hpre⟩ := hg l i [] rfl
  have hk : ∀ j ∈ l ++ [i], ∀ s ∈ d.after j, ∃ k, d.find s = some k ∧ k ∈ l := fun j hj s hs => by
    rcases List.mem_append.1 hj with hj' | hj'
    · obtain ⟨l1, l2, rfl⟩ := List.append_of_mem hj'
      obtain ⟨k, h1, h2⟩ := (hg l1 j (l2 ++ [i]) (by simp)).2.2 s hs
      exact ⟨k, h1, List.mem_append_left _ h2⟩
    · rw [List.mem_singleton] at hj'; subst hj'; exact hpre s hs
  have hne : ∀ j ∈ l ++ [i], ∀ s ∈ d.after j, findK d s ∈ l ∧ findK d s ≠ i := fun j hj s hs => by
    obtain ⟨k, h1, h2⟩ := hk j hj s hs
    have : findK d s = k := by simp [findK, h1]
    rw [this]; exact ⟨h2, fun e => hni (e ▸ h2)⟩
  have hlen := h.len
  have e0 : (stepD d st i).1 = (d.after i).foldl (stepIn d i) (st.1.set i 1) := by
    show deepOf d st.1 i (d.nodes.getD i default).after.length = _
    unfold deepOf DefD.after
    rw [List.take_length]
  have hi1 : i < (st.1.set i 1).length := by rw [List.length_set, hlen]; exact hlt
  obtain ⟨f1, f2, f3, f4⟩ := foldIn d (d.after i) (st.1.set i 1) hi1 (fun s hs => (hne i (by simp) s hs).2)
  have e1 : (stepD d st i).2 = max st.2 ((stepD d st i).1.getD i 0) := rfl
  rw [← e0] at f1 f2 f3 f4
  generalize hD : (stepD d st i).1 = D at *
  generalize hLo : (stepD d st i).2 = Lo at *
  have g1 : ∀ j, j ≠ i → D.getD j 0 = st.1.getD j 0 := fun j hj => (f1 j hj).trans (getD_set_ne hj)
  have gi : (st.1.set i 1).getD i 0 = 1 := getD_set_eq (by rw [hlen]; exact hlt)
  rw [gi] at f2 f4
  have gp : ∀ j ∈ l ++ [i], ∀ s ∈ d.after j, D.getD (findK d s) 0 = st.1.getD (findK d s) 0 := fun j hj s hs => g1 _ (hne j hj s hs).2
  have gp' : ∀ s ∈ d.after i, (st.1.set i 1).getD (findK d s) 0 = D.getD (findK d s) 0 := fun s hs => by
    rw [gp i (by simp) s hs]; exact getD_set_ne (hne i (by simp) s hs).2
  have hl' : ∀ j ∈ l, j ≠ i := fun j hj e => hni (e ▸ hj)
  refine ⟨?_, fun j hj => ?_, fun j hj s hs => ?_, fun j hj => ?_, fun j hj => ?_, ?_⟩
  · rw [← hD, stepD, deepOf_len]; exact hlen
  · rcases List.mem_append.1 hj with hj' | hj'
    · rw [g1 j (hl' j hj')]; exact h.one j hj'
    · rw [List.mem_singleton] at hj'; subst hj'; exact f2
  · rw [gp j hj s hs]
    rcases List.mem_append.1 hj with hj' | hj'
    · rw [g1 j (hl' j hj')]; exact h.pre j hj' s hs
    · rw [List.mem_singleton] at hj'; subst hj'
      have := f3 s hs
      rw [gp' s hs, gp j hj s hs] at this; exact this
  · rcases List.mem_append.1 hj with hj' | hj'
    · rw [g1 j (hl' j hj')]
      rcases h.why j hj' with h1 | ⟨s, hs, h1⟩
      · exact .inl h1
      · exact .inr ⟨s, hs, by rw [gp j hj s hs]; exact h1⟩
    · rw [List.mem_singleton] at hj'; subst hj'
      rcases f4 with h1 | ⟨s, hs, h1⟩
      · exact .inl h1
      · exact .inr ⟨s, hs, by rw [← gp' s hs]; exact h1⟩
  · rcases List.mem_append.1 hj with hj' | hj'
    · rw [g1 j (hl' j hj')]; have := h.top j hj'; omega
    · rw [List.mem_singleton] at hj'; subst hj'; omega
  · by_cases hc : D.getD i 0 ≤ st.2
    · rcases h.is with h1 | ⟨j, hj, h1⟩
      · omega
      · exact .inr ⟨j, List.mem_append_left _ hj, by rw [g1 j (hl' j hj)]; omega⟩
    · exact .inr ⟨i, by simp, by omega⟩

theorem lev_fold {d : DefD} : ∀ (r l : List Nat) (st : List Nat × Nat), Good d (l ++ r) → Lev d l st.1 st.2 → Lev d (l ++ r) (r.foldl (stepD d) st).1 (r.foldl (stepD d) st).2
  | [], l, st, _, h => by simpa using h
  | i :: r, l, st, hg, h => by
    have hg' : Good d ((l ++ [i]) ++ r) := by simpa using hg
    have h1 : Good d (l ++ [i]) := fun l1 j l2 he => hg' l1 j (l2 ++ r) (by rw [he]; simp)
    have := lev_fold r (l ++ [i]) (stepD d st i) hg' (lev_step h h1)
    simpa using this

def DefD.deeps (d : DefD) : List Nat := (d.order.foldl (stepD d) (List.replicate d.nodes.length 0, 0)).1
theorem lev_all (d : DefD) : Lev d d.order d.deeps d.depth := by
  have := lev_fold (d := d) d.order [] (List.replicate d.nodes.length 0, 0) (by simpa using order_good d) ⟨by simp, by simp, by simp, by simp, by simp, .inl rfl⟩
  simpa [DefD.deeps, DefD.depth] using this

/-- What is over behind r rounds. -/
def DefD.dp (d : DefD) (i : Nat) : Nat := d.deeps.getD i 0
def DefD.overAt (d : DefD) (r : Nat) : List Bool := (List.range d.nodes.length).map fun i => decide (d.dp i ≤ r)
def DefD.lvl (d : DefD) (r : Nat) : List Nat := (List.range d.nodes.length).filter fun i => decide (d.dp i = r + 1)
def DefD.cnt (d : DefD) (r : Nat) : Nat := ((List.range d.nodes.length).filter fun i => decide (d.dp i ≤ r)).length
def setAll (l : List Nat) (o : List Bool) : List Bool := l.foldl (fun o i => o.set i true) o

theorem setAll_len (l : List Nat) : ∀ o : List Bool, (setAll l o).length = o.length := by
  induction l with
  | nil => intro o; rfl
  | cons i l ih => intro o; simp only [setAll, List.foldl_cons]; rw [show l.foldl (fun o i => o.set i true) (o.set i true) = setAll l (o.set i true) from rfl, ih]; simp
theorem setAll_get (l : List Nat) : ∀ (o : List Bool) (k : Nat), (setAll l o)[k]? = if k < o.length then some (decide (k ∈ l) || o.getD k false) else none := by
  induction l with
  | nil => intro o k; simp only [setAll, List.foldl_nil, List.not_mem_nil, decide_false, Bool.false_or]
           split
           · rename_i h; simp [List.getD_eq_getElem?_getD, h]
           · rename_i h; simp [Nat.le_of_not_lt h]
  | cons i l ih =>
    intro o k
    simp only [setAll, List.foldl_cons]
    rw [show l.foldl (fun o i => o.set i true) (o.set i true) = setAll l (o.set i true) from rfl, ih, List.length_set]
    split
    · rename_i h
      congr 1
      rw [List.getD_eq_getElem?_getD, List.getElem?_set]
      by_cases hk : i = k
      · subst hk; simp [h]
      · rw [if_neg hk, ← List.getD_eq_getElem?_getD]
        have : (k ∈ i :: l) = (k ∈ l) := by simp [Ne.symm hk]
        rw [show decide (k ∈ i :: l) = decide (k ∈ l) from by simp [Ne.symm hk]]
    · rfl
theorem overAt_len (d : DefD) (r : Nat) : (d.overAt r).length = d.nodes.length := by simp [DefD.overAt]
theorem overAt_get (d : DefD) (r : Nat) {i : Nat} (h : i < d.nodes.length) : (d.overAt r).getD i false = decide (d.dp i ≤ r) := by
  simp [DefD.overAt, List.getD_eq_getElem?_getD, h]
theorem lvl_lt {d : DefD} {r i : Nat} (h : i ∈ d.lvl r) : i < d.nodes.length ∧ d.dp i = r + 1 := by
  simpa [DefD.lvl] using h
theorem over_next (d : DefD) (r : Nat) : setAll (d.lvl r) (d.overAt r) = d.overAt (r + 1) := by
  apply List.ext_getElem?
  intro k
  rw [setAll_get, overAt_len]
  split
  · rename_i h
    rw [overAt_get d r h]
    simp only [DefD.overAt, List.getElem?_map, List.getElem?_range h, Option.map_some, Option.some.injEq]
    rw [show decide (k ∈ d.lvl r) = decide (d.dp k = r + 1) from by simp [DefD.lvl, h], ← Bool.decide_or]
    exact decide_eq_decide.2 (by omega)
  · rename_i h; simp [DefD.overAt, Nat.le_of_not_lt h]
section
variable {d : DefD} (ho : d.order.length = d.nodes.length)
include ho
theorem over_0 : List.replicate d.nodes.length false = d.overAt 0 := by
  apply List.ext_getElem (by simp [DefD.overAt])
  intro i h1 h2
  have hi : i < d.nodes.length := by simpa using h1
  have := (lev_all d).one i (order_all ho hi)
  simp only [List.getElem_replicate, DefD.overAt, List.getElem_map, List.getElem_range]
  have h3 : ¬ d.dp i ≤ 0 := by unfold DefD.dp; omega
  simp [h3]
theorem ready_at (r : Nat) : d.ready (d.overAt r) (d.overAt r) = d.lvl r := by
  unfold DefD.ready DefD.lvl
  refine List.filter_congr fun i hi => ?_
  have hi : i < d.nodes.length := List.mem_range.1 hi
  have hL := lev_all d
  have hg := order_good d
  have him := order_all ho hi
  have key : (¬ d.dp i ≤ r ∧ d.met i (atB (d.overAt r)) = true) ↔ d.dp i = r + 1 := by
    rw [met_iff]
    constructor
    · rintro ⟨h1, h2⟩
      rcases hL.why i him with h | ⟨s, hs, h⟩
      · unfold DefD.dp at h1 ⊢; omega
      · obtain ⟨k, e1, e2, e3⟩ := h2 s hs
        have hk : findK d s = k := by simp [findK, e1]
        obtain ⟨k', f1, f2⟩ := good_pred hg him hs
        have : k' = k := by rw [e1] at f1; exact (Option.some.inj f1).symm
        subst this
        rw [hk] at h
        rw [atB, overAt_get d r (good_lt hg f2)] at e3
        have e3 := of_decide_eq_true e3
        unfold DefD.dp at *; omega
    · intro h
      refine ⟨by omega, fun s hs => ?_⟩
      obtain ⟨k, f1, f2⟩ := good_pred hg him hs
      have hk : findK d s = k := by simp [findK, f1]
      have hp := hL.pre i him s hs
      rw [hk] at hp
      refine ⟨k, f1, fun e => ?_, ?_⟩
      · subst e; omega
      · rw [atB, overAt_get d r (good_lt hg f2)]
        refine decide_eq_true ?_
        unfold DefD.dp at *; omega
  unfold DefD.isReady
  rw [Bool.eq_iff_iff, Bool.and_eq_true, decide_eq_true_iff, ← key, atB, overAt_get d r hi]
  simp
theorem lvl_some : ∀ (m r : Nat), r + 1 + m = d.depth → d.lvl r ≠ []
  | 0, r, hr => by
    have hL := lev_all d
    rcases hL.is with h | ⟨i, hi, h⟩
    · omega
    · intro he
      have : i ∈ d.lvl r := by simp only [DefD.lvl, List.mem_filter, List.mem_range, decide_eq_true_eq]; exact ⟨good_lt (order_good d) hi, by unfold DefD.dp; omega⟩
      rw [he] at this; cases this
  | m + 1, r, hr => by
    have h1 := lvl_some m (r + 1) (by omega)
    obtain ⟨i, hi⟩ := List.exists_mem_of_ne_nil _ h1
    obtain ⟨hlt, h2⟩ := lvl_lt hi
    have hL := lev_all d
    have him := order_all ho hlt
    rcases hL.why i him with h | ⟨s, hs, h⟩
    · unfold DefD.dp at h2; omega
    · obtain ⟨k, f1, f2⟩ := good_pred (order_good d) him hs
      have hk : findK d s = k := by simp [findK, f1]
      rw [hk] at h
      intro he
      have : k ∈ d.lvl r := by simp only [DefD.lvl, List.mem_filter, List.mem_range, decide_eq_true_eq]; exact ⟨good_lt (order_good d) f2, by unfold DefD.dp at *; omega⟩
      rw [he] at this; cases this
theorem lvl_ne {r : Nat} (h : r < d.depth) : d.lvl r ≠ [] := lvl_some ho (d.depth - (r + 1)) r (by omega)
theorem cnt_0 : d.cnt 0 = 0 := by
  unfold DefD.cnt
  rw [List.length_eq_zero_iff, List.filter_eq_nil_iff]
  intro i hi
  have hi : i < d.nodes.length := List.mem_range.1 hi
  have := (lev_all d).one i (order_all ho hi)
  have h3 : ¬ d.dp i ≤ 0 := by unfold DefD.dp; omega
  simp [h3]
theorem cnt_all : d.cnt d.depth = d.nodes.length := by
  unfold DefD.cnt
  rw [List.filter_eq_self.2 ?_, List.length_range]
  intro i hi
  have hi : i < d.nodes.length := List.mem_range.1 hi
  exact decide_eq_true ((lev_all d).top i (order_all ho hi))
end
theorem filter_or {α : Type} (p q : α → Bool) : ∀ l : List α, (∀ x ∈ l, ¬ (p x = true ∧ q x = true)) → (l.filter fun x => p x || q x).length = (l.filter p).length + (l.filter q).length
  | [], _ => rfl
  | x :: l, h => by
    have ih := filter_or p q l fun y hy => h y (List.mem_cons_of_mem _ hy)
    have hx := h x List.mem_cons_self
    simp only [List.filter_cons]
    cases hp : p x <;> cases hq : q x <;> simp [hp, hq, ih] at hx ⊢ <;> omega
theorem cnt_next (d : DefD) (r : Nat) : d.cnt (r + 1) = d.cnt r + (d.lvl r).length := by
  unfold DefD.cnt DefD.lvl
  rw [← filter_or _ _ _ (fun i _ h => by simp at h; omega)]
  congr 1
  refine List.filter_congr fun i _ => ?_
  rw [← Bool.decide_or]
  exact decide_eq_decide.2 (by omega)
theorem cnt_le (d : DefD) (r : Nat) : d.cnt r ≤ d.nodes.length := by
  have := List.length_filter_le (fun i => decide (d.dp i ≤ r)) (List.range d.nodes.length)
  simpa [DefD.cnt] using this
theorem lvl_len (d : DefD) (r : Nat) : (d.lvl r).length ≤ d.nodes.length := by
  have := List.length_filter_le (fun i => decide (d.dp i = r + 1)) (List.range d.nodes.length)
  simpa [DefD.lvl] using this
theorem check_ok {d : DefD} (h : d.check.2 = 0) : d.order.length = d.nodes.length ∧ 0 < d.nodes.length ∧ d.nodes.length ≤ 32 ∧ d.check.1 = -1 ∧ namedS d.name false 64 = true ∧ (∀ i, i < d.nodes.length → d.nodeE i = 0 ∧ d.depE i = 0) := by
  unfold DefD.check at h ⊢
  split at h
  · cases h
  · rename_i h0
    split at h
    · cases h
    · rename_i h1
      split at h
      · rename_i i hf
        have := (firstI_spec (df := 0) hf).1
        rw [getD_range (by simpa using firstI_lt hf)] at this
        simp at this h; exact absurd h this
      · rename_i hf
        split at h
        · rename_i i hf'
          have := (firstI_spec (df := 0) hf').1
          rw [getD_range (by simpa using firstI_lt hf')] at this
          simp at this h; exact absurd h this
        · rename_i hf'
          split at h
          · rename_i h2
            rw [if_neg h0, if_neg h1]; simp only [if_pos h2]
            simp only [Bool.or_eq_true, decide_eq_true_eq, not_or] at h1
            refine ⟨h2, by omega, by omega, trivial, by simpa using h0, fun i hi => ⟨?_, ?_⟩⟩
            · simpa using firstI_no hf i (List.mem_range.2 hi)
            · simpa using firstI_no hf' i (List.mem_range.2 hi)
          · cases h
end Go.X.TrydW
end
section
open Go Go.X Go.Proofs
set_option maxRecDepth 100000
set_option maxHeartbeats 4000000
set_option linter.unusedSimpArgs false
set_option linter.unusedVariables false
namespace Go.X.TrydW
/- "tiller/tillerlaw08.DagRuns" params { toList := [28] } results { toList := [Go.ResultVar.tmp 2] } -/
def x6 : XC :=
 (.seq
  (.ops [
    ⟨(some 1), (.box (.t 0)), none⟩,
    ⟨(some 2), (.mov (.c (.bool false))), none⟩])
  (.seq
   (.ops [
     ⟨(some 11), (.loadN 2 (.t 1)), none⟩,
     ⟨(some 12), (.call (.f 12) [(.t 11)]), none⟩,
     ⟨none, (.store 2 (.t 1) (.t 12)), none⟩])
   (.seq
    (.ops [
      ⟨(some 14), (.loadN 2 (.t 1)), none⟩,
      ⟨(some 15), (.call (.f 13) [(.t 14)]), none⟩,
      ⟨(some 13), (.mov (.t 15)), none⟩,
      ⟨(some 16), (.ext (.t 13) 0), none⟩,
      ⟨(some 17), (.ext (.t 13) 1), none⟩,
      ⟨(some 3), (.mov (.t 16)), none⟩,
      ⟨(some 4), (.mov (.t 17)), none⟩])
    (.seq
     (.seq
      (.ops [
        ⟨(some 18), (.mov (.t 4)), none⟩,
        ⟨(some 19), (.bin .neq (.t 18) (.c (.int .i64 0))), none⟩])
      (.cond (.t 19)
       (.seq
        (.ops [
          ⟨(some 20), (.call (.f 11) []), none⟩,
          ⟨(some 2), (.mov (.t 20)), none⟩])
        .ret)
       .skip))
     (.seq
      (.ops [
        ⟨(some 21), (.fldA 1 (.t 1)), none⟩,
        ⟨(some 22), (.load1 (.t 21)), none⟩,
        ⟨(some 23), (.len (.t 22)), none⟩,
        ⟨(some 24), (.mkslice [(.bool false)] 1 (.t 23) (.t 23)), none⟩,
        ⟨(some 5), (.mov (.t 24)), none⟩])
      (.seq
       (.ops [
         ⟨(some 6), (.mov (.c (.int .i64 0))), none⟩])
       (.seq
        (.seq
         (.ops [
           ⟨(some 7), (.mov (.c (.int .i64 0))), none⟩])
         (.block 0
          (.loop
           (.seq
            (.seq
             (.ops [
               ⟨(some 25), (.mov (.t 7)), none⟩,
               ⟨(some 26), (.loadN 2 (.t 1)), none⟩,
               ⟨(some 27), (.call (.f 19) [(.t 26)]), none⟩,
               ⟨(some 28), (.bin .lss (.t 25) (.t 27)), none⟩])
             (.cond (.t 28)
              .skip
              (.exit 0)))
            (.seq
             (.block 1
              (.seq
               (.ops [
                 ⟨(some 31), (.loadN 2 (.t 1)), none⟩,
                 ⟨(some 32), (.mov (.t 5)), none⟩,
                 ⟨(some 33), (.mov (.t 5)), none⟩,
                 ⟨(some 34), (.call (.f 20) [(.t 31), (.t 32), (.t 33)]), none⟩,
                 ⟨(some 8), (.mov (.t 34)), none⟩])
               (.seq
                (.seq
                 (.ops [
                   ⟨(some 35), (.mov (.t 8)), none⟩,
                   ⟨(some 36), (.len (.t 35)), none⟩,
                   ⟨(some 37), (.bin .eql (.t 36) (.c (.int .i64 0))), none⟩])
                 (.cond (.t 37)
                  (.seq
                   (.ops [
                     ⟨(some 2), (.mov (.c (.bool false))), none⟩])
                   .ret)
                  .skip))
                (.seq
                 (.seq
                  (.ops [
                    ⟨(some 9), (.mov (.c (.int .i64 0))), none⟩])
                  (.block 2
                   (.loop
                    (.seq
                     (.seq
                      (.ops [
                        ⟨(some 38), (.mov (.t 9)), none⟩,
                        ⟨(some 39), (.mov (.t 8)), none⟩,
                        ⟨(some 40), (.len (.t 39)), none⟩,
                        ⟨(some 41), (.bin .lss (.t 38) (.t 40)), none⟩])
                      (.cond (.t 41)
                       .skip
                       (.exit 2)))
                     (.seq
                      (.block 3
                       (.seq
                        (.seq
                         (.ops [
                           ⟨(some 44), (.mov (.t 5)), none⟩,
                           ⟨(some 45), (.mov (.t 8)), none⟩,
                           ⟨(some 46), (.mov (.t 9)), none⟩,
                           ⟨(some 47), (.idxS 1 (.t 45) (.t 46)), none⟩,
                           ⟨(some 48), (.load1 (.t 47)), none⟩,
                           ⟨(some 49), (.idxS 1 (.t 44) (.t 48)), none⟩,
                           ⟨(some 50), (.load1 (.t 49)), none⟩])
                         (.cond (.t 50)
                          (.seq
                           (.ops [
                             ⟨(some 2), (.mov (.c (.bool false))), none⟩])
                           .ret)
                          .skip))
                        (.ops [
                          ⟨(some 51), (.mov (.t 6)), none⟩,
                          ⟨(some 52), (.bin .add (.t 51) (.c (.int .i64 1))), none⟩,
                          ⟨(some 6), (.mov (.t 52)), none⟩])))
                      (.ops [
                        ⟨(some 42), (.mov (.t 9)), none⟩,
                        ⟨(some 43), (.bin .add (.t 42) (.c (.int .i64 1))), none⟩,
                        ⟨(some 9), (.mov (.t 43)), none⟩]))))))
                 (.seq
                  (.ops [
                    ⟨(some 10), (.mov (.c (.int .i64 0))), none⟩])
                  (.block 4
                   (.loop
                    (.seq
                     (.seq
                      (.ops [
                        ⟨(some 53), (.mov (.t 10)), none⟩,
                        ⟨(some 54), (.mov (.t 8)), none⟩,
                        ⟨(some 55), (.len (.t 54)), none⟩,
                        ⟨(some 56), (.bin .lss (.t 53) (.t 55)), none⟩])
                      (.cond (.t 56)
                       .skip
                       (.exit 4)))
                     (.seq
                      (.block 5
                       (.ops [
                         ⟨(some 59), (.mov (.t 5)), none⟩,
                         ⟨(some 60), (.mov (.t 8)), none⟩,
                         ⟨(some 61), (.mov (.t 10)), none⟩,
                         ⟨(some 62), (.idxS 1 (.t 60) (.t 61)), none⟩,
                         ⟨(some 63), (.load1 (.t 62)), none⟩,
                         ⟨(some 64), (.idxS 1 (.t 59) (.t 63)), none⟩,
                         ⟨none, (.store 1 (.t 64) (.c (.bool true))), none⟩]))
                      (.ops [
                        ⟨(some 57), (.mov (.t 10)), none⟩,
                        ⟨(some 58), (.bin .add (.t 57) (.c (.int .i64 1))), none⟩,
                        ⟨(some 10), (.mov (.t 58)), none⟩]))))))))))
             (.ops [
               ⟨(some 29), (.mov (.t 7)), none⟩,
               ⟨(some 30), (.bin .add (.t 29) (.c (.int .i64 1))), none⟩,
               ⟨(some 7), (.mov (.t 30)), none⟩]))))))
        (.seq
         (.ops [
           ⟨(some 65), (.mov (.t 6)), none⟩,
           ⟨(some 66), (.fldA 1 (.t 1)), none⟩,
           ⟨(some 67), (.load1 (.t 66)), none⟩,
           ⟨(some 68), (.len (.t 67)), none⟩,
           ⟨(some 69), (.bin .eql (.t 65) (.t 68)), none⟩,
           ⟨(some 70), (.mov (.t 69)), none⟩,
           ⟨(some 71), (.call (.f 11) []), (some (70, true))⟩,
           ⟨(some 72), (.pick (.t 70) (.t 71) (.c (.bool false))), none⟩,
           ⟨(some 2), (.mov (.t 72)), none⟩])
         .ret))))))))

section
variable {E : Env}
theorem conv_sl_own {L : List Blk} {n s t off len cap : Nat} {m : Ren} (h : m s = some (some t)) : conv L (n + 1) m (.sl s off len cap) = some (.sl t off len cap) := by simp only [conv, h]
theorem xcall_lend_own {f : FuncId} {args args' : List IV} {L : List Blk} {K : IV → List Blk → Prop} {R : IV → List Blk → Prop} (hc : mapO (conv L fuel renFreeze) args = some args') (h : XT E f args' [] R)
    (hk : ∀ r L1, R r L1 → noTree r = true ∧ L1.all noTreeB = true ∧ ∃ r' L1', conv L1 fuel (renShift L.length) r = some r' ∧ mapO (convB L1 fuel (renShift L.length)) L1 = some L1' ∧ K r' (L ++ L1')) : xcall E f args L K :=
  .inl ⟨true, args', hc, h.mono fun r L1 hr => ⟨fun _ => ⟨(hk r L1 hr).1, (hk r L1 hr).2.1⟩, (hk r L1 hr).2.2⟩⟩
theorem ready_own (hP : E.P = Tryd.prog) (d : DefD) (over begun : List Bool) (hd : d.nodes.length ≤ 1000000) (ha : ∀ n ∈ d.nodes, n.after.length ≤ 9223372036854775807) (hne : d.ready over begun ≠ []) :
    XT E 20 [d.iv, .isl (boolRows over), .isl (boolRows begun)] [] fun r L1 => r = .sl 0 0 (d.ready over begun).length (d.ready over begun).length ∧ L1 = [.cells 1 (intRows (d.ready over begun))] := by
  refine xown1 (n := Tryd.f20.ntmps) (c := x20) (t := 6) (by rw [hP]; rfl) (by rw [hP]; kernel_rfl) (by decide) (Nat.le_of_ble_eq_true rfl) ?_
  generalize hρ : entry _ = ρ
  have h0 : ρ 0 = .agg [.str d.name, .isl (nodeRows d.nodes)] := by rw [← hρ]; rfl
  have h1 : ρ 1 = .isl (boolRows over) := by rw [← hρ]; rfl
  have h2 : ρ 2 = .isl (boolRows begun) := by rw [← hρ]; rfl
  clear hρ
  unfold x20
  simp only [h0, h1, h2, nodeRows_len, go_sem, Nat.reduceEqDiff, reduceIte, Int.reduceEq, Int.reduceLT, Int.reduceLE, Nat.reduceAdd, Nat.reduceLT, Nat.reduceLeDiff, Int.reduceToNat, Int.reduceSub, Int.reduceAdd, Int.reduceNeg]
  refine s_loop (fun n' ρ L => ∃ i : Nat, i ≤ d.nodes.length ∧ n' = d.nodes.length - i ∧
      OutOk 1 [.cells 2 [[.str d.name, .isl (nodeRows d.nodes)]], .cells 1 [[.isl (boolRows over)]], .cells 1 [[.fn (.func 35) [] []]]] (intRows ((List.range i).filter (d.isReady over begun))) (ρ 8) L ∧
      ρ 2 = .isl (boolRows begun) ∧ ρ 3 = .ptr 0 0 0 ∧ ρ 4 = .ptr 1 0 0 ∧ ρ 7 = .ptr 2 0 0 ∧ ρ 12 = .int .i64 d.nodes.length ∧ ρ 13 = .int .i64 i)
    ⟨0, Nat.zero_le _, rfl, ?_, by simp only [h2, go_sem, Nat.reduceEqDiff, reduceIte, Int.reduceEq, Int.reduceLT, Int.reduceLE, Nat.reduceAdd, Nat.reduceLT, Nat.reduceLeDiff, Int.reduceToNat, Int.reduceSub, Int.reduceAdd, Int.reduceNeg], by simp only [go_sem, Nat.reduceEqDiff, reduceIte, Int.reduceEq, Int.reduceLT, Int.reduceLE, Nat.reduceAdd, Nat.reduceLT, Nat.reduceLeDiff, Int.reduceToNat, Int.reduceSub, Int.reduceAdd, Int.reduceNeg], by simp only [go_sem, Nat.reduceEqDiff, reduceIte, Int.reduceEq, Int.reduceLT, Int.reduceLE, Nat.reduceAdd, Nat.reduceLT, Nat.reduceLeDiff, Int.reduceToNat, Int.reduceSub, Int.reduceAdd, Int.reduceNeg], by simp only [go_sem, Nat.reduceEqDiff, reduceIte, Int.reduceEq, Int.reduceLT, Int.reduceLE, Nat.reduceAdd, Nat.reduceLT, Nat.reduceLeDiff, Int.reduceToNat, Int.reduceSub, Int.reduceAdd, Int.reduceNeg], by simp only [go_sem, Nat.reduceEqDiff, reduceIte, Int.reduceEq, Int.reduceLT, Int.reduceLE, Nat.reduceAdd, Nat.reduceLT, Nat.reduceLeDiff, Int.reduceToNat, Int.reduceSub, Int.reduceAdd, Int.reduceNeg], by simp only [go_sem, Nat.reduceEqDiff, reduceIte, Int.reduceEq, Int.reduceLT, Int.reduceLE, Nat.reduceAdd, Nat.reduceLT, Nat.reduceLeDiff, Int.reduceToNat, Int.reduceSub, Int.reduceAdd, Int.reduceNeg]; try rfl⟩ ?_
  · try simp only [go_sem, Nat.reduceEqDiff, reduceIte, Int.reduceEq, Int.reduceLT, Int.reduceLE, Nat.reduceAdd, Nat.reduceLT, Nat.reduceLeDiff, Int.reduceToNat, Int.reduceSub, Int.reduceAdd, Int.reduceNeg]
    exact out_nil (p := [.cells 2 [[.str d.name, .isl (nodeRows d.nodes)]], .cells 1 [[.isl (boolRows over)]], .cells 1 [[.fn (.func 35) [] []]]]) (J := [])
  clear h0 h1 h2 ρ
  rintro n' ρ L ⟨i, hi, rfl, hO, h2, h3, h4, h7, h12, h13⟩
  generalize h8 : ρ 8 = v at hO
  have hOut := hO
  obtain ⟨J, rfl, _⟩ := hO
  simp only [h2, h3, h4, h7, h8, h12, h13, go_sem, Nat.reduceEqDiff, reduceIte, Int.reduceEq, Int.reduceLT, Int.reduceLE, Nat.reduceAdd, Nat.reduceLT, Nat.reduceLeDiff, Int.reduceToNat, Int.reduceSub, Int.reduceAdd, Int.reduceNeg]
  refine s_cond (b := decide _) (by simp only [h2, h3, h4, h7, h8, h12, h13, go_sem, Nat.reduceEqDiff, reduceIte, Int.reduceEq, Int.reduceLT, Int.reduceLE, Nat.reduceAdd, Nat.reduceLT, Nat.reduceLeDiff, Int.reduceToNat, Int.reduceSub, Int.reduceAdd, Int.reduceNeg]; try rfl) ?_ ?_ <;> intro hb <;> simp only [hb, h2, h3, h4, h7, h8, h12, h13, go_sem, Nat.reduceEqDiff, reduceIte, Int.reduceEq, Int.reduceLT, Int.reduceLE, Nat.reduceAdd, Nat.reduceLT, Nat.reduceLeDiff, Int.reduceToNat, Int.reduceSub, Int.reduceAdd, Int.reduceNeg]
  · rw [decide_eq_true_eq] at hb
    have hi' : i < d.nodes.length := by omega
    refine xcall_pure (args' := [.isl (boolRows begun), .int .i64 i]) rfl (ready1_pure hP begun i) rfl ?_
    try simp only [h2, h3, h4, h7, h8, h12, h13, go_sem, Nat.reduceEqDiff, reduceIte, Int.reduceEq, Int.reduceLT, Int.reduceLE, Nat.reduceAdd, Nat.reduceLT, Nat.reduceLeDiff, Int.reduceToNat, Int.reduceSub, Int.reduceAdd, Int.reduceNeg]
    have hmem : d.nodes.getD i default ∈ d.nodes := by rw [List.getD_eq_getElem?_getD, List.getElem?_eq_getElem hi']; exact List.getElem_mem _
    have hmet := met_pure (E := E) hP d i 36 [.iptr [[.fn (.func 35) [] []]] 0 0, .iptr [[.isl (boolRows over)]] 0 0] (atB over) hi' (by omega) (ha _ hmem) (fun L => rfl) (fun k hk => ready2_pure hP over k)
    have hcv : mapO (conv (.cells 2 [[.str d.name, .isl (nodeRows d.nodes)]] :: .cells 1 [[.isl (boolRows over)]] :: .cells 1 [[.fn (.func 35) [] []]] :: J) fuel renFreeze)
        [.agg [.str d.name, .isl (nodeRows d.nodes)], .int .i64 i, .fn (.func 36) [] [.ptr 2 0 0, .ptr 1 0 0]] = some [d.iv, .int .i64 i, .fn (.func 36) [] [.iptr [[.fn (.func 35) [] []]] 0 0, .iptr [[.isl (boolRows over)]] 0 0]] :=
      mapO_cons rfl (mapO_cons rfl (mapO_cons (conv_fn rfl (mapO_cons (conv_ptr_free rfl rfl rfl) (mapO_cons (conv_ptr_free rfl rfl rfl) rfl))) rfl))
    refine s_mg (by simp only [h2, h3, h4, h7, h8, h12, h13, go_sem, Nat.reduceEqDiff, reduceIte, Int.reduceEq, Int.reduceLT, Int.reduceLE, Nat.reduceAdd, Nat.reduceLT, Nat.reduceLeDiff, Int.reduceToNat, Int.reduceSub, Int.reduceAdd, Int.reduceNeg]; try rfl) ?_; simp only [cut_g, cut_t, cut_none, cut_out, memN_cons, memN_nil, Nat.reduceEqDiff, reduceIte, List.nil_append, List.cons_append, not_false_eq_true]; refine ex_merge rfl (by simp only [h2, h3, h4, h7, h8, h12, h13, go_sem, Nat.reduceEqDiff, reduceIte, Int.reduceEq, Int.reduceLT, Int.reduceLE, Nat.reduceAdd, Nat.reduceLT, Nat.reduceLeDiff, Int.reduceToNat, Int.reduceSub, Int.reduceAdd, Int.reduceNeg]) (by intro hb; simp only [hb, h2, h3, h4, h7, h8, h12, h13, go_sem, Nat.reduceEqDiff, reduceIte, Int.reduceEq, Int.reduceLT, Int.reduceLE, Nat.reduceAdd, Nat.reduceLT, Nat.reduceLeDiff, Int.reduceToNat, Int.reduceSub, Int.reduceAdd, Int.reduceNeg]; refine xcall_lend (args' := [d.iv, .int .i64 i, .fn (.func 36) [] [.iptr [[.fn (.func 35) [] []]] 0 0, .iptr [[.isl (boolRows over)]] 0 0]]) hcv hmet rfl rfl ?_; (try simp only [h2, h3, h4, h7, h8, h12, h13, go_sem, Nat.reduceEqDiff, reduceIte, Int.reduceEq, Int.reduceLT, Int.reduceLE, Nat.reduceAdd, Nat.reduceLT, Nat.reduceLeDiff, Int.reduceToNat, Int.reduceSub, Int.reduceAdd, Int.reduceNeg]); (try simp only [hb, h2, h3, h4, h7, h8, h12, h13, go_sem, Nat.reduceEqDiff, reduceIte, Int.reduceEq, Int.reduceLT, Int.reduceLE, Nat.reduceAdd, Nat.reduceLT, Nat.reduceLeDiff, Int.reduceToNat, Int.reduceSub, Int.reduceAdd, Int.reduceNeg]); first | exact rfl | exact ⟨rfl, rfl⟩) (fun vs => ?_); simp only [h2, h3, h4, h7, h8, h12, h13, go_sem, Nat.reduceEqDiff, reduceIte, Int.reduceEq, Int.reduceLT, Int.reduceLE, Nat.reduceAdd, Nat.reduceLT, Nat.reduceLeDiff, Int.reduceToNat, Int.reduceSub, Int.reduceAdd, Int.reduceNeg]
    refine s_cond (b := d.isReady over begun i) (by simp only [h2, h3, h4, h7, h8, h12, h13, go_sem, Nat.reduceEqDiff, reduceIte, Int.reduceEq, Int.reduceLT, Int.reduceLE, Nat.reduceAdd, Nat.reduceLT, Nat.reduceLeDiff, Int.reduceToNat, Int.reduceSub, Int.reduceAdd, Int.reduceNeg]; try rfl) ?_ ?_ <;> intro hc <;> simp only [h2, h3, h4, h7, h8, h12, h13, go_sem, Nat.reduceEqDiff, reduceIte, Int.reduceEq, Int.reduceLT, Int.reduceLE, Nat.reduceAdd, Nat.reduceLT, Nat.reduceLeDiff, Int.reduceToNat, Int.reduceSub, Int.reduceAdd, Int.reduceNeg]
    · refine out_append (row := [.int .i64 i]) hOut rfl rfl ⟨rfl, rfl⟩ (by
        have : (List.filter (d.isReady over begun) (List.range i)).length ≤ i := Nat.le_trans (List.length_filter_le ..) (by simp)
        rw [intRows_len]; omega) ?_
      intro v' L' hO'
      try simp only [h2, h3, h4, h7, h8, h12, h13, go_sem, Nat.reduceEqDiff, reduceIte, Int.reduceEq, Int.reduceLT, Int.reduceLE, Nat.reduceAdd, Nat.reduceLT, Nat.reduceLeDiff, Int.reduceToNat, Int.reduceSub, Int.reduceAdd, Int.reduceNeg]
      refine ⟨d.nodes.length - (i + 1), by omega, i + 1, by omega, rfl, ?_, by rw [wrap64 (by omega) (by omega)]; rfl⟩
      have hr : intRows (List.filter (d.isReady over begun) (List.range (i + 1))) = intRows (List.filter (d.isReady over begun) (List.range i)) ++ [[.int .i64 i]] := by
        have hc' : d.isReady over begun i = true := hc
        rw [List.range_succ, List.filter_append]
        simp [intRows, hc']
      rw [hr]; exact hO'
    · refine ⟨d.nodes.length - (i + 1), by omega, i + 1, by omega, rfl, ?_, by rw [wrap64 (by omega) (by omega)]; rfl⟩
      have hr : List.filter (d.isReady over begun) (List.range (i + 1)) = List.filter (d.isReady over begun) (List.range i) := by
        have hc' : d.isReady over begun i = false := hc
        rw [List.range_succ, List.filter_append]
        simp [hc']
      rw [hr]; exact hOut
  · rw [decide_eq_false_iff_not] at hb
    have hi' : i = d.nodes.length := by omega
    subst hi'
    obtain ⟨J', hJ', ⟨h1, _⟩ | ⟨s, hs, hv, hL⟩⟩ := hOut
    · exact absurd (by cases hh : (List.range d.nodes.length).filter (d.isReady over begun) with
        | nil => exact hh
        | cons a l => rw [hh] at h1; cases h1) hne
    · rw [intRows_len] at hv
      subst hv
      refine leave_one (s := s) (r' := .sl 0 0 (d.ready over begun).length (d.ready over begun).length) (k := .cells 1 (intRows (d.ready over begun))) (lt_of_get hL) ?_ ?_ ⟨rfl, rfl⟩
      · exact conv_sl_own (n := 11) (show renLeave 0 [s] s = some (some 0) by simp [renLeave, pos])
      · simp only [List.cons_append, List.nil_append] at hL
        rw [List.getD_eq_getElem?_getD, hL]
        show (mapO (mapO (conv _ 12 _)) (intRows _)).map _ = _
        rw [mapO_ints]; rfl

theorem intRows_noTree (l : List Nat) : noTreeB (.cells 1 (intRows l)) = true := by
  simp only [noTreeB, List.all_eq_true, intRows, List.mem_map]
  rintro row ⟨i, _, rfl⟩
  rfl
theorem cut_ok {d : DefD} (h : d.ok) : d.cut.ok := by
  refine ⟨h.1, fun n hn => ?_⟩
  obtain ⟨n', hn', rfl⟩ := List.mem_map.1 hn
  have := h.2 n' (List.mem_of_mem_take hn')
  obtain ⟨h1, h2, h3, h4, h5⟩ := this
  refine ⟨h1, h2, h3, ?_, fun s hs => h5 s (List.mem_of_mem_take hs)⟩
  exact Nat.le_trans (List.length_take_le' ..) h4
theorem cut_len (d : DefD) : d.cut.nodes.length ≤ 40 := by simp [DefD.cut]; omega
theorem cut_after {d : DefD} {n : NodeD} (h : n ∈ d.cut.nodes) : n.after.length ≤ 10 := by
  obtain ⟨n', _, rfl⟩ := List.mem_map.1 h
  exact List.length_take_le ..

theorem depth_le (d : DefD) (hd : d.nodes.length ≤ 1000000) (ha : ∀ n ∈ d.nodes, n.after.length ≤ 1000000) : d.depth ≤ 1000000000000000 := by
  have h1 := order_len d
  have h2 := (stepD_facts d ha d.order (List.replicate d.nodes.length 0, 0) 0 (fun i hi => order_lt d hi) (fun k => by rw [List.getD_eq_getElem?_getD, List.getElem?_replicate]; split <;> simp) (Nat.le_refl _)).2.2
  have h3 : d.order.length * 1000001 ≤ 1000001 * 1000001 := Nat.mul_le_mul_right _ (by omega)
  unfold DefD.depth
  omega
theorem runs_pure (hP : E.P = Tryd.prog) {m : Int} (hm : E.gl 0 = some [.int .i64 m]) (d : DefD) (hd : d.nodes.length ≤ 9223372036854775807) (ha : ∀ n ∈ d.nodes, n.after.length ≤ 9223372036854775807) (hok : d.ok) : XPure E 6 [d.iv] (.bool true) := by
  refine xpure1 (n := Tryd.f6.ntmps) (c := x6) (t := 2) (by rw [hP]; rfl) (by rw [hP]; kernel_rfl) (by decide) (Nat.le_of_ble_eq_true rfl) ?_
  generalize hρ : entry _ = ρ
  have h0 : ρ 0 = .agg [.str d.name, .isl (nodeRows d.nodes)] := by rw [← hρ]; rfl
  clear hρ
  unfold x6
  simp only [h0, go_sem, Nat.reduceEqDiff, reduceIte, Int.reduceEq, Int.reduceLT, Int.reduceLE, Nat.reduceAdd, Nat.reduceLT, Nat.reduceLeDiff, Int.reduceToNat, Int.reduceSub, Int.reduceAdd, Int.reduceNeg]
  refine xcall_pure (args' := [d.iv]) rfl (cut_pure hP d hd ha) rfl ?_
  have hcl := cut_len d
  have hca : ∀ n ∈ d.cut.nodes, n.after.length ≤ 10 := fun n hn => cut_after hn
  have hco := cut_ok hok
  generalize d.cut = c at *
  simp only [h0, DefD.iv, go_sem, Nat.reduceEqDiff, reduceIte, Int.reduceEq, Int.reduceLT, Int.reduceLE, Nat.reduceAdd, Nat.reduceLT, Nat.reduceLeDiff, Int.reduceToNat, Int.reduceSub, Int.reduceAdd, Int.reduceNeg]
  refine xcall_pure (args' := [c.iv]) rfl (check_pure hP hm c (by omega) hco) rfl ?_
  simp only [h0, go_sem, Nat.reduceEqDiff, reduceIte, Int.reduceEq, Int.reduceLT, Int.reduceLE, Nat.reduceAdd, Nat.reduceLT, Nat.reduceLeDiff, Int.reduceToNat, Int.reduceSub, Int.reduceAdd, Int.reduceNeg]
  refine s_cond (b := !decide (c.check.2 = 0)) (by simp only [h0, go_sem, Nat.reduceEqDiff, reduceIte, Int.reduceEq, Int.reduceLT, Int.reduceLE, Nat.reduceAdd, Nat.reduceLT, Nat.reduceLeDiff, Int.reduceToNat, Int.reduceSub, Int.reduceAdd, Int.reduceNeg]; try rfl) ?_ ?_ <;> intro hb <;> simp only [hb, h0, go_sem, Nat.reduceEqDiff, reduceIte, Int.reduceEq, Int.reduceLT, Int.reduceLE, Nat.reduceAdd, Nat.reduceLT, Nat.reduceLeDiff, Int.reduceToNat, Int.reduceSub, Int.reduceAdd, Int.reduceNeg]
  · refine xcall_pure (args' := []) rfl (wakes_pure hP) rfl ?_
    try simp only [h0, go_sem, Nat.reduceEqDiff, reduceIte, Int.reduceEq, Int.reduceLT, Int.reduceLE, Nat.reduceAdd, Nat.reduceLT, Nat.reduceLeDiff, Int.reduceToNat, Int.reduceSub, Int.reduceAdd, Int.reduceNeg]
    rfl
  have hb0 : c.check.2 = 0 := by simpa using hb
  obtain ⟨ho, hn0, hn1, hc1, _, _⟩ := check_ok hb0
  simp only [h0, nodeRows_len, go_sem, Nat.reduceEqDiff, reduceIte, Int.reduceEq, Int.reduceLT, Int.reduceLE, Nat.reduceAdd, Nat.reduceLT, Nat.reduceLeDiff, Int.reduceToNat, Int.reduceSub, Int.reduceAdd, Int.reduceNeg]
  refine ⟨by omega, by omega, by omega, ?_⟩
  have hdl : c.depth ≤ 1000000000000000 := depth_le c (by omega) (fun n hn => by have := hca n hn; omega)
  show xrun E (.loop _) _ _ _
  refine s_loop (fun n' ρ L => ∃ (r : Nat) (J : List Blk), r ≤ c.depth ∧ n' = c.depth - r ∧ L = .cells 2 [[.str c.name, .isl (nodeRows c.nodes)]] :: .cells 1 (boolRows (c.overAt r)) :: J ∧
      ρ 1 = .ptr 0 0 0 ∧ ρ 5 = .sl 1 0 c.nodes.length c.nodes.length ∧ ρ 6 = .int .i64 (c.cnt r : Nat) ∧ ρ 7 = .int .i64 (r : Nat))
    ⟨0, [], Nat.zero_le _, rfl, ?_, by simp only [h0, go_sem, Nat.reduceEqDiff, reduceIte, Int.reduceEq, Int.reduceLT, Int.reduceLE, Nat.reduceAdd, Nat.reduceLT, Nat.reduceLeDiff, Int.reduceToNat, Int.reduceSub, Int.reduceAdd, Int.reduceNeg], by simp only [h0, nodeRows_len, go_sem, Nat.reduceEqDiff, reduceIte, Int.reduceEq, Int.reduceLT, Int.reduceLE, Nat.reduceAdd, Nat.reduceLT, Nat.reduceLeDiff, Int.reduceToNat, Int.reduceSub, Int.reduceAdd, Int.reduceNeg], by simp only [go_sem, Nat.reduceEqDiff, reduceIte, Int.reduceEq, Int.reduceLT, Int.reduceLE, Nat.reduceAdd, Nat.reduceLT, Nat.reduceLeDiff, Int.reduceToNat, Int.reduceSub, Int.reduceAdd, Int.reduceNeg]; rw [cnt_0 ho]; rfl, by simp only [go_sem, Nat.reduceEqDiff, reduceIte, Int.reduceEq, Int.reduceLT, Int.reduceLE, Nat.reduceAdd, Nat.reduceLT, Nat.reduceLeDiff, Int.reduceToNat, Int.reduceSub, Int.reduceAdd, Int.reduceNeg]; try rfl⟩ ?_
  · rw [← over_0 ho, ← boolRows_rep]; try simp only [nodeRows_len, go_sem, Nat.reduceEqDiff, reduceIte, Int.reduceEq, Int.reduceLT, Int.reduceLE, Nat.reduceAdd, Nat.reduceLT, Nat.reduceLeDiff, Int.reduceToNat, Int.reduceSub, Int.reduceAdd, Int.reduceNeg]
  clear h0 ρ
  rintro n' ρ L ⟨r, J, hr, rfl, rfl, h1, h5, h6, h7⟩
  simp only [h1, h5, h6, h7, go_sem, Nat.reduceEqDiff, reduceIte, Int.reduceEq, Int.reduceLT, Int.reduceLE, Nat.reduceAdd, Nat.reduceLT, Nat.reduceLeDiff, Int.reduceToNat, Int.reduceSub, Int.reduceAdd, Int.reduceNeg]
  refine xcall_pure (args' := [c.iv]) rfl (depth_pure hP c (by omega) (fun n hn => by have := hca n hn; omega)) rfl ?_
  simp only [h1, h5, h6, h7, go_sem, Nat.reduceEqDiff, reduceIte, Int.reduceEq, Int.reduceLT, Int.reduceLE, Nat.reduceAdd, Nat.reduceLT, Nat.reduceLeDiff, Int.reduceToNat, Int.reduceSub, Int.reduceAdd, Int.reduceNeg]
  refine s_cond (b := decide _) (by simp only [h1, h5, h6, h7, go_sem, Nat.reduceEqDiff, reduceIte, Int.reduceEq, Int.reduceLT, Int.reduceLE, Nat.reduceAdd, Nat.reduceLT, Nat.reduceLeDiff, Int.reduceToNat, Int.reduceSub, Int.reduceAdd, Int.reduceNeg]; try rfl) ?_ ?_ <;> intro hb <;> simp only [hb, h1, h5, h6, h7, go_sem, Nat.reduceEqDiff, reduceIte, Int.reduceEq, Int.reduceLT, Int.reduceLE, Nat.reduceAdd, Nat.reduceLT, Nat.reduceLeDiff, Int.reduceToNat, Int.reduceSub, Int.reduceAdd, Int.reduceNeg]
  · rw [decide_eq_true_eq] at hb
    have hr' : r < c.depth := by omega
    have hrd := ready_at ho r
    have hne := lvl_ne ho hr'
    have hbl := boolRows_len (c.overAt r)
    have hbt : (boolRows (c.overAt r)).take c.nodes.length = boolRows (c.overAt r) := List.take_of_length_le (by rw [hbl, overAt_len]; exact Nat.le_refl _)
    have hcv : mapO (conv (.cells 2 [[.str c.name, .isl (nodeRows c.nodes)]] :: .cells 1 (boolRows (c.overAt r)) :: J) fuel renFreeze)
        [.agg [.str c.name, .isl (nodeRows c.nodes)], .sl 1 0 c.nodes.length c.nodes.length, .sl 1 0 c.nodes.length c.nodes.length] = some [c.iv, .isl (boolRows (c.overAt r)), .isl (boolRows (c.overAt r))] := by
      have hx : conv (.cells 2 [[.str c.name, .isl (nodeRows c.nodes)]] :: .cells 1 (boolRows (c.overAt r)) :: J) fuel renFreeze (.sl 1 0 c.nodes.length c.nodes.length) = some (.isl (boolRows (c.overAt r))) :=
        conv_sl_free rfl rfl (by rw [hbl, overAt_len]; omega) (by rw [List.drop_zero, hbt]; exact mapO_bools _ _ _ _)
      exact mapO_cons rfl (mapO_cons hx (mapO_cons hx rfl))
    refine xcall_lend_own hcv (ready_own hP c (c.overAt r) (c.overAt r) (by omega) (fun n hn => by have := hca n hn; omega) (by rw [hrd]; exact hne)) ?_
    rw [hrd]
    rintro _ _ ⟨rfl, rfl⟩
    have hll := lvl_len c r
    have hlt : ∀ i ∈ c.lvl r, i < c.nodes.length ∧ c.dp i = r + 1 := fun i hi => lvl_lt hi
    have hov := over_next c r
    have hcn := cnt_next c r
    have hcle := cnt_le c r
    have hcle' := cnt_le c (r + 1)
    have hnd : (c.lvl r).Nodup := List.nodup_range.filter _
    generalize c.lvl r = l at *
    refine ⟨rfl, by simp only [List.all_cons, List.all_nil, Bool.and_true]; exact intRows_noTree l, .sl (J.length + 2) 0 l.length l.length, [.cells 1 (intRows l)], ?_, ?_, ?_⟩
    · exact conv_sl_own (n := 11) (by simp [renShift])
    · refine mapO_cons ?_ rfl
      show (mapO (mapO (conv _ 12 _)) (intRows _)).map _ = _
      rw [mapO_ints]; rfl
    have hl0 : (decide ((l.length : Int) = 0)) = false := by
      have : l.length ≠ 0 := fun h => hne (List.eq_nil_of_length_eq_zero h)
      simp; exact hne
    simp only [h1, h5, h6, h7, hl0, go_sem, Nat.reduceEqDiff, reduceIte, Int.reduceEq, Int.reduceLT, Int.reduceLE, Nat.reduceAdd, Nat.reduceLT, Nat.reduceLeDiff, Int.reduceToNat, Int.reduceSub, Int.reduceAdd, Int.reduceNeg]
    -- what is ready is not over
    refine s_loop (fun n' ρ L => ∃ i : Nat, i ≤ l.length ∧ n' = l.length - i ∧ L = .cells 2 [[.str c.name, .isl (nodeRows c.nodes)]] :: .cells 1 (boolRows (c.overAt r)) :: (J ++ [.cells 1 (intRows l)]) ∧
        ρ 1 = .ptr 0 0 0 ∧ ρ 5 = .sl 1 0 c.nodes.length c.nodes.length ∧ ρ 6 = .int .i64 (c.cnt r + i : Nat) ∧ ρ 7 = .int .i64 (r : Nat) ∧ ρ 8 = .sl (J.length + 2) 0 l.length l.length ∧ ρ 9 = .int .i64 (i : Nat))
      ⟨0, Nat.zero_le _, rfl, rfl, by simp only [h1, go_sem, Nat.reduceEqDiff, reduceIte, Int.reduceEq, Int.reduceLT, Int.reduceLE, Nat.reduceAdd, Nat.reduceLT, Nat.reduceLeDiff, Int.reduceToNat, Int.reduceSub, Int.reduceAdd, Int.reduceNeg], by simp only [h5, go_sem, Nat.reduceEqDiff, reduceIte, Int.reduceEq, Int.reduceLT, Int.reduceLE, Nat.reduceAdd, Nat.reduceLT, Nat.reduceLeDiff, Int.reduceToNat, Int.reduceSub, Int.reduceAdd, Int.reduceNeg], by simp only [h6, Nat.add_zero, go_sem, Nat.reduceEqDiff, reduceIte, Int.reduceEq, Int.reduceLT, Int.reduceLE, Nat.reduceAdd, Nat.reduceLT, Nat.reduceLeDiff, Int.reduceToNat, Int.reduceSub, Int.reduceAdd, Int.reduceNeg], by simp only [h7, go_sem, Nat.reduceEqDiff, reduceIte, Int.reduceEq, Int.reduceLT, Int.reduceLE, Nat.reduceAdd, Nat.reduceLT, Nat.reduceLeDiff, Int.reduceToNat, Int.reduceSub, Int.reduceAdd, Int.reduceNeg], by simp only [go_sem, Nat.reduceEqDiff, reduceIte, Int.reduceEq, Int.reduceLT, Int.reduceLE, Nat.reduceAdd, Nat.reduceLT, Nat.reduceLeDiff, Int.reduceToNat, Int.reduceSub, Int.reduceAdd, Int.reduceNeg], by simp only [go_sem, Nat.reduceEqDiff, reduceIte, Int.reduceEq, Int.reduceLT, Int.reduceLE, Nat.reduceAdd, Nat.reduceLT, Nat.reduceLeDiff, Int.reduceToNat, Int.reduceSub, Int.reduceAdd, Int.reduceNeg]; try rfl⟩ ?_
    clear h1 h5 h6 h7 ρ
    rintro n' ρ L ⟨i, hi, rfl, rfl, h1, h5, h6, h7, h8, h9⟩
    simp only [h1, h5, h6, h7, h8, h9, go_sem, Nat.reduceEqDiff, reduceIte, Int.reduceEq, Int.reduceLT, Int.reduceLE, Nat.reduceAdd, Nat.reduceLT, Nat.reduceLeDiff, Int.reduceToNat, Int.reduceSub, Int.reduceAdd, Int.reduceNeg]
    refine s_cond (b := decide _) (by simp only [h1, h5, h6, h7, h8, h9, go_sem, Nat.reduceEqDiff, reduceIte, Int.reduceEq, Int.reduceLT, Int.reduceLE, Nat.reduceAdd, Nat.reduceLT, Nat.reduceLeDiff, Int.reduceToNat, Int.reduceSub, Int.reduceAdd, Int.reduceNeg]; try rfl) ?_ ?_ <;> intro hb2 <;> simp only [hb2, h1, h5, h6, h7, h8, h9, go_sem, Nat.reduceEqDiff, reduceIte, Int.reduceEq, Int.reduceLT, Int.reduceLE, Nat.reduceAdd, Nat.reduceLT, Nat.reduceLeDiff, Int.reduceToNat, Int.reduceSub, Int.reduceAdd, Int.reduceNeg]
    · rw [decide_eq_true_eq] at hb2
      have hi' : i < l.length := by omega
      have hrow := intRows_get hi'
      have hmem : l.getD i 0 ∈ l := by rw [List.getD_eq_getElem?_getD, List.getElem?_eq_getElem hi']; exact List.getElem_mem _
      have hx := hlt _ hmem
      have hrow2 := boolRows_get (l := c.overAt r) (i := l.getD i 0) (by rw [overAt_len]; exact hx.1)
      rw [overAt_get c r hx.1, show decide (c.dp (l.getD i 0) ≤ r) = false from by rw [hx.2]; simp] at hrow2
      generalize l.getD i 0 = x at *
      simp only [h1, h5, h6, h7, h8, h9, get2', hrow, hrow2, intRows_len, hbl, overAt_len, go_sem, Nat.reduceEqDiff, reduceIte, Int.reduceEq, Int.reduceLT, Int.reduceLE, Nat.reduceAdd, Nat.reduceLT, Nat.reduceLeDiff, Int.reduceToNat, Int.reduceSub, Int.reduceAdd, Int.reduceNeg]
      refine ⟨by omega, hi', by omega, hx.1, l.length - (i + 1), by omega, i + 1, by omega, rfl, ?_, ?_⟩
      · rw [wrap64 (by omega) (by omega)]; rfl
      · rw [wrap64 (by omega) (by omega)]; rfl
    rw [decide_eq_false_iff_not] at hb2
    have hii : i = l.length := by omega
    subst hii
    have hk6 : c.cnt r + l.length = c.cnt (r + 1) := hcn.symm
    rw [hk6] at h6
    try simp only [h1, h5, h6, h7, h8, h9, go_sem, Nat.reduceEqDiff, reduceIte, Int.reduceEq, Int.reduceLT, Int.reduceLE, Nat.reduceAdd, Nat.reduceLT, Nat.reduceLeDiff, Int.reduceToNat, Int.reduceSub, Int.reduceAdd, Int.reduceNeg]
    -- now it is over
    refine s_loop (fun n' ρ L => ∃ i : Nat, i ≤ l.length ∧ n' = l.length - i ∧ L = .cells 2 [[.str c.name, .isl (nodeRows c.nodes)]] :: .cells 1 (boolRows (setAll (l.take i) (c.overAt r))) :: (J ++ [.cells 1 (intRows l)]) ∧
        ρ 1 = .ptr 0 0 0 ∧ ρ 5 = .sl 1 0 c.nodes.length c.nodes.length ∧ ρ 6 = .int .i64 (c.cnt (r + 1) : Nat) ∧ ρ 7 = .int .i64 (r : Nat) ∧ ρ 8 = .sl (J.length + 2) 0 l.length l.length ∧ ρ 10 = .int .i64 (i : Nat))
      ⟨0, Nat.zero_le _, rfl, rfl, by simp only [h1, go_sem, Nat.reduceEqDiff, reduceIte, Int.reduceEq, Int.reduceLT, Int.reduceLE, Nat.reduceAdd, Nat.reduceLT, Nat.reduceLeDiff, Int.reduceToNat, Int.reduceSub, Int.reduceAdd, Int.reduceNeg], by simp only [h5, go_sem, Nat.reduceEqDiff, reduceIte, Int.reduceEq, Int.reduceLT, Int.reduceLE, Nat.reduceAdd, Nat.reduceLT, Nat.reduceLeDiff, Int.reduceToNat, Int.reduceSub, Int.reduceAdd, Int.reduceNeg], by simp only [h6, go_sem, Nat.reduceEqDiff, reduceIte, Int.reduceEq, Int.reduceLT, Int.reduceLE, Nat.reduceAdd, Nat.reduceLT, Nat.reduceLeDiff, Int.reduceToNat, Int.reduceSub, Int.reduceAdd, Int.reduceNeg], by simp only [h7, go_sem, Nat.reduceEqDiff, reduceIte, Int.reduceEq, Int.reduceLT, Int.reduceLE, Nat.reduceAdd, Nat.reduceLT, Nat.reduceLeDiff, Int.reduceToNat, Int.reduceSub, Int.reduceAdd, Int.reduceNeg], by simp only [h8, go_sem, Nat.reduceEqDiff, reduceIte, Int.reduceEq, Int.reduceLT, Int.reduceLE, Nat.reduceAdd, Nat.reduceLT, Nat.reduceLeDiff, Int.reduceToNat, Int.reduceSub, Int.reduceAdd, Int.reduceNeg], by simp only [go_sem, Nat.reduceEqDiff, reduceIte, Int.reduceEq, Int.reduceLT, Int.reduceLE, Nat.reduceAdd, Nat.reduceLT, Nat.reduceLeDiff, Int.reduceToNat, Int.reduceSub, Int.reduceAdd, Int.reduceNeg]; try rfl⟩ ?_
    clear h1 h5 h6 h7 h8 h9 ρ
    rintro n' ρ L ⟨i, hi, rfl, rfl, h1, h5, h6, h7, h8, h10⟩
    simp only [h1, h5, h6, h7, h8, h10, go_sem, Nat.reduceEqDiff, reduceIte, Int.reduceEq, Int.reduceLT, Int.reduceLE, Nat.reduceAdd, Nat.reduceLT, Nat.reduceLeDiff, Int.reduceToNat, Int.reduceSub, Int.reduceAdd, Int.reduceNeg]
    refine s_cond (b := decide _) (by simp only [h1, h5, h6, h7, h8, h10, go_sem, Nat.reduceEqDiff, reduceIte, Int.reduceEq, Int.reduceLT, Int.reduceLE, Nat.reduceAdd, Nat.reduceLT, Nat.reduceLeDiff, Int.reduceToNat, Int.reduceSub, Int.reduceAdd, Int.reduceNeg]; try rfl) ?_ ?_ <;> intro hb3 <;> simp only [hb3, h1, h5, h6, h7, h8, h10, go_sem, Nat.reduceEqDiff, reduceIte, Int.reduceEq, Int.reduceLT, Int.reduceLE, Nat.reduceAdd, Nat.reduceLT, Nat.reduceLeDiff, Int.reduceToNat, Int.reduceSub, Int.reduceAdd, Int.reduceNeg]
    · rw [decide_eq_true_eq] at hb3
      have hi' : i < l.length := by omega
      have hrow := intRows_get hi'
      have hmem : l.getD i 0 ∈ l := by rw [List.getD_eq_getElem?_getD, List.getElem?_eq_getElem hi']; exact List.getElem_mem _
      have hx := hlt _ hmem
      have htk : l.take (i + 1) = l.take i ++ [l.getD i 0] := by rw [List.take_add_one, getD_get (d := 0) hi']; rfl
      have hsl : (boolRows (setAll (l.take i) (c.overAt r))).length = c.nodes.length := by rw [boolRows_len, setAll_len, overAt_len]
      have hset : (boolRows (setAll (l.take i) (c.overAt r))).set (l.getD i 0) [.bool true] = boolRows (setAll (l.take (i + 1)) (c.overAt r)) := by
        rw [boolRows_set, htk]; simp [setAll]
      have hrow2 := boolRows_get (l := setAll (l.take i) (c.overAt r)) (i := l.getD i 0) (by rw [setAll_len, overAt_len]; exact hx.1)
      generalize l.getD i 0 = x at *
      simp only [h1, h5, h6, h7, h8, h10, get2', hrow, hrow2, hset, intRows_len, hsl, overAt_len, go_sem, Nat.reduceEqDiff, reduceIte, Int.reduceEq, Int.reduceLT, Int.reduceLE, Nat.reduceAdd, Nat.reduceLT, Nat.reduceLeDiff, Int.reduceToNat, Int.reduceSub, Int.reduceAdd, Int.reduceNeg]
      refine ⟨by omega, hi', by omega, hx.1, l.length - (i + 1), by omega, i + 1, by omega, rfl, ?_, ?_⟩
      · rfl
      · rw [wrap64 (by omega) (by omega)]; rfl
    rw [decide_eq_false_iff_not] at hb3
    have hii : i = l.length := by omega
    subst hii
    try simp only [h1, h5, h6, h7, h8, h10, go_sem, Nat.reduceEqDiff, reduceIte, Int.reduceEq, Int.reduceLT, Int.reduceLE, Nat.reduceAdd, Nat.reduceLT, Nat.reduceLeDiff, Int.reduceToNat, Int.reduceSub, Int.reduceAdd, Int.reduceNeg]
    refine ⟨c.depth - (r + 1), by omega, r + 1, J ++ [.cells 1 (intRows l)], by omega, rfl, ?_, ?_⟩
    · rw [List.take_length, hov]
    · rw [wrap64 (by omega) (by omega)]; exact ⟨rfl, rfl⟩
  rw [decide_eq_false_iff_not] at hb
  have hrr : r = c.depth := by omega
  subst hrr
  have hcnt : (decide (((c.cnt c.depth : Nat) : Int) = (c.nodes.length : Int))) = true := by rw [cnt_all ho]; simp
  try simp only [h1, h5, h6, h7, hcnt, nodeRows_len, go_sem, Nat.reduceEqDiff, reduceIte, Int.reduceEq, Int.reduceLT, Int.reduceLE, Nat.reduceAdd, Nat.reduceLT, Nat.reduceLeDiff, Int.reduceToNat, Int.reduceSub, Int.reduceAdd, Int.reduceNeg]
  refine xcall_pure (args' := []) rfl (wakes_pure hP) rfl ?_
  try simp only [h1, h5, h6, h7, hcnt, nodeRows_len, go_sem, Nat.reduceEqDiff, reduceIte, Int.reduceEq, Int.reduceLT, Int.reduceLE, Nat.reduceAdd, Nat.reduceLT, Nat.reduceLeDiff, Int.reduceToNat, Int.reduceSub, Int.reduceAdd, Int.reduceNeg]
  rfl
end
end Go.X.TrydW
end
section
/- Plain laws: a graph whose nodes stand in a ring; names of a definition that is taken. -/
open Go Go.X Go.Proofs
set_option linter.unusedSimpArgs false
set_option linter.unusedVariables false
namespace Go.X.TrydW

theorem findI_self {α : Type} {p : α → Bool} {df : α} : ∀ {l : List α} {i : Nat}, i < l.length → p (l.getD i df) = true → ∃ k, firstI p l = some k ∧ k ≤ i := by
  intro l i hi hp
  cases h : firstI p l with
  | none =>
    have := firstI_no h (l.getD i df) (by rw [List.getD_eq_getElem?_getD, List.getElem?_eq_getElem hi]; exact List.getElem_mem _)
    rw [hp] at this; cases this
  | some k =>
    refine ⟨k, rfl, ?_⟩
    by_cases hk : k ≤ i
    · exact hk
    · have := (firstI_spec (df := df) h).2 i (by omega)
      rw [hp] at this; cases this

/-- A node's name leads to it. -/
theorem find_name {d : DefD} (hc : d.check.2 = 0) {i : Nat} (hi : i < d.nodes.length) : d.find (d.nodes.getD i default).name = some i := by
  obtain ⟨_, _, _, _, _, h⟩ := check_ok hc
  have h1 := (h i hi).1
  have h2 : d.namedE i = 0 := by
    unfold DefD.nodeE at h1
    by_cases h3 : d.namedE i = 0
    · exact h3
    · rw [if_neg h3] at h1; exact h1
  obtain ⟨k, hk, hki⟩ := findI_self (p := fun n : NodeD => decide (n.name = (d.nodes.getD i default).name)) (df := default) hi (by simp)
  have hf : d.find (d.nodes.getD i default).name = some k := hk
  unfold DefD.namedE at h2
  simp only at h2
  split at h2
  · cases h2
  · split at h2
    · cases h2
    · rename_i h3
      rw [hf] at h3 ⊢
      simp only [findN] at h3
      congr 1; omega

/-- b stands (not at once) behind j. -/
inductive Behind (d : DefD) (b : Nat) : Nat → Prop
  | self : Behind d b b
  | step {i j : Nat} {s : List UInt8} : Behind d b i → s ∈ d.after i → d.find s = some j → Behind d b j

theorem behind_mem {d : DefD} {out : List Nat} (hg : Good d out) {b j : Nat} (hb : b ∈ out) (h : Behind d b j) : j ∈ out := by
  induction h with
  | self => exact hb
  | step h1 h2 h3 ih =>
    obtain ⟨k, e1, e2⟩ := good_pred hg ih h2
    rw [h3] at e1; cases e1; exact e2

/-- The definition with one edge more: node a behind node b. -/
def DefD.link (d : DefD) (a b : Nat) : DefD := ⟨d.name, d.nodes.set a { d.nodes.getD a default with after := d.after a ++ [(d.nodes.getD b default).name] }⟩
theorem link_len (d : DefD) (a b : Nat) : (d.link a b).nodes.length = d.nodes.length := by simp [DefD.link]
theorem link_get {d : DefD} {a b i : Nat} (ha : a < d.nodes.length) : (d.link a b).nodes.getD i default = if i = a then { d.nodes.getD a default with after := d.after a ++ [(d.nodes.getD b default).name] } else d.nodes.getD i default := by
  simp only [DefD.link, List.getD_eq_getElem?_getD, List.getElem?_set]
  by_cases h : i = a
  · subst h; simp [ha]
  · rw [if_neg (Ne.symm h), if_neg h]
theorem firstI_congr {α β : Type} {p : α → Bool} {q : β → Bool} : ∀ {l : List α} {m : List β}, l.map p = m.map q → firstI p l = firstI q m
  | [], [], _ => rfl
  | [], _ :: _, h => by simp at h
  | _ :: _, [], h => by simp at h
  | x :: l, y :: m, h => by
    simp only [List.map_cons, List.cons.injEq] at h
    simp only [firstI, h.1, firstI_congr h.2]
theorem link_find {d : DefD} {a b : Nat} (ha : a < d.nodes.length) (s : List UInt8) : (d.link a b).find s = d.find s := by
  unfold DefD.find
  refine firstI_congr ?_
  apply List.ext_getElem (by simp [link_len])
  intro i h1 h2
  have hi : i < d.nodes.length := by simpa using h2
  have hg := link_get (b := b) (i := i) ha
  simp only [List.getElem_map]
  have e1 : (d.link a b).nodes[i]'(by rw [link_len]; exact hi) = (d.link a b).nodes.getD i default := by simp [List.getD_eq_getElem?_getD, link_len, hi]
  have e2 : d.nodes[i] = d.nodes.getD i default := by simp [List.getD_eq_getElem?_getD, hi]
  rw [e1, e2, hg]
  split
  · rename_i h; subst h; rfl
  · rfl
theorem link_after {d : DefD} {a b i : Nat} (ha : a < d.nodes.length) : (d.link a b).after i = if i = a then d.after a ++ [(d.nodes.getD b default).name] else d.after i := by
  unfold DefD.after
  rw [link_get ha]
  split
  · rfl
  · rfl
theorem link_behind {d : DefD} {a b j : Nat} (ha : a < d.nodes.length) (h : Behind d b j) : Behind (d.link a b) b j := by
  induction h with
  | self => exact .self
  | @step i j s h1 h2 h3 ih =>
    refine .step ih ?_ (by rw [link_find ha]; exact h3)
    rw [link_after ha]
    split
    · rename_i h; subst h; exact List.mem_append_left _ h2
    · exact h2

/-- A ring can't be ordered. -/
theorem link_order {d : DefD} {a b : Nat} (hc : d.check.2 = 0) (ha : a < d.nodes.length) (hb : b < d.nodes.length) (h : Behind d b a) : (d.link a b).order.length < (d.link a b).nodes.length := by
  have hg := order_good (d.link a b)
  generalize (d.link a b).order = out at *
  have hna : a ∉ out := fun hm => by
    obtain ⟨l1, l2, rfl⟩ := List.append_of_mem hm
    obtain ⟨h1, _, h2⟩ := hg l1 a l2 rfl
    obtain ⟨k, e1, e2⟩ := h2 (d.nodes.getD b default).name (by rw [link_after ha, if_pos rfl]; simp)
    rw [link_find ha, find_name hc hb] at e1
    cases e1
    have hg1 : Good (d.link a b) l1 := fun m1 i m2 he => hg m1 i (m2 ++ a :: l2) (by rw [he]; simp)
    exact h1 (behind_mem hg1 e2 (link_behind ha h))
  have hnd : (a :: out).Nodup := List.nodup_cons.2 ⟨hna, good_nodup hg⟩
  have hsub : ∀ x ∈ a :: out, x ∈ List.range (d.link a b).nodes.length := fun x hx => by
    rcases List.mem_cons.1 hx with rfl | hx
    · exact List.mem_range.2 (by rw [link_len]; exact ha)
    · exact List.mem_range.2 (good_lt hg hx)
  have := hnd.length_le_of_subset hsub
  simp at this
  omega

theorem firstI_none_iff {α : Type} {p : α → Bool} {l : List α} : firstI p l = none ↔ ∀ x ∈ l, p x = false :=
  ⟨firstI_no, fun h => firstI_none (by simpa using h)⟩
theorem depE_0 {d : DefD} {i : Nat} : d.depE i = 0 ↔ (∀ s ∈ d.after i, (d.find s).isSome = true) ∧ ∀ k, k < (d.after i).length → (d.after i).getD k [] ∉ (d.after i).take k := by
  unfold DefD.depE DefD.after
  constructor
  · intro h
    split at h
    · cases h
    · rename_i h1
      split at h
      · cases h
      · rename_i h2
        simp only [Bool.not_eq_true, Option.isSome_eq_false_iff, Option.isNone_iff_eq_none] at h1 h2
        refine ⟨fun s hs => by simpa using firstI_no h1 s hs, fun k hk hm => ?_⟩
        have h3 := firstI_no h2 k (List.mem_range.2 hk)
        unfold twiceB at h3
        simp only [Option.isSome_eq_false_iff, Option.isNone_iff_eq_none] at h3
        have := firstI_no h3 _ hm
        simp at this
  · rintro ⟨h1, h2⟩
    have e1 : firstI (fun s => !(d.find s).isSome) (d.nodes.getD i default).after = none := firstI_none_iff.2 fun s hs => by simpa using h1 s hs
    have e2 : firstI (twiceB (d.nodes.getD i default).after) (List.range (d.nodes.getD i default).after.length) = none := firstI_none_iff.2 fun k hk => by
      unfold twiceB
      have : firstI (fun x => decide ((d.nodes.getD i default).after.getD k [] = x)) ((d.nodes.getD i default).after.take k) = none := firstI_none_iff.2 fun x hx => by
        simp only [decide_eq_false_iff_not]
        rintro rfl
        exact h2 k (List.mem_range.1 hk) hx
      rw [this]; rfl
    rw [e1, e2]; rfl
theorem check_mk {d : DefD} (h1 : namedS d.name false 64 = true) (h2 : 0 < d.nodes.length) (h3 : d.nodes.length ≤ 32) (h4 : ∀ i, i < d.nodes.length → d.nodeE i = 0 ∧ d.depE i = 0) :
    d.check = if d.order.length = d.nodes.length then (-1, 0) else (-1, 15) := by
  unfold DefD.check
  rw [if_neg (by rw [h1]; simp), if_neg (by simp only [Bool.or_eq_true, decide_eq_true_eq, not_or]; omega)]
  have e1 : firstI (fun i => !decide (d.nodeE i = 0)) (List.range d.nodes.length) = none := firstI_none_iff.2 fun i hi => by simp [(h4 i (List.mem_range.1 hi)).1]
  have e2 : firstI (fun i => !decide (d.depE i = 0)) (List.range d.nodes.length) = none := firstI_none_iff.2 fun i hi => by simp [(h4 i (List.mem_range.1 hi)).2]
  rw [e1, e2]

theorem link_check {d : DefD} {a b : Nat} (hc : d.check.2 = 0) (ha : a < d.nodes.length) (hb : b < d.nodes.length) (h : Behind d b a) (hn : (d.nodes.getD b default).name ∉ d.after a) : (d.link a b).check = (-1, 15) := by
  obtain ⟨ho, h1, h2, _, h3, h4⟩ := check_ok hc
  have hlt := link_order hc ha hb h
  rw [check_mk (d := d.link a b) h3 (by rw [link_len]; exact h1) (by rw [link_len]; exact h2) fun i hi => ?_, if_neg (by omega)]
  rw [link_len] at hi
  obtain ⟨h5, h6⟩ := h4 i hi
  have hg := link_get (b := b) (i := i) ha
  have hnm : (d.link a b).namedE i = d.namedE i := by
    unfold DefD.namedE
    simp only
    rw [hg]
    split
    · rename_i he; subst he; simp only [link_find ha]
    · simp only [link_find ha]
  have hft : fitsB ((d.link a b).nodes.getD i default) = fitsB (d.nodes.getD i default) := by
    rw [hg]
    split
    · rename_i he; subst he; rfl
    · rfl
  refine ⟨by unfold DefD.nodeE at h5 ⊢; rw [hnm, hft]; exact h5, ?_⟩
  rw [depE_0] at h6 ⊢
  rw [link_after ha]
  simp only [link_find ha]
  by_cases he : i = a
  · subst he
    rw [if_pos rfl]
    refine ⟨fun s hs => ?_, fun k hk hm => ?_⟩
    · rcases List.mem_append.1 hs with hs | hs
      · exact h6.1 s hs
      · rw [List.mem_singleton] at hs; subst hs; rw [find_name hc hb]; rfl
    · rw [List.length_append, List.length_singleton] at hk
      by_cases hk' : k < (d.after i).length
      · rw [List.take_append_of_le_length (by omega)] at hm
        refine h6.2 k hk' ?_
        rw [List.getD_eq_getElem?_getD, List.getElem?_append_left hk', ← List.getD_eq_getElem?_getD] at hm
        exact hm
      · have hke : k = (d.after i).length := by omega
        subst hke
        rw [List.take_left', List.getD_eq_getElem?_getD, List.getElem?_append_right (Nat.le_refl _)] at hm
        · simp at hm; exact hn hm
        · rfl
  · rw [if_neg he]; exact h6
end Go.X.TrydW
end
section
/- Plain laws: a node that stands behind all others. -/
open Go Go.X Go.Proofs
set_option linter.unusedSimpArgs false
set_option linter.unusedVariables false
namespace Go.X.TrydW

/-- A node behind all. -/
def DefD.last (d : DefD) (s : List UInt8) : NodeD := ⟨s, 4, [115], [], 0, 0, d.nodes.map (·.name)⟩
def DefD.grow (d : DefD) (s : List UInt8) : DefD := ⟨d.name, d.nodes ++ [d.last s]⟩
theorem grow_len (d : DefD) (s : List UInt8) : (d.grow s).nodes.length = d.nodes.length + 1 := by simp [DefD.grow]
theorem grow_get {d : DefD} {s : List UInt8} {i : Nat} (h : i < d.nodes.length) : (d.grow s).nodes.getD i default = d.nodes.getD i default := by
  simp [DefD.grow, List.getD_eq_getElem?_getD, List.getElem?_append_left h]
theorem grow_last {d : DefD} {s : List UInt8} : (d.grow s).nodes.getD d.nodes.length default = d.last s := by
  simp [DefD.grow, List.getD_eq_getElem?_getD]
theorem getD_app_lt {l : List Nat} {i x : Nat} (h : i < l.length) : (l ++ [x]).getD i 0 = l.getD i 0 := by
  simp only [List.getD_eq_getElem?_getD]; rw [List.getElem?_append_left h]
theorem firstI_append {α : Type} {p : α → Bool} : ∀ {l m : List α}, firstI p (l ++ m) = match firstI p l with | some i => some i | none => (firstI p m).map (· + l.length)
  | [], m => by simp [firstI]
  | x :: l, m => by
    simp only [List.cons_append, firstI]
    by_cases hx : p x = true
    · simp [hx]
    · rw [if_neg hx, if_neg hx, firstI_append]
      cases firstI p l with
      | some i => rfl
      | none => cases firstI p m with
        | none => rfl
        | some j => simp; omega
theorem grow_find {d : DefD} {s t : List UInt8} {k : Nat} (h : d.find t = some k) : (d.grow s).find t = some k := by
  unfold DefD.find DefD.grow at *
  simp only [firstI_append, h]
theorem grow_find_new {d : DefD} {s : List UInt8} (h : d.find s = none) : (d.grow s).find s = some d.nodes.length := by
  unfold DefD.find DefD.grow at *
  simp only [firstI_append, h, firstI, DefD.last]
  simp
theorem grow_after {d : DefD} {s : List UInt8} {i : Nat} (h : i < d.nodes.length) : (d.grow s).after i = d.after i := by
  unfold DefD.after; rw [grow_get h]
theorem grow_after_last {d : DefD} {s : List UInt8} : (d.grow s).after d.nodes.length = d.nodes.map (·.name) := by
  unfold DefD.after; rw [grow_last]; rfl
theorem name_mem {d : DefD} {t : List UInt8} (h : t ∈ d.nodes.map (·.name)) : ∃ i, i < d.nodes.length ∧ (d.nodes.getD i default).name = t := by
  obtain ⟨n, hn, rfl⟩ := List.mem_map.1 h
  obtain ⟨i, hi, rfl⟩ := List.mem_iff_getElem.1 hn
  exact ⟨i, hi, by simp [List.getD_eq_getElem?_getD, hi]⟩
theorem names_get {d : DefD} {i : Nat} (h : i < d.nodes.length) : (d.nodes.map (·.name)).getD i [] = (d.nodes.getD i default).name := by
  simp [List.getD_eq_getElem?_getD, h]

section
variable {d : DefD} (hc : d.check.2 = 0) (s : List UInt8)
include hc
theorem some_found {i : Nat} (hi : i < d.nodes.length) {t : List UInt8} (ht : t ∈ d.after i) : ∃ k, d.find t = some k ∧ k < d.nodes.length := by
  obtain ⟨_, _, _, _, _, h⟩ := check_ok hc
  have h1 := (depE_0.1 (h i hi).2).1 t ht
  cases hk : d.find t with
  | none => rw [hk] at h1; cases h1
  | some k => exact ⟨k, rfl, firstI_lt hk⟩
theorem grow_met {i : Nat} (hi : i < d.nodes.length) {p q : Nat → Bool} (hpq : ∀ k, k < d.nodes.length → p k = q k) : (d.grow s).met i p = d.met i q := by
  rw [Bool.eq_iff_iff, met_iff, met_iff, grow_after hi]
  refine forall_congr' fun t => forall_congr' fun ht => ?_
  obtain ⟨k, h1, h2⟩ := some_found hc hi ht
  rw [grow_find h1, h1]
  constructor
  · rintro ⟨k', e, h3, h4⟩; cases e; exact ⟨k, rfl, h3, by rw [← hpq k h2]; exact h4⟩
  · rintro ⟨k', e, h3, h4⟩; cases e; exact ⟨k, rfl, h3, by rw [hpq k h2]; exact h4⟩
theorem grow_may {told : List Bool} {i : Nat} (hl : told.length = d.nodes.length) (hi : i < d.nodes.length) (b : Bool) : (d.grow s).may (told ++ [b]) i = d.may told i := by
  have e : ∀ k, k < d.nodes.length → (told ++ [b]).getD k false = told.getD k false := fun k hk => by
    simp only [List.getD_eq_getElem?_getD]; rw [List.getElem?_append_left (by omega)]
  unfold DefD.may
  rw [e i hi, grow_met hc s hi (q := fun k => told.getD k false) e]
theorem grow_may_last {told : List Bool} (hl : told.length = d.nodes.length) : (d.grow s).may (told ++ [false]) d.nodes.length = told.all id := by
  have e0 : (told ++ [false]).getD d.nodes.length false = false := by
    rw [List.getD_eq_getElem?_getD, List.getElem?_append_right (by omega), hl]; simp
  unfold DefD.may
  rw [e0, Bool.not_false, Bool.true_and, Bool.eq_iff_iff, met_iff, grow_after_last]
  have e : ∀ k, k < d.nodes.length → (told ++ [false]).getD k false = told.getD k false := fun k hk => by
    simp only [List.getD_eq_getElem?_getD]; rw [List.getElem?_append_left (by omega)]
  rw [List.all_eq_true]
  constructor
  · intro h b hb
    obtain ⟨i, hi, rfl⟩ := List.mem_iff_getElem.1 hb
    have hi' : i < d.nodes.length := by omega
    obtain ⟨k, h1, h2, h3⟩ := h (d.nodes.getD i default).name (by
      rw [← names_get hi', List.getD_eq_getElem?_getD, List.getElem?_eq_getElem (by simpa using hi')]; exact List.getElem_mem _)
    rw [grow_find (find_name hc hi')] at h1
    cases h1
    rw [e i hi', List.getD_eq_getElem?_getD, List.getElem?_eq_getElem hi] at h3
    exact h3
  · intro h t ht
    obtain ⟨i, hi, rfl⟩ := name_mem ht
    refine ⟨i, grow_find (find_name hc hi), by omega, ?_⟩
    rw [e i hi, List.getD_eq_getElem?_getD, List.getElem?_eq_getElem (by omega)]
    exact h _ (List.getElem_mem _)
end
theorem firstI_range_succ {p : Nat → Bool} {n : Nat} : firstI p (List.range (n + 1)) = match firstI p (List.range n) with | some i => some i | none => if p n = true then some n else none := by
  rw [List.range_succ, firstI_append]
  cases firstI p (List.range n) with
  | some i => rfl
  | none => simp only [firstI, List.length_range]; split <;> simp_all
theorem firstI_range_congr {p q : Nat → Bool} {n : Nat} (h : ∀ i, i < n → p i = q i) : firstI p (List.range n) = firstI q (List.range n) :=
  firstI_congr (List.map_congr_left fun i hi => h i (List.mem_range.1 hi))
theorem ordGo_more (d : DefD) : ∀ (n m : Nat) (told : List Bool) (out : List Nat), Told d told out → out.length + n > d.nodes.length → out.length + m > d.nodes.length → d.ordGo n told out = d.ordGo m told out := by
  intro n
  induction n with
  | zero =>
    intro m told out h h1 h2
    exfalso
    have hnd := good_nodup h.2.2
    have hsub : ∀ x ∈ out, x ∈ List.range d.nodes.length := fun x hx => List.mem_range.2 (good_lt h.2.2 hx)
    have := hnd.length_le_of_subset hsub
    simp at this; omega
  | succ n ih =>
    intro m told out h h1 h2
    cases m with
    | zero =>
      exfalso
      have hnd := good_nodup h.2.2
      have hsub : ∀ x ∈ out, x ∈ List.range d.nodes.length := fun x hx => List.mem_range.2 (good_lt h.2.2 hx)
      have := hnd.length_le_of_subset hsub
      simp at this; omega
    | succ m =>
      rw [DefD.ordGo, DefD.ordGo]
      split
      · rfl
      · rename_i i hf
        exact ih m _ _ (told_step h hf) (by simp; omega) (by simp; omega)
theorem grow_ordGo {d : DefD} (hc : d.check.2 = 0) (s : List UInt8) : ∀ (n : Nat) (told : List Bool) (out : List Nat), Told d told out → out.length + n > d.nodes.length → (d.ordGo n told out).length = d.nodes.length →
    (d.grow s).ordGo (n + 1) (told ++ [false]) out = d.ordGo n told out ++ [d.nodes.length]
  | 0, told, out, h, hlt, _ => by
    exfalso
    have hnd := good_nodup h.2.2
    have hsub : ∀ x ∈ out, x ∈ List.range d.nodes.length := fun x hx => List.mem_range.2 (good_lt h.2.2 hx)
    have := hnd.length_le_of_subset hsub
    simp at this; omega
  | n + 1, told, out, h, hlt, hfull => by
    rw [DefD.ordGo, grow_len, firstI_range_succ, firstI_range_congr (q := d.may told) (fun i hi => grow_may hc s h.1 hi false)]
    rw [DefD.ordGo] at hfull ⊢
    cases hf : firstI (d.may told) (List.range d.nodes.length) with
    | some i =>
      rw [hf] at hfull
      have hi : i < d.nodes.length := by simpa using firstI_lt hf
      simp only at hfull ⊢
      rw [List.set_append_left _ _ (by rw [h.1]; exact hi)]
      exact grow_ordGo hc s n _ _ (told_step h hf) (by simp; omega) hfull
    | none =>
      rw [hf] at hfull
      simp only at hfull ⊢
      have hall : told.all id = true := by
        rw [List.all_eq_true]
        intro b hb
        obtain ⟨i, hi, rfl⟩ := List.mem_iff_getElem.1 hb
        have hi' : i < d.nodes.length := by rw [← h.1]; exact hi
        have hm : i ∈ out := by
          by_cases hm : i ∈ out
          · exact hm
          · exfalso
            have hnd : (i :: out).Nodup := List.nodup_cons.2 ⟨hm, good_nodup h.2.2⟩
            have hsub : ∀ x ∈ i :: out, x ∈ List.range d.nodes.length := fun x hx => by
              rcases List.mem_cons.1 hx with rfl | hx
              · exact List.mem_range.2 hi'
              · exact List.mem_range.2 (good_lt h.2.2 hx)
            have := hnd.length_le_of_subset hsub
            simp at this; omega
        have := (h.2.1 i).2 hm
        rw [List.getD_eq_getElem?_getD, List.getElem?_eq_getElem hi] at this
        exact this
      rw [if_pos (by rw [grow_may_last hc s h.1]; exact hall)]
      simp only
      -- one round more: nothing may
      have hno : firstI ((d.grow s).may ((told ++ [false]).set d.nodes.length true)) (List.range (d.grow s).nodes.length) = none := by
        have hs : (told ++ [false]).set d.nodes.length true = told ++ [true] := by
          rw [List.set_append_right _ _ (by rw [h.1]; exact Nat.le_refl _), h.1]; simp
        rw [hs, grow_len, firstI_range_succ, firstI_range_congr (q := d.may told) (fun i hi => grow_may hc s h.1 hi true), hf]
        simp only
        rw [if_neg]
        unfold DefD.may
        have : (told ++ [true]).getD d.nodes.length false = true := by
          rw [List.getD_eq_getElem?_getD, List.getElem?_append_right (by rw [h.1]; exact Nat.le_refl _), h.1]; simp
        rw [this]; simp
      rw [DefD.ordGo, hno]

theorem grow_order {d : DefD} (hc : d.check.2 = 0) (s : List UInt8) : (d.grow s).order = d.order ++ [d.nodes.length] := by
  obtain ⟨ho, _⟩ := check_ok hc
  have h := grow_ordGo hc s (d.nodes.length + 1) (List.replicate d.nodes.length false) [] ⟨by simp, fun k => by
    rw [List.getD_eq_getElem?_getD, List.getElem?_replicate]; split <;> simp, fun l1 i l2 h => by simp at h⟩ (by simp) ho
  unfold DefD.order
  rw [grow_len, ← h, List.replicate_succ']

theorem grow_depth {d : DefD} (hc : d.check.2 = 0) (s : List UInt8) : (d.grow s).depth = d.depth + 1 := by
  obtain ⟨ho, hn, _⟩ := check_ok hc
  have hgd := order_good d
  have key : ∀ (l : List Nat) (st : List Nat × Nat), (∀ i ∈ l, i < d.nodes.length) → st.1.length = d.nodes.length →
      l.foldl (stepD (d.grow s)) (st.1 ++ [0], st.2) = ((l.foldl (stepD d) st).1 ++ [0], (l.foldl (stepD d) st).2) := by
    intro l
    induction l with
    | nil => intro st _ _; rfl
    | cons i l ih =>
      intro st hl hlen
      have hi := hl i List.mem_cons_self
      have hstep : stepD (d.grow s) (st.1 ++ [0], st.2) i = ((stepD d st i).1 ++ [0], (stepD d st i).2) := by
        have hfold : ∀ (a : List (List UInt8)) (deep : List Nat), deep.length = d.nodes.length → (∀ t ∈ a, t ∈ d.after i) → a.foldl (stepIn (d.grow s) i) (deep ++ [0]) = a.foldl (stepIn d i) deep ++ [0] := by
          intro a
          induction a with
          | nil => intro deep _ _; rfl
          | cons t a iha =>
            intro deep hdl hta
            obtain ⟨k, h1, h2⟩ := some_found hc hi (hta t List.mem_cons_self)
            have e1 : findK (d.grow s) t = k := by simp [findK, grow_find h1]
            have e2 : findK d t = k := by simp [findK, h1]
            have g : ∀ j, j < d.nodes.length → (deep ++ [0]).getD j 0 = deep.getD j 0 := fun j hj => by
              simp only [List.getD_eq_getElem?_getD]; rw [List.getElem?_append_left (by omega)]
            have e3 : stepIn (d.grow s) i (deep ++ [0]) t = stepIn d i deep t ++ [0] := by
              unfold stepIn
              rw [e1, e2, g i hi, g k h2, List.set_append_left _ _ (by omega)]
            rw [List.foldl_cons, List.foldl_cons, e3]
            exact iha _ (by rw [stepIn_len]; exact hdl) fun u hu => hta u (List.mem_cons_of_mem _ hu)
        have hdeep : deepOf (d.grow s) (st.1 ++ [0]) i ((d.grow s).nodes.getD i default).after.length = deepOf d st.1 i (d.nodes.getD i default).after.length ++ [0] := by
          unfold deepOf
          rw [grow_get hi, List.take_length, List.set_append_left _ _ (by omega)]
          exact hfold _ _ (by rw [List.length_set]; exact hlen) fun t ht => ht
        unfold stepD
        simp only [hdeep]
        have e4 : (deepOf d st.1 i (d.nodes.getD i default).after.length ++ [0]).getD i 0 = (deepOf d st.1 i (d.nodes.getD i default).after.length).getD i 0 := by
          exact getD_app_lt (by rw [deepOf_len]; omega)
        rw [e4]
      rw [List.foldl_cons, List.foldl_cons, hstep]
      exact ih _ (fun j hj => hl j (List.mem_cons_of_mem _ hj)) (by unfold stepD; rw [deepOf_len]; exact hlen)
  have hfold := key d.order (List.replicate d.nodes.length 0, 0) (fun i hi => order_lt d hi) (by simp)
  have hL := lev_all d
  have hd1 : (d.order.foldl (stepD d) (List.replicate d.nodes.length 0, 0)).1 = d.deeps := rfl
  have hd2 : (d.order.foldl (stepD d) (List.replicate d.nodes.length 0, 0)).2 = d.depth := rfl
  rw [hd1, hd2] at hfold
  unfold DefD.depth
  rw [grow_order hc s, List.foldl_append, grow_len, List.replicate_succ', hfold]
  show max d.depth ((deepOf (d.grow s) (d.deeps ++ [0]) d.nodes.length ((d.grow s).nodes.getD d.nodes.length default).after.length).getD d.nodes.length 0) = _
  unfold deepOf
  rw [List.take_length]
  have hlen := hL.len
  have hset : (d.deeps ++ [0]).set d.nodes.length 1 = d.deeps ++ [1] := by
    rw [List.set_append_right _ _ (by omega), ← hlen]; simp
  have hfk : ∀ i, i < d.nodes.length → findK (d.grow s) (d.nodes.getD i default).name = i := fun i hi => by unfold findK; rw [grow_find (find_name hc hi)]; rfl
  have haf : ((d.grow s).nodes.getD d.nodes.length default).after = d.nodes.map (·.name) := by rw [grow_last]; rfl
  rw [hset, haf]
  obtain ⟨f1, f2, f3, f4⟩ := foldIn (d.grow s) (i := d.nodes.length) (d.nodes.map (·.name)) (d.deeps ++ [1]) (by simp; omega) (fun t ht => by
    obtain ⟨i, hi, rfl⟩ := name_mem ht
    rw [hfk i hi]; omega)
  generalize (List.foldl (stepIn (d.grow s) d.nodes.length) (d.deeps ++ [1]) (d.nodes.map (·.name))).getD d.nodes.length 0 = v at *
  have g : ∀ j, j < d.nodes.length → (d.deeps ++ [1]).getD j 0 = d.deeps.getD j 0 := fun j hj => by
    simp only [List.getD_eq_getElem?_getD]; rw [List.getElem?_append_left (by omega)]
  have gl : (d.deeps ++ [1]).getD d.nodes.length 0 = 1 := by
    rw [List.getD_eq_getElem?_getD, List.getElem?_append_right (by omega), ← hlen]; simp
  have hmem : ∀ i, i < d.nodes.length → (d.nodes.getD i default).name ∈ d.nodes.map (·.name) := fun i hi => by
    rw [← names_get hi, List.getD_eq_getElem?_getD, List.getElem?_eq_getElem (by simpa using hi)]; exact List.getElem_mem _
  have hlow : d.depth + 1 ≤ v := by
    rcases hL.is with h | ⟨i, hi, h⟩
    · have h0 : (0 : Nat) ∈ d.order := order_all ho hn
      have := hL.one 0 h0; have := hL.top 0 h0; omega
    · have hi' := order_lt d hi
      have := f3 _ (hmem i hi')
      rw [hfk i hi', g i hi'] at this; omega
  have hup : v ≤ d.depth + 1 := by
    rcases f4 with h | ⟨t, ht, h⟩
    · rw [gl] at h; omega
    · obtain ⟨i, hi, rfl⟩ := name_mem ht
      rw [hfk i hi, g i hi] at h
      have := hL.top i (order_all ho hi)
      omega
  omega

theorem grow_check {d : DefD} (hc : d.check.2 = 0) {s : List UInt8} (hn : d.nodes.length ≤ 9) (hs : d.find s = none) (hnm : namedS s false 64 = true) : (d.grow s).check = (-1, 0) := by
  obtain ⟨ho, h1, h2, _, h3, h4⟩ := check_ok hc
  rw [check_mk (d := d.grow s) h3 (by rw [grow_len]; omega) (by rw [grow_len]; omega) fun i hi => ?_, if_pos (by rw [grow_order hc s, grow_len]; simp [ho])]
  rw [grow_len] at hi
  by_cases hi' : i < d.nodes.length
  · obtain ⟨h5, h6⟩ := h4 i hi'
    have hfn := find_name hc hi'
    have hne : (d.grow s).namedE i = d.namedE i := by
      unfold DefD.namedE
      simp only
      rw [grow_get hi', grow_find hfn, hfn]
    refine ⟨by unfold DefD.nodeE at h5 ⊢; rw [hne, grow_get hi']; exact h5, ?_⟩
    rw [depE_0] at h6 ⊢
    rw [grow_after hi']
    refine ⟨fun t ht => ?_, h6.2⟩
    obtain ⟨k, e1, _⟩ := some_found hc hi' ht
    rw [grow_find e1]; rfl
  · obtain rfl : i = d.nodes.length := by omega
    refine ⟨?_, ?_⟩
    · have hne : (d.grow s).namedE d.nodes.length = 0 := by
        unfold DefD.namedE
        simp only
        rw [grow_last]
        have e1 : (d.last s).name = s := rfl
        have e2 : (d.last s).kind = 4 := rfl
        have e3 : (d.last s).arg = [115] := rfl
        rw [e1, e2, e3, hnm, grow_find_new hs]
        have e4 : namedS [115] false 64 = true := by decide
        rw [e4]
        simp [findN]
      unfold DefD.nodeE
      rw [hne, if_pos rfl, grow_last, if_pos (by simp [fitsB, DefD.last])]
    · rw [depE_0, grow_after_last]
      refine ⟨fun t ht => ?_, fun k hk hm => ?_⟩
      · obtain ⟨i, hi, rfl⟩ := name_mem ht
        rw [grow_find (find_name hc hi)]; rfl
      · rw [List.length_map] at hk
        rw [names_get hk] at hm
        obtain ⟨j, hj, he⟩ := List.mem_iff_getElem.1 hm
        rw [List.length_take, List.length_map] at hj
        have hjn : j < d.nodes.length := by omega
        rw [List.getElem_take, List.getElem_map] at he
        have e1 := find_name hc hk
        have e2 := find_name hc hjn
        have e3 : (d.nodes.getD j default) = d.nodes[j] := by simp [List.getD_eq_getElem?_getD, hjn]
        rw [e3, he, e1] at e2
        cases e2; omega
end Go.X.TrydW
end
