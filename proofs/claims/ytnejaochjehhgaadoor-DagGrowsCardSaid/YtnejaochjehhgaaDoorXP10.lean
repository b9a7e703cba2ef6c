/- Parts of the proof: XDag7, XDag8, XDag9, XDag10, XDag11, XDag12, XDag13. -/
import Derived.Test.YtnejaochjehhgaaDoorXP9
set_option linter.unusedVariables false
set_option linter.unusedSimpArgs false
set_option linter.unusedSectionVars false
section
open Go Go.X Go.Proofs
set_option maxRecDepth 100000
set_option maxHeartbeats 4000000
set_option linter.unusedSimpArgs false
set_option linter.unusedVariables false
namespace Go.X.TrydW
/- "slices.IndexFunc[[]string,string]" params { toList := [22, 23] } results { toList := [Go.ResultVar.tmp 4] } -/
def x41 : XC :=
 (.seq
  (.ops [
    ⟨(some 4), (.mov (.c (.int .i64 0))), none⟩])
  (.seq
   (.seq
    (.ops [
      ⟨(some 6), (.mov (.t 0)), none⟩,
      ⟨(some 7), (.len (.t 6)), none⟩,
      ⟨(some 8), (.mov (.c (.int .i64 0))), none⟩])
    (.block 0
     (.loop
      (.seq
       (.ops [
         ⟨(some 9), (.bin .lss (.t 8) (.t 7)), none⟩])
       (.seq
        (.cond (.t 9)
         .skip
         (.exit 0))
        (.seq
         (.block 1
          (.seq
           (.ops [
             ⟨(some 10), (.mov (.t 8)), none⟩,
             ⟨(some 5), (.mov (.t 10)), none⟩])
           (.seq
            (.ops [
              ⟨(some 11), (.mov (.t 1)), none⟩,
              ⟨(some 12), (.mov (.t 0)), none⟩,
              ⟨(some 13), (.mov (.t 5)), none⟩,
              ⟨(some 14), (.idxS 1 (.t 12) (.t 13)), none⟩,
              ⟨(some 15), (.load1 (.t 14)), none⟩,
              ⟨(some 16), (.call (.t 11) [(.t 15)]), none⟩])
            (.cond (.t 16)
             (.seq
              (.ops [
                ⟨(some 17), (.mov (.t 5)), none⟩,
                ⟨(some 4), (.mov (.t 17)), none⟩])
              .ret)
             .skip))))
         (.ops [
           ⟨(some 18), (.bin .add (.t 8) (.c (.int .i64 1))), none⟩,
           ⟨(some 8), (.mov (.t 18)), none⟩])))))))
   (.seq
    (.ops [
      ⟨(some 4), (.mov (.c (.int .i64 (-1)))), none⟩])
    .ret)))

/- "slices.ContainsFunc[[]string,string]" params { toList := [22, 23] } results { toList := [Go.ResultVar.tmp 4] } -/
def x27 : XC :=
 (.seq
  (.ops [
    ⟨(some 4), (.mov (.c (.bool false))), none⟩])
  (.seq
   (.ops [
     ⟨(some 5), (.mov (.t 0)), none⟩,
     ⟨(some 6), (.mov (.t 1)), none⟩,
     ⟨(some 7), (.call (.f 41) [(.t 5), (.t 6)]), none⟩,
     ⟨(some 8), (.bin .geq (.t 7) (.c (.int .i64 0))), none⟩,
     ⟨(some 4), (.mov (.t 8)), none⟩])
   .ret))

/- "slices.Index[[]string,string]" params { toList := [22, 9] } results { toList := [Go.ResultVar.tmp 4] } -/
def x44 : XC :=
 (.seq
  (.ops [
    ⟨(some 4), (.mov (.c (.int .i64 0))), none⟩])
  (.seq
   (.seq
    (.ops [
      ⟨(some 6), (.mov (.t 0)), none⟩,
      ⟨(some 7), (.len (.t 6)), none⟩,
      ⟨(some 8), (.mov (.c (.int .i64 0))), none⟩])
    (.block 0
     (.loop
      (.seq
       (.ops [
         ⟨(some 9), (.bin .lss (.t 8) (.t 7)), none⟩])
       (.seq
        (.cond (.t 9)
         .skip
         (.exit 0))
        (.seq
         (.block 1
          (.seq
           (.ops [
             ⟨(some 10), (.mov (.t 8)), none⟩,
             ⟨(some 5), (.mov (.t 10)), none⟩])
           (.seq
            (.ops [
              ⟨(some 11), (.mov (.t 1)), none⟩,
              ⟨(some 12), (.mov (.t 0)), none⟩,
              ⟨(some 13), (.mov (.t 5)), none⟩,
              ⟨(some 14), (.idxS 1 (.t 12) (.t 13)), none⟩,
              ⟨(some 15), (.load1 (.t 14)), none⟩,
              ⟨(some 16), (.bin .eql (.t 11) (.t 15)), none⟩])
            (.cond (.t 16)
             (.seq
              (.ops [
                ⟨(some 17), (.mov (.t 5)), none⟩,
                ⟨(some 4), (.mov (.t 17)), none⟩])
              .ret)
             .skip))))
         (.ops [
           ⟨(some 18), (.bin .add (.t 8) (.c (.int .i64 1))), none⟩,
           ⟨(some 8), (.mov (.t 18)), none⟩])))))))
   (.seq
    (.ops [
      ⟨(some 4), (.mov (.c (.int .i64 (-1)))), none⟩])
    .ret)))

/- "slices.Contains[[]string,string]" params { toList := [22, 9] } results { toList := [Go.ResultVar.tmp 4] } -/
def x30 : XC :=
 (.seq
  (.ops [
    ⟨(some 4), (.mov (.c (.bool false))), none⟩])
  (.seq
   (.ops [
     ⟨(some 5), (.mov (.t 0)), none⟩,
     ⟨(some 6), (.mov (.t 1)), none⟩,
     ⟨(some 7), (.call (.f 44) [(.t 5), (.t 6)]), none⟩,
     ⟨(some 8), (.bin .geq (.t 7) (.c (.int .i64 0))), none⟩,
     ⟨(some 4), (.mov (.t 8)), none⟩])
   .ret))

/- "tiller/dag.fits" params { toList := [37] } results { toList := [Go.ResultVar.tmp 2] } -/
def x26 : XC :=
 (.seq
  (.ops [
    ⟨(some 1), (.box (.t 0)), none⟩,
    ⟨(some 2), (.mov (.c (.bool false))), none⟩])
  (.seq
   (.ops [
     ⟨(some 6), (.fldA 5 (.t 1)), none⟩,
     ⟨(some 7), (.load1 (.t 6)), none⟩,
     ⟨(some 8), (.bin .eql (.t 7) (.c (.int .i64 0))), none⟩,
     ⟨(some 3), (.mov (.t 8)), none⟩])
   (.seq
    (.seq
     (.ops [
       ⟨(some 9), (.fldA 1 (.t 1)), none⟩,
       ⟨(some 10), (.load1 (.t 9)), none⟩,
       ⟨(some 11), (.bin .eql (.t 10) (.c (.int .i64 1))), none⟩])
     (.cond (.t 11)
      (.ops [
        ⟨(some 12), (.fldA 5 (.t 1)), none⟩,
        ⟨(some 13), (.load1 (.t 12)), none⟩,
        ⟨(some 14), (.bin .geq (.t 13) (.c (.int .i64 1))), none⟩,
        ⟨(some 15), (.mov (.t 14)), none⟩,
        ⟨(some 16), (.fldA 5 (.t 1)), (some (15, true))⟩,
        ⟨(some 17), (.load1 (.t 16)), (some (15, true))⟩,
        ⟨(some 18), (.bin .leq (.t 17) (.c (.int .i64 10))), (some (15, true))⟩,
        ⟨(some 19), (.pick (.t 15) (.t 18) (.c (.bool false))), none⟩,
        ⟨(some 3), (.mov (.t 19)), none⟩])
      .skip))
    (.seq
     (.ops [
       ⟨(some 20), (.fldA 4 (.t 1)), none⟩,
       ⟨(some 21), (.load1 (.t 20)), none⟩,
       ⟨(some 22), (.bin .eql (.t 21) (.c (.int .i64 0))), none⟩,
       ⟨(some 23), (.mov (.t 22)), none⟩,
       ⟨(some 24), (.fldA 4 (.t 1)), (some (23, false))⟩,
       ⟨(some 25), (.load1 (.t 24)), (some (23, false))⟩,
       ⟨(some 26), (.bin .gtr (.t 25) (.c (.int .i64 0))), (some (23, false))⟩,
       ⟨(some 27), (.mov (.t 26)), (some (23, false))⟩,
       ⟨(some 28), (.fldA 4 (.t 1)), (some (27, true))⟩,
       ⟨(some 29), (.load1 (.t 28)), (some (27, true))⟩,
       ⟨(some 30), (.bin .leq (.t 29) (.c (.int .i64 1000000))), (some (27, true))⟩,
       ⟨(some 31), (.pick (.t 27) (.t 30) (.c (.bool false))), (some (23, false))⟩,
       ⟨(some 32), (.mov (.t 31)), (some (23, false))⟩,
       ⟨(some 33), (.fldA 1 (.t 1)), (some (32, true))⟩,
       ⟨(some 34), (.load1 (.t 33)), (some (32, true))⟩,
       ⟨(some 35), (.bin .eql (.t 34) (.c (.int .i64 1))), (some (32, true))⟩,
       ⟨(some 36), (.mov (.t 35)), (some (32, true))⟩,
       ⟨(some 37), (.fldA 1 (.t 1)), (some (36, false))⟩,
       ⟨(some 38), (.load1 (.t 37)), (some (36, false))⟩,
       ⟨(some 39), (.bin .eql (.t 38) (.c (.int .i64 2))), (some (36, false))⟩,
       ⟨(some 40), (.pick (.t 36) (.c (.bool true)) (.t 39)), (some (32, true))⟩,
       ⟨(some 41), (.pick (.t 32) (.t 40) (.c (.bool false))), (some (23, false))⟩,
       ⟨(some 42), (.pick (.t 23) (.c (.bool true)) (.t 41)), none⟩,
       ⟨(some 4), (.mov (.t 42)), none⟩])
     (.seq
      (.ops [
        ⟨(some 43), (.fldA 1 (.t 1)), none⟩,
        ⟨(some 44), (.load1 (.t 43)), none⟩,
        ⟨(some 45), (.bin .neq (.t 44) (.c (.int .i64 2))), none⟩,
        ⟨(some 46), (.mov (.t 45)), none⟩,
        ⟨(some 47), (.fldA 2 (.t 1)), (some (46, false))⟩,
        ⟨(some 48), (.load1 (.t 47)), (some (46, false))⟩,
        ⟨(some 49), (.bin .eql (.t 48) (.c (.str []))), (some (46, false))⟩,
        ⟨(some 50), (.pick (.t 46) (.c (.bool true)) (.t 49)), none⟩,
        ⟨(some 51), (.mov (.t 50)), none⟩,
        ⟨(some 52), (.fldA 1 (.t 1)), (some (51, true))⟩,
        ⟨(some 53), (.load1 (.t 52)), (some (51, true))⟩,
        ⟨(some 54), (.bin .eql (.t 53) (.c (.int .i64 5))), (some (51, true))⟩,
        ⟨(some 55), (.mov (.t 54)), (some (51, true))⟩,
        ⟨(some 56), (.fldA 3 (.t 1)), (some (55, false))⟩,
        ⟨(some 57), (.load1 (.t 56)), (some (55, false))⟩,
        ⟨(some 58), (.bin .eql (.t 57) (.c (.str []))), (some (55, false))⟩,
        ⟨(some 59), (.pick (.t 55) (.c (.bool true)) (.t 58)), (some (51, true))⟩,
        ⟨(some 60), (.pick (.t 51) (.t 59) (.c (.bool false))), none⟩,
        ⟨(some 5), (.mov (.t 60)), none⟩])
      (.seq
       (.ops [
         ⟨(some 61), (.fldA 1 (.t 1)), none⟩,
         ⟨(some 62), (.load1 (.t 61)), none⟩,
         ⟨(some 63), (.bin .geq (.t 62) (.c (.int .i64 1))), none⟩,
         ⟨(some 64), (.mov (.t 63)), none⟩,
         ⟨(some 65), (.fldA 1 (.t 1)), (some (64, true))⟩,
         ⟨(some 66), (.load1 (.t 65)), (some (64, true))⟩,
         ⟨(some 67), (.bin .leq (.t 66) (.c (.int .i64 5))), (some (64, true))⟩,
         ⟨(some 68), (.pick (.t 64) (.t 67) (.c (.bool false))), none⟩,
         ⟨(some 69), (.mov (.t 68)), none⟩,
         ⟨(some 70), (.mov (.t 4)), (some (69, true))⟩,
         ⟨(some 71), (.pick (.t 69) (.t 70) (.c (.bool false))), none⟩,
         ⟨(some 72), (.mov (.t 71)), none⟩,
         ⟨(some 73), (.mov (.t 3)), (some (72, true))⟩,
         ⟨(some 74), (.pick (.t 72) (.t 73) (.c (.bool false))), none⟩,
         ⟨(some 75), (.mov (.t 74)), none⟩,
         ⟨(some 76), (.mov (.t 5)), (some (75, true))⟩,
         ⟨(some 77), (.pick (.t 75) (.t 76) (.c (.bool false))), none⟩,
         ⟨(some 2), (.mov (.t 77)), none⟩])
       .ret))))))

/- "tiller/dag.named" params { toList := [28, 3] } results { toList := [Go.ResultVar.tmp 4] } -/
def x25 : XC :=
 (.seq
  (.ops [
    ⟨(some 2), (.box (.t 0)), none⟩,
    ⟨(some 4), (.mov (.c (.int .i64 0))), none⟩])
  (.seq
   (.ops [
     ⟨(some 8), (.fldA 1 (.t 2)), none⟩,
     ⟨(some 9), (.load1 (.t 8)), none⟩,
     ⟨(some 10), (.mov (.t 1)), none⟩,
     ⟨(some 11), (.idxS 7 (.t 9) (.t 10)), none⟩,
     ⟨(some 12), (.loadN 7 (.t 11)), none⟩,
     ⟨(some 5), (.alloc [(.str []), (.int .i64 0), (.str []), (.str []), (.int .i64 0), (.int .i64 0), .nsl]), none⟩,
     ⟨none, (.store 7 (.t 5) (.t 12)), none⟩])
   (.seq
    (.seq
     (.ops [
       ⟨(some 13), (.fldA 0 (.t 5)), none⟩,
       ⟨(some 14), (.load1 (.t 13)), none⟩,
       ⟨(some 15), (.call (.f 7) [(.t 14)]), none⟩,
       ⟨(some 16), (.un .not (.t 15)), none⟩,
       ⟨(some 17), (.mov (.t 16)), none⟩,
       ⟨(some 18), (.fldA 1 (.t 5)), (some (17, false))⟩,
       ⟨(some 19), (.load1 (.t 18)), (some (17, false))⟩,
       ⟨(some 20), (.bin .neq (.t 19) (.c (.int .i64 2))), (some (17, false))⟩,
       ⟨(some 21), (.mov (.t 20)), (some (17, false))⟩,
       ⟨(some 22), (.fldA 2 (.t 5)), (some (21, true))⟩,
       ⟨(some 23), (.load1 (.t 22)), (some (21, true))⟩,
       ⟨(some 24), (.call (.f 7) [(.t 23)]), (some (21, true))⟩,
       ⟨(some 25), (.un .not (.t 24)), (some (21, true))⟩,
       ⟨(some 26), (.pick (.t 21) (.t 25) (.c (.bool false))), (some (17, false))⟩,
       ⟨(some 27), (.pick (.t 17) (.c (.bool true)) (.t 26)), none⟩,
       ⟨(some 28), (.mov (.t 27)), none⟩,
       ⟨(some 29), (.fldA 1 (.t 5)), (some (28, false))⟩,
       ⟨(some 30), (.load1 (.t 29)), (some (28, false))⟩,
       ⟨(some 31), (.bin .eql (.t 30) (.c (.int .i64 5))), (some (28, false))⟩,
       ⟨(some 32), (.mov (.t 31)), (some (28, false))⟩,
       ⟨(some 33), (.fldA 3 (.t 5)), (some (32, true))⟩,
       ⟨(some 34), (.load1 (.t 33)), (some (32, true))⟩,
       ⟨(some 35), (.call (.f 9) [(.t 34)]), (some (32, true))⟩,
       ⟨(some 36), (.un .not (.t 35)), (some (32, true))⟩,
       ⟨(some 37), (.pick (.t 32) (.t 36) (.c (.bool false))), (some (28, false))⟩,
       ⟨(some 38), (.pick (.t 28) (.c (.bool true)) (.t 37)), none⟩])
     (.cond (.t 38)
      (.seq
       (.ops [
         ⟨(some 4), (.mov (.c (.int .i64 17))), none⟩])
       .ret)
      .skip))
    (.seq
     (.seq
      (.ops [
        ⟨(some 40), (.loadN 2 (.t 2)), none⟩,
        ⟨(some 41), (.fldA 0 (.t 5)), none⟩,
        ⟨(some 42), (.load1 (.t 41)), none⟩,
        ⟨(some 43), (.call (.f 29) [(.t 40), (.t 42)]), none⟩,
        ⟨(some 39), (.mov (.t 43)), none⟩,
        ⟨(some 44), (.ext (.t 39) 0), none⟩,
        ⟨(some 45), (.ext (.t 39) 1), none⟩,
        ⟨(some 6), (.mov (.t 44)), none⟩,
        ⟨(some 7), (.mov (.t 45)), none⟩])
      (.seq
       (.ops [
         ⟨(some 46), (.mov (.t 6)), none⟩,
         ⟨(some 47), (.mov (.t 1)), none⟩,
         ⟨(some 48), (.bin .lss (.t 46) (.t 47)), none⟩])
       (.cond (.t 48)
        (.seq
         (.ops [
           ⟨(some 4), (.mov (.c (.int .i64 16))), none⟩])
         .ret)
        .skip)))
     (.seq
      (.ops [
        ⟨(some 4), (.mov (.c (.int .i64 0))), none⟩])
      .ret)))))

/- "tiller/dag.Check$1" params { toList := [9] } results { toList := [Go.ResultVar.tmp 3] } -/
def x28 : XC :=
 (.seq
  (.ops [
    ⟨(some 3), (.mov (.c (.bool false))), none⟩])
  (.seq
   (.ops [
     ⟨(some 7), (.loadN 2 (.t 1)), none⟩,
     ⟨(some 8), (.mov (.t 0)), none⟩,
     ⟨(some 9), (.call (.f 29) [(.t 7), (.t 8)]), none⟩,
     ⟨(some 6), (.mov (.t 9)), none⟩,
     ⟨(some 10), (.ext (.t 6) 0), none⟩,
     ⟨(some 11), (.ext (.t 6) 1), none⟩,
     ⟨(some 4), (.mov (.t 10)), none⟩,
     ⟨(some 5), (.mov (.t 11)), none⟩])
   (.seq
    (.ops [
      ⟨(some 12), (.mov (.t 5)), none⟩,
      ⟨(some 13), (.un .not (.t 12)), none⟩,
      ⟨(some 3), (.mov (.t 13)), none⟩])
    .ret)))

section
variable {E : Env}
def idxV (o : Option Nat) : Int := match o with | some i => i | none => -1
theorem idxV_nonneg (o : Option Nat) : decide (0 ≤ idxV o) = o.isSome := by cases o <;> simp [idxV]

theorem indexFuncS_pure (hP : E.P = Tryd.prog) (l : List (List UInt8)) (f : FuncId) (caps : List IV) (p : List UInt8 → Bool) (hl : l.length ≤ 9223372036854775807) (hcap : mapO (conv [] 12 renNone) caps = some caps)
    (hf : ∀ s ∈ l, XPure E f (.str s :: caps) (.bool (p s))) : XPure E 41 [.isl (strRows l), .fn (.func f) [] caps] (.int .i64 (idxV (firstI p l))) := by
  refine xpure1 (n := Tryd.f41.ntmps) (c := x41) (t := 4) (by rw [hP]; rfl) (by rw [hP]; kernel_rfl) (by decide) (Nat.le_of_ble_eq_true rfl) ?_
  generalize hρ : entry _ = ρ
  have h0 : ρ 0 = .isl (strRows l) := by rw [← hρ]; rfl
  have h1 : ρ 1 = .fn (.func f) [] caps := by rw [← hρ]; rfl
  clear hρ
  unfold x41
  simp only [h0, h1, strRows_len, go_sem, Nat.reduceEqDiff, reduceIte, Int.reduceEq, Int.reduceLT, Int.reduceLE, Nat.reduceAdd, Nat.reduceLT, Nat.reduceLeDiff, Int.reduceToNat, Int.reduceSub, Int.reduceAdd, Int.reduceNeg]
  refine s_loop (fun n ρ L => ∃ i : Nat, i ≤ l.length ∧ n = l.length - i ∧ L = [] ∧ ρ 0 = .isl (strRows l) ∧ ρ 1 = .fn (.func f) [] caps ∧ ρ 7 = .int .i64 l.length ∧ ρ 8 = .int .i64 i ∧ (l.take i).all (fun n => !p n) = true)
    ⟨0, Nat.zero_le _, rfl, rfl, by simp only [h0, go_sem, Nat.reduceEqDiff, reduceIte, Int.reduceEq, Int.reduceLT, Int.reduceLE, Nat.reduceAdd, Nat.reduceLT, Nat.reduceLeDiff, Int.reduceToNat, Int.reduceSub, Int.reduceAdd, Int.reduceNeg], by simp only [h1, go_sem, Nat.reduceEqDiff, reduceIte, Int.reduceEq, Int.reduceLT, Int.reduceLE, Nat.reduceAdd, Nat.reduceLT, Nat.reduceLeDiff, Int.reduceToNat, Int.reduceSub, Int.reduceAdd, Int.reduceNeg], by simp only [go_sem, Nat.reduceEqDiff, reduceIte, Int.reduceEq, Int.reduceLT, Int.reduceLE, Nat.reduceAdd, Nat.reduceLT, Nat.reduceLeDiff, Int.reduceToNat, Int.reduceSub, Int.reduceAdd, Int.reduceNeg], by simp only [go_sem, Nat.reduceEqDiff, reduceIte, Int.reduceEq, Int.reduceLT, Int.reduceLE, Nat.reduceAdd, Nat.reduceLT, Nat.reduceLeDiff, Int.reduceToNat, Int.reduceSub, Int.reduceAdd, Int.reduceNeg]; try rfl, rfl⟩ ?_
  clear h0 h1 ρ
  rintro n ρ L ⟨i, hi, rfl, rfl, h0, h1, h7, h8, hall⟩
  simp only [h0, h1, h7, h8, go_sem, Nat.reduceEqDiff, reduceIte, Int.reduceEq, Int.reduceLT, Int.reduceLE, Nat.reduceAdd, Nat.reduceLT, Nat.reduceLeDiff, Int.reduceToNat, Int.reduceSub, Int.reduceAdd, Int.reduceNeg]
  refine s_cond (b := decide _) (by simp only [h0, h1, h7, h8, strRows_len, rows_strs, go_sem, Nat.reduceEqDiff, reduceIte, Int.reduceEq, Int.reduceLT, Int.reduceLE, Nat.reduceAdd, Nat.reduceLT, Nat.reduceLeDiff, Int.reduceToNat, Int.reduceSub, Int.reduceAdd, Int.reduceNeg]; try rfl) ?_ ?_ <;> intro hb <;> simp only [hb, h0, h1, h7, h8, strRows_len, rows_strs, go_sem, Nat.reduceEqDiff, reduceIte, Int.reduceEq, Int.reduceLT, Int.reduceLE, Nat.reduceAdd, Nat.reduceLT, Nat.reduceLeDiff, Int.reduceToNat, Int.reduceSub, Int.reduceAdd, Int.reduceNeg]
  · rw [decide_eq_true_eq] at hb
    have hi' : i < l.length := by omega
    have hrow := strRows_get hi'
    refine ⟨hb, ?_⟩
    simp only [h0, h1, h7, h8, hrow, go_sem, Nat.reduceEqDiff, reduceIte, Int.reduceEq, Int.reduceLT, Int.reduceLE, Nat.reduceAdd, Nat.reduceLT, Nat.reduceLeDiff, Int.reduceToNat, Int.reduceSub, Int.reduceAdd, Int.reduceNeg]
    refine ⟨hi', ?_⟩
    have hmem : l.getD i [] ∈ l := by rw [List.getD_eq_getElem?_getD, List.getElem?_eq_getElem hi']; exact List.getElem_mem _
    refine xcall_pure (mapO_cons rfl hcap) (hf _ hmem) rfl ?_
    try simp only [h0, h1, h7, h8, go_sem, Nat.reduceEqDiff, reduceIte, Int.reduceEq, Int.reduceLT, Int.reduceLE, Nat.reduceAdd, Nat.reduceLT, Nat.reduceLeDiff, Int.reduceToNat, Int.reduceSub, Int.reduceAdd, Int.reduceNeg]
    refine s_cond (b := p _) (by simp only [h0, h1, h7, h8, go_sem, Nat.reduceEqDiff, reduceIte, Int.reduceEq, Int.reduceLT, Int.reduceLE, Nat.reduceAdd, Nat.reduceLT, Nat.reduceLeDiff, Int.reduceToNat, Int.reduceSub, Int.reduceAdd, Int.reduceNeg]; try rfl) ?_ ?_ <;> intro hc <;> simp only [hc, h0, h1, h7, h8, go_sem, Nat.reduceEqDiff, reduceIte, Int.reduceEq, Int.reduceLT, Int.reduceLE, Nat.reduceAdd, Nat.reduceLT, Nat.reduceLeDiff, Int.reduceToNat, Int.reduceSub, Int.reduceAdd, Int.reduceNeg]
    · have hfi : firstI p l = some i := firstI_some (d := []) hi' hall (by simpa using hc)
      rw [hfi]; rfl
    · refine ⟨l.length - (i + 1), by omega, i + 1, by omega, rfl, ?_, ?_⟩
      · rw [wrap64 (by omega) (by omega)]; rfl
      · rw [take_succ_all (d := []) hi' hall]; simpa using hc
  · rw [decide_eq_false_iff_not] at hb
    have hi' : i = l.length := by omega
    subst hi'
    rw [List.take_length] at hall
    have hfi : firstI p l = none := firstI_none hall
    rw [hfi]; rfl

theorem containsFuncS_pure (hP : E.P = Tryd.prog) (l : List (List UInt8)) (f : FuncId) (caps : List IV) (p : List UInt8 → Bool) (hl : l.length ≤ 9223372036854775807) (hcap : mapO (conv [] 12 renNone) caps = some caps) (hcap' : mapO (conv [] 11 renNone) caps = some caps)
    (hf : ∀ s ∈ l, XPure E f (.str s :: caps) (.bool (p s))) : XPure E 27 [.isl (strRows l), .fn (.func f) [] caps] (.bool (firstI p l).isSome) := by
  refine xpure1 (n := Tryd.f27.ntmps) (c := x27) (t := 4) (by rw [hP]; rfl) (by rw [hP]; kernel_rfl) (by decide) (Nat.le_of_ble_eq_true rfl) ?_
  generalize hρ : entry _ = ρ
  have h0 : ρ 0 = .isl (strRows l) := by rw [← hρ]; rfl
  have h1 : ρ 1 = .fn (.func f) [] caps := by rw [← hρ]; rfl
  clear hρ
  unfold x27
  simp only [h0, h1, go_sem, Nat.reduceEqDiff, reduceIte, Int.reduceEq, Int.reduceLT, Int.reduceLE, Nat.reduceAdd, Nat.reduceLT, Nat.reduceLeDiff, Int.reduceToNat, Int.reduceSub, Int.reduceAdd, Int.reduceNeg]
  refine xcall_pure (args' := [.isl (strRows l), .fn (.func f) [] caps]) (mapO_cons rfl (mapO_cons (conv_fn rfl hcap') rfl)) (indexFuncS_pure hP l f caps p hl hcap hf) rfl ?_
  try simp only [h0, h1, idxV_nonneg, go_sem, Nat.reduceEqDiff, reduceIte, Int.reduceEq, Int.reduceLT, Int.reduceLE, Nat.reduceAdd, Nat.reduceLT, Nat.reduceLeDiff, Int.reduceToNat, Int.reduceSub, Int.reduceAdd, Int.reduceNeg]
  rfl

theorem indexS_pure (hP : E.P = Tryd.prog) (l : List (List UInt8)) (s : List UInt8) (hl : l.length ≤ 9223372036854775807) : XPure E 44 [.isl (strRows l), .str s] (.int .i64 (idxV (firstI (fun x => decide (s = x)) l))) := by
  refine xpure1 (n := Tryd.f44.ntmps) (c := x44) (t := 4) (by rw [hP]; rfl) (by rw [hP]; kernel_rfl) (by decide) (Nat.le_of_ble_eq_true rfl) ?_
  generalize hρ : entry _ = ρ
  have h0 : ρ 0 = .isl (strRows l) := by rw [← hρ]; rfl
  have h1 : ρ 1 = .str s := by rw [← hρ]; rfl
  clear hρ
  unfold x44
  generalize hp : (fun x => decide (s = x)) = p
  simp only [h0, h1, strRows_len, go_sem, Nat.reduceEqDiff, reduceIte, Int.reduceEq, Int.reduceLT, Int.reduceLE, Nat.reduceAdd, Nat.reduceLT, Nat.reduceLeDiff, Int.reduceToNat, Int.reduceSub, Int.reduceAdd, Int.reduceNeg]
  refine s_loop (fun n ρ L => ∃ i : Nat, i ≤ l.length ∧ n = l.length - i ∧ L = [] ∧ ρ 0 = .isl (strRows l) ∧ ρ 1 = .str s ∧ ρ 7 = .int .i64 l.length ∧ ρ 8 = .int .i64 i ∧ (l.take i).all (fun n => !p n) = true)
    ⟨0, Nat.zero_le _, rfl, rfl, by simp only [h0, go_sem, Nat.reduceEqDiff, reduceIte, Int.reduceEq, Int.reduceLT, Int.reduceLE, Nat.reduceAdd, Nat.reduceLT, Nat.reduceLeDiff, Int.reduceToNat, Int.reduceSub, Int.reduceAdd, Int.reduceNeg], by simp only [h1, go_sem, Nat.reduceEqDiff, reduceIte, Int.reduceEq, Int.reduceLT, Int.reduceLE, Nat.reduceAdd, Nat.reduceLT, Nat.reduceLeDiff, Int.reduceToNat, Int.reduceSub, Int.reduceAdd, Int.reduceNeg], by simp only [go_sem, Nat.reduceEqDiff, reduceIte, Int.reduceEq, Int.reduceLT, Int.reduceLE, Nat.reduceAdd, Nat.reduceLT, Nat.reduceLeDiff, Int.reduceToNat, Int.reduceSub, Int.reduceAdd, Int.reduceNeg], by simp only [go_sem, Nat.reduceEqDiff, reduceIte, Int.reduceEq, Int.reduceLT, Int.reduceLE, Nat.reduceAdd, Nat.reduceLT, Nat.reduceLeDiff, Int.reduceToNat, Int.reduceSub, Int.reduceAdd, Int.reduceNeg]; try rfl, rfl⟩ ?_
  clear h0 h1 ρ
  rintro n ρ L ⟨i, hi, rfl, rfl, h0, h1, h7, h8, hall⟩
  simp only [h0, h1, h7, h8, go_sem, Nat.reduceEqDiff, reduceIte, Int.reduceEq, Int.reduceLT, Int.reduceLE, Nat.reduceAdd, Nat.reduceLT, Nat.reduceLeDiff, Int.reduceToNat, Int.reduceSub, Int.reduceAdd, Int.reduceNeg]
  refine s_cond (b := decide _) (by simp only [h0, h1, h7, h8, strRows_len, rows_strs, go_sem, Nat.reduceEqDiff, reduceIte, Int.reduceEq, Int.reduceLT, Int.reduceLE, Nat.reduceAdd, Nat.reduceLT, Nat.reduceLeDiff, Int.reduceToNat, Int.reduceSub, Int.reduceAdd, Int.reduceNeg]; try rfl) ?_ ?_ <;> intro hb <;> simp only [hb, h0, h1, h7, h8, strRows_len, rows_strs, go_sem, Nat.reduceEqDiff, reduceIte, Int.reduceEq, Int.reduceLT, Int.reduceLE, Nat.reduceAdd, Nat.reduceLT, Nat.reduceLeDiff, Int.reduceToNat, Int.reduceSub, Int.reduceAdd, Int.reduceNeg]
  · rw [decide_eq_true_eq] at hb
    have hi' : i < l.length := by omega
    have hrow := strRows_get hi'
    refine ⟨hb, ?_⟩
    simp only [h0, h1, h7, h8, hrow, go_sem, Nat.reduceEqDiff, reduceIte, Int.reduceEq, Int.reduceLT, Int.reduceLE, Nat.reduceAdd, Nat.reduceLT, Nat.reduceLeDiff, Int.reduceToNat, Int.reduceSub, Int.reduceAdd, Int.reduceNeg]
    refine ⟨hi', ?_⟩
    refine s_cond (b := p (l.getD i [])) (by simp only [h0, h1, h7, h8, go_sem, Nat.reduceEqDiff, reduceIte, Int.reduceEq, Int.reduceLT, Int.reduceLE, Nat.reduceAdd, Nat.reduceLT, Nat.reduceLeDiff, Int.reduceToNat, Int.reduceSub, Int.reduceAdd, Int.reduceNeg]; (first | rfl | (rw [← hp]))) ?_ ?_ <;> intro hc <;> simp only [hc, h0, h1, h7, h8, go_sem, Nat.reduceEqDiff, reduceIte, Int.reduceEq, Int.reduceLT, Int.reduceLE, Nat.reduceAdd, Nat.reduceLT, Nat.reduceLeDiff, Int.reduceToNat, Int.reduceSub, Int.reduceAdd, Int.reduceNeg]
    · have hfi : firstI p l = some i := firstI_some (d := []) hi' hall (by simpa using hc)
      rw [hfi]; rfl
    · refine ⟨l.length - (i + 1), by omega, i + 1, by omega, rfl, ?_, ?_⟩
      · rw [wrap64 (by omega) (by omega)]; rfl
      · rw [take_succ_all (d := []) hi' hall]; simpa using hc
  · rw [decide_eq_false_iff_not] at hb
    have hi' : i = l.length := by omega
    subst hi'
    rw [List.take_length] at hall
    have hfi : firstI p l = none := firstI_none hall
    rw [hfi]; rfl

theorem containsS_pure (hP : E.P = Tryd.prog) (l : List (List UInt8)) (s : List UInt8) (hl : l.length ≤ 9223372036854775807) : XPure E 30 [.isl (strRows l), .str s] (.bool (firstI (fun x => decide (s = x)) l).isSome) := by
  refine xpure1 (n := Tryd.f30.ntmps) (c := x30) (t := 4) (by rw [hP]; rfl) (by rw [hP]; kernel_rfl) (by decide) (Nat.le_of_ble_eq_true rfl) ?_
  generalize hρ : entry _ = ρ
  have h0 : ρ 0 = .isl (strRows l) := by rw [← hρ]; rfl
  have h1 : ρ 1 = .str s := by rw [← hρ]; rfl
  clear hρ
  unfold x30
  simp only [h0, h1, go_sem, Nat.reduceEqDiff, reduceIte, Int.reduceEq, Int.reduceLT, Int.reduceLE, Nat.reduceAdd, Nat.reduceLT, Nat.reduceLeDiff, Int.reduceToNat, Int.reduceSub, Int.reduceAdd, Int.reduceNeg]
  refine xcall_pure (args' := [.isl (strRows l), .str s]) rfl (indexS_pure hP l s hl) rfl ?_
  try simp only [h0, h1, idxV_nonneg, go_sem, Nat.reduceEqDiff, reduceIte, Int.reduceEq, Int.reduceLT, Int.reduceLE, Nat.reduceAdd, Nat.reduceLT, Nat.reduceLeDiff, Int.reduceToNat, Int.reduceSub, Int.reduceAdd, Int.reduceNeg]
  rfl

def fitsB (n : NodeD) : Bool :=
  (((decide (1 ≤ n.kind) && decide (n.kind ≤ 5)) && (decide (n.delay = 0) || ((decide (0 < n.delay) && decide (n.delay ≤ 1000000)) && (decide (n.kind = 1) || decide (n.kind = 2))))) &&
    (if n.kind = 1 then decide (1 ≤ n.tries) && decide (n.tries ≤ 10) else decide (n.tries = 0))) && ((!decide (n.kind = 2) || decide (n.arg = [])) && (decide (n.kind = 5) || decide (n.to = [])))

theorem fits_pure (hP : E.P = Tryd.prog) (n : NodeD) : XPure E 26 [.agg n.row] (.bool (fitsB n)) := by
  refine xpure1 (n := Tryd.f26.ntmps) (c := x26) (t := 2) (by rw [hP]; rfl) (by rw [hP]; kernel_rfl) (by decide) (Nat.le_of_ble_eq_true rfl) ?_
  generalize hρ : entry _ = ρ
  have h0 : ρ 0 = .agg [.str n.name, .int .i64 n.kind, .str n.arg, .str n.to, .int .i64 n.delay, .int .i64 n.tries, .isl (strRows n.after)] := by rw [← hρ]; rfl
  clear hρ
  unfold x26
  simp only [h0, go_sem, Nat.reduceEqDiff, reduceIte, Int.reduceEq, Int.reduceLT, Int.reduceLE, Nat.reduceAdd, Nat.reduceLT, Nat.reduceLeDiff, Int.reduceToNat, Int.reduceSub, Int.reduceAdd, Int.reduceNeg]
  refine s_cond (b := decide (n.kind = 1)) (by simp only [go_sem, Nat.reduceEqDiff, reduceIte, Int.reduceEq, Int.reduceLT, Int.reduceLE, Nat.reduceAdd, Nat.reduceLT, Nat.reduceLeDiff, Int.reduceToNat, Int.reduceSub, Int.reduceAdd, Int.reduceNeg]; try rfl) ?_ ?_ <;> intro hk <;> simp only [h0, go_sem, Nat.reduceEqDiff, reduceIte, Int.reduceEq, Int.reduceLT, Int.reduceLE, Nat.reduceAdd, Nat.reduceLT, Nat.reduceLeDiff, Int.reduceToNat, Int.reduceSub, Int.reduceAdd, Int.reduceNeg]
  · rw [decide_eq_true_eq] at hk
    repeat (refine s_mg (by simp only [hk, go_sem, Nat.reduceEqDiff, reduceIte, Int.reduceEq, Int.reduceLT, Int.reduceLE, Nat.reduceAdd, Nat.reduceLT, Nat.reduceLeDiff, Int.reduceToNat, Int.reduceSub, Int.reduceAdd, Int.reduceNeg]; try rfl) ?_; simp only [cut_g, cut_t, cut_none, cut_out, memN_cons, memN_nil, Nat.reduceEqDiff, reduceIte, List.nil_append, List.cons_append, not_false_eq_true]; refine ex_merge rfl (by simp only [hk, go_sem, Nat.reduceEqDiff, reduceIte, Int.reduceEq, Int.reduceLT, Int.reduceLE, Nat.reduceAdd, Nat.reduceLT, Nat.reduceLeDiff, Int.reduceToNat, Int.reduceSub, Int.reduceAdd, Int.reduceNeg]) (by intro hb; simp only [hb, hk, go_sem, Nat.reduceEqDiff, reduceIte, Int.reduceEq, Int.reduceLT, Int.reduceLE, Nat.reduceAdd, Nat.reduceLT, Nat.reduceLeDiff, Int.reduceToNat, Int.reduceSub, Int.reduceAdd, Int.reduceNeg]; (repeat (refine s_mg (by simp only [hk, go_sem, Nat.reduceEqDiff, reduceIte, Int.reduceEq, Int.reduceLT, Int.reduceLE, Nat.reduceAdd, Nat.reduceLT, Nat.reduceLeDiff, Int.reduceToNat, Int.reduceSub, Int.reduceAdd, Int.reduceNeg]; try rfl) ?_; simp only [cut_g, cut_t, cut_none, cut_out, memN_cons, memN_nil, Nat.reduceEqDiff, reduceIte, List.nil_append, List.cons_append, not_false_eq_true]; refine ex_merge rfl (by simp only [hk, go_sem, Nat.reduceEqDiff, reduceIte, Int.reduceEq, Int.reduceLT, Int.reduceLE, Nat.reduceAdd, Nat.reduceLT, Nat.reduceLeDiff, Int.reduceToNat, Int.reduceSub, Int.reduceAdd, Int.reduceNeg]) (by intro hb; simp only [hb, hk, go_sem, Nat.reduceEqDiff, reduceIte, Int.reduceEq, Int.reduceLT, Int.reduceLE, Nat.reduceAdd, Nat.reduceLT, Nat.reduceLeDiff, Int.reduceToNat, Int.reduceSub, Int.reduceAdd, Int.reduceNeg]; (repeat (refine s_mg (by simp only [hk, go_sem, Nat.reduceEqDiff, reduceIte, Int.reduceEq, Int.reduceLT, Int.reduceLE, Nat.reduceAdd, Nat.reduceLT, Nat.reduceLeDiff, Int.reduceToNat, Int.reduceSub, Int.reduceAdd, Int.reduceNeg]; try rfl) ?_; simp only [cut_g, cut_t, cut_none, cut_out, memN_cons, memN_nil, Nat.reduceEqDiff, reduceIte, List.nil_append, List.cons_append, not_false_eq_true]; refine ex_merge rfl (by simp only [hk, go_sem, Nat.reduceEqDiff, reduceIte, Int.reduceEq, Int.reduceLT, Int.reduceLE, Nat.reduceAdd, Nat.reduceLT, Nat.reduceLeDiff, Int.reduceToNat, Int.reduceSub, Int.reduceAdd, Int.reduceNeg]) (by intro hb; simp only [hb, hk, go_sem, Nat.reduceEqDiff, reduceIte, Int.reduceEq, Int.reduceLT, Int.reduceLE, Nat.reduceAdd, Nat.reduceLT, Nat.reduceLeDiff, Int.reduceToNat, Int.reduceSub, Int.reduceAdd, Int.reduceNeg]; (repeat (refine s_mg (by simp only [hk, go_sem, Nat.reduceEqDiff, reduceIte, Int.reduceEq, Int.reduceLT, Int.reduceLE, Nat.reduceAdd, Nat.reduceLT, Nat.reduceLeDiff, Int.reduceToNat, Int.reduceSub, Int.reduceAdd, Int.reduceNeg]; try rfl) ?_; simp only [cut_g, cut_t, cut_none, cut_out, memN_cons, memN_nil, Nat.reduceEqDiff, reduceIte, List.nil_append, List.cons_append, not_false_eq_true]; refine ex_merge rfl (by simp only [hk, go_sem, Nat.reduceEqDiff, reduceIte, Int.reduceEq, Int.reduceLT, Int.reduceLE, Nat.reduceAdd, Nat.reduceLT, Nat.reduceLeDiff, Int.reduceToNat, Int.reduceSub, Int.reduceAdd, Int.reduceNeg]) (by intro hb; simp only [hb, hk, go_sem, Nat.reduceEqDiff, reduceIte, Int.reduceEq, Int.reduceLT, Int.reduceLE, Nat.reduceAdd, Nat.reduceLT, Nat.reduceLeDiff, Int.reduceToNat, Int.reduceSub, Int.reduceAdd, Int.reduceNeg]; (repeat (refine s_mg (by simp only [hk, go_sem, Nat.reduceEqDiff, reduceIte, Int.reduceEq, Int.reduceLT, Int.reduceLE, Nat.reduceAdd, Nat.reduceLT, Nat.reduceLeDiff, Int.reduceToNat, Int.reduceSub, Int.reduceAdd, Int.reduceNeg]; try rfl) ?_; simp only [cut_g, cut_t, cut_none, cut_out, memN_cons, memN_nil, Nat.reduceEqDiff, reduceIte, List.nil_append, List.cons_append, not_false_eq_true]; refine ex_merge rfl (by simp only [hk, go_sem, Nat.reduceEqDiff, reduceIte, Int.reduceEq, Int.reduceLT, Int.reduceLE, Nat.reduceAdd, Nat.reduceLT, Nat.reduceLeDiff, Int.reduceToNat, Int.reduceSub, Int.reduceAdd, Int.reduceNeg]) (by intro hb; simp only [hb, hk, go_sem, Nat.reduceEqDiff, reduceIte, Int.reduceEq, Int.reduceLT, Int.reduceLE, Nat.reduceAdd, Nat.reduceLT, Nat.reduceLeDiff, Int.reduceToNat, Int.reduceSub, Int.reduceAdd, Int.reduceNeg]; first | exact rfl | exact ⟨rfl, rfl⟩) (fun vs => ?_); simp only [hk, go_sem, Nat.reduceEqDiff, reduceIte, Int.reduceEq, Int.reduceLT, Int.reduceLE, Nat.reduceAdd, Nat.reduceLT, Nat.reduceLeDiff, Int.reduceToNat, Int.reduceSub, Int.reduceAdd, Int.reduceNeg])); first | exact rfl | exact ⟨rfl, rfl⟩) (fun vs => ?_); simp only [hk, go_sem, Nat.reduceEqDiff, reduceIte, Int.reduceEq, Int.reduceLT, Int.reduceLE, Nat.reduceAdd, Nat.reduceLT, Nat.reduceLeDiff, Int.reduceToNat, Int.reduceSub, Int.reduceAdd, Int.reduceNeg])); first | exact rfl | exact ⟨rfl, rfl⟩) (fun vs => ?_); simp only [hk, go_sem, Nat.reduceEqDiff, reduceIte, Int.reduceEq, Int.reduceLT, Int.reduceLE, Nat.reduceAdd, Nat.reduceLT, Nat.reduceLeDiff, Int.reduceToNat, Int.reduceSub, Int.reduceAdd, Int.reduceNeg])); first | exact rfl | exact ⟨rfl, rfl⟩) (fun vs => ?_); simp only [hk, go_sem, Nat.reduceEqDiff, reduceIte, Int.reduceEq, Int.reduceLT, Int.reduceLE, Nat.reduceAdd, Nat.reduceLT, Nat.reduceLeDiff, Int.reduceToNat, Int.reduceSub, Int.reduceAdd, Int.reduceNeg])); first | exact rfl | exact ⟨rfl, rfl⟩) (fun vs => ?_); simp only [hk, go_sem, Nat.reduceEqDiff, reduceIte, Int.reduceEq, Int.reduceLT, Int.reduceLE, Nat.reduceAdd, Nat.reduceLT, Nat.reduceLeDiff, Int.reduceToNat, Int.reduceSub, Int.reduceAdd, Int.reduceNeg])
    have hf : fitsB n = (((decide (n.delay = 0) || decide (0 < n.delay) && decide (n.delay ≤ 1000000)) && (decide (1 ≤ n.tries) && decide (n.tries ≤ 10))) && decide (n.to = [])) := by
      rw [fitsB, if_pos hk, hk]
      have e1 : decide ((1 : Int) = 2) = false := rfl
      have e2 : decide ((1 : Int) = 5) = false := rfl
      have e3 : decide ((1 : Int) = 1) = true := rfl
      have e4 : decide ((1 : Int) ≤ 1) = true := rfl
      have e5 : decide ((1 : Int) ≤ 5) = true := rfl
      rw [e1, e2, e3, e4, e5]
      simp only [Bool.true_and, Bool.true_or, Bool.and_true, Bool.not_false, Bool.false_or]
    rw [hf]
    rfl
  · rw [decide_eq_false_iff_not] at hk
    repeat (refine s_mg (by simp only [go_sem, Nat.reduceEqDiff, reduceIte, Int.reduceEq, Int.reduceLT, Int.reduceLE, Nat.reduceAdd, Nat.reduceLT, Nat.reduceLeDiff, Int.reduceToNat, Int.reduceSub, Int.reduceAdd, Int.reduceNeg]; try rfl) ?_; simp only [cut_g, cut_t, cut_none, cut_out, memN_cons, memN_nil, Nat.reduceEqDiff, reduceIte, List.nil_append, List.cons_append, not_false_eq_true]; refine ex_merge rfl (by simp only [go_sem, Nat.reduceEqDiff, reduceIte, Int.reduceEq, Int.reduceLT, Int.reduceLE, Nat.reduceAdd, Nat.reduceLT, Nat.reduceLeDiff, Int.reduceToNat, Int.reduceSub, Int.reduceAdd, Int.reduceNeg]) (by intro hb; simp only [hb, go_sem, Nat.reduceEqDiff, reduceIte, Int.reduceEq, Int.reduceLT, Int.reduceLE, Nat.reduceAdd, Nat.reduceLT, Nat.reduceLeDiff, Int.reduceToNat, Int.reduceSub, Int.reduceAdd, Int.reduceNeg]; (repeat (refine s_mg (by simp only [go_sem, Nat.reduceEqDiff, reduceIte, Int.reduceEq, Int.reduceLT, Int.reduceLE, Nat.reduceAdd, Nat.reduceLT, Nat.reduceLeDiff, Int.reduceToNat, Int.reduceSub, Int.reduceAdd, Int.reduceNeg]; try rfl) ?_; simp only [cut_g, cut_t, cut_none, cut_out, memN_cons, memN_nil, Nat.reduceEqDiff, reduceIte, List.nil_append, List.cons_append, not_false_eq_true]; refine ex_merge rfl (by simp only [go_sem, Nat.reduceEqDiff, reduceIte, Int.reduceEq, Int.reduceLT, Int.reduceLE, Nat.reduceAdd, Nat.reduceLT, Nat.reduceLeDiff, Int.reduceToNat, Int.reduceSub, Int.reduceAdd, Int.reduceNeg]) (by intro hb; simp only [hb, go_sem, Nat.reduceEqDiff, reduceIte, Int.reduceEq, Int.reduceLT, Int.reduceLE, Nat.reduceAdd, Nat.reduceLT, Nat.reduceLeDiff, Int.reduceToNat, Int.reduceSub, Int.reduceAdd, Int.reduceNeg]; (repeat (refine s_mg (by simp only [go_sem, Nat.reduceEqDiff, reduceIte, Int.reduceEq, Int.reduceLT, Int.reduceLE, Nat.reduceAdd, Nat.reduceLT, Nat.reduceLeDiff, Int.reduceToNat, Int.reduceSub, Int.reduceAdd, Int.reduceNeg]; try rfl) ?_; simp only [cut_g, cut_t, cut_none, cut_out, memN_cons, memN_nil, Nat.reduceEqDiff, reduceIte, List.nil_append, List.cons_append, not_false_eq_true]; refine ex_merge rfl (by simp only [go_sem, Nat.reduceEqDiff, reduceIte, Int.reduceEq, Int.reduceLT, Int.reduceLE, Nat.reduceAdd, Nat.reduceLT, Nat.reduceLeDiff, Int.reduceToNat, Int.reduceSub, Int.reduceAdd, Int.reduceNeg]) (by intro hb; simp only [hb, go_sem, Nat.reduceEqDiff, reduceIte, Int.reduceEq, Int.reduceLT, Int.reduceLE, Nat.reduceAdd, Nat.reduceLT, Nat.reduceLeDiff, Int.reduceToNat, Int.reduceSub, Int.reduceAdd, Int.reduceNeg]; (repeat (refine s_mg (by simp only [go_sem, Nat.reduceEqDiff, reduceIte, Int.reduceEq, Int.reduceLT, Int.reduceLE, Nat.reduceAdd, Nat.reduceLT, Nat.reduceLeDiff, Int.reduceToNat, Int.reduceSub, Int.reduceAdd, Int.reduceNeg]; try rfl) ?_; simp only [cut_g, cut_t, cut_none, cut_out, memN_cons, memN_nil, Nat.reduceEqDiff, reduceIte, List.nil_append, List.cons_append, not_false_eq_true]; refine ex_merge rfl (by simp only [go_sem, Nat.reduceEqDiff, reduceIte, Int.reduceEq, Int.reduceLT, Int.reduceLE, Nat.reduceAdd, Nat.reduceLT, Nat.reduceLeDiff, Int.reduceToNat, Int.reduceSub, Int.reduceAdd, Int.reduceNeg]) (by intro hb; simp only [hb, go_sem, Nat.reduceEqDiff, reduceIte, Int.reduceEq, Int.reduceLT, Int.reduceLE, Nat.reduceAdd, Nat.reduceLT, Nat.reduceLeDiff, Int.reduceToNat, Int.reduceSub, Int.reduceAdd, Int.reduceNeg]; (repeat (refine s_mg (by simp only [go_sem, Nat.reduceEqDiff, reduceIte, Int.reduceEq, Int.reduceLT, Int.reduceLE, Nat.reduceAdd, Nat.reduceLT, Nat.reduceLeDiff, Int.reduceToNat, Int.reduceSub, Int.reduceAdd, Int.reduceNeg]; try rfl) ?_; simp only [cut_g, cut_t, cut_none, cut_out, memN_cons, memN_nil, Nat.reduceEqDiff, reduceIte, List.nil_append, List.cons_append, not_false_eq_true]; refine ex_merge rfl (by simp only [go_sem, Nat.reduceEqDiff, reduceIte, Int.reduceEq, Int.reduceLT, Int.reduceLE, Nat.reduceAdd, Nat.reduceLT, Nat.reduceLeDiff, Int.reduceToNat, Int.reduceSub, Int.reduceAdd, Int.reduceNeg]) (by intro hb; simp only [hb, go_sem, Nat.reduceEqDiff, reduceIte, Int.reduceEq, Int.reduceLT, Int.reduceLE, Nat.reduceAdd, Nat.reduceLT, Nat.reduceLeDiff, Int.reduceToNat, Int.reduceSub, Int.reduceAdd, Int.reduceNeg]; first | exact rfl | exact ⟨rfl, rfl⟩) (fun vs => ?_); simp only [go_sem, Nat.reduceEqDiff, reduceIte, Int.reduceEq, Int.reduceLT, Int.reduceLE, Nat.reduceAdd, Nat.reduceLT, Nat.reduceLeDiff, Int.reduceToNat, Int.reduceSub, Int.reduceAdd, Int.reduceNeg])); first | exact rfl | exact ⟨rfl, rfl⟩) (fun vs => ?_); simp only [go_sem, Nat.reduceEqDiff, reduceIte, Int.reduceEq, Int.reduceLT, Int.reduceLE, Nat.reduceAdd, Nat.reduceLT, Nat.reduceLeDiff, Int.reduceToNat, Int.reduceSub, Int.reduceAdd, Int.reduceNeg])); first | exact rfl | exact ⟨rfl, rfl⟩) (fun vs => ?_); simp only [go_sem, Nat.reduceEqDiff, reduceIte, Int.reduceEq, Int.reduceLT, Int.reduceLE, Nat.reduceAdd, Nat.reduceLT, Nat.reduceLeDiff, Int.reduceToNat, Int.reduceSub, Int.reduceAdd, Int.reduceNeg])); first | exact rfl | exact ⟨rfl, rfl⟩) (fun vs => ?_); simp only [go_sem, Nat.reduceEqDiff, reduceIte, Int.reduceEq, Int.reduceLT, Int.reduceLE, Nat.reduceAdd, Nat.reduceLT, Nat.reduceLeDiff, Int.reduceToNat, Int.reduceSub, Int.reduceAdd, Int.reduceNeg])); first | exact rfl | exact ⟨rfl, rfl⟩) (fun vs => ?_); simp only [go_sem, Nat.reduceEqDiff, reduceIte, Int.reduceEq, Int.reduceLT, Int.reduceLE, Nat.reduceAdd, Nat.reduceLT, Nat.reduceLeDiff, Int.reduceToNat, Int.reduceSub, Int.reduceAdd, Int.reduceNeg])
    rw [fitsB, if_neg hk]
    rfl

theorem check1_pure (hP : E.P = Tryd.prog) (d : DefD) (s : List UInt8) (hd : d.nodes.length ≤ 9223372036854775807) : XPure E 28 [.str s, .iptr [[.str d.name, .isl (nodeRows d.nodes)]] 0 0] (.bool (!(d.find s).isSome)) := by
  refine xpure1 (n := Tryd.f28.ntmps) (c := x28) (t := 3) (by rw [hP]; rfl) (by rw [hP]; kernel_rfl) (by decide) (Nat.le_of_ble_eq_true rfl) ?_
  generalize hρ : entry _ = ρ
  have h0 : ρ 0 = .str s := by rw [← hρ]; rfl
  have h1 : ρ 1 = .iptr [[.str d.name, .isl (nodeRows d.nodes)]] 0 0 := by rw [← hρ]; rfl
  clear hρ
  unfold x28
  simp only [h0, h1, go_sem, Nat.reduceEqDiff, reduceIte, Int.reduceEq, Int.reduceLT, Int.reduceLE, Nat.reduceAdd, Nat.reduceLT, Nat.reduceLeDiff, Int.reduceToNat, Int.reduceSub, Int.reduceAdd, Int.reduceNeg]
  refine xcall_pure (args' := [d.iv, .str s]) rfl (dagFind_pure hP d s hd) rfl ?_
  try simp only [h0, h1, go_sem, Nat.reduceEqDiff, reduceIte, Int.reduceEq, Int.reduceLT, Int.reduceLE, Nat.reduceAdd, Nat.reduceLT, Nat.reduceLeDiff, Int.reduceToNat, Int.reduceSub, Int.reduceAdd, Int.reduceNeg]
  rfl
end
end Go.X.TrydW
end
section
open Go Go.X Go.Proofs
set_option maxRecDepth 100000
set_option maxHeartbeats 4000000
set_option linter.unusedSimpArgs false
set_option linter.unusedVariables false
namespace Go.X.TrydW
section
variable {E : Env}
def NodeD.ok (n : NodeD) : Prop := n.name.length ≤ 9223372036854775807 ∧ n.arg.length ≤ 9223372036854775807 ∧ n.to.length ≤ 9223372036854775807 ∧ n.after.length ≤ 9223372036854775807 ∧ ∀ s ∈ n.after, s.length ≤ 9223372036854775807
def DefD.ok (d : DefD) : Prop := d.name.length ≤ 9223372036854775807 ∧ ∀ n ∈ d.nodes, n.ok

def DefD.namedE (d : DefD) (i : Nat) : Int :=
  let n := d.nodes.getD i default
  if ((!namedS n.name false 64 || (!decide (n.kind = 2) && !namedS n.arg false 64)) || (decide (n.kind = 5) && !namedS n.to true 256)) = true then 17
  else if findN (d.find n.name) < (i : Int) then 16 else 0

theorem dagNamed_pure (hP : E.P = Tryd.prog) {m : Int} (hm : E.gl 0 = some [.int .i64 m]) (d : DefD) (i : Nat) (hi : i < d.nodes.length) (hd : d.nodes.length ≤ 9223372036854775807) (hok : d.ok) :
    XPure E 25 [d.iv, .int .i64 i] (.int .i64 (d.namedE i)) := by
  have hmem : d.nodes.getD i default ∈ d.nodes := by rw [List.getD_eq_getElem?_getD, List.getElem?_eq_getElem hi]; exact List.getElem_mem _
  replace hok := hok.2 _ hmem
  have hrow := nodeRows_get hi
  unfold DefD.namedE
  generalize hn : d.nodes.getD i default = n at *
  refine xpure1 (n := Tryd.f25.ntmps) (c := x25) (t := 4) (by rw [hP]; rfl) (by rw [hP]; kernel_rfl) (by decide) (Nat.le_of_ble_eq_true rfl) ?_
  generalize hρ : entry _ = ρ
  have h0 : ρ 0 = .agg [.str d.name, .isl (nodeRows d.nodes)] := by rw [← hρ]; rfl
  have h1 : ρ 1 = .int .i64 i := by rw [← hρ]; rfl
  clear hρ
  unfold x25
  simp only [h0, h1, nodeRows_len, rows_nodes, hrow, NodeD.row, go_sem, Nat.reduceEqDiff, reduceIte, Int.reduceEq, Int.reduceLT, Int.reduceLE, Nat.reduceAdd, Nat.reduceLT, Nat.reduceLeDiff, Int.reduceToNat, Int.reduceSub, Int.reduceAdd, Int.reduceNeg]
  refine ⟨by omega, hi, ?_⟩
  refine xcall_pure (args' := [.str n.name]) rfl (dagName_pure hP hm _ hok.1) rfl ?_
  try simp only [h0, h1, go_sem, Nat.reduceEqDiff, reduceIte, Int.reduceEq, Int.reduceLT, Int.reduceLE, Nat.reduceAdd, Nat.reduceLT, Nat.reduceLeDiff, Int.reduceToNat, Int.reduceSub, Int.reduceAdd, Int.reduceNeg]
  refine s_mg (by simp only [h0, h1, go_sem, Nat.reduceEqDiff, reduceIte, Int.reduceEq, Int.reduceLT, Int.reduceLE, Nat.reduceAdd, Nat.reduceLT, Nat.reduceLeDiff, Int.reduceToNat, Int.reduceSub, Int.reduceAdd, Int.reduceNeg]; try rfl) ?_; simp only [cut_g, cut_t, cut_none, cut_out, memN_cons, memN_nil, Nat.reduceEqDiff, reduceIte, List.nil_append, List.cons_append, not_false_eq_true]; refine ex_merge rfl (by simp only [h0, h1, go_sem, Nat.reduceEqDiff, reduceIte, Int.reduceEq, Int.reduceLT, Int.reduceLE, Nat.reduceAdd, Nat.reduceLT, Nat.reduceLeDiff, Int.reduceToNat, Int.reduceSub, Int.reduceAdd, Int.reduceNeg]) (by intro hb; simp only [hb, h0, h1, go_sem, Nat.reduceEqDiff, reduceIte, Int.reduceEq, Int.reduceLT, Int.reduceLE, Nat.reduceAdd, Nat.reduceLT, Nat.reduceLeDiff, Int.reduceToNat, Int.reduceSub, Int.reduceAdd, Int.reduceNeg]; (refine s_mg (by simp only [h0, h1, go_sem, Nat.reduceEqDiff, reduceIte, Int.reduceEq, Int.reduceLT, Int.reduceLE, Nat.reduceAdd, Nat.reduceLT, Nat.reduceLeDiff, Int.reduceToNat, Int.reduceSub, Int.reduceAdd, Int.reduceNeg]; try rfl) ?_; simp only [cut_g, cut_t, cut_none, cut_out, memN_cons, memN_nil, Nat.reduceEqDiff, reduceIte, List.nil_append, List.cons_append, not_false_eq_true]; refine ex_merge rfl (by simp only [h0, h1, go_sem, Nat.reduceEqDiff, reduceIte, Int.reduceEq, Int.reduceLT, Int.reduceLE, Nat.reduceAdd, Nat.reduceLT, Nat.reduceLeDiff, Int.reduceToNat, Int.reduceSub, Int.reduceAdd, Int.reduceNeg]) (by intro hb; simp only [hb, h0, h1, go_sem, Nat.reduceEqDiff, reduceIte, Int.reduceEq, Int.reduceLT, Int.reduceLE, Nat.reduceAdd, Nat.reduceLT, Nat.reduceLeDiff, Int.reduceToNat, Int.reduceSub, Int.reduceAdd, Int.reduceNeg]; refine xcall_pure (args' := [.str n.arg]) rfl (dagName_pure hP hm _ hok.2.1) rfl ?_; try simp only [h0, h1, go_sem, Nat.reduceEqDiff, reduceIte, Int.reduceEq, Int.reduceLT, Int.reduceLE, Nat.reduceAdd, Nat.reduceLT, Nat.reduceLeDiff, Int.reduceToNat, Int.reduceSub, Int.reduceAdd, Int.reduceNeg]; (try simp only [hb, h0, h1, go_sem, Nat.reduceEqDiff, reduceIte, Int.reduceEq, Int.reduceLT, Int.reduceLE, Nat.reduceAdd, Nat.reduceLT, Nat.reduceLeDiff, Int.reduceToNat, Int.reduceSub, Int.reduceAdd, Int.reduceNeg]); first | exact rfl | exact ⟨rfl, rfl⟩) (fun vs => ?_); simp only [h0, h1, go_sem, Nat.reduceEqDiff, reduceIte, Int.reduceEq, Int.reduceLT, Int.reduceLE, Nat.reduceAdd, Nat.reduceLT, Nat.reduceLeDiff, Int.reduceToNat, Int.reduceSub, Int.reduceAdd, Int.reduceNeg]); (try simp only [hb, h0, h1, go_sem, Nat.reduceEqDiff, reduceIte, Int.reduceEq, Int.reduceLT, Int.reduceLE, Nat.reduceAdd, Nat.reduceLT, Nat.reduceLeDiff, Int.reduceToNat, Int.reduceSub, Int.reduceAdd, Int.reduceNeg]); first | exact rfl | exact ⟨rfl, rfl⟩) (fun vs => ?_); simp only [h0, h1, go_sem, Nat.reduceEqDiff, reduceIte, Int.reduceEq, Int.reduceLT, Int.reduceLE, Nat.reduceAdd, Nat.reduceLT, Nat.reduceLeDiff, Int.reduceToNat, Int.reduceSub, Int.reduceAdd, Int.reduceNeg]
  refine s_mg (by simp only [h0, h1, go_sem, Nat.reduceEqDiff, reduceIte, Int.reduceEq, Int.reduceLT, Int.reduceLE, Nat.reduceAdd, Nat.reduceLT, Nat.reduceLeDiff, Int.reduceToNat, Int.reduceSub, Int.reduceAdd, Int.reduceNeg]; try rfl) ?_; simp only [cut_g, cut_t, cut_none, cut_out, memN_cons, memN_nil, Nat.reduceEqDiff, reduceIte, List.nil_append, List.cons_append, not_false_eq_true]; refine ex_merge rfl (by simp only [h0, h1, go_sem, Nat.reduceEqDiff, reduceIte, Int.reduceEq, Int.reduceLT, Int.reduceLE, Nat.reduceAdd, Nat.reduceLT, Nat.reduceLeDiff, Int.reduceToNat, Int.reduceSub, Int.reduceAdd, Int.reduceNeg]) (by intro hb; simp only [hb, h0, h1, go_sem, Nat.reduceEqDiff, reduceIte, Int.reduceEq, Int.reduceLT, Int.reduceLE, Nat.reduceAdd, Nat.reduceLT, Nat.reduceLeDiff, Int.reduceToNat, Int.reduceSub, Int.reduceAdd, Int.reduceNeg]; (refine s_mg (by simp only [h0, h1, go_sem, Nat.reduceEqDiff, reduceIte, Int.reduceEq, Int.reduceLT, Int.reduceLE, Nat.reduceAdd, Nat.reduceLT, Nat.reduceLeDiff, Int.reduceToNat, Int.reduceSub, Int.reduceAdd, Int.reduceNeg]; try rfl) ?_; simp only [cut_g, cut_t, cut_none, cut_out, memN_cons, memN_nil, Nat.reduceEqDiff, reduceIte, List.nil_append, List.cons_append, not_false_eq_true]; refine ex_merge rfl (by simp only [h0, h1, go_sem, Nat.reduceEqDiff, reduceIte, Int.reduceEq, Int.reduceLT, Int.reduceLE, Nat.reduceAdd, Nat.reduceLT, Nat.reduceLeDiff, Int.reduceToNat, Int.reduceSub, Int.reduceAdd, Int.reduceNeg]) (by intro hb; simp only [hb, h0, h1, go_sem, Nat.reduceEqDiff, reduceIte, Int.reduceEq, Int.reduceLT, Int.reduceLE, Nat.reduceAdd, Nat.reduceLT, Nat.reduceLeDiff, Int.reduceToNat, Int.reduceSub, Int.reduceAdd, Int.reduceNeg]; refine xcall_pure (args' := [.str n.to]) rfl (dagFlow_pure hP hm _ hok.2.2.1) rfl ?_; try simp only [h0, h1, go_sem, Nat.reduceEqDiff, reduceIte, Int.reduceEq, Int.reduceLT, Int.reduceLE, Nat.reduceAdd, Nat.reduceLT, Nat.reduceLeDiff, Int.reduceToNat, Int.reduceSub, Int.reduceAdd, Int.reduceNeg]; (try simp only [hb, h0, h1, go_sem, Nat.reduceEqDiff, reduceIte, Int.reduceEq, Int.reduceLT, Int.reduceLE, Nat.reduceAdd, Nat.reduceLT, Nat.reduceLeDiff, Int.reduceToNat, Int.reduceSub, Int.reduceAdd, Int.reduceNeg]); first | exact rfl | exact ⟨rfl, rfl⟩) (fun vs => ?_); simp only [h0, h1, go_sem, Nat.reduceEqDiff, reduceIte, Int.reduceEq, Int.reduceLT, Int.reduceLE, Nat.reduceAdd, Nat.reduceLT, Nat.reduceLeDiff, Int.reduceToNat, Int.reduceSub, Int.reduceAdd, Int.reduceNeg]); (try simp only [hb, h0, h1, go_sem, Nat.reduceEqDiff, reduceIte, Int.reduceEq, Int.reduceLT, Int.reduceLE, Nat.reduceAdd, Nat.reduceLT, Nat.reduceLeDiff, Int.reduceToNat, Int.reduceSub, Int.reduceAdd, Int.reduceNeg]); first | exact rfl | exact ⟨rfl, rfl⟩) (fun vs => ?_); simp only [h0, h1, go_sem, Nat.reduceEqDiff, reduceIte, Int.reduceEq, Int.reduceLT, Int.reduceLE, Nat.reduceAdd, Nat.reduceLT, Nat.reduceLeDiff, Int.reduceToNat, Int.reduceSub, Int.reduceAdd, Int.reduceNeg]
  refine s_cond (b := (!namedS n.name false 64 || (!decide (n.kind = 2) && !namedS n.arg false 64)) || (decide (n.kind = 5) && !namedS n.to true 256)) (by simp only [go_sem, Nat.reduceEqDiff, reduceIte, Int.reduceEq, Int.reduceLT, Int.reduceLE, Nat.reduceAdd, Nat.reduceLT, Nat.reduceLeDiff, Int.reduceToNat, Int.reduceSub, Int.reduceAdd, Int.reduceNeg]; try rfl) ?_ ?_ <;> intro hc <;> simp only [h0, h1, go_sem, Nat.reduceEqDiff, reduceIte, Int.reduceEq, Int.reduceLT, Int.reduceLE, Nat.reduceAdd, Nat.reduceLT, Nat.reduceLeDiff, Int.reduceToNat, Int.reduceSub, Int.reduceAdd, Int.reduceNeg]
  · rw [if_pos hc]; rfl
  · rw [if_neg (by rw [hc]; decide)]
    refine xcall_pure (args' := [d.iv, .str n.name]) rfl (dagFind_pure hP d _ hd) rfl ?_
    try simp only [h0, h1, go_sem, Nat.reduceEqDiff, reduceIte, Int.reduceEq, Int.reduceLT, Int.reduceLE, Nat.reduceAdd, Nat.reduceLT, Nat.reduceLeDiff, Int.reduceToNat, Int.reduceSub, Int.reduceAdd, Int.reduceNeg]
    refine s_cond (b := decide _) (by simp only [h0, h1, go_sem, Nat.reduceEqDiff, reduceIte, Int.reduceEq, Int.reduceLT, Int.reduceLE, Nat.reduceAdd, Nat.reduceLT, Nat.reduceLeDiff, Int.reduceToNat, Int.reduceSub, Int.reduceAdd, Int.reduceNeg]; try rfl) ?_ ?_ <;> intro hf <;> simp only [hf, h0, h1, go_sem, Nat.reduceEqDiff, reduceIte, Int.reduceEq, Int.reduceLT, Int.reduceLE, Nat.reduceAdd, Nat.reduceLT, Nat.reduceLeDiff, Int.reduceToNat, Int.reduceSub, Int.reduceAdd, Int.reduceNeg]
    · rw [decide_eq_true_eq] at hf
      rw [if_pos hf]; rfl
    · rw [decide_eq_false_iff_not] at hf
      rw [if_neg hf]; rfl
end
end Go.X.TrydW
end
section
open Go Go.X Go.Proofs
set_option maxRecDepth 100000
set_option maxHeartbeats 4000000
set_option linter.unusedSimpArgs false
set_option linter.unusedVariables false
namespace Go.X.TrydW
/- "tiller/dag.Check" params { toList := [28] } results { toList := [Go.ResultVar.tmp 2, Go.ResultVar.tmp 3] } -/
def x13 : XC :=
 (.seq
  (.ops [
    ⟨(some 1), (.box (.t 0)), none⟩,
    ⟨(some 2), (.mov (.c (.int .i64 0))), none⟩,
    ⟨(some 3), (.mov (.c (.int .i64 0))), none⟩])
  (.seq
   (.seq
    (.ops [
      ⟨(some 13), (.fldA 0 (.t 1)), none⟩,
      ⟨(some 14), (.load1 (.t 13)), none⟩,
      ⟨(some 15), (.call (.f 7) [(.t 14)]), none⟩,
      ⟨(some 16), (.un .not (.t 15)), none⟩])
    (.cond (.t 16)
     (.seq
      (.ops [
        ⟨(some 2), (.mov (.c (.int .i64 (-1)))), none⟩,
        ⟨(some 3), (.mov (.c (.int .i64 17))), none⟩])
      .ret)
     .skip))
   (.seq
    (.seq
     (.ops [
       ⟨(some 17), (.fldA 1 (.t 1)), none⟩,
       ⟨(some 18), (.load1 (.t 17)), none⟩,
       ⟨(some 19), (.len (.t 18)), none⟩,
       ⟨(some 20), (.bin .eql (.t 19) (.c (.int .i64 0))), none⟩,
       ⟨(some 21), (.mov (.t 20)), none⟩,
       ⟨(some 22), (.fldA 1 (.t 1)), (some (21, false))⟩,
       ⟨(some 23), (.load1 (.t 22)), (some (21, false))⟩,
       ⟨(some 24), (.len (.t 23)), (some (21, false))⟩,
       ⟨(some 25), (.bin .gtr (.t 24) (.c (.int .i64 32))), (some (21, false))⟩,
       ⟨(some 26), (.pick (.t 21) (.c (.bool true)) (.t 25)), none⟩])
     (.cond (.t 26)
      (.seq
       (.ops [
         ⟨(some 2), (.mov (.c (.int .i64 (-1)))), none⟩,
         ⟨(some 3), (.mov (.c (.int .i64 10))), none⟩])
       .ret)
      .skip))
    (.seq
     (.seq
      (.ops [
        ⟨(some 27), (.fldA 1 (.t 1)), none⟩,
        ⟨(some 28), (.load1 (.t 27)), none⟩,
        ⟨(some 29), (.len (.t 28)), none⟩,
        ⟨(some 30), (.mov (.c (.int .i64 0))), none⟩])
      (.block 0
       (.loop
        (.seq
         (.ops [
           ⟨(some 31), (.bin .lss (.t 30) (.t 29)), none⟩])
         (.seq
          (.cond (.t 31)
           .skip
           (.exit 0))
          (.seq
           (.block 1
            (.seq
             (.ops [
               ⟨(some 32), (.mov (.t 30)), none⟩,
               ⟨(some 33), (.idxS 7 (.t 28) (.t 30)), none⟩,
               ⟨(some 34), (.loadN 7 (.t 33)), none⟩,
               ⟨(some 5), (.alloc [(.str []), (.int .i64 0), (.str []), (.str []), (.int .i64 0), (.int .i64 0), .nsl]), none⟩,
               ⟨(some 4), (.mov (.t 32)), none⟩,
               ⟨none, (.store 7 (.t 5) (.t 34)), none⟩])
             (.seq
              (.seq
               (.ops [
                 ⟨(some 35), (.loadN 2 (.t 1)), none⟩,
                 ⟨(some 36), (.mov (.t 4)), none⟩,
                 ⟨(some 37), (.call (.f 25) [(.t 35), (.t 36)]), none⟩,
                 ⟨(some 6), (.mov (.t 37)), none⟩])
               (.seq
                (.ops [
                  ⟨(some 38), (.mov (.t 6)), none⟩,
                  ⟨(some 39), (.bin .neq (.t 38) (.c (.int .i64 0))), none⟩])
                (.cond (.t 39)
                 (.seq
                  (.ops [
                    ⟨(some 40), (.mov (.t 4)), none⟩,
                    ⟨(some 41), (.mov (.t 6)), none⟩,
                    ⟨(some 2), (.mov (.t 40)), none⟩,
                    ⟨(some 3), (.mov (.t 41)), none⟩])
                  .ret)
                 .skip)))
              (.seq
               (.ops [
                 ⟨(some 42), (.loadN 7 (.t 5)), none⟩,
                 ⟨(some 43), (.call (.f 26) [(.t 42)]), none⟩,
                 ⟨(some 44), (.un .not (.t 43)), none⟩])
               (.cond (.t 44)
                (.seq
                 (.ops [
                   ⟨(some 45), (.mov (.t 4)), none⟩,
                   ⟨(some 2), (.mov (.t 45)), none⟩,
                   ⟨(some 3), (.mov (.c (.int .i64 1))), none⟩])
                 .ret)
                .skip)))))
           (.ops [
             ⟨(some 46), (.bin .add (.t 30) (.c (.int .i64 1))), none⟩,
             ⟨(some 30), (.mov (.t 46)), none⟩])))))))
     (.seq
      (.seq
       (.ops [
         ⟨(some 47), (.fldA 1 (.t 1)), none⟩,
         ⟨(some 48), (.load1 (.t 47)), none⟩,
         ⟨(some 49), (.len (.t 48)), none⟩,
         ⟨(some 50), (.mov (.c (.int .i64 0))), none⟩])
       (.block 2
        (.loop
         (.seq
          (.ops [
            ⟨(some 51), (.bin .lss (.t 50) (.t 49)), none⟩])
          (.seq
           (.cond (.t 51)
            .skip
            (.exit 2))
           (.seq
            (.block 3
             (.seq
              (.ops [
                ⟨(some 52), (.mov (.t 50)), none⟩,
                ⟨(some 53), (.idxS 7 (.t 48) (.t 50)), none⟩,
                ⟨(some 54), (.loadN 7 (.t 53)), none⟩,
                ⟨(some 8), (.alloc [(.str []), (.int .i64 0), (.str []), (.str []), (.int .i64 0), (.int .i64 0), .nsl]), none⟩,
                ⟨(some 7), (.mov (.t 52)), none⟩,
                ⟨none, (.store 7 (.t 8) (.t 54)), none⟩])
              (.seq
               (.seq
                (.ops [
                  ⟨(some 55), (.fldA 6 (.t 8)), none⟩,
                  ⟨(some 56), (.load1 (.t 55)), none⟩,
                  ⟨(some 57), (.mkfn (.func 28) [] [(.t 1)]), none⟩,
                  ⟨(some 58), (.call (.f 27) [(.t 56), (.t 57)]), none⟩])
                (.cond (.t 58)
                 (.seq
                  (.ops [
                    ⟨(some 59), (.mov (.t 7)), none⟩,
                    ⟨(some 2), (.mov (.t 59)), none⟩,
                    ⟨(some 3), (.mov (.c (.int .i64 6))), none⟩])
                  .ret)
                 .skip))
               (.seq
                (.ops [
                  ⟨(some 60), (.fldA 6 (.t 8)), none⟩,
                  ⟨(some 61), (.load1 (.t 60)), none⟩,
                  ⟨(some 62), (.len (.t 61)), none⟩,
                  ⟨(some 63), (.mov (.c (.int .i64 0))), none⟩])
                (.block 4
                 (.loop
                  (.seq
                   (.ops [
                     ⟨(some 64), (.bin .lss (.t 63) (.t 62)), none⟩])
                   (.seq
                    (.cond (.t 64)
                     .skip
                     (.exit 4))
                    (.seq
                     (.block 5
                      (.seq
                       (.ops [
                         ⟨(some 65), (.mov (.t 63)), none⟩,
                         ⟨(some 66), (.idxS 1 (.t 61) (.t 63)), none⟩,
                         ⟨(some 67), (.load1 (.t 66)), none⟩,
                         ⟨(some 9), (.mov (.t 65)), none⟩,
                         ⟨(some 10), (.mov (.t 67)), none⟩])
                       (.seq
                        (.ops [
                          ⟨(some 68), (.fldA 6 (.t 8)), none⟩,
                          ⟨(some 69), (.load1 (.t 68)), none⟩,
                          ⟨(some 70), (.mov (.t 9)), none⟩,
                          ⟨(some 71), (.slice 1 (.t 69) none (some (.t 70))), none⟩,
                          ⟨(some 72), (.mov (.t 10)), none⟩,
                          ⟨(some 73), (.call (.f 30) [(.t 71), (.t 72)]), none⟩])
                        (.cond (.t 73)
                         (.seq
                          (.ops [
                            ⟨(some 74), (.mov (.t 7)), none⟩,
                            ⟨(some 2), (.mov (.t 74)), none⟩,
                            ⟨(some 3), (.mov (.c (.int .i64 16))), none⟩])
                          .ret)
                         .skip))))
                     (.ops [
                       ⟨(some 75), (.bin .add (.t 63) (.c (.int .i64 1))), none⟩,
                       ⟨(some 63), (.mov (.t 75)), none⟩]))))))))))
            (.ops [
              ⟨(some 76), (.bin .add (.t 50) (.c (.int .i64 1))), none⟩,
              ⟨(some 50), (.mov (.t 76)), none⟩])))))))
      (.seq
       (.seq
        (.ops [
          ⟨(some 78), (.loadN 2 (.t 1)), none⟩,
          ⟨(some 79), (.call (.f 17) [(.t 78)]), none⟩,
          ⟨(some 77), (.mov (.t 79)), none⟩,
          ⟨(some 80), (.ext (.t 77) 0), none⟩,
          ⟨(some 81), (.ext (.t 77) 1), none⟩,
          ⟨(some 11), (.mov (.t 80)), none⟩,
          ⟨(some 12), (.mov (.t 81)), none⟩])
        (.seq
         (.ops [
           ⟨(some 82), (.mov (.t 12)), none⟩,
           ⟨(some 83), (.un .not (.t 82)), none⟩])
         (.cond (.t 83)
          (.seq
           (.ops [
             ⟨(some 2), (.mov (.c (.int .i64 (-1)))), none⟩,
             ⟨(some 3), (.mov (.c (.int .i64 15))), none⟩])
           .ret)
          .skip)))
       (.seq
        (.ops [
          ⟨(some 2), (.mov (.c (.int .i64 (-1)))), none⟩,
          ⟨(some 3), (.mov (.c (.int .i64 0))), none⟩])
        .ret)))))))

section
variable {E : Env}
def DefD.nodeE (d : DefD) (i : Nat) : Int := if d.namedE i = 0 then (if fitsB (d.nodes.getD i default) = true then 0 else 1) else d.namedE i
def twiceB (l : List (List UInt8)) (k : Nat) : Bool := (firstI (fun x => decide (l.getD k [] = x)) (l.take k)).isSome
def DefD.depE (d : DefD) (i : Nat) : Int :=
  if (firstI (fun s => !(d.find s).isSome) (d.nodes.getD i default).after).isSome = true then 6
  else if (firstI (twiceB (d.nodes.getD i default).after) (List.range (d.nodes.getD i default).after.length)).isSome = true then 16 else 0
def DefD.check (d : DefD) : Int × Int :=
  if namedS d.name false 64 = false then (-1, 17)
  else if (decide ((d.nodes.length : Int) = 0) || decide (32 < (d.nodes.length : Int))) = true then (-1, 10)
  else match firstI (fun i => !decide (d.nodeE i = 0)) (List.range d.nodes.length) with
    | some i => (i, d.nodeE i)
    | none => match firstI (fun i => !decide (d.depE i = 0)) (List.range d.nodes.length) with
      | some i => (i, d.depE i)
      | none => if d.order.length = d.nodes.length then (-1, 0) else (-1, 15)

theorem firstI_range {p : Nat → Bool} {n i : Nat} (hi : i < n) (ha : (List.range i).all (fun k => !p k) = true) (hp : p i = true) : firstI p (List.range n) = some i := by
  refine firstI_some (d := 0) (by simpa using hi) ?_ ?_
  · rw [List.take_range, Nat.min_eq_left (by omega)]; exact ha
  · simpa [List.getD_eq_getElem?_getD, hi] using hp
theorem all_range_succ {p : Nat → Bool} {i : Nat} (ha : (List.range i).all p = true) (hp : p i = true) : (List.range (i + 1)).all p = true := by
  rw [List.range_succ, List.all_append, ha]; simpa using hp

theorem check_pure (hP : E.P = Tryd.prog) {m : Int} (hm : E.gl 0 = some [.int .i64 m]) (d : DefD) (hd : d.nodes.length ≤ 1000000) (hok : d.ok) :
    XPure E 13 [d.iv] (.tup [.int .i64 d.check.1, .int .i64 d.check.2]) := by
  refine xpure2 (n := Tryd.f13.ntmps) (c := x13) (t := 2) (t' := 3) (by rw [hP]; rfl) (by rw [hP]; kernel_rfl) (by decide) (Nat.le_of_ble_eq_true rfl) ?_
  generalize hρ : entry _ = ρ
  have h0 : ρ 0 = .agg [.str d.name, .isl (nodeRows d.nodes)] := by rw [← hρ]; rfl
  clear hρ
  unfold x13
  simp only [h0, go_sem, Nat.reduceEqDiff, reduceIte, Int.reduceEq, Int.reduceLT, Int.reduceLE, Nat.reduceAdd, Nat.reduceLT, Nat.reduceLeDiff, Int.reduceToNat, Int.reduceSub, Int.reduceAdd, Int.reduceNeg]
  refine xcall_pure (args' := [.str d.name]) rfl (dagName_pure hP hm _ hok.1) rfl ?_
  try simp only [h0, go_sem, Nat.reduceEqDiff, reduceIte, Int.reduceEq, Int.reduceLT, Int.reduceLE, Nat.reduceAdd, Nat.reduceLT, Nat.reduceLeDiff, Int.reduceToNat, Int.reduceSub, Int.reduceAdd, Int.reduceNeg]
  refine s_cond (b := !namedS d.name false 64) (by simp only [go_sem, Nat.reduceEqDiff, reduceIte, Int.reduceEq, Int.reduceLT, Int.reduceLE, Nat.reduceAdd, Nat.reduceLT, Nat.reduceLeDiff, Int.reduceToNat, Int.reduceSub, Int.reduceAdd, Int.reduceNeg]; try rfl) ?_ ?_ <;> intro hc0 <;> simp only [h0, nodeRows_len, go_sem, Nat.reduceEqDiff, reduceIte, Int.reduceEq, Int.reduceLT, Int.reduceLE, Nat.reduceAdd, Nat.reduceLT, Nat.reduceLeDiff, Int.reduceToNat, Int.reduceSub, Int.reduceAdd, Int.reduceNeg]
  · have hf : d.check = (-1, 17) := by rw [DefD.check, if_pos (by simpa using hc0)]
    rw [hf]; exact ⟨rfl, rfl⟩
  refine s_mg (by simp only [h0, nodeRows_len, go_sem, Nat.reduceEqDiff, reduceIte, Int.reduceEq, Int.reduceLT, Int.reduceLE, Nat.reduceAdd, Nat.reduceLT, Nat.reduceLeDiff, Int.reduceToNat, Int.reduceSub, Int.reduceAdd, Int.reduceNeg]; try rfl) ?_; simp only [cut_g, cut_t, cut_none, cut_out, memN_cons, memN_nil, Nat.reduceEqDiff, reduceIte, List.nil_append, List.cons_append, not_false_eq_true]; refine ex_merge rfl (by simp only [h0, nodeRows_len, go_sem, Nat.reduceEqDiff, reduceIte, Int.reduceEq, Int.reduceLT, Int.reduceLE, Nat.reduceAdd, Nat.reduceLT, Nat.reduceLeDiff, Int.reduceToNat, Int.reduceSub, Int.reduceAdd, Int.reduceNeg]) (by intro hb; simp only [hb, h0, nodeRows_len, go_sem, Nat.reduceEqDiff, reduceIte, Int.reduceEq, Int.reduceLT, Int.reduceLE, Nat.reduceAdd, Nat.reduceLT, Nat.reduceLeDiff, Int.reduceToNat, Int.reduceSub, Int.reduceAdd, Int.reduceNeg]; first | exact rfl | exact ⟨rfl, rfl⟩) (fun vs => ?_); simp only [h0, nodeRows_len, go_sem, Nat.reduceEqDiff, reduceIte, Int.reduceEq, Int.reduceLT, Int.reduceLE, Nat.reduceAdd, Nat.reduceLT, Nat.reduceLeDiff, Int.reduceToNat, Int.reduceSub, Int.reduceAdd, Int.reduceNeg]
  refine s_cond (b := decide ((d.nodes.length : Int) = 0) || decide (32 < (d.nodes.length : Int))) (by simp only [go_sem, Nat.reduceEqDiff, reduceIte, Int.reduceEq, Int.reduceLT, Int.reduceLE, Nat.reduceAdd, Nat.reduceLT, Nat.reduceLeDiff, Int.reduceToNat, Int.reduceSub, Int.reduceAdd, Int.reduceNeg]; try rfl) ?_ ?_ <;> intro hc1 <;> simp only [h0, nodeRows_len, go_sem, Nat.reduceEqDiff, reduceIte, Int.reduceEq, Int.reduceLT, Int.reduceLE, Nat.reduceAdd, Nat.reduceLT, Nat.reduceLeDiff, Int.reduceToNat, Int.reduceSub, Int.reduceAdd, Int.reduceNeg]
  · have hf : d.check = (-1, 10) := by rw [DefD.check, if_neg (by simpa using hc0), if_pos hc1]
    rw [hf]; exact ⟨rfl, rfl⟩
  have hcheck : d.check = match firstI (fun i => !decide (d.nodeE i = 0)) (List.range d.nodes.length) with
    | some i => ((i : Int), d.nodeE i)
    | none => match firstI (fun i => !decide (d.depE i = 0)) (List.range d.nodes.length) with
      | some i => ((i : Int), d.depE i)
      | none => if d.order.length = d.nodes.length then (-1, 0) else (-1, 15) := by
    rw [DefD.check, if_neg (by simpa using hc0), if_neg (by rw [hc1]; decide)]
  refine s_loop (fun n' ρ L => ∃ (i : Nat) (J : List Blk), i ≤ d.nodes.length ∧ n' = d.nodes.length - i ∧ L = .cells 2 [[.str d.name, .isl (nodeRows d.nodes)]] :: J ∧
      ρ 1 = .ptr 0 0 0 ∧ ρ 28 = .isl (nodeRows d.nodes) ∧ ρ 29 = .int .i64 d.nodes.length ∧ ρ 30 = .int .i64 i ∧ (List.range i).all (fun k => !!decide (d.nodeE k = 0)) = true)
    ⟨0, [], Nat.zero_le _, rfl, rfl, by simp only [go_sem, Nat.reduceEqDiff, reduceIte, Int.reduceEq, Int.reduceLT, Int.reduceLE, Nat.reduceAdd, Nat.reduceLT, Nat.reduceLeDiff, Int.reduceToNat, Int.reduceSub, Int.reduceAdd, Int.reduceNeg], by simp only [go_sem, Nat.reduceEqDiff, reduceIte, Int.reduceEq, Int.reduceLT, Int.reduceLE, Nat.reduceAdd, Nat.reduceLT, Nat.reduceLeDiff, Int.reduceToNat, Int.reduceSub, Int.reduceAdd, Int.reduceNeg], by simp only [go_sem, Nat.reduceEqDiff, reduceIte, Int.reduceEq, Int.reduceLT, Int.reduceLE, Nat.reduceAdd, Nat.reduceLT, Nat.reduceLeDiff, Int.reduceToNat, Int.reduceSub, Int.reduceAdd, Int.reduceNeg], by simp only [go_sem, Nat.reduceEqDiff, reduceIte, Int.reduceEq, Int.reduceLT, Int.reduceLE, Nat.reduceAdd, Nat.reduceLT, Nat.reduceLeDiff, Int.reduceToNat, Int.reduceSub, Int.reduceAdd, Int.reduceNeg]; try rfl, rfl⟩ ?_
  clear h0 ρ
  rintro n' ρ L ⟨i, J, hi, rfl, rfl, h1, h28, h29, h30, hall⟩
  simp only [h1, h28, h29, h30, go_sem, Nat.reduceEqDiff, reduceIte, Int.reduceEq, Int.reduceLT, Int.reduceLE, Nat.reduceAdd, Nat.reduceLT, Nat.reduceLeDiff, Int.reduceToNat, Int.reduceSub, Int.reduceAdd, Int.reduceNeg]
  refine s_cond (b := decide _) (by simp only [h1, h28, h29, h30, nodeRows_len, rows_nodes, go_sem, Nat.reduceEqDiff, reduceIte, Int.reduceEq, Int.reduceLT, Int.reduceLE, Nat.reduceAdd, Nat.reduceLT, Nat.reduceLeDiff, Int.reduceToNat, Int.reduceSub, Int.reduceAdd, Int.reduceNeg]; try rfl) ?_ ?_ <;> intro hb <;> simp only [hb, h1, h28, h29, h30, nodeRows_len, rows_nodes, go_sem, Nat.reduceEqDiff, reduceIte, Int.reduceEq, Int.reduceLT, Int.reduceLE, Nat.reduceAdd, Nat.reduceLT, Nat.reduceLeDiff, Int.reduceToNat, Int.reduceSub, Int.reduceAdd, Int.reduceNeg]
  · rw [decide_eq_true_eq] at hb
    have hi' : i < d.nodes.length := by omega
    have hrow := nodeRows_get hi'
    refine ⟨hb, ?_⟩
    simp only [h1, h28, h29, h30, hrow, NodeD.row, go_sem, Nat.reduceEqDiff, reduceIte, Int.reduceEq, Int.reduceLT, Int.reduceLE, Nat.reduceAdd, Nat.reduceLT, Nat.reduceLeDiff, Int.reduceToNat, Int.reduceSub, Int.reduceAdd, Int.reduceNeg]
    refine ⟨hi', ?_⟩
    refine xcall_pure (args' := [d.iv, .int .i64 i]) rfl (dagNamed_pure hP hm d i hi' (by omega) hok) rfl ?_
    try simp only [h1, h28, h29, h30, go_sem, Nat.reduceEqDiff, reduceIte, Int.reduceEq, Int.reduceLT, Int.reduceLE, Nat.reduceAdd, Nat.reduceLT, Nat.reduceLeDiff, Int.reduceToNat, Int.reduceSub, Int.reduceAdd, Int.reduceNeg]
    refine s_cond (b := !decide (d.namedE i = 0)) (by simp only [h1, h28, h29, h30, go_sem, Nat.reduceEqDiff, reduceIte, Int.reduceEq, Int.reduceLT, Int.reduceLE, Nat.reduceAdd, Nat.reduceLT, Nat.reduceLeDiff, Int.reduceToNat, Int.reduceSub, Int.reduceAdd, Int.reduceNeg]; try rfl) ?_ ?_ <;> intro hc2 <;> simp only [h1, h28, h29, h30, go_sem, Nat.reduceEqDiff, reduceIte, Int.reduceEq, Int.reduceLT, Int.reduceLE, Nat.reduceAdd, Nat.reduceLT, Nat.reduceLeDiff, Int.reduceToNat, Int.reduceSub, Int.reduceAdd, Int.reduceNeg]
    · have hne : d.namedE i ≠ 0 := by simpa using hc2
      have hnode : d.nodeE i = d.namedE i := by rw [DefD.nodeE, if_neg hne]
      have hf : d.check = ((i : Int), d.nodeE i) := by rw [hcheck, firstI_range hi' hall (by rw [hnode]; simpa using hne)]
      rw [hf, hnode]; exact ⟨rfl, rfl⟩
    have hz : d.namedE i = 0 := by simpa using hc2
    refine xcall_pure (args' := [.agg (d.nodes.getD i default).row]) rfl (fits_pure hP _) rfl ?_
    try simp only [h1, h28, h29, h30, go_sem, Nat.reduceEqDiff, reduceIte, Int.reduceEq, Int.reduceLT, Int.reduceLE, Nat.reduceAdd, Nat.reduceLT, Nat.reduceLeDiff, Int.reduceToNat, Int.reduceSub, Int.reduceAdd, Int.reduceNeg]
    refine s_cond (b := !fitsB (d.nodes.getD i default)) (by simp only [h1, h28, h29, h30, go_sem, Nat.reduceEqDiff, reduceIte, Int.reduceEq, Int.reduceLT, Int.reduceLE, Nat.reduceAdd, Nat.reduceLT, Nat.reduceLeDiff, Int.reduceToNat, Int.reduceSub, Int.reduceAdd, Int.reduceNeg]; try rfl) ?_ ?_ <;> intro hc3 <;> simp only [h1, h28, h29, h30, go_sem, Nat.reduceEqDiff, reduceIte, Int.reduceEq, Int.reduceLT, Int.reduceLE, Nat.reduceAdd, Nat.reduceLT, Nat.reduceLeDiff, Int.reduceToNat, Int.reduceSub, Int.reduceAdd, Int.reduceNeg]
    · have hnode : d.nodeE i = 1 := by rw [DefD.nodeE, if_pos hz, if_neg (by simpa using hc3)]
      have hf : d.check = ((i : Int), d.nodeE i) := by rw [hcheck, firstI_range hi' hall (by rw [hnode]; rfl)]
      rw [hf, hnode]; exact ⟨rfl, rfl⟩
    have hnode : d.nodeE i = 0 := by rw [DefD.nodeE, if_pos hz, if_pos (by simpa using hc3)]
    refine ⟨d.nodes.length - (i + 1), by omega, i + 1, _, by omega, rfl, rfl, by rw [wrap64 (by omega) (by omega)]; rfl, ?_⟩
    exact all_range_succ hall (by rw [hnode]; rfl)
  rw [decide_eq_false_iff_not] at hb
  have hi' : i = d.nodes.length := by omega
  subst hi'
  rw [firstI_none hall] at hcheck
  clear hall hb hi h28 h29 h30
  refine s_loop (fun n' ρ L => ∃ (i : Nat) (J : List Blk), i ≤ d.nodes.length ∧ n' = d.nodes.length - i ∧ L = .cells 2 [[.str d.name, .isl (nodeRows d.nodes)]] :: J ∧
      ρ 1 = .ptr 0 0 0 ∧ ρ 48 = .isl (nodeRows d.nodes) ∧ ρ 49 = .int .i64 d.nodes.length ∧ ρ 50 = .int .i64 i ∧ (List.range i).all (fun k => !!decide (d.depE k = 0)) = true)
    ⟨0, J, Nat.zero_le _, rfl, rfl, by simp only [h1, go_sem, Nat.reduceEqDiff, reduceIte, Int.reduceEq, Int.reduceLT, Int.reduceLE, Nat.reduceAdd, Nat.reduceLT, Nat.reduceLeDiff, Int.reduceToNat, Int.reduceSub, Int.reduceAdd, Int.reduceNeg], by simp only [go_sem, Nat.reduceEqDiff, reduceIte, Int.reduceEq, Int.reduceLT, Int.reduceLE, Nat.reduceAdd, Nat.reduceLT, Nat.reduceLeDiff, Int.reduceToNat, Int.reduceSub, Int.reduceAdd, Int.reduceNeg], by simp only [go_sem, Nat.reduceEqDiff, reduceIte, Int.reduceEq, Int.reduceLT, Int.reduceLE, Nat.reduceAdd, Nat.reduceLT, Nat.reduceLeDiff, Int.reduceToNat, Int.reduceSub, Int.reduceAdd, Int.reduceNeg], by simp only [go_sem, Nat.reduceEqDiff, reduceIte, Int.reduceEq, Int.reduceLT, Int.reduceLE, Nat.reduceAdd, Nat.reduceLT, Nat.reduceLeDiff, Int.reduceToNat, Int.reduceSub, Int.reduceAdd, Int.reduceNeg]; try rfl, rfl⟩ ?_
  clear h1 ρ
  rintro n' ρ L ⟨i, J, hi, rfl, rfl, h1, h48, h49, h50, hall⟩
  simp only [h1, h48, h49, h50, go_sem, Nat.reduceEqDiff, reduceIte, Int.reduceEq, Int.reduceLT, Int.reduceLE, Nat.reduceAdd, Nat.reduceLT, Nat.reduceLeDiff, Int.reduceToNat, Int.reduceSub, Int.reduceAdd, Int.reduceNeg]
  refine s_cond (b := decide _) (by simp only [h1, h48, h49, h50, nodeRows_len, rows_nodes, go_sem, Nat.reduceEqDiff, reduceIte, Int.reduceEq, Int.reduceLT, Int.reduceLE, Nat.reduceAdd, Nat.reduceLT, Nat.reduceLeDiff, Int.reduceToNat, Int.reduceSub, Int.reduceAdd, Int.reduceNeg]; try rfl) ?_ ?_ <;> intro hb <;> simp only [hb, h1, h48, h49, h50, nodeRows_len, rows_nodes, go_sem, Nat.reduceEqDiff, reduceIte, Int.reduceEq, Int.reduceLT, Int.reduceLE, Nat.reduceAdd, Nat.reduceLT, Nat.reduceLeDiff, Int.reduceToNat, Int.reduceSub, Int.reduceAdd, Int.reduceNeg]
  · rw [decide_eq_true_eq] at hb
    have hi' : i < d.nodes.length := by omega
    have hrow := nodeRows_get hi'
    have hmem : d.nodes.getD i default ∈ d.nodes := by rw [List.getD_eq_getElem?_getD, List.getElem?_eq_getElem hi']; exact List.getElem_mem _
    have hnok := hok.2 _ hmem
    have hlen := hnok.2.2.2.1
    have hdep : d.depE i = if (firstI (fun s => !(d.find s).isSome) (d.nodes.getD i default).after).isSome = true then 6
      else if (firstI (twiceB (d.nodes.getD i default).after) (List.range (d.nodes.getD i default).after.length)).isSome = true then 16 else 0 := rfl
    refine ⟨hb, ?_⟩
    simp only [h1, h48, h49, h50, hrow, NodeD.row, go_sem, Nat.reduceEqDiff, reduceIte, Int.reduceEq, Int.reduceLT, Int.reduceLE, Nat.reduceAdd, Nat.reduceLT, Nat.reduceLeDiff, Int.reduceToNat, Int.reduceSub, Int.reduceAdd, Int.reduceNeg]
    refine ⟨hi', ?_⟩
    generalize hn : d.nodes.getD i default = n at *
    refine xcall_lend (args' := [.isl (strRows n.after), .fn (.func 28) [] [.iptr [[.str d.name, .isl (nodeRows d.nodes)]] 0 0]])
      (mapO_cons rfl (mapO_cons (conv_fn rfl (mapO_cons (conv_ptr_free rfl rfl rfl) rfl)) rfl))
      (containsFuncS_pure hP n.after 28 _ (fun s => !(d.find s).isSome) hnok.2.2.2.1 rfl rfl (fun s _ => check1_pure hP d s (by omega))) rfl rfl ?_
    try simp only [h1, h48, h49, h50, go_sem, Nat.reduceEqDiff, reduceIte, Int.reduceEq, Int.reduceLT, Int.reduceLE, Nat.reduceAdd, Nat.reduceLT, Nat.reduceLeDiff, Int.reduceToNat, Int.reduceSub, Int.reduceAdd, Int.reduceNeg]
    refine s_cond (b := (firstI (fun s => !(d.find s).isSome) n.after).isSome) (by simp only [h1, h48, h49, h50, go_sem, Nat.reduceEqDiff, reduceIte, Int.reduceEq, Int.reduceLT, Int.reduceLE, Nat.reduceAdd, Nat.reduceLT, Nat.reduceLeDiff, Int.reduceToNat, Int.reduceSub, Int.reduceAdd, Int.reduceNeg]; try rfl) ?_ ?_ <;> intro hc2 <;> simp only [h1, h48, h49, h50, strRows_len, go_sem, Nat.reduceEqDiff, reduceIte, Int.reduceEq, Int.reduceLT, Int.reduceLE, Nat.reduceAdd, Nat.reduceLT, Nat.reduceLeDiff, Int.reduceToNat, Int.reduceSub, Int.reduceAdd, Int.reduceNeg]
    · rw [if_pos hc2] at hdep
      have hf : d.check = ((i : Int), d.depE i) := by rw [hcheck, firstI_range hi' hall (by rw [hdep]; rfl)]
      rw [hf, hdep]; exact ⟨rfl, rfl⟩
    rw [if_neg (by rw [hc2]; decide)] at hdep
    refine s_loop (fun n3 ρ L => ∃ (k : Nat), k ≤ n.after.length ∧ n3 = n.after.length - k ∧ L = .cells 2 [[.str d.name, .isl (nodeRows d.nodes)]] :: (J ++ [.cells 7 [n.row]]) ∧
        ρ 1 = .ptr 0 0 0 ∧ ρ 7 = .int .i64 i ∧ ρ 8 = .ptr (J.length + 1) 0 0 ∧ ρ 48 = .isl (nodeRows d.nodes) ∧ ρ 49 = .int .i64 d.nodes.length ∧ ρ 50 = .int .i64 i ∧
        ρ 61 = .isl (strRows n.after) ∧ ρ 62 = .int .i64 n.after.length ∧ ρ 63 = .int .i64 k ∧ (List.range k).all (fun k => !twiceB n.after k) = true)
      ⟨0, Nat.zero_le _, rfl, rfl, by simp only [h1, h48, h49, h50, go_sem, Nat.reduceEqDiff, reduceIte, Int.reduceEq, Int.reduceLT, Int.reduceLE, Nat.reduceAdd, Nat.reduceLT, Nat.reduceLeDiff, Int.reduceToNat, Int.reduceSub, Int.reduceAdd, Int.reduceNeg], by simp only [h1, h48, h49, h50, go_sem, Nat.reduceEqDiff, reduceIte, Int.reduceEq, Int.reduceLT, Int.reduceLE, Nat.reduceAdd, Nat.reduceLT, Nat.reduceLeDiff, Int.reduceToNat, Int.reduceSub, Int.reduceAdd, Int.reduceNeg], by simp only [h1, h48, h49, h50, go_sem, Nat.reduceEqDiff, reduceIte, Int.reduceEq, Int.reduceLT, Int.reduceLE, Nat.reduceAdd, Nat.reduceLT, Nat.reduceLeDiff, Int.reduceToNat, Int.reduceSub, Int.reduceAdd, Int.reduceNeg], by simp only [h1, h48, h49, h50, go_sem, Nat.reduceEqDiff, reduceIte, Int.reduceEq, Int.reduceLT, Int.reduceLE, Nat.reduceAdd, Nat.reduceLT, Nat.reduceLeDiff, Int.reduceToNat, Int.reduceSub, Int.reduceAdd, Int.reduceNeg], by simp only [h1, h48, h49, h50, go_sem, Nat.reduceEqDiff, reduceIte, Int.reduceEq, Int.reduceLT, Int.reduceLE, Nat.reduceAdd, Nat.reduceLT, Nat.reduceLeDiff, Int.reduceToNat, Int.reduceSub, Int.reduceAdd, Int.reduceNeg], by simp only [h1, h48, h49, h50, go_sem, Nat.reduceEqDiff, reduceIte, Int.reduceEq, Int.reduceLT, Int.reduceLE, Nat.reduceAdd, Nat.reduceLT, Nat.reduceLeDiff, Int.reduceToNat, Int.reduceSub, Int.reduceAdd, Int.reduceNeg], by simp only [h1, h48, h49, h50, go_sem, Nat.reduceEqDiff, reduceIte, Int.reduceEq, Int.reduceLT, Int.reduceLE, Nat.reduceAdd, Nat.reduceLT, Nat.reduceLeDiff, Int.reduceToNat, Int.reduceSub, Int.reduceAdd, Int.reduceNeg], by simp only [h1, h48, h49, h50, go_sem, Nat.reduceEqDiff, reduceIte, Int.reduceEq, Int.reduceLT, Int.reduceLE, Nat.reduceAdd, Nat.reduceLT, Nat.reduceLeDiff, Int.reduceToNat, Int.reduceSub, Int.reduceAdd, Int.reduceNeg], by simp only [h1, h48, h49, h50, go_sem, Nat.reduceEqDiff, reduceIte, Int.reduceEq, Int.reduceLT, Int.reduceLE, Nat.reduceAdd, Nat.reduceLT, Nat.reduceLeDiff, Int.reduceToNat, Int.reduceSub, Int.reduceAdd, Int.reduceNeg]; try rfl, rfl⟩ ?_
    clear h1 h48 h49 h50 ρ
    rintro n3 ρ L ⟨k, hk, rfl, rfl, h1, h7, h8, h48, h49, h50, h61, h62, h63, hall3⟩
    simp only [h1, h7, h8, h48, h49, h50, h61, h62, h63, go_sem, Nat.reduceEqDiff, reduceIte, Int.reduceEq, Int.reduceLT, Int.reduceLE, Nat.reduceAdd, Nat.reduceLT, Nat.reduceLeDiff, Int.reduceToNat, Int.reduceSub, Int.reduceAdd, Int.reduceNeg]
    refine s_cond (b := decide _) (by simp only [h1, h7, h8, h48, h49, h50, h61, h62, h63, strRows_len, rows_strs, go_sem, Nat.reduceEqDiff, reduceIte, Int.reduceEq, Int.reduceLT, Int.reduceLE, Nat.reduceAdd, Nat.reduceLT, Nat.reduceLeDiff, Int.reduceToNat, Int.reduceSub, Int.reduceAdd, Int.reduceNeg]; try rfl) ?_ ?_ <;> intro hb3 <;> simp only [hb3, h1, h7, h8, h48, h49, h50, h61, h62, h63, strRows_len, rows_strs, go_sem, Nat.reduceEqDiff, reduceIte, Int.reduceEq, Int.reduceLT, Int.reduceLE, Nat.reduceAdd, Nat.reduceLT, Nat.reduceLeDiff, Int.reduceToNat, Int.reduceSub, Int.reduceAdd, Int.reduceNeg]
    · rw [decide_eq_true_eq] at hb3
      have hk' : k < n.after.length := by omega
      have hrow3 := strRows_get hk'
      have htake : List.take k (strRows n.after) = strRows (n.after.take k) := by simp [strRows, List.map_take]
      refine ⟨hb3, ?_⟩
      simp only [h1, h7, h8, h48, h49, h50, h61, h62, h63, hrow3, NodeD.row, rows_strs, strRows_len, htake, go_sem, Nat.reduceEqDiff, reduceIte, Int.reduceEq, Int.reduceLT, Int.reduceLE, Nat.reduceAdd, Nat.reduceLT, Nat.reduceLeDiff, Int.reduceToNat, Int.reduceSub, Int.reduceAdd, Int.reduceNeg]
      refine ⟨hk', by omega, ?_⟩
      refine xcall_pure (args' := [.isl (strRows (n.after.take k)), .str (n.after.getD k [])]) rfl (containsS_pure hP _ _ (Nat.le_trans (List.length_take_le ..) (by have := hnok.2.2.2.1; omega))) rfl ?_
      try simp only [h1, h7, h8, h48, h49, h50, h61, h62, h63, go_sem, Nat.reduceEqDiff, reduceIte, Int.reduceEq, Int.reduceLT, Int.reduceLE, Nat.reduceAdd, Nat.reduceLT, Nat.reduceLeDiff, Int.reduceToNat, Int.reduceSub, Int.reduceAdd, Int.reduceNeg]
      refine s_cond (b := twiceB n.after k) (by simp only [h1, h7, h8, h48, h49, h50, h61, h62, h63, go_sem, Nat.reduceEqDiff, reduceIte, Int.reduceEq, Int.reduceLT, Int.reduceLE, Nat.reduceAdd, Nat.reduceLT, Nat.reduceLeDiff, Int.reduceToNat, Int.reduceSub, Int.reduceAdd, Int.reduceNeg]; try rfl) ?_ ?_ <;> intro hc4 <;> simp only [h1, h7, h8, h48, h49, h50, h61, h62, h63, go_sem, Nat.reduceEqDiff, reduceIte, Int.reduceEq, Int.reduceLT, Int.reduceLE, Nat.reduceAdd, Nat.reduceLT, Nat.reduceLeDiff, Int.reduceToNat, Int.reduceSub, Int.reduceAdd, Int.reduceNeg]
      · rw [firstI_range hk' hall3 hc4, if_pos (show (some k).isSome = true from rfl)] at hdep
        have hf : d.check = ((i : Int), d.depE i) := by rw [hcheck, firstI_range hi' hall (by rw [hdep]; rfl)]
        rw [hf, hdep]; exact ⟨rfl, rfl⟩
      · refine ⟨n.after.length - (k + 1), by omega, k + 1, by omega, rfl, rfl, by rw [wrap64 (by omega) (by omega)]; rfl, ?_⟩
        exact all_range_succ hall3 (by rw [hc4]; rfl)
    · rw [decide_eq_false_iff_not] at hb3
      have hk' : k = n.after.length := by omega
      subst hk'
      rw [firstI_none hall3, if_neg (by decide)] at hdep
      refine ⟨d.nodes.length - (i + 1), by omega, i + 1, _, by omega, rfl, rfl, by rw [wrap64 (by omega) (by omega)]; rfl, ?_⟩
      exact all_range_succ hall (by rw [hdep]; rfl)
  rw [decide_eq_false_iff_not] at hb
  have hi' : i = d.nodes.length := by omega
  subst hi'
  rw [firstI_none hall] at hcheck
  refine xcall_pure (args' := [d.iv]) rfl (order_pure hP d hd (fun n hn => (hok.2 n hn).2.2.2.1)) rfl ?_
  try simp only [h1, h48, h49, h50, go_sem, Nat.reduceEqDiff, reduceIte, Int.reduceEq, Int.reduceLT, Int.reduceLE, Nat.reduceAdd, Nat.reduceLT, Nat.reduceLeDiff, Int.reduceToNat, Int.reduceSub, Int.reduceAdd, Int.reduceNeg]
  refine s_cond (b := !decide (d.order.length = d.nodes.length)) (by simp only [h1, h48, h49, h50, go_sem, Nat.reduceEqDiff, reduceIte, Int.reduceEq, Int.reduceLT, Int.reduceLE, Nat.reduceAdd, Nat.reduceLT, Nat.reduceLeDiff, Int.reduceToNat, Int.reduceSub, Int.reduceAdd, Int.reduceNeg]; try rfl) ?_ ?_ <;> intro hc5 <;> simp only [h1, h48, h49, h50, go_sem, Nat.reduceEqDiff, reduceIte, Int.reduceEq, Int.reduceLT, Int.reduceLE, Nat.reduceAdd, Nat.reduceLT, Nat.reduceLeDiff, Int.reduceToNat, Int.reduceSub, Int.reduceAdd, Int.reduceNeg]
  · rw [if_neg (by simpa using hc5)] at hcheck
    rw [hcheck]; exact ⟨rfl, rfl⟩
  · rw [if_pos (by simpa using hc5)] at hcheck
    rw [hcheck]; exact ⟨rfl, rfl⟩
end
end Go.X.TrydW
end
section
open Go Go.X Go.Proofs
set_option maxRecDepth 100000
set_option maxHeartbeats 4000000
set_option linter.unusedSimpArgs false
set_option linter.unusedVariables false
namespace Go.X.TrydW
/- "tiller/dag.ReadyNodes" params { toList := [28, 44, 44] } results { toList := [Go.ResultVar.tmp 6] } -/
def x20 : XC :=
 (.seq
  (.ops [
    ⟨(some 3), (.box (.t 0)), none⟩,
    ⟨(some 4), (.box (.t 1)), none⟩,
    ⟨(some 6), (.mov (.c .nsl)), none⟩])
  (.seq
   (.ops [
     ⟨(some 7), (.alloc [(.raw .nilFunc)]), none⟩,
     ⟨none, (.store 1 (.t 7) (.f 35)), none⟩])
   (.seq
    (.ops [
      ⟨(some 8), (.mov (.c .nsl)), none⟩])
    (.seq
     (.seq
      (.ops [
        ⟨(some 10), (.fldA 1 (.t 3)), none⟩,
        ⟨(some 11), (.load1 (.t 10)), none⟩,
        ⟨(some 12), (.len (.t 11)), none⟩,
        ⟨(some 13), (.mov (.c (.int .i64 0))), none⟩])
      (.block 0
       (.loop
        (.seq
         (.ops [
           ⟨(some 14), (.bin .lss (.t 13) (.t 12)), none⟩])
         (.seq
          (.cond (.t 14)
           .skip
           (.exit 0))
          (.seq
           (.block 1
            (.seq
             (.ops [
               ⟨(some 15), (.mov (.t 13)), none⟩,
               ⟨(some 9), (.mov (.t 15)), none⟩])
             (.seq
              (.ops [
                ⟨(some 16), (.load1 (.t 7)), none⟩,
                ⟨(some 17), (.mov (.t 2)), none⟩,
                ⟨(some 18), (.mov (.t 9)), none⟩,
                ⟨(some 19), (.call (.t 16) [(.t 17), (.t 18)]), none⟩,
                ⟨(some 20), (.un .not (.t 19)), none⟩,
                ⟨(some 21), (.mov (.t 20)), none⟩,
                ⟨(some 22), (.loadN 2 (.t 3)), (some (21, true))⟩,
                ⟨(some 23), (.mov (.t 9)), (some (21, true))⟩,
                ⟨(some 24), (.mkfn (.func 36) [] [(.t 7), (.t 4)]), (some (21, true))⟩,
                ⟨(some 25), (.call (.f 32) [(.t 22), (.t 23), (.t 24)]), (some (21, true))⟩,
                ⟨(some 26), (.pick (.t 21) (.t 25) (.c (.bool false))), none⟩])
              (.cond (.t 26)
               (.ops [
                 ⟨(some 27), (.mov (.t 8)), none⟩,
                 ⟨(some 28), (.mov (.t 9)), none⟩,
                 ⟨(some 29), (.bslice 1 [(.int .i64 0)] 1 [(0, (.t 28))]), none⟩,
                 ⟨(some 30), (.append 1 8 (.t 27) (.t 29)), none⟩,
                 ⟨(some 8), (.mov (.t 30)), none⟩])
               .skip))))
           (.ops [
             ⟨(some 31), (.bin .add (.t 13) (.c (.int .i64 1))), none⟩,
             ⟨(some 13), (.mov (.t 31)), none⟩])))))))
     (.seq
      (.ops [
        ⟨(some 32), (.mov (.t 8)), none⟩,
        ⟨(some 6), (.mov (.t 32)), none⟩])
      .ret)))))

/- "tiller/dag.ReadyNodes$1" params { toList := [44, 3] } results { toList := [Go.ResultVar.tmp 4] } -/
def x35 : XC :=
 (.seq
  (.ops [
    ⟨(some 4), (.mov (.c (.bool false))), none⟩])
  (.seq
   (.ops [
     ⟨(some 5), (.mov (.t 1)), none⟩,
     ⟨(some 6), (.mov (.t 0)), none⟩,
     ⟨(some 7), (.len (.t 6)), none⟩,
     ⟨(some 8), (.bin .lss (.t 5) (.t 7)), none⟩,
     ⟨(some 9), (.mov (.t 8)), none⟩,
     ⟨(some 10), (.mov (.t 0)), (some (9, true))⟩,
     ⟨(some 11), (.mov (.t 1)), (some (9, true))⟩,
     ⟨(some 12), (.idxS 1 (.t 10) (.t 11)), (some (9, true))⟩,
     ⟨(some 13), (.load1 (.t 12)), (some (9, true))⟩,
     ⟨(some 14), (.pick (.t 9) (.t 13) (.c (.bool false))), none⟩,
     ⟨(some 4), (.mov (.t 14)), none⟩])
   .ret))

/- "tiller/dag.ReadyNodes$2" params { toList := [3] } results { toList := [Go.ResultVar.tmp 4] } -/
def x36 : XC :=
 (.seq
  (.ops [
    ⟨(some 4), (.mov (.c (.bool false))), none⟩])
  (.seq
   (.ops [
     ⟨(some 5), (.load1 (.t 1)), none⟩,
     ⟨(some 6), (.load1 (.t 2)), none⟩,
     ⟨(some 7), (.mov (.t 0)), none⟩,
     ⟨(some 8), (.call (.t 5) [(.t 6), (.t 7)]), none⟩,
     ⟨(some 4), (.mov (.t 8)), none⟩])
   .ret))

section
variable {E : Env}
def atB (l : List Bool) (i : Nat) : Bool := l.getD i false
theorem ready1_pure (hP : E.P = Tryd.prog) (l : List Bool) (i : Nat) : XPure E 35 [.isl (boolRows l), .int .i64 i] (.bool (atB l i)) := by
  refine xpure1 (n := Tryd.f35.ntmps) (c := x35) (t := 4) (by rw [hP]; rfl) (by rw [hP]; kernel_rfl) (by decide) (Nat.le_of_ble_eq_true rfl) ?_
  generalize hρ : entry _ = ρ
  have h0 : ρ 0 = .isl (boolRows l) := by rw [← hρ]; rfl
  have h1 : ρ 1 = .int .i64 i := by rw [← hρ]; rfl
  clear hρ
  unfold x35
  simp only [h0, h1, boolRows_len, go_sem, Nat.reduceEqDiff, reduceIte, Int.reduceEq, Int.reduceLT, Int.reduceLE, Nat.reduceAdd, Nat.reduceLT, Nat.reduceLeDiff, Int.reduceToNat, Int.reduceSub, Int.reduceAdd, Int.reduceNeg]
  by_cases hi : i < l.length
  · have hrow := boolRows_get hi
    have e1 : ((i : Int) < (l.length : Int)) = True := by simp; exact hi
    simp only [h0, h1, e1, boolRows_len, rows_bools, hrow, go_sem, Nat.reduceEqDiff, reduceIte, Int.reduceEq, Int.reduceLT, Int.reduceLE, Nat.reduceAdd, Nat.reduceLT, Nat.reduceLeDiff, Int.reduceToNat, Int.reduceSub, Int.reduceAdd, Int.reduceNeg]
    exact ⟨hi, rfl⟩
  · have e1 : ((i : Int) < (l.length : Int)) = False := by simp; omega
    have e2 : atB l i = false := by rw [atB, List.getD_eq_getElem?_getD, List.getElem?_eq_none (by omega)]; rfl
    simp only [h0, h1, e1, go_sem, Nat.reduceEqDiff, reduceIte, Int.reduceEq, Int.reduceLT, Int.reduceLE, Nat.reduceAdd, Nat.reduceLT, Nat.reduceLeDiff, Int.reduceToNat, Int.reduceSub, Int.reduceAdd, Int.reduceNeg]
    rw [e2]; rfl
theorem ready2_pure (hP : E.P = Tryd.prog) (l : List Bool) (i : Nat) : XPure E 36 [.int .i64 i, .iptr [[.fn (.func 35) [] []]] 0 0, .iptr [[.isl (boolRows l)]] 0 0] (.bool (atB l i)) := by
  refine xpure1 (n := Tryd.f36.ntmps) (c := x36) (t := 4) (by rw [hP]; rfl) (by rw [hP]; kernel_rfl) (by decide) (Nat.le_of_ble_eq_true rfl) ?_
  generalize hρ : entry _ = ρ
  have h0 : ρ 0 = .int .i64 i := by rw [← hρ]; rfl
  have h1 : ρ 1 = .iptr [[.fn (.func 35) [] []]] 0 0 := by rw [← hρ]; rfl
  have h2 : ρ 2 = .iptr [[.isl (boolRows l)]] 0 0 := by rw [← hρ]; rfl
  clear hρ
  unfold x36
  simp only [h0, h1, h2, go_sem, Nat.reduceEqDiff, reduceIte, Int.reduceEq, Int.reduceLT, Int.reduceLE, Nat.reduceAdd, Nat.reduceLT, Nat.reduceLeDiff, Int.reduceToNat, Int.reduceSub, Int.reduceAdd, Int.reduceNeg]
  refine xcall_pure (args' := [.isl (boolRows l), .int .i64 i]) rfl (ready1_pure hP l i) rfl ?_
  try simp only [h0, h1, h2, go_sem, Nat.reduceEqDiff, reduceIte, Int.reduceEq, Int.reduceLT, Int.reduceLE, Nat.reduceAdd, Nat.reduceLT, Nat.reduceLeDiff, Int.reduceToNat, Int.reduceSub, Int.reduceAdd, Int.reduceNeg]
  rfl

def DefD.isReady (d : DefD) (over begun : List Bool) (i : Nat) : Bool := !atB begun i && d.met i (atB over)
def DefD.ready (d : DefD) (over begun : List Bool) : List Nat := (List.range d.nodes.length).filter (d.isReady over begun)

theorem ready_pure (hP : E.P = Tryd.prog) (d : DefD) (over begun : List Bool) (hd : d.nodes.length ≤ 1000000) (ha : ∀ n ∈ d.nodes, n.after.length ≤ 9223372036854775807) :
    XPure E 20 [d.iv, .isl (boolRows over), .isl (boolRows begun)] (.isl (intRows (d.ready over begun))) := by
  refine xpure1 (n := Tryd.f20.ntmps) (c := x20) (t := 6) (by rw [hP]; rfl) (by rw [hP]; kernel_rfl) (by decide) (Nat.le_of_ble_eq_true rfl) ?_
  generalize hρ : entry _ = ρ
  have h0 : ρ 0 = .agg [.str d.name, .isl (nodeRows d.nodes)] := by rw [← hρ]; rfl
  have h1 : ρ 1 = .isl (boolRows over) := by rw [← hρ]; rfl
  have h2 : ρ 2 = .isl (boolRows begun) := by rw [← hρ]; rfl
  clear hρ
  unfold x20
  simp only [h0, h1, h2, nodeRows_len, go_sem, Nat.reduceEqDiff, reduceIte, Int.reduceEq, Int.reduceLT, Int.reduceLE, Nat.reduceAdd, Nat.reduceLT, Nat.reduceLeDiff, Int.reduceToNat, Int.reduceSub, Int.reduceAdd, Int.reduceNeg]
  refine s_loop (fun n' ρ L => ∃ i : Nat, i ≤ d.nodes.length ∧ n' = d.nodes.length - i ∧
      OutOk 1 [.cells 2 [[.str d.name, .isl (nodeRows d.nodes)]], .cells 1 [[.isl (boolRows over)]], .cells 1 [[.fn (.func 35) [] []]]] (intRows ((List.range i).filter (d.isReady over begun))) (ρ 8) L ∧
      ρ 2 = .isl (boolRows begun) ∧ ρ 3 = .ptr 0 0 0 ∧ ρ 4 = .ptr 1 0 0 ∧ ρ 7 = .ptr 2 0 0 ∧ ρ 12 = .int .i64 d.nodes.length ∧ ρ 13 = .int .i64 i)
    ⟨0, Nat.zero_le _, rfl, ?_, by simp only [h2, go_sem, Nat.reduceEqDiff, reduceIte, Int.reduceEq, Int.reduceLT, Int.reduceLE, Nat.reduceAdd, Nat.reduceLT, Nat.reduceLeDiff, Int.reduceToNat, Int.reduceSub, Int.reduceAdd, Int.reduceNeg], by simp only [go_sem, Nat.reduceEqDiff, reduceIte, Int.reduceEq, Int.reduceLT, Int.reduceLE, Nat.reduceAdd, Nat.reduceLT, Nat.reduceLeDiff, Int.reduceToNat, Int.reduceSub, Int.reduceAdd, Int.reduceNeg], by simp only [go_sem, Nat.reduceEqDiff, reduceIte, Int.reduceEq, Int.reduceLT, Int.reduceLE, Nat.reduceAdd, Nat.reduceLT, Nat.reduceLeDiff, Int.reduceToNat, Int.reduceSub, Int.reduceAdd, Int.reduceNeg], by simp only [go_sem, Nat.reduceEqDiff, reduceIte, Int.reduceEq, Int.reduceLT, Int.reduceLE, Nat.reduceAdd, Nat.reduceLT, Nat.reduceLeDiff, Int.reduceToNat, Int.reduceSub, Int.reduceAdd, Int.reduceNeg], by simp only [go_sem, Nat.reduceEqDiff, reduceIte, Int.reduceEq, Int.reduceLT, Int.reduceLE, Nat.reduceAdd, Nat.reduceLT, Nat.reduceLeDiff, Int.reduceToNat, Int.reduceSub, Int.reduceAdd, Int.reduceNeg], by simp only [go_sem, Nat.reduceEqDiff, reduceIte, Int.reduceEq, Int.reduceLT, Int.reduceLE, Nat.reduceAdd, Nat.reduceLT, Nat.reduceLeDiff, Int.reduceToNat, Int.reduceSub, Int.reduceAdd, Int.reduceNeg]; try rfl⟩ ?_
  · try simp only [go_sem, Nat.reduceEqDiff, reduceIte, Int.reduceEq, Int.reduceLT, Int.reduceLE, Nat.reduceAdd, Nat.reduceLT, Nat.reduceLeDiff, Int.reduceToNat, Int.reduceSub, Int.reduceAdd, Int.reduceNeg]
    exact out_nil (p := [.cells 2 [[.str d.name, .isl (nodeRows d.nodes)]], .cells 1 [[.isl (boolRows over)]], .cells 1 [[.fn (.func 35) [] []]]]) (J := [])
  clear h0 h1 h2 ρ
  rintro n' ρ L ⟨i, hi, rfl, hO, h2, h3, h4, h7, h12, h13⟩
  generalize h8 : ρ 8 = v at hO
  have hOut := hO
  obtain ⟨J, rfl, _⟩ := hO
  simp only [h2, h3, h4, h7, h8, h12, h13, go_sem, Nat.reduceEqDiff, reduceIte, Int.reduceEq, Int.reduceLT, Int.reduceLE, Nat.reduceAdd, Nat.reduceLT, Nat.reduceLeDiff, Int.reduceToNat, Int.reduceSub, Int.reduceAdd, Int.reduceNeg]
  refine s_cond (b := decide _) (by simp only [h2, h3, h4, h7, h8, h12, h13, go_sem, Nat.reduceEqDiff, reduceIte, Int.reduceEq, Int.reduceLT, Int.reduceLE, Nat.reduceAdd, Nat.reduceLT, Nat.reduceLeDiff, Int.reduceToNat, Int.reduceSub, Int.reduceAdd, Int.reduceNeg]; try rfl) ?_ ?_ <;> intro hb <;> simp only [hb, h2, h3, h4, h7, h8, h12, h13, go_sem, Nat.reduceEqDiff, reduceIte, Int.reduceEq, Int.reduceLT, Int.reduceLE, Nat.reduceAdd, Nat.reduceLT, Nat.reduceLeDiff, Int.reduceToNat, Int.reduceSub, Int.reduceAdd, Int.reduceNeg]
  · rw [decide_eq_true_eq] at hb
    have hi' : i < d.nodes.length := by omega
    refine xcall_pure (args' := [.isl (boolRows begun), .int .i64 i]) rfl (ready1_pure hP begun i) rfl ?_
    try simp only [h2, h3, h4, h7, h8, h12, h13, go_sem, Nat.reduceEqDiff, reduceIte, Int.reduceEq, Int.reduceLT, Int.reduceLE, Nat.reduceAdd, Nat.reduceLT, Nat.reduceLeDiff, Int.reduceToNat, Int.reduceSub, Int.reduceAdd, Int.reduceNeg]
    have hmem : d.nodes.getD i default ∈ d.nodes := by rw [List.getD_eq_getElem?_getD, List.getElem?_eq_getElem hi']; exact List.getElem_mem _
    have hmet := met_pure (E := E) hP d i 36 [.iptr [[.fn (.func 35) [] []]] 0 0, .iptr [[.isl (boolRows over)]] 0 0] (atB over) hi' (by omega) (ha _ hmem) (fun L => rfl) (fun k hk => ready2_pure hP over k)
    have hcv : mapO (conv (.cells 2 [[.str d.name, .isl (nodeRows d.nodes)]] :: .cells 1 [[.isl (boolRows over)]] :: .cells 1 [[.fn (.func 35) [] []]] :: J) fuel renFreeze)
        [.agg [.str d.name, .isl (nodeRows d.nodes)], .int .i64 i, .fn (.func 36) [] [.ptr 2 0 0, .ptr 1 0 0]] = some [d.iv, .int .i64 i, .fn (.func 36) [] [.iptr [[.fn (.func 35) [] []]] 0 0, .iptr [[.isl (boolRows over)]] 0 0]] :=
      mapO_cons rfl (mapO_cons rfl (mapO_cons (conv_fn rfl (mapO_cons (conv_ptr_free rfl rfl rfl) (mapO_cons (conv_ptr_free rfl rfl rfl) rfl))) rfl))
    refine s_mg (by simp only [h2, h3, h4, h7, h8, h12, h13, go_sem, Nat.reduceEqDiff, reduceIte, Int.reduceEq, Int.reduceLT, Int.reduceLE, Nat.reduceAdd, Nat.reduceLT, Nat.reduceLeDiff, Int.reduceToNat, Int.reduceSub, Int.reduceAdd, Int.reduceNeg]; try rfl) ?_; simp only [cut_g, cut_t, cut_none, cut_out, memN_cons, memN_nil, Nat.reduceEqDiff, reduceIte, List.nil_append, List.cons_append, not_false_eq_true]; refine ex_merge rfl (by simp only [h2, h3, h4, h7, h8, h12, h13, go_sem, Nat.reduceEqDiff, reduceIte, Int.reduceEq, Int.reduceLT, Int.reduceLE, Nat.reduceAdd, Nat.reduceLT, Nat.reduceLeDiff, Int.reduceToNat, Int.reduceSub, Int.reduceAdd, Int.reduceNeg]) (by intro hb; simp only [hb, h2, h3, h4, h7, h8, h12, h13, go_sem, Nat.reduceEqDiff, reduceIte, Int.reduceEq, Int.reduceLT, Int.reduceLE, Nat.reduceAdd, Nat.reduceLT, Nat.reduceLeDiff, Int.reduceToNat, Int.reduceSub, Int.reduceAdd, Int.reduceNeg]; refine xcall_lend (args' := [d.iv, .int .i64 i, .fn (.func 36) [] [.iptr [[.fn (.func 35) [] []]] 0 0, .iptr [[.isl (boolRows over)]] 0 0]]) hcv hmet rfl rfl ?_; (try simp only [h2, h3, h4, h7, h8, h12, h13, go_sem, Nat.reduceEqDiff, reduceIte, Int.reduceEq, Int.reduceLT, Int.reduceLE, Nat.reduceAdd, Nat.reduceLT, Nat.reduceLeDiff, Int.reduceToNat, Int.reduceSub, Int.reduceAdd, Int.reduceNeg]); (try simp only [hb, h2, h3, h4, h7, h8, h12, h13, go_sem, Nat.reduceEqDiff, reduceIte, Int.reduceEq, Int.reduceLT, Int.reduceLE, Nat.reduceAdd, Nat.reduceLT, Nat.reduceLeDiff, Int.reduceToNat, Int.reduceSub, Int.reduceAdd, Int.reduceNeg]); first | exact rfl | exact ⟨rfl, rfl⟩) (fun vs => ?_); simp only [h2, h3, h4, h7, h8, h12, h13, go_sem, Nat.reduceEqDiff, reduceIte, Int.reduceEq, Int.reduceLT, Int.reduceLE, Nat.reduceAdd, Nat.reduceLT, Nat.reduceLeDiff, Int.reduceToNat, Int.reduceSub, Int.reduceAdd, Int.reduceNeg]
    refine s_cond (b := d.isReady over begun i) (by simp only [h2, h3, h4, h7, h8, h12, h13, go_sem, Nat.reduceEqDiff, reduceIte, Int.reduceEq, Int.reduceLT, Int.reduceLE, Nat.reduceAdd, Nat.reduceLT, Nat.reduceLeDiff, Int.reduceToNat, Int.reduceSub, Int.reduceAdd, Int.reduceNeg]; try rfl) ?_ ?_ <;> intro hc <;> simp only [h2, h3, h4, h7, h8, h12, h13, go_sem, Nat.reduceEqDiff, reduceIte, Int.reduceEq, Int.reduceLT, Int.reduceLE, Nat.reduceAdd, Nat.reduceLT, Nat.reduceLeDiff, Int.reduceToNat, Int.reduceSub, Int.reduceAdd, Int.reduceNeg]
    · refine out_append (row := [.int .i64 i]) hOut rfl rfl ⟨rfl, rfl⟩ (by
        have : (List.filter (d.isReady over begun) (List.range i)).length ≤ i := Nat.le_trans (List.length_filter_le ..) (by simp)
        rw [intRows_len]; omega) ?_
      intro v' L' hO'
      try simp only [h2, h3, h4, h7, h8, h12, h13, go_sem, Nat.reduceEqDiff, reduceIte, Int.reduceEq, Int.reduceLT, Int.reduceLE, Nat.reduceAdd, Nat.reduceLT, Nat.reduceLeDiff, Int.reduceToNat, Int.reduceSub, Int.reduceAdd, Int.reduceNeg]
      refine ⟨d.nodes.length - (i + 1), by omega, i + 1, by omega, rfl, ?_, by rw [wrap64 (by omega) (by omega)]; rfl⟩
      have hr : intRows (List.filter (d.isReady over begun) (List.range (i + 1))) = intRows (List.filter (d.isReady over begun) (List.range i)) ++ [[.int .i64 i]] := by
        have hc' : d.isReady over begun i = true := hc
        rw [List.range_succ, List.filter_append]
        simp [intRows, hc']
      rw [hr]; exact hO'
    · refine ⟨d.nodes.length - (i + 1), by omega, i + 1, by omega, rfl, ?_, by rw [wrap64 (by omega) (by omega)]; rfl⟩
      have hr : List.filter (d.isReady over begun) (List.range (i + 1)) = List.filter (d.isReady over begun) (List.range i) := by
        have hc' : d.isReady over begun i = false := hc
        rw [List.range_succ, List.filter_append]
        simp [hc']
      rw [hr]; exact hOut
  · rw [decide_eq_false_iff_not] at hb
    have hi' : i = d.nodes.length := by omega
    subst hi'
    exact out_conv hOut (mapO_ints _ _ _ _)
end
end Go.X.TrydW
end
section
open Go Go.X Go.Proofs
set_option maxRecDepth 100000
set_option maxHeartbeats 4000000
set_option linter.unusedSimpArgs false
set_option linter.unusedVariables false
namespace Go.X.TrydW
/- "slices.Clone[[]tiller/api.Node,tiller/api.Node]" params { toList := [26] } results { toList := [Go.ResultVar.tmp 2] } -/
def x45 : XC :=
 (.seq
  (.ops [
    ⟨(some 2), (.mov (.c .nsl)), none⟩])
  (.seq
   (.seq
    (.ops [
      ⟨(some 3), (.mov (.t 0)), none⟩,
      ⟨(some 4), (.isNil 0 false (.t 3)), none⟩])
    (.cond (.t 4)
     (.seq
      (.ops [
        ⟨(some 2), (.mov (.c .nsl)), none⟩])
      .ret)
     .skip))
   (.seq
    (.ops [
      ⟨(some 5), (.bslice 7 [(.str []), (.int .i64 0), (.str []), (.str []), (.int .i64 0), (.int .i64 0), .nsl] 0 []), none⟩,
      ⟨(some 6), (.mov (.t 0)), none⟩,
      ⟨(some 7), (.append 7 96 (.t 5) (.t 6)), none⟩,
      ⟨(some 2), (.mov (.t 7)), none⟩])
    .ret)))

/- "slices.Clone[[]string,string]" params { toList := [22] } results { toList := [Go.ResultVar.tmp 2] } -/
def x46 : XC :=
 (.seq
  (.ops [
    ⟨(some 2), (.mov (.c .nsl)), none⟩])
  (.seq
   (.seq
    (.ops [
      ⟨(some 3), (.mov (.t 0)), none⟩,
      ⟨(some 4), (.isNil 0 false (.t 3)), none⟩])
    (.cond (.t 4)
     (.seq
      (.ops [
        ⟨(some 2), (.mov (.c .nsl)), none⟩])
      .ret)
     .skip))
   (.seq
    (.ops [
      ⟨(some 5), (.bslice 1 [(.str [])] 0 []), none⟩,
      ⟨(some 6), (.mov (.t 0)), none⟩,
      ⟨(some 7), (.append 1 16 (.t 5) (.t 6)), none⟩,
      ⟨(some 2), (.mov (.t 7)), none⟩])
    .ret)))

/- "tiller/dag.Walk" params { toList := [28] } results { toList := [Go.ResultVar.tmp 2] } -/
def x34 : XC :=
 (.seq
  (.ops [
    ⟨(some 1), (.box (.t 0)), none⟩,
    ⟨(some 2), (.mov (.c (.raw .nilFunc))), none⟩])
  (.seq
   (.ops [
     ⟨(some 4), (.fldA 1 (.t 1)), none⟩,
     ⟨(some 5), (.load1 (.t 4)), none⟩,
     ⟨(some 6), (.call (.f 45) [(.t 5)]), none⟩,
     ⟨(some 7), (.fldA 1 (.t 1)), none⟩,
     ⟨none, (.store 1 (.t 7) (.t 6)), none⟩])
   (.seq
    (.seq
     (.ops [
       ⟨(some 8), (.fldA 1 (.t 1)), none⟩,
       ⟨(some 9), (.load1 (.t 8)), none⟩,
       ⟨(some 10), (.len (.t 9)), none⟩,
       ⟨(some 11), (.mov (.c (.int .i64 0))), none⟩])
     (.block 0
      (.loop
       (.seq
        (.ops [
          ⟨(some 12), (.bin .lss (.t 11) (.t 10)), none⟩])
        (.seq
         (.cond (.t 12)
          .skip
          (.exit 0))
         (.seq
          (.block 1
           (.seq
            (.ops [
              ⟨(some 13), (.mov (.t 11)), none⟩,
              ⟨(some 3), (.mov (.t 13)), none⟩])
            (.drawE [
              ⟨(some 14), (.fldA 1 (.t 1)), none⟩,
              ⟨(some 15), (.load1 (.t 14)), none⟩,
              ⟨(some 16), (.mov (.t 3)), none⟩,
              ⟨(some 17), (.fldA 1 (.t 1)), none⟩,
              ⟨(some 18), (.load1 (.t 17)), none⟩,
              ⟨(some 19), (.mov (.t 3)), none⟩,
              ⟨(some 20), (.idxS 7 (.t 18) (.t 19)), none⟩,
              ⟨(some 21), (.fldA 6 (.t 20)), none⟩,
              ⟨(some 22), (.load1 (.t 21)), none⟩,
              ⟨(some 23), (.pcall (.f 46) [(.t 22)]), none⟩,
              ⟨(some 24), (.idxS 7 (.t 15) (.t 16)), none⟩,
              ⟨(some 25), (.fldA 6 (.t 24)), none⟩,
              ⟨none, (.store 1 (.t 25) (.t 23)), none⟩])))
          (.ops [
            ⟨(some 26), (.bin .add (.t 11) (.c (.int .i64 1))), none⟩,
            ⟨(some 11), (.mov (.t 26)), none⟩])))))))
    (.seq
     (.ops [
       ⟨(some 27), (.mkfn (.func 47) [] [(.t 1)]), none⟩,
       ⟨(some 2), (.mov (.t 27)), none⟩])
     .ret))))

section
variable {E : Env}
theorem strRows_cells (l : List (List UInt8)) : RowsC 1 (strRows l) := by
  intro row h
  obtain ⟨n, _, rfl⟩ := List.mem_map.1 h
  exact ⟨rfl, rfl⟩
theorem nodeRows_cells (l : List NodeD) : RowsC 7 (nodeRows l) := by
  intro row h
  obtain ⟨n, _, rfl⟩ := List.mem_map.1 h
  exact ⟨rfl, rfl⟩
theorem mapO_strs (L : List Blk) (n : Nat) (m : Ren) (l : List (List UInt8)) : mapO (mapO (conv L (n + 1) m)) (strRows l) = some (strRows l) := by
  refine mapO_same fun row h => ?_
  obtain ⟨b, _, rfl⟩ := List.mem_map.1 h
  rfl
theorem mapO_nodes (L : List Blk) (n : Nat) (m : Ren) (l : List NodeD) : mapO (mapO (conv L (n + 1) m)) (nodeRows l) = some (nodeRows l) := by
  refine mapO_same fun row h => ?_
  obtain ⟨b, _, rfl⟩ := List.mem_map.1 h
  rfl

theorem cloneS_pure (hP : E.P = Tryd.prog) (l : List (List UInt8)) (hl : l.length ≤ 1000000) : XPure E 46 [.isl (strRows l)] (.isl (strRows l)) := by
  refine xpure1 (n := Tryd.f46.ntmps) (c := x46) (t := 2) (by rw [hP]; rfl) (by rw [hP]; kernel_rfl) (by decide) (Nat.le_of_ble_eq_true rfl) ?_
  generalize hρ : entry _ = ρ
  have h0 : ρ 0 = .isl (strRows l) := by rw [← hρ]; rfl
  clear hρ
  unfold x46
  simp only [h0, go_sem, Nat.reduceEqDiff, reduceIte, Int.reduceEq, Int.reduceLT, Int.reduceLE, Nat.reduceAdd, Nat.reduceLT, Nat.reduceLeDiff, Int.reduceToNat, Int.reduceSub, Int.reduceAdd, Int.reduceNeg]
  have hlen : (strRows l).length = l.length := strRows_len l
  refine ⟨?_, fun hr => ?_⟩
  · try simp only [h0, go_sem, Nat.reduceEqDiff, reduceIte, Int.reduceEq, Int.reduceLT, Int.reduceLE, Nat.reduceAdd, Nat.reduceLT, Nat.reduceLeDiff, Int.reduceToNat, Int.reduceSub, Int.reduceAdd, Int.reduceNeg]
    refine append_all (s := 0) (by rfl) (strRows_cells l) (by omega) (fun hr => ?_) (fun hr => ?_)
    · try simp only [h0, go_sem, Nat.reduceEqDiff, reduceIte, Int.reduceEq, Int.reduceLT, Int.reduceLE, Nat.reduceAdd, Nat.reduceLT, Nat.reduceLeDiff, Int.reduceToNat, Int.reduceSub, Int.reduceAdd, Int.reduceNeg]
      rw [hr]; rfl
    · try simp only [h0, go_sem, Nat.reduceEqDiff, reduceIte, Int.reduceEq, Int.reduceLT, Int.reduceLE, Nat.reduceAdd, Nat.reduceLT, Nat.reduceLeDiff, Int.reduceToNat, Int.reduceSub, Int.reduceAdd, Int.reduceNeg]
      refine conv_sl_free rfl rfl (by simp) ?_
      rw [List.drop_zero, List.take_length]
      exact mapO_strs _ _ _ _
  · try simp only [h0, go_sem, Nat.reduceEqDiff, reduceIte, Int.reduceEq, Int.reduceLT, Int.reduceLE, Nat.reduceAdd, Nat.reduceLT, Nat.reduceLeDiff, Int.reduceToNat, Int.reduceSub, Int.reduceAdd, Int.reduceNeg]
    rw [hr]; rfl

theorem cloneN_own (hP : E.P = Tryd.prog) (l : List NodeD) (hl : l.length ≤ 1000000) : XT E 45 [.isl (nodeRows l)] [] fun r L' => (l = [] ∧ r = .isl [] ∧ L' = []) ∨ (l ≠ [] ∧ r = .sl 0 0 l.length l.length ∧ L' = [.cells 7 (nodeRows l)]) := by
  refine xown1 (n := Tryd.f45.ntmps) (c := x45) (t := 2) (by rw [hP]; rfl) (by rw [hP]; kernel_rfl) (by decide) (Nat.le_of_ble_eq_true rfl) ?_
  generalize hρ : entry _ = ρ
  have h0 : ρ 0 = .isl (nodeRows l) := by rw [← hρ]; rfl
  clear hρ
  unfold x45
  simp only [h0, go_sem, Nat.reduceEqDiff, reduceIte, Int.reduceEq, Int.reduceLT, Int.reduceLE, Nat.reduceAdd, Nat.reduceLT, Nat.reduceLeDiff, Int.reduceToNat, Int.reduceSub, Int.reduceAdd, Int.reduceNeg]
  have hlen : (nodeRows l).length = l.length := nodeRows_len l
  have hnil : nodeRows l = [] → l = [] := fun h => by
    have := congrArg List.length h
    rw [hlen] at this
    exact List.eq_nil_of_length_eq_zero this
  refine ⟨?_, fun hr => ?_⟩
  · try simp only [h0, go_sem, Nat.reduceEqDiff, reduceIte, Int.reduceEq, Int.reduceLT, Int.reduceLE, Nat.reduceAdd, Nat.reduceLT, Nat.reduceLeDiff, Int.reduceToNat, Int.reduceSub, Int.reduceAdd, Int.reduceNeg]
    refine append_all (s := 0) (by rfl) (nodeRows_cells l) (by omega) (fun hr => ?_) (fun hr => ?_)
    · try simp only [h0, go_sem, Nat.reduceEqDiff, reduceIte, Int.reduceEq, Int.reduceLT, Int.reduceLE, Nat.reduceAdd, Nat.reduceLT, Nat.reduceLeDiff, Int.reduceToNat, Int.reduceSub, Int.reduceAdd, Int.reduceNeg]
      exact leave_none rfl (.inl ⟨hnil hr, rfl, rfl⟩)
    · try simp only [h0, go_sem, Nat.reduceEqDiff, reduceIte, Int.reduceEq, Int.reduceLT, Int.reduceLE, Nat.reduceAdd, Nat.reduceLT, Nat.reduceLeDiff, Int.reduceToNat, Int.reduceSub, Int.reduceAdd, Int.reduceNeg]
      refine leave_one (s := 1) (r' := .sl 0 0 (nodeRows l).length (nodeRows l).length) (k := .cells 7 (nodeRows l)) (by simp) rfl ?_ (.inr ⟨fun h => hr (by rw [h]; rfl), by rw [hlen], rfl⟩)
      show (mapO (mapO (conv _ 12 _)) (nodeRows l)).map _ = _
      rw [mapO_nodes]; rfl
  · try simp only [h0, go_sem, Nat.reduceEqDiff, reduceIte, Int.reduceEq, Int.reduceLT, Int.reduceLE, Nat.reduceAdd, Nat.reduceLT, Nat.reduceLeDiff, Int.reduceToNat, Int.reduceSub, Int.reduceAdd, Int.reduceNeg]
    exact leave_none rfl (.inl ⟨hnil hr, rfl, rfl⟩)

theorem nodeRows_set (l : List NodeD) (i : Nat) (h : i < l.length) : (nodeRows l).set i ((l.getD i default).row) = nodeRows l := by
  apply List.ext_getElem?
  intro j
  rw [List.getElem?_set]
  by_cases hj : i = j
  · subst hj
    rw [if_pos rfl, nodeRows_len, if_pos h]
    simp [nodeRows, List.getElem?_eq_getElem h]
  · rw [if_neg hj]

theorem walk_pure (hP : E.P = Tryd.prog) (d : DefD) (hd : d.nodes.length ≤ 1000000) (ha : ∀ n ∈ d.nodes, n.after.length ≤ 1000000) :
    XPure E 34 [d.iv] (.fn (.func 47) [] [.iptr [[.str d.name, .isl (nodeRows d.nodes)]] 0 0]) := by
  refine xpure1 (n := Tryd.f34.ntmps) (c := x34) (t := 2) (by rw [hP]; rfl) (by rw [hP]; kernel_rfl) (by decide) (Nat.le_of_ble_eq_true rfl) ?_
  generalize hρ : entry _ = ρ
  have h0 : ρ 0 = .agg [.str d.name, .isl (nodeRows d.nodes)] := by rw [← hρ]; rfl
  clear hρ
  unfold x34
  simp only [h0, go_sem, Nat.reduceEqDiff, reduceIte, Int.reduceEq, Int.reduceLT, Int.reduceLE, Nat.reduceAdd, Nat.reduceLT, Nat.reduceLeDiff, Int.reduceToNat, Int.reduceSub, Int.reduceAdd, Int.reduceNeg]
  refine xcall_own (args' := [.isl (nodeRows d.nodes)]) rfl (cloneN_own hP d.nodes hd) ?_
  rintro r L1 (⟨hn, rfl, rfl⟩ | ⟨hn, rfl, rfl⟩)
  · refine ⟨.isl [], [], rfl, rfl, ?_⟩
    simp only [h0, go_sem, Nat.reduceEqDiff, reduceIte, Int.reduceEq, Int.reduceLT, Int.reduceLE, Nat.reduceAdd, Nat.reduceLT, Nat.reduceLeDiff, Int.reduceToNat, Int.reduceSub, Int.reduceAdd, Int.reduceNeg]
    refine s_loop1 ?_
    simp only [h0, go_sem, Nat.reduceEqDiff, reduceIte, Int.reduceEq, Int.reduceLT, Int.reduceLE, Nat.reduceAdd, Nat.reduceLT, Nat.reduceLeDiff, Int.reduceToNat, Int.reduceSub, Int.reduceAdd, Int.reduceNeg]
    try simp only [h0, go_sem, Nat.reduceEqDiff, reduceIte, Int.reduceEq, Int.reduceLT, Int.reduceLE, Nat.reduceAdd, Nat.reduceLT, Nat.reduceLeDiff, Int.reduceToNat, Int.reduceSub, Int.reduceAdd, Int.reduceNeg]
    rw [hn]; rfl
  · refine ⟨.sl 1 0 d.nodes.length d.nodes.length, [.cells 7 (nodeRows d.nodes)], rfl, ?_, ?_⟩
    · refine mapO_cons ?_ rfl
      show (mapO (mapO (conv _ 12 _)) (nodeRows d.nodes)).map _ = _
      rw [mapO_nodes]; rfl
    simp only [h0, go_sem, Nat.reduceEqDiff, reduceIte, Int.reduceEq, Int.reduceLT, Int.reduceLE, Nat.reduceAdd, Nat.reduceLT, Nat.reduceLeDiff, Int.reduceToNat, Int.reduceSub, Int.reduceAdd, Int.reduceNeg]
    refine s_loop (fun n' ρ L => ∃ i : Nat, i ≤ d.nodes.length ∧ n' = d.nodes.length - i ∧ L = [.cells 2 [[.str d.name, .sl 1 0 d.nodes.length d.nodes.length]], .cells 7 (nodeRows d.nodes)] ∧
        ρ 1 = .ptr 0 0 0 ∧ ρ 10 = .int .i64 d.nodes.length ∧ ρ 11 = .int .i64 i)
      ⟨0, Nat.zero_le _, rfl, rfl, by simp only [go_sem, Nat.reduceEqDiff, reduceIte, Int.reduceEq, Int.reduceLT, Int.reduceLE, Nat.reduceAdd, Nat.reduceLT, Nat.reduceLeDiff, Int.reduceToNat, Int.reduceSub, Int.reduceAdd, Int.reduceNeg], by simp only [go_sem, Nat.reduceEqDiff, reduceIte, Int.reduceEq, Int.reduceLT, Int.reduceLE, Nat.reduceAdd, Nat.reduceLT, Nat.reduceLeDiff, Int.reduceToNat, Int.reduceSub, Int.reduceAdd, Int.reduceNeg], by simp only [go_sem, Nat.reduceEqDiff, reduceIte, Int.reduceEq, Int.reduceLT, Int.reduceLE, Nat.reduceAdd, Nat.reduceLT, Nat.reduceLeDiff, Int.reduceToNat, Int.reduceSub, Int.reduceAdd, Int.reduceNeg]; try rfl⟩ ?_
    clear h0 ρ
    rintro n' ρ L ⟨i, hi, rfl, rfl, h1, h10, h11⟩
    simp only [h1, h10, h11, go_sem, Nat.reduceEqDiff, reduceIte, Int.reduceEq, Int.reduceLT, Int.reduceLE, Nat.reduceAdd, Nat.reduceLT, Nat.reduceLeDiff, Int.reduceToNat, Int.reduceSub, Int.reduceAdd, Int.reduceNeg]
    refine s_cond (b := decide _) (by simp only [h1, h10, h11, go_sem, Nat.reduceEqDiff, reduceIte, Int.reduceEq, Int.reduceLT, Int.reduceLE, Nat.reduceAdd, Nat.reduceLT, Nat.reduceLeDiff, Int.reduceToNat, Int.reduceSub, Int.reduceAdd, Int.reduceNeg]; try rfl) ?_ ?_ <;> intro hb <;> simp only [hb, h1, h10, h11, go_sem, Nat.reduceEqDiff, reduceIte, Int.reduceEq, Int.reduceLT, Int.reduceLE, Nat.reduceAdd, Nat.reduceLT, Nat.reduceLeDiff, Int.reduceToNat, Int.reduceSub, Int.reduceAdd, Int.reduceNeg]
    · rw [decide_eq_true_eq] at hb
      have hi' : i < d.nodes.length := by omega
      have hrow := nodeRows_get hi'
      have hmem : d.nodes.getD i default ∈ d.nodes := by rw [List.getD_eq_getElem?_getD, List.getElem?_eq_getElem hi']; exact List.getElem_mem _
      simp only [h1, h10, h11, hrow, nodeRows_len, NodeD.row, go_sem, Nat.reduceEqDiff, reduceIte, Int.reduceEq, Int.reduceLT, Int.reduceLE, Nat.reduceAdd, Nat.reduceLT, Nat.reduceLeDiff, Int.reduceToNat, Int.reduceSub, Int.reduceAdd, Int.reduceNeg]
      refine ⟨hb, hi', ?_⟩
      refine o_pcall (args' := [.isl (strRows (d.nodes.getD i default).after)]) rfl (cloneS_pure hP _ (ha _ hmem)) (fun m => rfl) ?_
      simp only [h1, h10, h11, hrow, nodeRows_len, NodeD.row, go_sem, Nat.reduceEqDiff, reduceIte, Int.reduceEq, Int.reduceLT, Int.reduceLE, Nat.reduceAdd, Nat.reduceLT, Nat.reduceLeDiff, Int.reduceToNat, Int.reduceSub, Int.reduceAdd, Int.reduceNeg]
      refine ⟨hb, hi', d.nodes.length - (i + 1), by omega, i + 1, by omega, rfl, ?_, by rw [wrap64 (by omega) (by omega)]; rfl⟩
      have h2 := nodeRows_set d.nodes i hi'
      simp only [NodeD.row] at h2
      rw [h2]
    · try simp only [h1, h10, h11, go_sem, Nat.reduceEqDiff, reduceIte, Int.reduceEq, Int.reduceLT, Int.reduceLE, Nat.reduceAdd, Nat.reduceLT, Nat.reduceLeDiff, Int.reduceToNat, Int.reduceSub, Int.reduceAdd, Int.reduceNeg]
      refine conv_fn rfl (mapO_cons (conv_ptr_free rfl rfl (mapO_cons (mapO_cons rfl (mapO_cons (conv_sl_free rfl rfl (by rw [nodeRows_len]; omega) ?_) rfl)) rfl)) rfl)
      rw [List.drop_zero, List.take_of_length_le (by rw [nodeRows_len]; omega)]
      exact mapO_nodes _ _ _ _
end
end Go.X.TrydW
end
section
open Go Go.X Go.Proofs
set_option maxRecDepth 100000
set_option maxHeartbeats 4000000
set_option linter.unusedSimpArgs false
set_option linter.unusedVariables false
namespace Go.X.TrydW
def x19a : XC :=
 (.seq (.ops [ ⟨(some 5), (.mov (.t 17)), none⟩]) (.ops [ ⟨(some 6), (.alloc [(.str []), (.int .i64 0), (.str []), (.str []), (.int .i64 0), (.int .i64 0), .nsl]), none⟩, ⟨none, (.store 7 (.t 6) (.t 18)), none⟩]))
def x19b : XC :=
 (.block 1 (.seq (.ops [ ⟨(some 19), (.load1 (.t 3)), none⟩, ⟨(some 20), (.mov (.t 5)), none⟩, ⟨(some 21), (.idxS 1 (.t 19) (.t 20)), none⟩, ⟨none, (.store 1 (.t 21) (.c (.int .i64 1))), none⟩]) (.seq (.seq (.ops [ ⟨(some 22), (.fldA 6 (.t 6)), none⟩, ⟨(some 23), (.load1 (.t 22)), none⟩, ⟨(some 24), (.len (.t 23)), none⟩, ⟨(some 25), (.mov (.c (.int .i64 0))), none⟩]) (.block 2 (.loop (.seq (.ops [ ⟨(some 26), (.bin .lss (.t 25) (.t 24)), none⟩]) (.seq (.cond (.t 26) .skip (.exit 2)) (.seq (.block 3 (.seq (.ops [ ⟨(some 27), (.idxS 1 (.t 23) (.t 25)), none⟩, ⟨(some 28), (.load1 (.t 27)), none⟩, ⟨(some 8), (.mov (.t 28)), none⟩]) (.seq (.ops [ ⟨(some 30), (.loadN 2 (.t 1)), none⟩, ⟨(some 31), (.mov (.t 8)), none⟩, ⟨(some 32), (.call (.f 29) [(.t 30), (.t 31)]), none⟩, ⟨(some 29), (.mov (.t 32)), none⟩, ⟨(some 33), (.ext (.t 29) 0), none⟩, ⟨(some 34), (.ext (.t 29) 1), none⟩, ⟨(some 9), (.mov (.t 33)), none⟩, ⟨(some 10), (.mov (.t 34)), none⟩]) (.drawE [ ⟨(some 35), (.load1 (.t 3)), none⟩, ⟨(some 36), (.mov (.t 5)), none⟩, ⟨(some 37), (.load1 (.t 3)), none⟩, ⟨(some 38), (.mov (.t 5)), none⟩, ⟨(some 39), (.idxS 1 (.t 37) (.t 38)), none⟩, ⟨(some 40), (.load1 (.t 39)), none⟩, ⟨(some 41), (.load1 (.t 3)), none⟩, ⟨(some 42), (.mov (.t 9)), none⟩, ⟨(some 43), (.idxS 1 (.t 41) (.t 42)), none⟩, ⟨(some 44), (.load1 (.t 43)), none⟩, ⟨(some 45), (.bin .add (.t 44) (.c (.int .i64 1))), none⟩, ⟨(some 46), (.max2 (.t 40) (.t 45)), none⟩, ⟨(some 47), (.idxS 1 (.t 35) (.t 36)), none⟩, ⟨none, (.store 1 (.t 47) (.t 46)), none⟩])))) (.ops [ ⟨(some 48), (.bin .add (.t 25) (.c (.int .i64 1))), none⟩, ⟨(some 25), (.mov (.t 48)), none⟩]))))))) (.drawE [ ⟨(some 49), (.load1 (.t 4)), none⟩, ⟨(some 50), (.load1 (.t 3)), none⟩, ⟨(some 51), (.mov (.t 5)), none⟩, ⟨(some 52), (.idxS 1 (.t 50) (.t 51)), none⟩, ⟨(some 53), (.load1 (.t 52)), none⟩, ⟨(some 54), (.max2 (.t 49) (.t 53)), none⟩, ⟨none, (.store 1 (.t 4) (.t 54)), none⟩]))))
def x19 : XC :=
 (.seq (.ops [ ⟨(some 1), (.box (.t 0)), none⟩, ⟨(some 2), (.mov (.c (.int .i64 0))), none⟩]) (.seq (.ops [ ⟨(some 11), (.fldA 1 (.t 1)), none⟩, ⟨(some 12), (.load1 (.t 11)), none⟩, ⟨(some 13), (.len (.t 12)), none⟩, ⟨(some 14), (.mkslice [(.int .i64 0)] 8 (.t 13) (.t 13)), none⟩, ⟨(some 3), (.alloc [.nsl]), none⟩, ⟨none, (.store 1 (.t 3) (.t 14)), none⟩]) (.seq (.ops [ ⟨(some 4), (.alloc [(.int .i64 0)]), none⟩, ⟨none, (.store 1 (.t 4) (.c (.int .i64 0))), none⟩]) (.seq (.seq (.ops [ ⟨(some 15), (.loadN 2 (.t 1)), none⟩, ⟨(some 16), (.call (.f 34) [(.t 15)]), none⟩]) (.block 0 (.rngF (.t 16) 56 [17, 18] x19a x19b))) (.seq (.ops [ ⟨(some 55), (.load1 (.t 4)), none⟩, ⟨(some 2), (.mov (.t 55)), none⟩]) .ret)))))
/- "tiller/dag.Walk$1" params { toList := [71] } results { toList := [] } -/
def x47 : XC :=
 (.seq
  (.ops [
    ⟨(some 9), (.loadN 2 (.t 1)), none⟩,
    ⟨(some 10), (.call (.f 17) [(.t 9)]), none⟩,
    ⟨(some 8), (.mov (.t 10)), none⟩,
    ⟨(some 11), (.ext (.t 8) 0), none⟩,
    ⟨(some 12), (.ext (.t 8) 1), none⟩,
    ⟨(some 3), (.mov (.t 11)), none⟩,
    ⟨(some 4), (.mov (.t 12)), none⟩])
  (.seq
   (.ops [
     ⟨(some 13), (.mov (.t 3)), none⟩,
     ⟨(some 14), (.len (.t 13)), none⟩,
     ⟨(some 15), (.mov (.c (.int .i64 0))), none⟩])
   (.block 0
    (.loop
     (.seq
      (.ops [
        ⟨(some 16), (.bin .lss (.t 15) (.t 14)), none⟩])
      (.seq
       (.cond (.t 16)
        .skip
        (.exit 0))
       (.seq
        (.block 1
         (.seq
          (.ops [
            ⟨(some 17), (.idxS 1 (.t 13) (.t 15)), none⟩,
            ⟨(some 18), (.load1 (.t 17)), none⟩,
            ⟨(some 6), (.mov (.t 18)), none⟩])
          (.seq
           (.ops [
             ⟨(some 19), (.fldA 1 (.t 1)), none⟩,
             ⟨(some 20), (.load1 (.t 19)), none⟩,
             ⟨(some 21), (.mov (.t 6)), none⟩,
             ⟨(some 22), (.idxS 7 (.t 20) (.t 21)), none⟩,
             ⟨(some 23), (.loadN 7 (.t 22)), none⟩,
             ⟨(some 7), (.alloc [(.str []), (.int .i64 0), (.str []), (.str []), (.int .i64 0), (.int .i64 0), .nsl]), none⟩,
             ⟨none, (.store 7 (.t 7) (.t 23)), none⟩])
           (.seq
            (.ops [
              ⟨(some 24), (.fldA 6 (.t 7)), none⟩,
              ⟨(some 25), (.load1 (.t 24)), none⟩,
              ⟨(some 26), (.call (.f 46) [(.t 25)]), none⟩,
              ⟨(some 27), (.fldA 6 (.t 7)), none⟩,
              ⟨none, (.store 1 (.t 27) (.t 26)), none⟩])
            (.seq
             (.ops [
               ⟨(some 28), (.mov (.t 0)), none⟩,
               ⟨(some 29), (.mov (.t 6)), none⟩,
               ⟨(some 30), (.loadN 7 (.t 7)), none⟩,
               ⟨(some 31), (.call (.t 28) [(.t 29), (.t 30)]), none⟩,
               ⟨(some 32), (.un .not (.t 31)), none⟩])
             (.cond (.t 32)
              .ret
              .skip))))))
        (.ops [
          ⟨(some 33), (.bin .add (.t 15) (.c (.int .i64 1))), none⟩,
          ⟨(some 15), (.mov (.t 33)), none⟩]))))))))

section
variable {E : Env}
def findK (d : DefD) (s : List UInt8) : Nat := (d.find s).getD 0
theorem findN_eq (d : DefD) (s : List UInt8) : findN (d.find s) = (findK d s : Int) := by
  unfold findK findN; cases d.find s <;> rfl
theorem findK_lt (d : DefD) (s : List UInt8) (h : 0 < d.nodes.length) : findK d s < d.nodes.length := by
  unfold findK
  cases hf : d.find s with
  | none => exact h
  | some i => exact firstI_lt hf
/-- One edge. -/
def stepIn (d : DefD) (i : Nat) (deep : List Nat) (s : List UInt8) : List Nat := deep.set i (max (deep.getD i 0) (deep.getD (findK d s) 0 + 1))
/-- One node. -/
def deepOf (d : DefD) (deep : List Nat) (i : Nat) (k : Nat) : List Nat := (((d.nodes.getD i default).after).take k).foldl (stepIn d i) (deep.set i 1)
def stepD (d : DefD) (st : List Nat × Nat) (i : Nat) : List Nat × Nat :=
  let deep := deepOf d st.1 i (d.nodes.getD i default).after.length
  (deep, max st.2 (deep.getD i 0))
def DefD.depth (d : DefD) : Nat := (d.order.foldl (stepD d) (List.replicate d.nodes.length 0, 0)).2

def LeAll (B : Nat) (l : List Nat) : Prop := ∀ k, l.getD k 0 ≤ B
theorem LeAll.set {B v i : Nat} {l : List Nat} (h : LeAll B l) (hv : v ≤ B) : LeAll B (l.set i v) := by
  intro k
  have := h k
  rw [List.getD_eq_getElem?_getD] at this ⊢
  rw [List.getElem?_set]
  split
  · split
    · exact hv
    · exact Nat.zero_le _
  · exact this
theorem LeAll.mono {B B' : Nat} {l : List Nat} (h : LeAll B l) (hb : B ≤ B') : LeAll B' l := fun k => Nat.le_trans (h k) hb
theorem LeAll.step {B i : Nat} {l : List Nat} {d : DefD} {s : List UInt8} (h : LeAll B l) : LeAll (B + 1) (stepIn d i l s) :=
  LeAll.set (h.mono (Nat.le_succ B)) (Nat.max_le.2 ⟨Nat.le_succ_of_le (h i), Nat.succ_le_succ (h _)⟩)
theorem stepIn_len (d : DefD) (i : Nat) (l : List Nat) (s : List UInt8) : (stepIn d i l s).length = l.length := List.length_set ..
theorem deepOf_len (d : DefD) (l : List Nat) (i k : Nat) : (deepOf d l i k).length = l.length := by
  unfold deepOf
  have : ∀ (a : List (List UInt8)) (l : List Nat), (a.foldl (stepIn d i) l).length = l.length := by
    intro a
    induction a with
    | nil => intro l; rfl
    | cons s a ih => intro l; rw [List.foldl_cons, ih, stepIn_len]
  rw [this, List.length_set]
theorem deepOf_le (d : DefD) {B : Nat} {l : List Nat} (h : LeAll B l) (i k : Nat) : LeAll (B + 1 + k) (deepOf d l i k) := by
  unfold deepOf
  have : ∀ (a : List (List UInt8)) (l : List Nat) (B : Nat), LeAll B l → LeAll (B + a.length) (a.foldl (stepIn d i) l) := by
    intro a
    induction a with
    | nil => intro l B h; exact h
    | cons s a ih =>
      intro l B h
      rw [List.foldl_cons]
      exact (ih _ _ h.step).mono (by simp; omega)
  exact (this _ _ _ ((h.mono (Nat.le_succ B)).set (by omega))).mono (by
    have := List.length_take_le k (d.nodes.getD i default).after; omega)
theorem deepOf_succ (d : DefD) (l : List Nat) (i k : Nat) (h : k < (d.nodes.getD i default).after.length) : deepOf d l i (k + 1) = stepIn d i (deepOf d l i k) ((d.nodes.getD i default).after.getD k []) := by
  unfold deepOf
  have h2 : (d.nodes.getD i default).after[k]? = some ((d.nodes.getD i default).after.getD k []) := getD_get h
  rw [List.take_add_one, List.foldl_append, h2]
  rfl
theorem get5 {a b c e f x : Blk} {J : List Blk} : (a :: b :: c :: e :: f :: (J ++ [x]))[J.length + 5]? = some x := by simp
theorem intRows_get {l : List Nat} {i : Nat} (h : i < l.length) : (intRows l).getD i [] = [.int .i64 ((l.getD i 0 : Nat) : Int)] := by
  simp [intRows, List.getD_eq_getElem?_getD, List.getElem?_eq_getElem h]
theorem intRows_set (l : List Nat) (i v : Nat) : (intRows l).set i [.int .i64 (v : Int)] = intRows (l.set i v) := by simp [intRows, List.map_set]
theorem max_cast (a b : Nat) : (if (a : Int) < (b : Int) then (b : Int) else (a : Int)) = ((max a b : Nat) : Int) := by
  split <;> omega

def depB (d : DefD) (deep : List Nat) (longest : Nat) (lp : Blk) (J : List Blk) : List Blk :=
  .cells 2 [[.str d.name, .isl (nodeRows d.nodes)]] :: .cells 1 (intRows deep) :: .cells 1 [[.sl 1 0 d.nodes.length d.nodes.length]] :: .cells 1 [[.int .i64 (longest : Int)]] :: lp :: J

theorem round_run (hP : E.P = Tryd.prog) (d : DefD) (hd : d.nodes.length ≤ 1000000) (ha : ∀ n ∈ d.nodes, n.after.length ≤ 1000000) {i : Nat} (hi : i < d.nodes.length) {deep : List Nat} {longest B : Nat} (hlen : deep.length = d.nodes.length)
    (hB : LeAll B deep) (hBl : longest ≤ B) (hBB : B ≤ 1000000000000000) (lp : Blk) (J : List Blk) (s : Nat) {ρ : Rho} (hs : s = J.length + 5) (h1 : ρ 1 = .ptr 0 0 0) (h3 : ρ 3 = .ptr 2 0 0) (h4 : ρ 4 = .ptr 3 0 0) (h5 : ρ 5 = .int .i64 i) (h6 : ρ 6 = .ptr s 0 0) :
    xrun E x19b ρ (depB d deep longest lp (J ++ [.cells 7 [(d.nodes.getD i default).row]])) fun e _ L' => e = .normal ∧
      L' = depB d (stepD d (deep, longest) i).1 (stepD d (deep, longest) i).2 lp (J ++ [.cells 7 [(d.nodes.getD i default).row]]) := by
  have hmem : d.nodes.getD i default ∈ d.nodes := by rw [List.getD_eq_getElem?_getD, List.getElem?_eq_getElem hi]; exact List.getElem_mem _
  have haf := ha _ hmem
  generalize hnd : d.nodes.getD i default = nd at *
  unfold depB
  unfold x19b
  subst hs
  have hnl : 0 < d.nodes.length := by omega
  have hrow0 := intRows_get (l := deep) (i := i) (by omega)
  have hil : (intRows deep).length = d.nodes.length := by rw [← hlen]; simp [intRows]
  have hset0 : (intRows deep).set i [.int .i64 1] = intRows (deepOf d deep i 0) := intRows_set deep i 1
  simp only [h1, h3, h4, h5, h6, NodeD.row, get5, hrow0, hil, hset0, strRows_len, go_sem, Nat.reduceEqDiff, reduceIte, Int.reduceEq, Int.reduceLT, Int.reduceLE, Nat.reduceAdd, Nat.reduceLT, Nat.reduceLeDiff, Int.reduceToNat, Int.reduceSub, Int.reduceAdd, Int.reduceNeg]
  refine ⟨by omega, hi, ?_⟩
  refine s_loop (fun n' ρ L => ∃ k : Nat, k ≤ nd.after.length ∧ n' = nd.after.length - k ∧ L = depB d (deepOf d deep i k) longest lp (J ++ [.cells 7 [nd.row]]) ∧
      ρ 1 = .ptr 0 0 0 ∧ ρ 3 = .ptr 2 0 0 ∧ ρ 4 = .ptr 3 0 0 ∧ ρ 5 = .int .i64 i ∧ ρ 23 = .isl (strRows nd.after) ∧ ρ 24 = .int .i64 nd.after.length ∧ ρ 25 = .int .i64 k)
    ⟨0, Nat.zero_le _, rfl, rfl, by simp only [h1, go_sem, Nat.reduceEqDiff, reduceIte, Int.reduceEq, Int.reduceLT, Int.reduceLE, Nat.reduceAdd, Nat.reduceLT, Nat.reduceLeDiff, Int.reduceToNat, Int.reduceSub, Int.reduceAdd, Int.reduceNeg], by simp only [h3, go_sem, Nat.reduceEqDiff, reduceIte, Int.reduceEq, Int.reduceLT, Int.reduceLE, Nat.reduceAdd, Nat.reduceLT, Nat.reduceLeDiff, Int.reduceToNat, Int.reduceSub, Int.reduceAdd, Int.reduceNeg], by simp only [h4, go_sem, Nat.reduceEqDiff, reduceIte, Int.reduceEq, Int.reduceLT, Int.reduceLE, Nat.reduceAdd, Nat.reduceLT, Nat.reduceLeDiff, Int.reduceToNat, Int.reduceSub, Int.reduceAdd, Int.reduceNeg], by simp only [h5, go_sem, Nat.reduceEqDiff, reduceIte, Int.reduceEq, Int.reduceLT, Int.reduceLE, Nat.reduceAdd, Nat.reduceLT, Nat.reduceLeDiff, Int.reduceToNat, Int.reduceSub, Int.reduceAdd, Int.reduceNeg], by simp only [go_sem, Nat.reduceEqDiff, reduceIte, Int.reduceEq, Int.reduceLT, Int.reduceLE, Nat.reduceAdd, Nat.reduceLT, Nat.reduceLeDiff, Int.reduceToNat, Int.reduceSub, Int.reduceAdd, Int.reduceNeg], by simp only [go_sem, Nat.reduceEqDiff, reduceIte, Int.reduceEq, Int.reduceLT, Int.reduceLE, Nat.reduceAdd, Nat.reduceLT, Nat.reduceLeDiff, Int.reduceToNat, Int.reduceSub, Int.reduceAdd, Int.reduceNeg], by simp only [go_sem, Nat.reduceEqDiff, reduceIte, Int.reduceEq, Int.reduceLT, Int.reduceLE, Nat.reduceAdd, Nat.reduceLT, Nat.reduceLeDiff, Int.reduceToNat, Int.reduceSub, Int.reduceAdd, Int.reduceNeg]; try rfl⟩ ?_
  clear h1 h3 h4 h5 h6 ρ
  rintro n' ρ L ⟨k, hk, rfl, rfl, h1, h3, h4, h5, h23, h24, h25⟩
  have hdl : (deepOf d deep i k).length = d.nodes.length := by rw [deepOf_len]; exact hlen
  have hdB := deepOf_le d hB i k
  generalize hdp : deepOf d deep i k = dp at *
  have hrow := intRows_get (l := dp) (i := i) (by omega)
  have hil2 : (intRows dp).length = d.nodes.length := by rw [← hdl]; simp [intRows]
  unfold depB
  simp only [h1, h3, h4, h5, h23, h24, h25, go_sem, Nat.reduceEqDiff, reduceIte, Int.reduceEq, Int.reduceLT, Int.reduceLE, Nat.reduceAdd, Nat.reduceLT, Nat.reduceLeDiff, Int.reduceToNat, Int.reduceSub, Int.reduceAdd, Int.reduceNeg]
  refine s_cond (b := decide _) (by simp only [h1, h3, h4, h5, h23, h24, h25, strRows_len, rows_strs, go_sem, Nat.reduceEqDiff, reduceIte, Int.reduceEq, Int.reduceLT, Int.reduceLE, Nat.reduceAdd, Nat.reduceLT, Nat.reduceLeDiff, Int.reduceToNat, Int.reduceSub, Int.reduceAdd, Int.reduceNeg]; try rfl) ?_ ?_ <;> intro hb <;> simp only [hb, h1, h3, h4, h5, h23, h24, h25, strRows_len, rows_strs, go_sem, Nat.reduceEqDiff, reduceIte, Int.reduceEq, Int.reduceLT, Int.reduceLE, Nat.reduceAdd, Nat.reduceLT, Nat.reduceLeDiff, Int.reduceToNat, Int.reduceSub, Int.reduceAdd, Int.reduceNeg]
  · rw [decide_eq_true_eq] at hb
    have hk' : k < nd.after.length := by omega
    have hsr := strRows_get hk'
    refine ⟨hb, ?_⟩
    simp only [h1, h3, h4, h5, h23, h24, h25, hsr, strRows_len, go_sem, Nat.reduceEqDiff, reduceIte, Int.reduceEq, Int.reduceLT, Int.reduceLE, Nat.reduceAdd, Nat.reduceLT, Nat.reduceLeDiff, Int.reduceToNat, Int.reduceSub, Int.reduceAdd, Int.reduceNeg]
    refine ⟨hk', ?_⟩
    refine xcall_pure (args' := [d.iv, .str (nd.after.getD k [])]) rfl (dagFind_pure hP d _ (by omega)) rfl ?_
    have hfk := findK_lt d (nd.after.getD k []) hnl
    have hrk := intRows_get (l := dp) (i := findK d (nd.after.getD k [])) (by omega)
    simp only [h1, h3, h4, h5, h23, h24, h25, findN_eq, hrow, hrk, hil2, go_sem, Nat.reduceEqDiff, reduceIte, Int.reduceEq, Int.reduceLT, Int.reduceLE, Nat.reduceAdd, Nat.reduceLT, Nat.reduceLeDiff, Int.reduceToNat, Int.reduceSub, Int.reduceAdd, Int.reduceNeg]
    have hw : IntKind.wrap .i64 (((dp.getD (findK d (nd.after.getD k [])) 0 : Nat) : Int) + 1) = ((dp.getD (findK d (nd.after.getD k [])) 0 + 1 : Nat) : Int) := by
      have := hdB (findK d (nd.after.getD k []))
      rw [wrap64 (by omega) (by omega)]; rfl
    refine ⟨by omega, hi, by omega, hfk, by omega, hi, nd.after.length - (k + 1), by omega, k + 1, by omega, rfl, ?_, by rw [wrap64 (by omega) (by omega)]; rfl⟩
    rw [hw, deepOf_succ d deep i k (by rw [hnd]; exact hk'), hdp, hnd]
    simp only [gt_iff_lt, max_cast, intRows_set]
    rfl
  · rw [decide_eq_false_iff_not] at hb
    have hkk : k = nd.after.length := by omega
    simp only [h1, h3, h4, h5, h23, h24, h25, hrow, hil2, go_sem, Nat.reduceEqDiff, reduceIte, Int.reduceEq, Int.reduceLT, Int.reduceLE, Nat.reduceAdd, Nat.reduceLT, Nat.reduceLeDiff, Int.reduceToNat, Int.reduceSub, Int.reduceAdd, Int.reduceNeg]
    have hst : stepD d (deep, longest) i = (dp, max longest (dp.getD i 0)) := by
      unfold stepD
      simp only [hnd]
      rw [← hkk, hdp]
    refine ⟨by omega, hi, ?_⟩
    rw [hst]
    simp only [gt_iff_lt, max_cast]
    try rfl

theorem ordGo_facts (d : DefD) : ∀ (n : Nat) (told : List Bool) (out : List Nat), (d.ordGo n told out).length ≤ out.length + n ∧ ∀ i ∈ d.ordGo n told out, i ∈ out ∨ i < d.nodes.length
  | 0, told, out => ⟨by simp [DefD.ordGo], fun i hi => .inl hi⟩
  | n + 1, told, out => by
    rw [DefD.ordGo]
    split
    · exact ⟨by omega, fun i hi => .inl hi⟩
    · rename_i i0 hf
      obtain ⟨h1, h2⟩ := ordGo_facts d n (told.set i0 true) (out ++ [i0])
      refine ⟨by simp at h1; omega, fun i hi => ?_⟩
      rcases h2 i hi with h | h
      · rcases List.mem_append.1 h with h | h
        · exact .inl h
        · have := firstI_lt hf
          simp at h this; subst h; exact .inr this
      · exact .inr h
theorem order_len (d : DefD) : d.order.length ≤ d.nodes.length + 1 := by have := (ordGo_facts d (d.nodes.length + 1) (List.replicate d.nodes.length false) []).1; simpa [DefD.order] using this
theorem order_lt (d : DefD) {i : Nat} (h : i ∈ d.order) : i < d.nodes.length := by
  rcases (ordGo_facts d (d.nodes.length + 1) (List.replicate d.nodes.length false) []).2 i h with h | h
  · cases h
  · exact h
theorem stepD_facts (d : DefD) (ha : ∀ n ∈ d.nodes, n.after.length ≤ 1000000) : ∀ (l : List Nat) (st : List Nat × Nat) (B : Nat), (∀ i ∈ l, i < d.nodes.length) → LeAll B st.1 → st.2 ≤ B →
    (l.foldl (stepD d) st).1.length = st.1.length ∧ LeAll (B + l.length * 1000001) (l.foldl (stepD d) st).1 ∧ (l.foldl (stepD d) st).2 ≤ B + l.length * 1000001
  | [], st, B, _, h1, h2 => ⟨rfl, by simpa using h1, by simpa using h2⟩
  | i :: l, st, B, hl, h1, h2 => by
    rw [List.foldl_cons]
    have hi := hl i List.mem_cons_self
    have hmem : d.nodes.getD i default ∈ d.nodes := by rw [List.getD_eq_getElem?_getD, List.getElem?_eq_getElem hi]; exact List.getElem_mem _
    have haf := ha _ hmem
    have h3 : LeAll (B + 1000001) (stepD d st i).1 := (deepOf_le d h1 i _).mono (by omega)
    have h4 : (stepD d st i).2 ≤ B + 1000001 := Nat.max_le.2 ⟨by omega, h3 i⟩
    obtain ⟨h5, h6, h7⟩ := stepD_facts d ha l (stepD d st i) (B + 1000001) (fun j hj => hl j (List.mem_cons_of_mem _ hj)) h3 h4
    have e : B + 1000001 + l.length * 1000001 = B + (i :: l).length * 1000001 := by simp only [List.length_cons]; omega
    rw [e] at h6 h7
    exact ⟨by rw [h5]; exact deepOf_len d st.1 i _, h6, h7⟩

theorem rows_ints (l : List Nat) : Rows 1 (intRows l) := by
  intro row h
  obtain ⟨n, _, rfl⟩ := List.mem_map.1 h
  rfl
theorem get5' {a b c e f x : Blk} {J : List Blk} : (a :: b :: c :: e :: f :: (J ++ [x]))[J.length + 1 + 1 + 1 + 1 + 1]? = some x := by simp
theorem set5' {a b c e f x y : Blk} {J : List Blk} : (a :: b :: c :: e :: f :: (J ++ [x])).set (J.length + 1 + 1 + 1 + 1 + 1) y = a :: b :: c :: e :: f :: (J ++ [y]) := by simp
theorem comp47 : compFn Tryd.prog Tryd.f47 = some ⟨Tryd.f47.ntmps, [], x47⟩ := by kernel_rfl
theorem putPs_len (l : List IV) (ps : List Nat) (as' : List IV) : (putPs l ps as').length = l.length := by
  unfold putPs
  generalize ps.zip as' = q
  induction q generalizing l with
  | nil => rfl
  | cons p q ih => rw [List.foldl_cons, ih, List.length_set]
theorem rho_set {l : List IV} {p n : Nat} {v : IV} (h : p < l.length) : rhoOf (l.set p v) n = if n = p then v else rhoOf l n := by
  unfold rhoOf
  rw [List.getD_eq_getElem?_getD, List.getElem?_set]
  by_cases hn : n = p
  · subst hn; rw [if_pos rfl, if_pos h, if_pos rfl]; rfl
  · rw [if_neg (Ne.symm hn), if_neg hn, List.getD_eq_getElem?_getD]

theorem depth_loop (hP : E.P = Tryd.prog) (d : DefD) (hd : d.nodes.length ≤ 1000000) (ha : ∀ n ∈ d.nodes, n.after.length ≤ 1000000) (ρ' : Rho) (h1 : ρ' 1 = .ptr 0 0 0) (h3 : ρ' 3 = .ptr 2 0 0) (h4 : ρ' 4 = .ptr 3 0 0)
    (h16 : ρ' 16 = .fn (.func 47) [] [.iptr [[.str d.name, .isl (nodeRows d.nodes)]] 0 0]) (hcv : ∀ (L : List Blk) (n : Nat), conv L 12 (renLeave 5 []) (ρ' n) = some (ρ' n)) {K : XE → Rho → List Blk → Prop}
    (hK : K .normal ρ' [.cells 2 [[.str d.name, .isl (nodeRows d.nodes)]], .cells 1 (intRows (d.order.foldl (stepD d) (List.replicate d.nodes.length 0, 0)).1), .cells 1 [[.sl 1 0 d.nodes.length d.nodes.length]], .cells 1 [[.int .i64 (d.depth : Int)]], .dead]) :
    xrun E (.rngF (.t 16) 56 [17, 18] x19a x19b) ρ' [.cells 2 [[.str d.name, .isl (nodeRows d.nodes)]], .cells 1 (List.replicate d.nodes.length [.int .i64 0]), .cells 1 [[.sl 1 0 d.nodes.length d.nodes.length]], .cells 1 [[.int .i64 0]]] K := by
  have hrep : List.replicate d.nodes.length [IV.int .i64 0] = intRows (List.replicate d.nodes.length 0) := by simp [intRows]
  rw [hrep]
  refine s_rngF (gf := 47) (fn := Tryd.f47) (F := ⟨Tryd.f47.ntmps, [], x47⟩) h16 (by rw [hP]; rfl) (by rw [hP]; exact comp47) (by decide) (Nat.le_of_ble_eq_true rfl) ?_
  intro r0 hst hpe hlc
  have hll : ((List.range 56).map ρ').length = 56 := by simp
  have hl : ∀ n, n < 56 → rhoOf ((List.range 56).map ρ') n = ρ' n := fun n hn => list_getD hn
  have hlcv : ∀ L, mapO (conv L 12 (renLeave 5 [])) ((List.range 56).map ρ') = some ((List.range 56).map ρ') := fun L => mapO_same fun x hx => by
    obtain ⟨n, _, rfl⟩ := List.mem_map.1 hx
    exact hcv L n
  generalize (List.range 56).map ρ' = l at *
  refine xfun0 ?_
  generalize hρ : entry _ = ρ
  have g0 : ρ 0 = .yld 4 := by rw [← hρ]; rfl
  have g1 : ρ 1 = .iptr [[.str d.name, .isl (nodeRows d.nodes)]] 0 0 := by rw [← hρ]; rfl
  clear hρ
  unfold x47
  simp only [g0, g1, go_sem, Nat.reduceEqDiff, reduceIte, Int.reduceEq, Int.reduceLT, Int.reduceLE, Nat.reduceAdd, Nat.reduceLT, Nat.reduceLeDiff, Int.reduceToNat, Int.reduceSub, Int.reduceAdd, Int.reduceNeg]
  refine xcall_pure (args' := [d.iv]) rfl (order_pure (E := E.withY 56 [17, 18] x19a x19b) hP d hd (fun n hn => by have := ha n hn; omega)) rfl ?_
  simp only [g0, g1, go_sem, Nat.reduceEqDiff, reduceIte, Int.reduceEq, Int.reduceLT, Int.reduceLE, Nat.reduceAdd, Nat.reduceLT, Nat.reduceLeDiff, Int.reduceToNat, Int.reduceSub, Int.reduceAdd, Int.reduceNeg]
  have hol := order_len d
  refine s_loop (fun n' ρ L => ∃ j : Nat, j ≤ d.order.length ∧ n' = d.order.length - j ∧ (∃ J, L = depB d ((d.order.take j).foldl (stepD d) (List.replicate d.nodes.length 0, 0)).1 ((d.order.take j).foldl (stepD d) (List.replicate d.nodes.length 0, 0)).2 (.lp r0 l) J) ∧
      ρ 0 = .yld 4 ∧ ρ 1 = .iptr [[.str d.name, .isl (nodeRows d.nodes)]] 0 0 ∧ ρ 13 = .isl (intRows d.order) ∧ ρ 14 = .int .i64 d.order.length ∧ ρ 15 = .int .i64 j)
    ⟨0, Nat.zero_le _, rfl, ⟨[], rfl⟩, by simp only [g0, go_sem, Nat.reduceEqDiff, reduceIte, Int.reduceEq, Int.reduceLT, Int.reduceLE, Nat.reduceAdd, Nat.reduceLT, Nat.reduceLeDiff, Int.reduceToNat, Int.reduceSub, Int.reduceAdd, Int.reduceNeg], by simp only [g1, go_sem, Nat.reduceEqDiff, reduceIte, Int.reduceEq, Int.reduceLT, Int.reduceLE, Nat.reduceAdd, Nat.reduceLT, Nat.reduceLeDiff, Int.reduceToNat, Int.reduceSub, Int.reduceAdd, Int.reduceNeg], by simp only [go_sem, Nat.reduceEqDiff, reduceIte, Int.reduceEq, Int.reduceLT, Int.reduceLE, Nat.reduceAdd, Nat.reduceLT, Nat.reduceLeDiff, Int.reduceToNat, Int.reduceSub, Int.reduceAdd, Int.reduceNeg], by simp only [intRows_len, go_sem, Nat.reduceEqDiff, reduceIte, Int.reduceEq, Int.reduceLT, Int.reduceLE, Nat.reduceAdd, Nat.reduceLT, Nat.reduceLeDiff, Int.reduceToNat, Int.reduceSub, Int.reduceAdd, Int.reduceNeg], by simp only [go_sem, Nat.reduceEqDiff, reduceIte, Int.reduceEq, Int.reduceLT, Int.reduceLE, Nat.reduceAdd, Nat.reduceLT, Nat.reduceLeDiff, Int.reduceToNat, Int.reduceSub, Int.reduceAdd, Int.reduceNeg]; try rfl⟩ ?_
  clear g0 g1 ρ
  rintro n' ρ L ⟨j, hj, rfl, ⟨J, rfl⟩, g0, g1, g13, g14, g15⟩
  unfold depB
  simp only [g0, g1, g13, g14, g15, go_sem, Nat.reduceEqDiff, reduceIte, Int.reduceEq, Int.reduceLT, Int.reduceLE, Nat.reduceAdd, Nat.reduceLT, Nat.reduceLeDiff, Int.reduceToNat, Int.reduceSub, Int.reduceAdd, Int.reduceNeg]
  refine s_cond (b := decide _) (by simp only [g0, g1, g13, g14, g15, intRows_len, go_sem, Nat.reduceEqDiff, reduceIte, Int.reduceEq, Int.reduceLT, Int.reduceLE, Nat.reduceAdd, Nat.reduceLT, Nat.reduceLeDiff, Int.reduceToNat, Int.reduceSub, Int.reduceAdd, Int.reduceNeg]; try rfl) ?_ ?_ <;> intro hb <;> simp only [hb, g0, g1, g13, g14, g15, intRows_len, go_sem, Nat.reduceEqDiff, reduceIte, Int.reduceEq, Int.reduceLT, Int.reduceLE, Nat.reduceAdd, Nat.reduceLT, Nat.reduceLeDiff, Int.reduceToNat, Int.reduceSub, Int.reduceAdd, Int.reduceNeg]
  · rw [decide_eq_true_eq] at hb
    have hj' : j < d.order.length := by omega
    have hi : d.order.getD j 0 < d.nodes.length := order_lt d (by rw [List.getD_eq_getElem?_getD, List.getElem?_eq_getElem hj']; exact List.getElem_mem _)
    have hmem : d.nodes.getD (d.order.getD j 0) default ∈ d.nodes := by rw [List.getD_eq_getElem?_getD, List.getElem?_eq_getElem hi]; exact List.getElem_mem _
    have hrow := nodeRows_get hi
    have hor := intRows_get hj'
    obtain ⟨f1, f2, f3⟩ := stepD_facts d ha (d.order.take j) (List.replicate d.nodes.length 0, 0) 0 (fun i hi => order_lt d (List.mem_of_mem_take hi)) (fun k => by simp [List.getD_eq_getElem?_getD, List.getElem?_replicate]; split <;> simp) (Nat.le_refl 0)
    have htk : (d.order.take (j + 1)).foldl (stepD d) (List.replicate d.nodes.length 0, 0) = stepD d ((d.order.take j).foldl (stepD d) (List.replicate d.nodes.length 0, 0)) (d.order.getD j 0) := by
      rw [List.take_add_one, List.foldl_append, getD_get (d := 0) hj']; rfl
    generalize (d.order.take j).foldl (stepD d) (List.replicate d.nodes.length 0, 0) = st at *
    have hlt : (d.order.take j).length ≤ 1000001 := by rw [List.length_take]; omega
    have hBB : 0 + (d.order.take j).length * 1000001 ≤ 1000000000000000 := by omega
    generalize hid : d.order.getD j 0 = i at *
    simp only [g0, g1, g13, g14, g15, intRows_len, rows_ints, rows_nodes, hor, hrow, nodeRows_len, NodeD.row, go_sem, Nat.reduceEqDiff, reduceIte, Int.reduceEq, Int.reduceLT, Int.reduceLE, Nat.reduceAdd, Nat.reduceLT, Nat.reduceLeDiff, Int.reduceToNat, Int.reduceSub, Int.reduceAdd, Int.reduceNeg]
    refine ⟨hb, hj', by omega, hi, ?_⟩
    have hrid := cloneS_pure (E := E.withY 56 [17, 18] x19a x19b) hP (d.nodes.getD i default).after (ha _ hmem)
    refine xcall_pure (args' := [.isl (strRows (d.nodes.getD i default).after)]) rfl hrid rfl ?_
    simp only [g0, g1, g13, g14, g15, get5', set5', hor, go_sem, Nat.reduceEqDiff, reduceIte, Int.reduceEq, Int.reduceLT, Int.reduceLE, Nat.reduceAdd, Nat.reduceLT, Nat.reduceLeDiff, Int.reduceToNat, Int.reduceSub, Int.reduceAdd, Int.reduceNeg]
    refine ⟨r0, l, rfl, hst, hpe, hlc, rfl, by decide, rfl, rfl, hll, ?_⟩
    generalize hnd : d.nodes.getD i default = nd at *
    have hps : putPs l [17, 18] [.int .i64 i, .agg nd.row] = (l.set 17 (.int .i64 i)).set 18 (.agg nd.row) := rfl
    have q18 : rhoOf (putPs l [17, 18] [.int .i64 i, .agg nd.row]) 18 = .agg nd.row := by rw [hps, rho_set (by rw [List.length_set]; omega), if_pos rfl]
    have q17 : rhoOf (putPs l [17, 18] [.int .i64 i, .agg nd.row]) 17 = .int .i64 i := by rw [hps, rho_set (by rw [List.length_set]; omega), if_neg (by decide), rho_set (by omega), if_pos rfl]
    have qn : ∀ n, n < 17 → rhoOf (putPs l [17, 18] [.int .i64 i, .agg nd.row]) n = ρ' n := fun n hn => by rw [hps, rho_set (by rw [List.length_set]; omega), if_neg (by omega), rho_set (by omega), if_neg (by omega), hl n (by omega)]
    have q1 := (qn 1 (by decide)).trans h1
    have q3 := (qn 3 (by decide)).trans h3
    have q4 := (qn 4 (by decide)).trans h4
    simp only [NodeD.row] at q18 q17 q1 q3 q4
    clear qn hps
    generalize rhoOf (putPs l [17, 18] _) = ρ2 at *
    unfold x19a
    simp only [q1, q3, q4, q17, q18, go_sem, Nat.reduceEqDiff, reduceIte, Int.reduceEq, Int.reduceLT, Int.reduceLE, Nat.reduceAdd, Nat.reduceLT, Nat.reduceLeDiff, Int.reduceToNat, Int.reduceSub, Int.reduceAdd, Int.reduceNeg]
    have hr := fun (ρ : Rho) p1 p3 p4 p5 p6 => round_run (E := E) hP d hd ha hi (deep := st.1) (longest := st.2) (B := 0 + (d.order.take j).length * 1000001) (by simpa using f1) f2 f3 hBB (.lp { r0 with state := .busy } l) (J ++ [.cells 7 [nd.row]]) _ (ρ := ρ) rfl p1 p3 p4 p5 p6
    rw [hnd] at hr
    simp only [NodeD.row] at hr
    refine xrun_mono _ (fun e ρ3 L3 h => ?_) (hr _ (by simp only [q1, q3, q4, q17, q18, go_sem, Nat.reduceEqDiff, reduceIte, Int.reduceEq, Int.reduceLT, Int.reduceLE, Nat.reduceAdd, Nat.reduceLT, Nat.reduceLeDiff, Int.reduceToNat, Int.reduceSub, Int.reduceAdd, Int.reduceNeg]) (by simp only [q1, q3, q4, q17, q18, go_sem, Nat.reduceEqDiff, reduceIte, Int.reduceEq, Int.reduceLT, Int.reduceLE, Nat.reduceAdd, Nat.reduceLT, Nat.reduceLeDiff, Int.reduceToNat, Int.reduceSub, Int.reduceAdd, Int.reduceNeg]) (by simp only [q1, q3, q4, q17, q18, go_sem, Nat.reduceEqDiff, reduceIte, Int.reduceEq, Int.reduceLT, Int.reduceLE, Nat.reduceAdd, Nat.reduceLT, Nat.reduceLeDiff, Int.reduceToNat, Int.reduceSub, Int.reduceAdd, Int.reduceNeg]) (by simp only [q1, q3, q4, q17, q18, go_sem, Nat.reduceEqDiff, reduceIte, Int.reduceEq, Int.reduceLT, Int.reduceLE, Nat.reduceAdd, Nat.reduceLT, Nat.reduceLeDiff, Int.reduceToNat, Int.reduceSub, Int.reduceAdd, Int.reduceNeg]) (by simp only [q1, q3, q4, q17, q18, go_sem, Nat.reduceEqDiff, reduceIte, Int.reduceEq, Int.reduceLT, Int.reduceLE, Nat.reduceAdd, Nat.reduceLT, Nat.reduceLeDiff, Int.reduceToNat, Int.reduceSub, Int.reduceAdd, Int.reduceNeg]))
    obtain ⟨rfl, rfl⟩ := h
    refine ⟨rfl, ?_⟩
    simp only [yEnd]
    unfold depB
    simp only [g0, g1, g13, g14, g15, go_sem, Nat.reduceEqDiff, reduceIte, Int.reduceEq, Int.reduceLT, Int.reduceLE, Nat.reduceAdd, Nat.reduceLT, Nat.reduceLeDiff, Int.reduceToNat, Int.reduceSub, Int.reduceAdd, Int.reduceNeg]
    refine ⟨d.order.length - (j + 1), by omega, j + 1, by omega, rfl, ⟨_, by rw [htk]⟩, by rw [wrap64 (by omega) (by omega)]; rfl⟩
  · rw [decide_eq_false_iff_not] at hb
    have hjj : j = d.order.length := by omega
    try simp only [g0, g1, g13, g14, g15, go_sem, Nat.reduceEqDiff, reduceIte, Int.reduceEq, Int.reduceLT, Int.reduceLE, Nat.reduceAdd, Nat.reduceLT, Nat.reduceLeDiff, Int.reduceToNat, Int.reduceSub, Int.reduceAdd, Int.reduceNeg]
    refine ⟨[], .nil, by simp, .tup [], [.cells 2 [[.str d.name, .isl (nodeRows d.nodes)]], .cells 1 (intRows ((d.order.take j).foldl (stepD d) (List.replicate d.nodes.length 0, 0)).1), .cells 1 [[.sl 1 0 d.nodes.length d.nodes.length]], .cells 1 [[.int .i64 (((d.order.take j).foldl (stepD d) (List.replicate d.nodes.length 0, 0)).2 : Nat)]], .lp r0 l], rfl, ?_, ⟨r0, rfl, by rw [hst]; simp, ?_⟩⟩
    · refine mapO_cons rfl (mapO_cons ?_ (mapO_cons rfl (mapO_cons rfl (mapO_cons ?_ rfl))))
      · show (mapO (mapO (conv _ 12 _)) (intRows _)).map _ = _
        rw [mapO_ints]; rfl
      · show (mapO (conv _ 12 _) l).map _ = _
        rw [hlcv]; rfl
    · rw [hpe]
      rw [hjj, List.take_length]
      exact hK

theorem depth_pure (hP : E.P = Tryd.prog) (d : DefD) (hd : d.nodes.length ≤ 1000000) (ha : ∀ n ∈ d.nodes, n.after.length ≤ 1000000) : XPure E 19 [d.iv] (.int .i64 d.depth) := by
  refine xpure1 (n := Tryd.f19.ntmps) (c := x19) (t := 2) (by rw [hP]; rfl) (by rw [hP]; kernel_rfl) (by decide) (Nat.le_of_ble_eq_true rfl) ?_
  generalize hρ : entry _ = ρ
  have h0 : ρ 0 = .agg [.str d.name, .isl (nodeRows d.nodes)] := by rw [← hρ]; rfl
  have hrest : ∀ n, ρ (n + 1) = .und := by intro n; rw [← hρ]; rfl
  clear hρ
  unfold x19
  simp only [h0, nodeRows_len, go_sem, Nat.reduceEqDiff, reduceIte, Int.reduceEq, Int.reduceLT, Int.reduceLE, Nat.reduceAdd, Nat.reduceLT, Nat.reduceLeDiff, Int.reduceToNat, Int.reduceSub, Int.reduceAdd, Int.reduceNeg]
  refine ⟨by omega, by omega, by omega, ?_⟩
  refine xcall_pure (args' := [d.iv]) rfl (walk_pure hP d hd ha) rfl ?_
  try simp only [h0, nodeRows_len, go_sem, Nat.reduceEqDiff, reduceIte, Int.reduceEq, Int.reduceLT, Int.reduceLE, Nat.reduceAdd, Nat.reduceLT, Nat.reduceLeDiff, Int.reduceToNat, Int.reduceSub, Int.reduceAdd, Int.reduceNeg]
  refine depth_loop hP d hd ha _ (by simp only [go_sem, Nat.reduceEqDiff, reduceIte, Int.reduceEq, Int.reduceLT, Int.reduceLE, Nat.reduceAdd, Nat.reduceLT, Nat.reduceLeDiff, Int.reduceToNat, Int.reduceSub, Int.reduceAdd, Int.reduceNeg]) (by simp only [go_sem, Nat.reduceEqDiff, reduceIte, Int.reduceEq, Int.reduceLT, Int.reduceLE, Nat.reduceAdd, Nat.reduceLT, Nat.reduceLeDiff, Int.reduceToNat, Int.reduceSub, Int.reduceAdd, Int.reduceNeg]) (by simp only [go_sem, Nat.reduceEqDiff, reduceIte, Int.reduceEq, Int.reduceLT, Int.reduceLE, Nat.reduceAdd, Nat.reduceLT, Nat.reduceLeDiff, Int.reduceToNat, Int.reduceSub, Int.reduceAdd, Int.reduceNeg]) (by simp only [go_sem, Nat.reduceEqDiff, reduceIte, Int.reduceEq, Int.reduceLT, Int.reduceLE, Nat.reduceAdd, Nat.reduceLT, Nat.reduceLeDiff, Int.reduceToNat, Int.reduceSub, Int.reduceAdd, Int.reduceNeg]) (fun L => ?_) ?_
  · repeat (refine put_all (P := fun x => conv L 12 (renLeave 5 []) x = some x) rfl ?_)
    intro n
    cases n with
    | zero => rw [h0]; rfl
    | succ n => rw [hrest]; rfl
  · simp only [h0, nodeRows_len, go_sem, Nat.reduceEqDiff, reduceIte, Int.reduceEq, Int.reduceLT, Int.reduceLE, Nat.reduceAdd, Nat.reduceLT, Nat.reduceLeDiff, Int.reduceToNat, Int.reduceSub, Int.reduceAdd, Int.reduceNeg]
    rfl
end
end Go.X.TrydW
end
section
open Go Go.X Go.Proofs
set_option maxRecDepth 100000
set_option maxHeartbeats 4000000
set_option linter.unusedSimpArgs false
set_option linter.unusedVariables false
namespace Go.X.TrydW

def tabD (P : Program) : Tab where
  T := tabT P
  pre := fun _ _ => none
  ext := fun f args => match f, args with
    | 75, [.str s, .int .u8 c] => some (.int .i64 (Lib.indexByte s c.toNat.toUInt8))
    | 65, [.str s, .int .u8 c] => some (.int .i64 (Lib.countByte s c.toNat.toUInt8))
    | _, _ => none
section
variable {E : Env}
theorem tabD_ok (hP : E.P = Tryd.prog) : TabOk E (tabD Tryd.prog) where
  T := by rw [hP]; exact tabT_ok
  pre := fun _ _ _ h => by cases h
  ext := fun f args r h => by
    simp only [tabD] at h
    split at h
    · cases h; exact ext_indexByte (fn := Tryd.f75) (by rw [hP]; rfl) (by rfl) (by rfl) (by rfl) (by rfl) _ _
    · cases h; exact ext_countByte (fn := Tryd.f65) (by rw [hP]; rfl) (by rfl) (by rfl) (by rfl) (by rfl) _ _
    · cases h

def textW : List UInt8 := [119, 111, 114, 107, 102, 108, 111, 119, 32, 119, 10, 98, 32, 119, 97, 105, 116, 32, 115, 32, 97, 102, 116, 101, 114, 32, 97, 10, 97, 32, 97, 99, 116, 105, 118, 105, 116, 121, 32, 113, 10]
def dW : DefD := ⟨[119], [⟨[98], 4, [115], [], 0, 0, [[97]]⟩, ⟨[97], 1, [113], [], 0, 1, []⟩]⟩
theorem parseW_ev (gl : Nat → Option (List IV)) : evFun (tabD Tryd.prog) gl 300 30 23 [.str textW] = some (.tup [dW.iv, .int .i64 0, .int .i64 0]) := by kernel_rfl
theorem intsW_ev (gl : Nat → Option (List IV)) : evFun (tabD Tryd.prog) gl 300 30 24 [.isl (intRows [1, 0]), .isl (intRows [1, 0])] = some (.bool true) := by kernel_rfl
theorem orderW : dW.order = [1, 0] := by decide
theorem depthW : dW.depth = 2 := by unfold DefD.depth; rw [orderW]; decide

end
end Go.X.TrydW
end
