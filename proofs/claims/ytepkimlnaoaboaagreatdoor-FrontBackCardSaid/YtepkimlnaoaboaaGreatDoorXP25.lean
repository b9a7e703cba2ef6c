/- Parts of the proof: Xfref5, Xfref6, Xfhdr, Xfref4, Xffread, Xfback1, Xfback2. -/
import Derived.Test.YtepkimlnaoaboaaGreatDoorXP24
import Derived.Lib.ValidLaws
set_option linter.unusedVariables false
set_option linter.unusedSimpArgs false
set_option linter.unusedSectionVars false
section
open Go Go.X Go.Proofs
set_option maxRecDepth 100000
set_option maxHeartbeats 4000000
set_option linter.unusedSimpArgs false
set_option linter.unusedVariables false
namespace Go.X.TryzW
def z37 : XC :=
 (.seq (.ops [ ⟨(some 9), (.mov (.c (.int .i64 1))), none⟩]) (.block 1 (.loop (.seq (.seq (.ops [ ⟨(some 52), (.mov (.t 9)), none⟩, ⟨(some 53), (.mov (.t 6)), none⟩, ⟨(some 54), (.bin .lss (.t 52) (.t 53)), none⟩]) (.cond (.t 54) .skip (.exit 1))) (.seq (.block 2 (.seq (.ops [ ⟨(some 57), (.mov (.t 0)), none⟩, ⟨(some 58), (.mov (.t 1)), none⟩, ⟨(some 59), (.mov (.t 9)), none⟩, ⟨(some 60), (.bin .add (.t 58) (.t 59)), none⟩, ⟨(some 61), (.idx (.t 57) (.t 60)), none⟩, ⟨(some 62), (.cvInt .i64 (.t 61)), none⟩, ⟨(some 10), (.mov (.t 62)), none⟩]) (.seq (.seq (.ops [ ⟨(some 63), (.mov (.t 10)), none⟩, ⟨(some 64), (.bin .lss (.t 63) (.c (.int .i64 128))), none⟩, ⟨(some 65), (.mov (.t 64)), none⟩, ⟨(some 66), (.mov (.t 10)), (some (65, false))⟩, ⟨(some 67), (.bin .geq (.t 66) (.c (.int .i64 192))), (some (65, false))⟩, ⟨(some 68), (.pick (.t 65) (.c (.bool true)) (.t 67)), none⟩]) (.cond (.t 68) (.seq (.ops [ ⟨(some 4), (.mov (.c (.int .i64 0))), none⟩]) .ret) .skip)) (.ops [ ⟨(some 69), (.mov (.t 7)), none⟩, ⟨(some 70), (.bin .mul (.c (.int .i64 64)) (.t 69)), none⟩, ⟨(some 71), (.mov (.t 10)), none⟩, ⟨(some 72), (.bin .add (.t 70) (.t 71)), none⟩, ⟨(some 73), (.bin .sub (.t 72) (.c (.int .i64 128))), none⟩, ⟨(some 7), (.mov (.t 73)), none⟩])))) (.ops [ ⟨(some 55), (.mov (.t 9)), none⟩, ⟨(some 56), (.bin .add (.t 55) (.c (.int .i64 1))), none⟩, ⟨(some 9), (.mov (.t 56)), none⟩]))))))
/- "tiller/tillerref13.UTF8" params { toList := [9, 3] } results { toList := [Go.ResultVar.tmp 4] } -/
def y37 : XC :=
 (.seq (.ops [ ⟨(some 4), (.mov (.c (.int .i64 0))), none⟩]) (.seq (.ops [ ⟨(some 11), (.mov (.t 0)), none⟩, ⟨(some 12), (.mov (.t 1)), none⟩, ⟨(some 13), (.idx (.t 11) (.t 12)), none⟩, ⟨(some 14), (.cvInt .i64 (.t 13)), none⟩, ⟨(some 5), (.mov (.t 14)), none⟩]) (.seq (.ops [ ⟨(some 15), (.mov (.t 5)), none⟩, ⟨(some 6), (.mov (.c (.int .i64 1))), none⟩, ⟨(some 7), (.mov (.t 15)), none⟩, ⟨(some 8), (.mov (.c (.int .i64 0))), none⟩]) (.seq (.block 0 (.seq (.ops [ ⟨(some 17), (.mov (.t 5)), none⟩, ⟨(some 18), (.bin .geq (.t 17) (.c (.int .i64 240))), none⟩, ⟨(some 19), (.mov (.t 18)), none⟩, ⟨(some 20), (.mov (.t 5)), (some (19, true))⟩, ⟨(some 21), (.bin .lss (.t 20) (.c (.int .i64 248))), (some (19, true))⟩, ⟨(some 22), (.pick (.t 19) (.t 21) (.c (.bool false))), none⟩, ⟨(some 16), (.mov (.t 22)), none⟩]) (.cond (.t 16) (.ops [ ⟨(some 23), (.mov (.t 5)), none⟩, ⟨(some 24), (.bin .sub (.t 23) (.c (.int .i64 240))), none⟩, ⟨(some 6), (.mov (.c (.int .i64 4))), none⟩, ⟨(some 7), (.mov (.t 24)), none⟩, ⟨(some 8), (.mov (.c (.int .i64 65536))), none⟩]) (.seq (.ops [ ⟨(some 26), (.mov (.t 5)), none⟩, ⟨(some 27), (.bin .geq (.t 26) (.c (.int .i64 224))), none⟩, ⟨(some 28), (.mov (.t 27)), none⟩, ⟨(some 29), (.mov (.t 5)), (some (28, true))⟩, ⟨(some 30), (.bin .lss (.t 29) (.c (.int .i64 240))), (some (28, true))⟩, ⟨(some 31), (.pick (.t 28) (.t 30) (.c (.bool false))), none⟩, ⟨(some 25), (.mov (.t 31)), none⟩]) (.cond (.t 25) (.ops [ ⟨(some 32), (.mov (.t 5)), none⟩, ⟨(some 33), (.bin .sub (.t 32) (.c (.int .i64 224))), none⟩, ⟨(some 6), (.mov (.c (.int .i64 3))), none⟩, ⟨(some 7), (.mov (.t 33)), none⟩, ⟨(some 8), (.mov (.c (.int .i64 2048))), none⟩]) (.seq (.ops [ ⟨(some 35), (.mov (.t 5)), none⟩, ⟨(some 36), (.bin .geq (.t 35) (.c (.int .i64 192))), none⟩, ⟨(some 37), (.mov (.t 36)), none⟩, ⟨(some 38), (.mov (.t 5)), (some (37, true))⟩, ⟨(some 39), (.bin .lss (.t 38) (.c (.int .i64 224))), (some (37, true))⟩, ⟨(some 40), (.pick (.t 37) (.t 39) (.c (.bool false))), none⟩, ⟨(some 34), (.mov (.t 40)), none⟩]) (.cond (.t 34) (.ops [ ⟨(some 41), (.mov (.t 5)), none⟩, ⟨(some 42), (.bin .sub (.t 41) (.c (.int .i64 192))), none⟩, ⟨(some 6), (.mov (.c (.int .i64 2))), none⟩, ⟨(some 7), (.mov (.t 42)), none⟩, ⟨(some 8), (.mov (.c (.int .i64 128))), none⟩]) (.seq (.ops [ ⟨(some 44), (.mov (.t 5)), none⟩, ⟨(some 45), (.bin .geq (.t 44) (.c (.int .i64 128))), none⟩, ⟨(some 43), (.mov (.t 45)), none⟩]) (.cond (.t 43) (.seq (.ops [ ⟨(some 4), (.mov (.c (.int .i64 0))), none⟩]) .ret) .skip))))))))) (.seq (.seq (.ops [ ⟨(some 46), (.mov (.t 1)), none⟩, ⟨(some 47), (.mov (.t 6)), none⟩, ⟨(some 48), (.bin .add (.t 46) (.t 47)), none⟩, ⟨(some 49), (.mov (.t 0)), none⟩, ⟨(some 50), (.lenS (.t 49)), none⟩, ⟨(some 51), (.bin .gtr (.t 48) (.t 50)), none⟩]) (.cond (.t 51) (.seq (.ops [ ⟨(some 4), (.mov (.c (.int .i64 0))), none⟩]) .ret) .skip)) (.seq z37 (.seq (.seq (.ops [ ⟨(some 74), (.mov (.t 7)), none⟩, ⟨(some 75), (.mov (.t 8)), none⟩, ⟨(some 76), (.bin .lss (.t 74) (.t 75)), none⟩, ⟨(some 77), (.mov (.t 76)), none⟩, ⟨(some 78), (.mov (.t 7)), (some (77, false))⟩, ⟨(some 79), (.bin .gtr (.t 78) (.c (.int .i64 1114111))), (some (77, false))⟩, ⟨(some 80), (.pick (.t 77) (.c (.bool true)) (.t 79)), none⟩, ⟨(some 81), (.mov (.t 80)), none⟩, ⟨(some 82), (.mov (.t 7)), (some (81, false))⟩, ⟨(some 83), (.bin .geq (.t 82) (.c (.int .i64 55296))), (some (81, false))⟩, ⟨(some 84), (.mov (.t 83)), (some (81, false))⟩, ⟨(some 85), (.mov (.t 7)), (some (84, true))⟩, ⟨(some 86), (.bin .leq (.t 85) (.c (.int .i64 57343))), (some (84, true))⟩, ⟨(some 87), (.pick (.t 84) (.t 86) (.c (.bool false))), (some (81, false))⟩, ⟨(some 88), (.pick (.t 81) (.c (.bool true)) (.t 87)), none⟩]) (.cond (.t 88) (.seq (.ops [ ⟨(some 4), (.mov (.c (.int .i64 0))), none⟩]) .ret) .skip)) (.seq (.ops [ ⟨(some 89), (.mov (.t 6)), none⟩, ⟨(some 4), (.mov (.t 89)), none⟩]) .ret))))))))
/- "tiller/tillerref13.Valid" params { toList := [9] } results { toList := [Go.ResultVar.tmp 2] } -/
def y17 : XC :=
 (.seq
  (.ops [
    ⟨(some 2), (.mov (.c (.bool false))), none⟩])
  (.seq
   (.seq
    (.ops [
      ⟨(some 3), (.mov (.c (.int .i64 0))), none⟩])
    (.block 0
     (.loop
      (.seq
       (.seq
        (.ops [
          ⟨(some 5), (.mov (.t 3)), none⟩,
          ⟨(some 6), (.mov (.t 0)), none⟩,
          ⟨(some 7), (.lenS (.t 6)), none⟩,
          ⟨(some 8), (.bin .lss (.t 5) (.t 7)), none⟩])
        (.cond (.t 8)
         .skip
         (.exit 0)))
       (.block 1
        (.seq
         (.ops [
           ⟨(some 9), (.mov (.t 0)), none⟩,
           ⟨(some 10), (.mov (.t 3)), none⟩,
           ⟨(some 11), (.call (.f 37) [(.t 9), (.t 10)]), none⟩,
           ⟨(some 4), (.mov (.t 11)), none⟩])
         (.seq
          (.seq
           (.ops [
             ⟨(some 12), (.mov (.t 4)), none⟩,
             ⟨(some 13), (.bin .eql (.t 12) (.c (.int .i64 0))), none⟩])
           (.cond (.t 13)
            (.seq
             (.ops [
               ⟨(some 2), (.mov (.c (.bool false))), none⟩])
             .ret)
            .skip))
          (.ops [
            ⟨(some 14), (.mov (.t 3)), none⟩,
            ⟨(some 15), (.mov (.t 4)), none⟩,
            ⟨(some 16), (.bin .add (.t 14) (.t 15)), none⟩,
            ⟨(some 3), (.mov (.t 16)), none⟩]))))))))
   (.seq
    (.ops [
      ⟨(some 2), (.mov (.c (.bool true))), none⟩])
    .ret)))

section
variable {E : Env} {L : List Blk} {K : IV → List Blk → Prop}
def goodC (b : UInt8) : Bool := decide (128 ≤ b.toNat ∧ b.toNat < 192)
def gC (s : List UInt8) (i : Nat) : Nat → Bool
  | 0 => true
  | k + 1 => gC s i k && goodC (s.getD (i + (k + 1)) 0)
def cC (c0 : Int) (s : List UInt8) (i : Nat) : Nat → Int
  | 0 => c0
  | k + 1 => 64 * cC c0 s i k + ((s.getD (i + (k + 1)) 0).toNat : Int) - 128
theorem gC_mono (s : List UInt8) (i : Nat) : ∀ (n k : Nat), k ≤ n → gC s i n = true → gC s i k = true
  | 0, k, hk, h => by
    have : k = 0 := by omega
    subst this; exact h
  | n + 1, k, hk, h => by
    by_cases hkn : k = n + 1
    · subst hkn; exact h
    · unfold gC at h
      rw [Bool.and_eq_true] at h
      exact gC_mono s i n k (by omega) h.1
theorem cC_bnd (c0 : Int) (s : List UInt8) (i : Nat) (h0 : 0 ≤ c0) (h1 : c0 < 128) : ∀ k, gC s i k = true → 0 ≤ cC c0 s i k ∧ cC c0 s i k < 128 * 64 ^ k
  | 0, _ => by simp [cC]; omega
  | k + 1, h => by
    unfold gC at h
    rw [Bool.and_eq_true] at h
    obtain ⟨q1, q2⟩ := cC_bnd c0 s i h0 h1 k h.1
    have q3 := h.2
    unfold goodC at q3
    rw [decide_eq_true_eq] at q3
    unfold cC
    rw [Int.pow_succ]
    omega
theorem utf_cont (s : List UInt8) (i n : Nat) (c0 : Int) (x : IV) (hn : 1 ≤ n) (hn4 : n ≤ 4) (hin : i + n ≤ s.length) (hs : s.length ≤ 140737488351232) (hc0 : 0 ≤ c0) (hc1 : c0 < 128) {ρ : Rho}
    (h0 : ρ 0 = .str s) (h1 : ρ 1 = .int .i64 i) (h6 : ρ 6 = .int .i64 n) (h7 : ρ 7 = .int .i64 c0) (h8 : ρ 8 = x) :
    xrun E.noPan z37 ρ [] (fun e ρ' L' => L' = [] ∧ ((e = .ret ∧ ρ' 4 = .int .i64 0 ∧ gC s i (n - 1) = false) ∨
      (e = .normal ∧ gC s i (n - 1) = true ∧ ρ' 6 = .int .i64 n ∧ ρ' 7 = .int .i64 (cC c0 s i (n - 1)) ∧ ρ' 8 = x))) := by
  unfold z37
  simp only [h0, h1, h6, h7, h8, go_sem, Nat.reduceEqDiff, reduceIte, Int.reduceEq, Int.reduceLT, Int.reduceLE, Nat.reduceAdd, Nat.reduceLT, Nat.reduceLeDiff, Int.reduceToNat, Int.reduceSub, Int.reduceAdd, Int.reduceNeg]
  refine s_loop (fun c ρ L => ∃ j : Nat, j + 1 ≤ n ∧ c = n - 1 - j ∧ L = [] ∧ ρ 0 = .str s ∧ ρ 1 = .int .i64 i ∧ ρ 6 = .int .i64 n ∧ ρ 7 = .int .i64 (cC c0 s i j) ∧ ρ 8 = x ∧ ρ 9 = .int .i64 ((j + 1 : Nat) : Int) ∧ gC s i j = true) (n := n - 1)
    ⟨0, hn, rfl, rfl, by simp only [h0, go_sem, Nat.reduceEqDiff, reduceIte, Int.reduceEq, Int.reduceLT, Int.reduceLE, Nat.reduceAdd, Nat.reduceLT, Nat.reduceLeDiff, Int.reduceToNat, Int.reduceSub, Int.reduceAdd, Int.reduceNeg], by simp only [h1, go_sem, Nat.reduceEqDiff, reduceIte, Int.reduceEq, Int.reduceLT, Int.reduceLE, Nat.reduceAdd, Nat.reduceLT, Nat.reduceLeDiff, Int.reduceToNat, Int.reduceSub, Int.reduceAdd, Int.reduceNeg], by simp only [h6, go_sem, Nat.reduceEqDiff, reduceIte, Int.reduceEq, Int.reduceLT, Int.reduceLE, Nat.reduceAdd, Nat.reduceLT, Nat.reduceLeDiff, Int.reduceToNat, Int.reduceSub, Int.reduceAdd, Int.reduceNeg], by simp only [h7, go_sem, Nat.reduceEqDiff, reduceIte, Int.reduceEq, Int.reduceLT, Int.reduceLE, Nat.reduceAdd, Nat.reduceLT, Nat.reduceLeDiff, Int.reduceToNat, Int.reduceSub, Int.reduceAdd, Int.reduceNeg]; try rfl, by simp only [h8, go_sem, Nat.reduceEqDiff, reduceIte, Int.reduceEq, Int.reduceLT, Int.reduceLE, Nat.reduceAdd, Nat.reduceLT, Nat.reduceLeDiff, Int.reduceToNat, Int.reduceSub, Int.reduceAdd, Int.reduceNeg], by simp only [go_sem, Nat.reduceEqDiff, reduceIte, Int.reduceEq, Int.reduceLT, Int.reduceLE, Nat.reduceAdd, Nat.reduceLT, Nat.reduceLeDiff, Int.reduceToNat, Int.reduceSub, Int.reduceAdd, Int.reduceNeg]; try rfl, rfl⟩ ?_
  clear h0 h1 h6 h7 h8 ρ
  rintro c ρ L ⟨j, hj, rfl, rfl, h0, h1, h6, h7, h8, h9, hg⟩
  have hb := cC_bnd c0 s i hc0 hc1 j hg
  have hpow : (128 : Int) * 64 ^ j ≤ 128 * 64 ^ 3 := by
    have : j = 0 ∨ j = 1 ∨ j = 2 ∨ j = 3 := by omega
    rcases this with rfl | rfl | rfl | rfl <;> decide
  have hpow2 : (128 : Int) * 64 ^ 3 = 33554432 := by decide
  by_cases hjn : j + 1 < n
  · have e1 : (((j + 1 : Nat) : Int) < (n : Int)) = True := eq_true (by omega)
    have hwj : IntKind.i64.wrap ((i : Int) + ((j + 1 : Nat) : Int)) = ((i + (j + 1) : Nat) : Int) := by rw [wrap64 (by omega) (by omega)]; omega
    have hw1 : IntKind.i64.wrap (((j + 1 : Nat) : Int) + 1) = ((j + 1 + 1 : Nat) : Int) := by rw [wrap64 (by omega) (by omega)]; omega
    have e2 : (((i + (j + 1) : Nat) : Int) < (s.length : Int)) = True := eq_true (by omega)
    have hbl := (s.getD (i + (j + 1)) 0).toNat_lt
    have hcv : IntKind.i64.wrap (((s.getD (i + (j + 1)) 0).toNat : Nat) : Int) = (((s.getD (i + (j + 1)) 0).toNat : Nat) : Int) := wrap64 (by omega) (by omega)
    have hcs : cC c0 s i (j + 1) = 64 * cC c0 s i j + ((s.getD (i + (j + 1)) 0).toNat : Int) - 128 := rfl
    have hgs : gC s i (j + 1) = (gC s i j && goodC (s.getD (i + (j + 1)) 0)) := rfl
    have hbad : goodC (s.getD (i + (j + 1)) 0) = false → gC s i (n - 1) = false := fun h => by
      cases hq : gC s i (n - 1) with
      | false => rfl
      | true =>
        have := gC_mono s i (n - 1) (j + 1) (by omega) hq
        rw [hgs, h, Bool.and_false] at this
        cases this
    have hgood : goodC (s.getD (i + (j + 1)) 0) = decide (128 ≤ (s.getD (i + (j + 1)) 0).toNat ∧ (s.getD (i + (j + 1)) 0).toNat < 192) := rfl
    generalize hbe : s.getD (i + (j + 1)) 0 = b at *
    by_cases q1 : b.toNat < 128
    · have k1 : ((b.toNat : Int) < 128) = True := eq_true (by omega)
      simp only [h0, h1, h6, h7, h8, h9, e1, hwj, e2, hbe, k1, hcv, go_sem, Nat.reduceEqDiff, reduceIte, Int.reduceEq, Int.reduceLT, Int.reduceLE, Nat.reduceAdd, Nat.reduceLT, Nat.reduceLeDiff, Int.reduceToNat, Int.reduceSub, Int.reduceAdd, Int.reduceNeg]
      repeat (refine ⟨by omega, ?_⟩)
      have := hbad (by rw [hgood, decide_eq_false (by omega)])
      simp [this]
    have k1 : ((b.toNat : Int) < 128) = False := eq_false (by omega)
    by_cases q2 : 192 ≤ b.toNat
    · have k2 : ((192 : Int) ≤ (b.toNat : Int)) = True := eq_true (by omega)
      simp only [h0, h1, h6, h7, h8, h9, e1, hwj, e2, hbe, k1, k2, hcv, go_sem, Nat.reduceEqDiff, reduceIte, Int.reduceEq, Int.reduceLT, Int.reduceLE, Nat.reduceAdd, Nat.reduceLT, Nat.reduceLeDiff, Int.reduceToNat, Int.reduceSub, Int.reduceAdd, Int.reduceNeg]
      repeat (refine ⟨by omega, ?_⟩)
      have := hbad (by rw [hgood, decide_eq_false (by omega)])
      simp [this]
    have k2 : ((192 : Int) ≤ (b.toNat : Int)) = False := eq_false (by omega)
    have hm1 : IntKind.i64.wrap (64 * cC c0 s i j) = 64 * cC c0 s i j := wrap64 (by omega) (by omega)
    have hm2 : IntKind.i64.wrap (64 * cC c0 s i j + (b.toNat : Int)) = 64 * cC c0 s i j + (b.toNat : Int) := wrap64 (by omega) (by omega)
    have hm3 : IntKind.i64.wrap (64 * cC c0 s i j + (b.toNat : Int) - 128) = cC c0 s i (j + 1) := by rw [hcs, wrap64 (by omega) (by omega)]
    simp only [h0, h1, h6, h7, h8, h9, e1, hwj, e2, hbe, k1, k2, hcv, hm1, hm2, hm3, go_sem, Nat.reduceEqDiff, reduceIte, Int.reduceEq, Int.reduceLT, Int.reduceLE, Nat.reduceAdd, Nat.reduceLT, Nat.reduceLeDiff, Int.reduceToNat, Int.reduceSub, Int.reduceAdd, Int.reduceNeg]
    trace_state
    exact ⟨n - 1 - (j + 1), by omega, j + 1, by omega, rfl, rfl, by rw [hw1], by rw [hgs, hg, hgood, decide_eq_true (by omega)]; rfl⟩
  · have e1 : (((j + 1 : Nat) : Int) < (n : Int)) = False := eq_false (by omega)
    have hjn' : n - 1 = j := by omega
    rw [hjn']
    simp only [h0, h1, h6, h7, h8, h9, e1, go_sem, Nat.reduceEqDiff, reduceIte, Int.reduceEq, Int.reduceLT, Int.reduceLE, Nat.reduceAdd, Nat.reduceLT, Nat.reduceLeDiff, Int.reduceToNat, Int.reduceSub, Int.reduceAdd, Int.reduceNeg]
    simp [hg]
def finU (s : List UInt8) (i n : Nat) (c0 least : Int) : Nat :=
  if s.length < i + n then 0 else if gC s i (n - 1) = false then 0 else if cC c0 s i (n - 1) < least ∨ 1114111 < cC c0 s i (n - 1) ∨ (55296 ≤ cC c0 s i (n - 1) ∧ cC c0 s i (n - 1) ≤ 57343) then 0 else n
def utfR (s : List UInt8) (i : Nat) : Nat :=
  if 240 ≤ (s.getD i 0).toNat ∧ (s.getD i 0).toNat < 248 then finU s i 4 (((s.getD i 0).toNat : Int) - 240) 65536
  else if 224 ≤ (s.getD i 0).toNat ∧ (s.getD i 0).toNat < 240 then finU s i 3 (((s.getD i 0).toNat : Int) - 224) 2048
  else if 192 ≤ (s.getD i 0).toNat ∧ (s.getD i 0).toNat < 224 then finU s i 2 (((s.getD i 0).toNat : Int) - 192) 128
  else if 128 ≤ (s.getD i 0).toNat then 0
  else finU s i 1 ((s.getD i 0).toNat : Int) 0
theorem utf8_pure (hP : E.P = Tryz.prog) (s : List UInt8) (i : Nat) (hi : i < s.length) (hs : s.length ≤ 140737488351232) : XPure E 37 [.str s, .int .i64 i] (.int .i64 (utfR s i)) := by
  refine xpure1 (n := Tryz.f37.ntmps) (c := y37) (t := 4) (by rw [hP]; rfl) (by rw [hP]; kernel_rfl) (by decide) (Nat.le_of_ble_eq_true rfl) ?_
  generalize hρ : entry _ = ρ
  have h0 : ρ 0 = .str s := by rw [← hρ]; rfl
  have h1 : ρ 1 = .int .i64 i := by rw [← hρ]; rfl
  clear hρ
  unfold y37
  have e0 : ((0 : Int) ≤ (i : Int)) = True := eq_true (by omega)
  have e1 : ((i : Int) < (s.length : Int)) = True := eq_true (by omega)
  have hbl := (s.getD i 0).toNat_lt
  have hcv : IntKind.i64.wrap (((s.getD i 0).toNat : Nat) : Int) = (((s.getD i 0).toNat : Nat) : Int) := wrap64 (by omega) (by omega)
  unfold utfR
  generalize hbe : (s.getD i 0).toNat = b at *
  by_cases a1 : 240 ≤ b
  · have f1 : ((240 : Int) ≤ (b : Int)) = True := eq_true (by omega)
    by_cases a2 : b < 248
    · have f2 : ((b : Int) < 248) = True := eq_true (by omega)
      have hw : IntKind.i64.wrap ((b : Int) - 240) = (b : Int) - 240 := wrap64 (by omega) (by omega)
      rw [if_pos ⟨a1, a2⟩]
      by_cases hlen : i + 4 ≤ s.length
      case neg =>
        have k1 : ((s.length : Int) < ((i + 4 : Nat) : Int)) = True := eq_true (by omega)
        have hwn : IntKind.i64.wrap ((i : Int) + 4) = ((i + 4 : Nat) : Int) := by rw [wrap64 (by omega) (by omega)]; rfl
        simp only [h0, h1, e0, e1, hcv, hbe, f1, f2, hw, k1, hwn, go_sem, Nat.reduceEqDiff, reduceIte, Int.reduceEq, Int.reduceLT, Int.reduceLE, Nat.reduceAdd, Nat.reduceLT, Nat.reduceLeDiff, Int.reduceToNat, Int.reduceSub, Int.reduceAdd, Int.reduceNeg]
        repeat (refine ⟨by omega, ?_⟩)
        unfold finU
        rw [if_pos (by omega)]
        rfl
      have k1 : ((s.length : Int) < ((i + 4 : Nat) : Int)) = False := eq_false (by omega)
      have hwn : IntKind.i64.wrap ((i : Int) + 4) = ((i + 4 : Nat) : Int) := by rw [wrap64 (by omega) (by omega)]; rfl
      simp only [h0, h1, e0, e1, hcv, hbe, f1, f2, hw, k1, hwn, go_sem, Nat.reduceEqDiff, reduceIte, Int.reduceEq, Int.reduceLT, Int.reduceLE, Nat.reduceAdd, Nat.reduceLT, Nat.reduceLeDiff, Int.reduceToNat, Int.reduceSub, Int.reduceAdd, Int.reduceNeg]
      refine xrun_cut _ (utf_cont s i 4 ((b : Int) - 240) (.int .i64 65536) (by omega) (by omega) hlen hs (by omega) (by omega) (by simp only [h0, h1, e0, e1, hcv, hbe, go_sem, Nat.reduceEqDiff, reduceIte, Int.reduceEq, Int.reduceLT, Int.reduceLE, Nat.reduceAdd, Nat.reduceLT, Nat.reduceLeDiff, Int.reduceToNat, Int.reduceSub, Int.reduceAdd, Int.reduceNeg]) (by simp only [h0, h1, e0, e1, hcv, hbe, go_sem, Nat.reduceEqDiff, reduceIte, Int.reduceEq, Int.reduceLT, Int.reduceLE, Nat.reduceAdd, Nat.reduceLT, Nat.reduceLeDiff, Int.reduceToNat, Int.reduceSub, Int.reduceAdd, Int.reduceNeg]) (by simp only [h0, h1, e0, e1, hcv, hbe, go_sem, Nat.reduceEqDiff, reduceIte, Int.reduceEq, Int.reduceLT, Int.reduceLE, Nat.reduceAdd, Nat.reduceLT, Nat.reduceLeDiff, Int.reduceToNat, Int.reduceSub, Int.reduceAdd, Int.reduceNeg]; try rfl) (by simp only [h0, h1, e0, e1, hcv, hbe, go_sem, Nat.reduceEqDiff, reduceIte, Int.reduceEq, Int.reduceLT, Int.reduceLE, Nat.reduceAdd, Nat.reduceLT, Nat.reduceLeDiff, Int.reduceToNat, Int.reduceSub, Int.reduceAdd, Int.reduceNeg]; try rfl) (by simp only [h0, h1, e0, e1, hcv, hbe, go_sem, Nat.reduceEqDiff, reduceIte, Int.reduceEq, Int.reduceLT, Int.reduceLE, Nat.reduceAdd, Nat.reduceLT, Nat.reduceLeDiff, Int.reduceToNat, Int.reduceSub, Int.reduceAdd, Int.reduceNeg]; try rfl)) ?_
      clear h0 h1 ρ
      rintro e ρ L ⟨rfl, ⟨rfl, h4, hg⟩ | ⟨rfl, hg, h6, h7, h8⟩⟩
      · simp only [h4, go_sem, Nat.reduceEqDiff, reduceIte, Int.reduceEq, Int.reduceLT, Int.reduceLE, Nat.reduceAdd, Nat.reduceLT, Nat.reduceLeDiff, Int.reduceToNat, Int.reduceSub, Int.reduceAdd, Int.reduceNeg]
        unfold finU
        rw [if_neg (by omega), if_pos hg]
        rfl
      unfold finU
      rw [if_neg (by omega), if_neg (by rw [hg]; decide)]
      generalize cC ((b : Int) - 240) s i (4 - 1) = c at *
      by_cases r1 : c < 65536
      · have m1 : (c < 65536) = True := eq_true r1
        rw [if_pos (.inl r1)]
        simp only [h6, h7, h8, m1, go_sem, Nat.reduceEqDiff, reduceIte, Int.reduceEq, Int.reduceLT, Int.reduceLE, Nat.reduceAdd, Nat.reduceLT, Nat.reduceLeDiff, Int.reduceToNat, Int.reduceSub, Int.reduceAdd, Int.reduceNeg]
        rfl
      have m1 : (c < 65536) = False := eq_false r1
      by_cases r2 : 1114111 < c
      · have m2 : ((1114111 : Int) < c) = True := eq_true r2
        rw [if_pos (.inr (.inl r2))]
        simp only [h6, h7, h8, m1, m2, go_sem, Nat.reduceEqDiff, reduceIte, Int.reduceEq, Int.reduceLT, Int.reduceLE, Nat.reduceAdd, Nat.reduceLT, Nat.reduceLeDiff, Int.reduceToNat, Int.reduceSub, Int.reduceAdd, Int.reduceNeg]
        rfl
      have m2 : ((1114111 : Int) < c) = False := eq_false r2
      by_cases r3 : 55296 ≤ c
      case neg =>
        have m3 : ((55296 : Int) ≤ c) = False := eq_false r3
        rw [if_neg (by omega)]
        simp only [h6, h7, h8, m1, m2, m3, go_sem, Nat.reduceEqDiff, reduceIte, Int.reduceEq, Int.reduceLT, Int.reduceLE, Nat.reduceAdd, Nat.reduceLT, Nat.reduceLeDiff, Int.reduceToNat, Int.reduceSub, Int.reduceAdd, Int.reduceNeg]
        rfl
      have m3 : ((55296 : Int) ≤ c) = True := eq_true r3
      by_cases r4 : c ≤ 57343
      · have m4 : (c ≤ (57343 : Int)) = True := eq_true r4
        rw [if_pos (.inr (.inr ⟨r3, r4⟩))]
        simp only [h6, h7, h8, m1, m2, m3, m4, go_sem, Nat.reduceEqDiff, reduceIte, Int.reduceEq, Int.reduceLT, Int.reduceLE, Nat.reduceAdd, Nat.reduceLT, Nat.reduceLeDiff, Int.reduceToNat, Int.reduceSub, Int.reduceAdd, Int.reduceNeg]
        rfl
      have m4 : (c ≤ (57343 : Int)) = False := eq_false r4
      rw [if_neg (by omega)]
      simp only [h6, h7, h8, m1, m2, m3, m4, go_sem, Nat.reduceEqDiff, reduceIte, Int.reduceEq, Int.reduceLT, Int.reduceLE, Nat.reduceAdd, Nat.reduceLT, Nat.reduceLeDiff, Int.reduceToNat, Int.reduceSub, Int.reduceAdd, Int.reduceNeg]
      rfl
    have f2 : ((b : Int) < 248) = False := eq_false (by omega)
    have f3 : ((224 : Int) ≤ (b : Int)) = True := eq_true (by omega)
    have f4 : ((b : Int) < 240) = False := eq_false (by omega)
    have f5 : ((192 : Int) ≤ (b : Int)) = True := eq_true (by omega)
    have f6 : ((b : Int) < 224) = False := eq_false (by omega)
    have f7 : ((128 : Int) ≤ (b : Int)) = True := eq_true (by omega)
    rw [if_neg (by omega), if_neg (by omega), if_neg (by omega), if_pos (by omega)]
    simp only [h0, h1, e0, e1, hcv, hbe, f1, f2, f3, f4, f5, f6, f7, go_sem, Nat.reduceEqDiff, reduceIte, Int.reduceEq, Int.reduceLT, Int.reduceLE, Nat.reduceAdd, Nat.reduceLT, Nat.reduceLeDiff, Int.reduceToNat, Int.reduceSub, Int.reduceAdd, Int.reduceNeg]
    repeat (refine ⟨by omega, ?_⟩)
    rfl
  have f1 : ((240 : Int) ≤ (b : Int)) = False := eq_false (by omega)
  rw [if_neg (by omega)]
  by_cases a3 : 224 ≤ b
  · have f3 : ((224 : Int) ≤ (b : Int)) = True := eq_true (by omega)
    have f4 : ((b : Int) < 240) = True := eq_true (by omega)
    have hw : IntKind.i64.wrap ((b : Int) - 224) = (b : Int) - 224 := wrap64 (by omega) (by omega)
    rw [if_pos (by omega)]
    by_cases hlen : i + 3 ≤ s.length
    case neg =>
      have k1 : ((s.length : Int) < ((i + 3 : Nat) : Int)) = True := eq_true (by omega)
      have hwn : IntKind.i64.wrap ((i : Int) + 3) = ((i + 3 : Nat) : Int) := by rw [wrap64 (by omega) (by omega)]; rfl
      simp only [h0, h1, e0, e1, hcv, hbe, f1, f3, f4, hw, k1, hwn, go_sem, Nat.reduceEqDiff, reduceIte, Int.reduceEq, Int.reduceLT, Int.reduceLE, Nat.reduceAdd, Nat.reduceLT, Nat.reduceLeDiff, Int.reduceToNat, Int.reduceSub, Int.reduceAdd, Int.reduceNeg]
      repeat (refine ⟨by omega, ?_⟩)
      unfold finU
      rw [if_pos (by omega)]
      rfl
    have k1 : ((s.length : Int) < ((i + 3 : Nat) : Int)) = False := eq_false (by omega)
    have hwn : IntKind.i64.wrap ((i : Int) + 3) = ((i + 3 : Nat) : Int) := by rw [wrap64 (by omega) (by omega)]; rfl
    simp only [h0, h1, e0, e1, hcv, hbe, f1, f3, f4, hw, k1, hwn, go_sem, Nat.reduceEqDiff, reduceIte, Int.reduceEq, Int.reduceLT, Int.reduceLE, Nat.reduceAdd, Nat.reduceLT, Nat.reduceLeDiff, Int.reduceToNat, Int.reduceSub, Int.reduceAdd, Int.reduceNeg]
    refine xrun_cut _ (utf_cont s i 3 ((b : Int) - 224) (.int .i64 2048) (by omega) (by omega) hlen hs (by omega) (by omega) (by simp only [h0, h1, e0, e1, hcv, hbe, go_sem, Nat.reduceEqDiff, reduceIte, Int.reduceEq, Int.reduceLT, Int.reduceLE, Nat.reduceAdd, Nat.reduceLT, Nat.reduceLeDiff, Int.reduceToNat, Int.reduceSub, Int.reduceAdd, Int.reduceNeg]) (by simp only [h0, h1, e0, e1, hcv, hbe, go_sem, Nat.reduceEqDiff, reduceIte, Int.reduceEq, Int.reduceLT, Int.reduceLE, Nat.reduceAdd, Nat.reduceLT, Nat.reduceLeDiff, Int.reduceToNat, Int.reduceSub, Int.reduceAdd, Int.reduceNeg]) (by simp only [h0, h1, e0, e1, hcv, hbe, go_sem, Nat.reduceEqDiff, reduceIte, Int.reduceEq, Int.reduceLT, Int.reduceLE, Nat.reduceAdd, Nat.reduceLT, Nat.reduceLeDiff, Int.reduceToNat, Int.reduceSub, Int.reduceAdd, Int.reduceNeg]; try rfl) (by simp only [h0, h1, e0, e1, hcv, hbe, go_sem, Nat.reduceEqDiff, reduceIte, Int.reduceEq, Int.reduceLT, Int.reduceLE, Nat.reduceAdd, Nat.reduceLT, Nat.reduceLeDiff, Int.reduceToNat, Int.reduceSub, Int.reduceAdd, Int.reduceNeg]; try rfl) (by simp only [h0, h1, e0, e1, hcv, hbe, go_sem, Nat.reduceEqDiff, reduceIte, Int.reduceEq, Int.reduceLT, Int.reduceLE, Nat.reduceAdd, Nat.reduceLT, Nat.reduceLeDiff, Int.reduceToNat, Int.reduceSub, Int.reduceAdd, Int.reduceNeg]; try rfl)) ?_
    clear h0 h1 ρ
    rintro e ρ L ⟨rfl, ⟨rfl, h4, hg⟩ | ⟨rfl, hg, h6, h7, h8⟩⟩
    · simp only [h4, go_sem, Nat.reduceEqDiff, reduceIte, Int.reduceEq, Int.reduceLT, Int.reduceLE, Nat.reduceAdd, Nat.reduceLT, Nat.reduceLeDiff, Int.reduceToNat, Int.reduceSub, Int.reduceAdd, Int.reduceNeg]
      unfold finU
      rw [if_neg (by omega), if_pos hg]
      rfl
    unfold finU
    rw [if_neg (by omega), if_neg (by rw [hg]; decide)]
    generalize cC ((b : Int) - 224) s i (3 - 1) = c at *
    by_cases r1 : c < 2048
    · have m1 : (c < 2048) = True := eq_true r1
      rw [if_pos (.inl r1)]
      simp only [h6, h7, h8, m1, go_sem, Nat.reduceEqDiff, reduceIte, Int.reduceEq, Int.reduceLT, Int.reduceLE, Nat.reduceAdd, Nat.reduceLT, Nat.reduceLeDiff, Int.reduceToNat, Int.reduceSub, Int.reduceAdd, Int.reduceNeg]
      rfl
    have m1 : (c < 2048) = False := eq_false r1
    by_cases r2 : 1114111 < c
    · have m2 : ((1114111 : Int) < c) = True := eq_true r2
      rw [if_pos (.inr (.inl r2))]
      simp only [h6, h7, h8, m1, m2, go_sem, Nat.reduceEqDiff, reduceIte, Int.reduceEq, Int.reduceLT, Int.reduceLE, Nat.reduceAdd, Nat.reduceLT, Nat.reduceLeDiff, Int.reduceToNat, Int.reduceSub, Int.reduceAdd, Int.reduceNeg]
      rfl
    have m2 : ((1114111 : Int) < c) = False := eq_false r2
    by_cases r3 : 55296 ≤ c
    case neg =>
      have m3 : ((55296 : Int) ≤ c) = False := eq_false r3
      rw [if_neg (by omega)]
      simp only [h6, h7, h8, m1, m2, m3, go_sem, Nat.reduceEqDiff, reduceIte, Int.reduceEq, Int.reduceLT, Int.reduceLE, Nat.reduceAdd, Nat.reduceLT, Nat.reduceLeDiff, Int.reduceToNat, Int.reduceSub, Int.reduceAdd, Int.reduceNeg]
      rfl
    have m3 : ((55296 : Int) ≤ c) = True := eq_true r3
    by_cases r4 : c ≤ 57343
    · have m4 : (c ≤ (57343 : Int)) = True := eq_true r4
      rw [if_pos (.inr (.inr ⟨r3, r4⟩))]
      simp only [h6, h7, h8, m1, m2, m3, m4, go_sem, Nat.reduceEqDiff, reduceIte, Int.reduceEq, Int.reduceLT, Int.reduceLE, Nat.reduceAdd, Nat.reduceLT, Nat.reduceLeDiff, Int.reduceToNat, Int.reduceSub, Int.reduceAdd, Int.reduceNeg]
      rfl
    have m4 : (c ≤ (57343 : Int)) = False := eq_false r4
    rw [if_neg (by omega)]
    simp only [h6, h7, h8, m1, m2, m3, m4, go_sem, Nat.reduceEqDiff, reduceIte, Int.reduceEq, Int.reduceLT, Int.reduceLE, Nat.reduceAdd, Nat.reduceLT, Nat.reduceLeDiff, Int.reduceToNat, Int.reduceSub, Int.reduceAdd, Int.reduceNeg]
    rfl
  have f3 : ((224 : Int) ≤ (b : Int)) = False := eq_false (by omega)
  rw [if_neg (by omega)]
  by_cases a4 : 192 ≤ b
  · have f5 : ((192 : Int) ≤ (b : Int)) = True := eq_true (by omega)
    have f6 : ((b : Int) < 224) = True := eq_true (by omega)
    have hw : IntKind.i64.wrap ((b : Int) - 192) = (b : Int) - 192 := wrap64 (by omega) (by omega)
    rw [if_pos (by omega)]
    by_cases hlen : i + 2 ≤ s.length
    case neg =>
      have k1 : ((s.length : Int) < ((i + 2 : Nat) : Int)) = True := eq_true (by omega)
      have hwn : IntKind.i64.wrap ((i : Int) + 2) = ((i + 2 : Nat) : Int) := by rw [wrap64 (by omega) (by omega)]; rfl
      simp only [h0, h1, e0, e1, hcv, hbe, f1, f3, f5, f6, hw, k1, hwn, go_sem, Nat.reduceEqDiff, reduceIte, Int.reduceEq, Int.reduceLT, Int.reduceLE, Nat.reduceAdd, Nat.reduceLT, Nat.reduceLeDiff, Int.reduceToNat, Int.reduceSub, Int.reduceAdd, Int.reduceNeg]
      repeat (refine ⟨by omega, ?_⟩)
      unfold finU
      rw [if_pos (by omega)]
      rfl
    have k1 : ((s.length : Int) < ((i + 2 : Nat) : Int)) = False := eq_false (by omega)
    have hwn : IntKind.i64.wrap ((i : Int) + 2) = ((i + 2 : Nat) : Int) := by rw [wrap64 (by omega) (by omega)]; rfl
    simp only [h0, h1, e0, e1, hcv, hbe, f1, f3, f5, f6, hw, k1, hwn, go_sem, Nat.reduceEqDiff, reduceIte, Int.reduceEq, Int.reduceLT, Int.reduceLE, Nat.reduceAdd, Nat.reduceLT, Nat.reduceLeDiff, Int.reduceToNat, Int.reduceSub, Int.reduceAdd, Int.reduceNeg]
    refine xrun_cut _ (utf_cont s i 2 ((b : Int) - 192) (.int .i64 128) (by omega) (by omega) hlen hs (by omega) (by omega) (by simp only [h0, h1, e0, e1, hcv, hbe, go_sem, Nat.reduceEqDiff, reduceIte, Int.reduceEq, Int.reduceLT, Int.reduceLE, Nat.reduceAdd, Nat.reduceLT, Nat.reduceLeDiff, Int.reduceToNat, Int.reduceSub, Int.reduceAdd, Int.reduceNeg]) (by simp only [h0, h1, e0, e1, hcv, hbe, go_sem, Nat.reduceEqDiff, reduceIte, Int.reduceEq, Int.reduceLT, Int.reduceLE, Nat.reduceAdd, Nat.reduceLT, Nat.reduceLeDiff, Int.reduceToNat, Int.reduceSub, Int.reduceAdd, Int.reduceNeg]) (by simp only [h0, h1, e0, e1, hcv, hbe, go_sem, Nat.reduceEqDiff, reduceIte, Int.reduceEq, Int.reduceLT, Int.reduceLE, Nat.reduceAdd, Nat.reduceLT, Nat.reduceLeDiff, Int.reduceToNat, Int.reduceSub, Int.reduceAdd, Int.reduceNeg]; try rfl) (by simp only [h0, h1, e0, e1, hcv, hbe, go_sem, Nat.reduceEqDiff, reduceIte, Int.reduceEq, Int.reduceLT, Int.reduceLE, Nat.reduceAdd, Nat.reduceLT, Nat.reduceLeDiff, Int.reduceToNat, Int.reduceSub, Int.reduceAdd, Int.reduceNeg]; try rfl) (by simp only [h0, h1, e0, e1, hcv, hbe, go_sem, Nat.reduceEqDiff, reduceIte, Int.reduceEq, Int.reduceLT, Int.reduceLE, Nat.reduceAdd, Nat.reduceLT, Nat.reduceLeDiff, Int.reduceToNat, Int.reduceSub, Int.reduceAdd, Int.reduceNeg]; try rfl)) ?_
    clear h0 h1 ρ
    rintro e ρ L ⟨rfl, ⟨rfl, h4, hg⟩ | ⟨rfl, hg, h6, h7, h8⟩⟩
    · simp only [h4, go_sem, Nat.reduceEqDiff, reduceIte, Int.reduceEq, Int.reduceLT, Int.reduceLE, Nat.reduceAdd, Nat.reduceLT, Nat.reduceLeDiff, Int.reduceToNat, Int.reduceSub, Int.reduceAdd, Int.reduceNeg]
      unfold finU
      rw [if_neg (by omega), if_pos hg]
      rfl
    unfold finU
    rw [if_neg (by omega), if_neg (by rw [hg]; decide)]
    generalize cC ((b : Int) - 192) s i (2 - 1) = c at *
    by_cases r1 : c < 128
    · have m1 : (c < 128) = True := eq_true r1
      rw [if_pos (.inl r1)]
      simp only [h6, h7, h8, m1, go_sem, Nat.reduceEqDiff, reduceIte, Int.reduceEq, Int.reduceLT, Int.reduceLE, Nat.reduceAdd, Nat.reduceLT, Nat.reduceLeDiff, Int.reduceToNat, Int.reduceSub, Int.reduceAdd, Int.reduceNeg]
      rfl
    have m1 : (c < 128) = False := eq_false r1
    by_cases r2 : 1114111 < c
    · have m2 : ((1114111 : Int) < c) = True := eq_true r2
      rw [if_pos (.inr (.inl r2))]
      simp only [h6, h7, h8, m1, m2, go_sem, Nat.reduceEqDiff, reduceIte, Int.reduceEq, Int.reduceLT, Int.reduceLE, Nat.reduceAdd, Nat.reduceLT, Nat.reduceLeDiff, Int.reduceToNat, Int.reduceSub, Int.reduceAdd, Int.reduceNeg]
      rfl
    have m2 : ((1114111 : Int) < c) = False := eq_false r2
    by_cases r3 : 55296 ≤ c
    case neg =>
      have m3 : ((55296 : Int) ≤ c) = False := eq_false r3
      rw [if_neg (by omega)]
      simp only [h6, h7, h8, m1, m2, m3, go_sem, Nat.reduceEqDiff, reduceIte, Int.reduceEq, Int.reduceLT, Int.reduceLE, Nat.reduceAdd, Nat.reduceLT, Nat.reduceLeDiff, Int.reduceToNat, Int.reduceSub, Int.reduceAdd, Int.reduceNeg]
      rfl
    have m3 : ((55296 : Int) ≤ c) = True := eq_true r3
    by_cases r4 : c ≤ 57343
    · have m4 : (c ≤ (57343 : Int)) = True := eq_true r4
      rw [if_pos (.inr (.inr ⟨r3, r4⟩))]
      simp only [h6, h7, h8, m1, m2, m3, m4, go_sem, Nat.reduceEqDiff, reduceIte, Int.reduceEq, Int.reduceLT, Int.reduceLE, Nat.reduceAdd, Nat.reduceLT, Nat.reduceLeDiff, Int.reduceToNat, Int.reduceSub, Int.reduceAdd, Int.reduceNeg]
      rfl
    have m4 : (c ≤ (57343 : Int)) = False := eq_false r4
    rw [if_neg (by omega)]
    simp only [h6, h7, h8, m1, m2, m3, m4, go_sem, Nat.reduceEqDiff, reduceIte, Int.reduceEq, Int.reduceLT, Int.reduceLE, Nat.reduceAdd, Nat.reduceLT, Nat.reduceLeDiff, Int.reduceToNat, Int.reduceSub, Int.reduceAdd, Int.reduceNeg]
    rfl
  have f5 : ((192 : Int) ≤ (b : Int)) = False := eq_false (by omega)
  rw [if_neg (by omega)]
  by_cases a5 : 128 ≤ b
  · have f7 : ((128 : Int) ≤ (b : Int)) = True := eq_true (by omega)
    rw [if_pos a5]
    simp only [h0, h1, e0, e1, hcv, hbe, f1, f3, f5, f7, go_sem, Nat.reduceEqDiff, reduceIte, Int.reduceEq, Int.reduceLT, Int.reduceLE, Nat.reduceAdd, Nat.reduceLT, Nat.reduceLeDiff, Int.reduceToNat, Int.reduceSub, Int.reduceAdd, Int.reduceNeg]
    repeat (refine ⟨by omega, ?_⟩)
    rfl
  have f7 : ((128 : Int) ≤ (b : Int)) = False := eq_false (by omega)
  rw [if_neg a5]
  by_cases hlen : i + 1 ≤ s.length
  case neg =>
    have k1 : ((s.length : Int) < ((i + 1 : Nat) : Int)) = True := eq_true (by omega)
    have hwn : IntKind.i64.wrap ((i : Int) + 1) = ((i + 1 : Nat) : Int) := by rw [wrap64 (by omega) (by omega)]; rfl
    simp only [h0, h1, e0, e1, hcv, hbe, f1, f3, f5, f7, k1, hwn, go_sem, Nat.reduceEqDiff, reduceIte, Int.reduceEq, Int.reduceLT, Int.reduceLE, Nat.reduceAdd, Nat.reduceLT, Nat.reduceLeDiff, Int.reduceToNat, Int.reduceSub, Int.reduceAdd, Int.reduceNeg]
    repeat (refine ⟨by omega, ?_⟩)
    unfold finU
    rw [if_pos (by omega)]
    rfl
  have k1 : ((s.length : Int) < ((i + 1 : Nat) : Int)) = False := eq_false (by omega)
  have hwn : IntKind.i64.wrap ((i : Int) + 1) = ((i + 1 : Nat) : Int) := by rw [wrap64 (by omega) (by omega)]; rfl
  simp only [h0, h1, e0, e1, hcv, hbe, f1, f3, f5, f7, k1, hwn, go_sem, Nat.reduceEqDiff, reduceIte, Int.reduceEq, Int.reduceLT, Int.reduceLE, Nat.reduceAdd, Nat.reduceLT, Nat.reduceLeDiff, Int.reduceToNat, Int.reduceSub, Int.reduceAdd, Int.reduceNeg]
  refine xrun_cut _ (utf_cont s i 1 ((b : Int)) (.int .i64 0) (by omega) (by omega) hlen hs (by omega) (by omega) (by simp only [h0, h1, e0, e1, hcv, hbe, go_sem, Nat.reduceEqDiff, reduceIte, Int.reduceEq, Int.reduceLT, Int.reduceLE, Nat.reduceAdd, Nat.reduceLT, Nat.reduceLeDiff, Int.reduceToNat, Int.reduceSub, Int.reduceAdd, Int.reduceNeg]) (by simp only [h0, h1, e0, e1, hcv, hbe, go_sem, Nat.reduceEqDiff, reduceIte, Int.reduceEq, Int.reduceLT, Int.reduceLE, Nat.reduceAdd, Nat.reduceLT, Nat.reduceLeDiff, Int.reduceToNat, Int.reduceSub, Int.reduceAdd, Int.reduceNeg]) (by simp only [h0, h1, e0, e1, hcv, hbe, go_sem, Nat.reduceEqDiff, reduceIte, Int.reduceEq, Int.reduceLT, Int.reduceLE, Nat.reduceAdd, Nat.reduceLT, Nat.reduceLeDiff, Int.reduceToNat, Int.reduceSub, Int.reduceAdd, Int.reduceNeg]; try rfl) (by simp only [h0, h1, e0, e1, hcv, hbe, go_sem, Nat.reduceEqDiff, reduceIte, Int.reduceEq, Int.reduceLT, Int.reduceLE, Nat.reduceAdd, Nat.reduceLT, Nat.reduceLeDiff, Int.reduceToNat, Int.reduceSub, Int.reduceAdd, Int.reduceNeg]; try rfl) (by simp only [h0, h1, e0, e1, hcv, hbe, go_sem, Nat.reduceEqDiff, reduceIte, Int.reduceEq, Int.reduceLT, Int.reduceLE, Nat.reduceAdd, Nat.reduceLT, Nat.reduceLeDiff, Int.reduceToNat, Int.reduceSub, Int.reduceAdd, Int.reduceNeg]; try rfl)) ?_
  clear h0 h1 ρ
  rintro e ρ L ⟨rfl, ⟨rfl, h4, hg⟩ | ⟨rfl, hg, h6, h7, h8⟩⟩
  · simp only [h4, go_sem, Nat.reduceEqDiff, reduceIte, Int.reduceEq, Int.reduceLT, Int.reduceLE, Nat.reduceAdd, Nat.reduceLT, Nat.reduceLeDiff, Int.reduceToNat, Int.reduceSub, Int.reduceAdd, Int.reduceNeg]
    unfold finU
    rw [if_neg (by omega), if_pos hg]
    rfl
  unfold finU
  rw [if_neg (by omega), if_neg (by rw [hg]; decide)]
  generalize cC ((b : Int)) s i (1 - 1) = c at *
  by_cases r1 : c < 0
  · have m1 : (c < 0) = True := eq_true r1
    rw [if_pos (.inl r1)]
    simp only [h6, h7, h8, m1, go_sem, Nat.reduceEqDiff, reduceIte, Int.reduceEq, Int.reduceLT, Int.reduceLE, Nat.reduceAdd, Nat.reduceLT, Nat.reduceLeDiff, Int.reduceToNat, Int.reduceSub, Int.reduceAdd, Int.reduceNeg]
    rfl
  have m1 : (c < 0) = False := eq_false r1
  by_cases r2 : 1114111 < c
  · have m2 : ((1114111 : Int) < c) = True := eq_true r2
    rw [if_pos (.inr (.inl r2))]
    simp only [h6, h7, h8, m1, m2, go_sem, Nat.reduceEqDiff, reduceIte, Int.reduceEq, Int.reduceLT, Int.reduceLE, Nat.reduceAdd, Nat.reduceLT, Nat.reduceLeDiff, Int.reduceToNat, Int.reduceSub, Int.reduceAdd, Int.reduceNeg]
    rfl
  have m2 : ((1114111 : Int) < c) = False := eq_false r2
  by_cases r3 : 55296 ≤ c
  case neg =>
    have m3 : ((55296 : Int) ≤ c) = False := eq_false r3
    rw [if_neg (by omega)]
    simp only [h6, h7, h8, m1, m2, m3, go_sem, Nat.reduceEqDiff, reduceIte, Int.reduceEq, Int.reduceLT, Int.reduceLE, Nat.reduceAdd, Nat.reduceLT, Nat.reduceLeDiff, Int.reduceToNat, Int.reduceSub, Int.reduceAdd, Int.reduceNeg]
    rfl
  have m3 : ((55296 : Int) ≤ c) = True := eq_true r3
  by_cases r4 : c ≤ 57343
  · have m4 : (c ≤ (57343 : Int)) = True := eq_true r4
    rw [if_pos (.inr (.inr ⟨r3, r4⟩))]
    simp only [h6, h7, h8, m1, m2, m3, m4, go_sem, Nat.reduceEqDiff, reduceIte, Int.reduceEq, Int.reduceLT, Int.reduceLE, Nat.reduceAdd, Nat.reduceLT, Nat.reduceLeDiff, Int.reduceToNat, Int.reduceSub, Int.reduceAdd, Int.reduceNeg]
    rfl
  have m4 : (c ≤ (57343 : Int)) = False := eq_false r4
  rw [if_neg (by omega)]
  simp only [h6, h7, h8, m1, m2, m3, m4, go_sem, Nat.reduceEqDiff, reduceIte, Int.reduceEq, Int.reduceLT, Int.reduceLE, Nat.reduceAdd, Nat.reduceLT, Nat.reduceLeDiff, Int.reduceToNat, Int.reduceSub, Int.reduceAdd, Int.reduceNeg]
  rfl
end
end Go.X.TryzW
end
section
open Go Go.X Go.Proofs
set_option maxRecDepth 100000
set_option maxHeartbeats 4000000
set_option linter.unusedSimpArgs false
set_option linter.unusedVariables false
namespace Go.X.TryzW
section
variable {E : Env} {L : List Blk} {K : IV → List Blk → Prop}
theorem get_ba (l : List UInt8) (k : Nat) : (⟨l.toArray⟩ : ByteArray).get! k = l.getD k 0 := by
  show (l.toArray)[k]! = _
  rw [List.getD_eq_getElem?_getD]
  by_cases h : k < l.length
  · rw [getElem!_pos l.toArray k (by simpa using h), List.getElem?_eq_getElem h]; simp
  · rw [getElem!_neg l.toArray k (by simpa using h), List.getElem?_eq_none (by omega)]; rfl
theorem decodeL_eq (s : List UInt8) (i : Nat) : Lib.decodeL (s.drop i) = Lib.decodeN (s.length - i) (s.getD i 0).toNat (s.getD (i + 1) 0).toNat (s.getD (i + 2) 0).toNat (s.getD (i + 3) 0).toNat := by
  unfold Lib.decodeL
  rw [Lib.decode_at]
  simp only [get_ba]
  have e : ∀ k, (s.drop i).getD k 0 = s.getD (i + k) 0 := fun k => by rw [List.getD_eq_getElem?_getD, List.getD_eq_getElem?_getD, List.getElem?_drop]
  simp only [e]
  rw [show (⟨(s.drop i).toArray⟩ : ByteArray).size - 0 = s.length - i by simp [ByteArray.size]]
  simp
theorem gC0 (s : List UInt8) (i : Nat) : (gC s i 0 = false) = False := by simp [gC]
theorem gC1 (s : List UInt8) (i : Nat) : (gC s i 1 = false) = ¬ (128 ≤ (s.getD (i + 1) 0).toNat ∧ (s.getD (i + 1) 0).toNat < 192) := by
  unfold gC gC goodC
  rw [Bool.true_and, decide_eq_false_iff_not]
theorem gC2 (s : List UInt8) (i : Nat) : (gC s i 2 = false) = ¬ ((128 ≤ (s.getD (i + 1) 0).toNat ∧ (s.getD (i + 1) 0).toNat < 192) ∧ (128 ≤ (s.getD (i + 2) 0).toNat ∧ (s.getD (i + 2) 0).toNat < 192)) := by
  unfold gC gC gC goodC
  rw [Bool.true_and, ← Bool.decide_and, decide_eq_false_iff_not]
theorem gC3 (s : List UInt8) (i : Nat) : (gC s i 3 = false) = ¬ (((128 ≤ (s.getD (i + 1) 0).toNat ∧ (s.getD (i + 1) 0).toNat < 192) ∧ (128 ≤ (s.getD (i + 2) 0).toNat ∧ (s.getD (i + 2) 0).toNat < 192)) ∧ (128 ≤ (s.getD (i + 3) 0).toNat ∧ (s.getD (i + 3) 0).toNat < 192)) := by
  unfold gC gC gC gC goodC
  rw [Bool.true_and, ← Bool.decide_and, ← Bool.decide_and, decide_eq_false_iff_not]
theorem rhs_bad : (if ((65533, 1) : Nat × Nat).1 = 65533 ∧ ((65533, 1) : Nat × Nat).2 = 1 then 0 else ((65533, 1) : Nat × Nat).2) = 0 := if_pos ⟨rfl, rfl⟩
theorem rhs_ok (c n : Nat) (hn : n ≠ 1) : (if ((c, n) : Nat × Nat).1 = 65533 ∧ ((c, n) : Nat × Nat).2 = 1 then 0 else ((c, n) : Nat × Nat).2) = n := if_neg (fun h => hn h.2)
theorem utf_dec (s : List UInt8) (i : Nat) (hi : i < s.length) : utfR s i = if (Lib.decodeL (s.drop i)).1 = 65533 ∧ (Lib.decodeL (s.drop i)).2 = 1 then 0 else (Lib.decodeL (s.drop i)).2 := by
  rw [decodeL_eq]
  have c1 : cC (((s.getD i 0).toNat : Int) - 192) s i 1 = 64 * (((s.getD i 0).toNat : Int) - 192) + ((s.getD (i + 1) 0).toNat : Int) - 128 := rfl
  have c2 : cC (((s.getD i 0).toNat : Int) - 224) s i 2 = 64 * (64 * (((s.getD i 0).toNat : Int) - 224) + ((s.getD (i + 1) 0).toNat : Int) - 128) + ((s.getD (i + 2) 0).toNat : Int) - 128 := rfl
  have c3 : cC (((s.getD i 0).toNat : Int) - 240) s i 3 = 64 * (64 * (64 * (((s.getD i 0).toNat : Int) - 240) + ((s.getD (i + 1) 0).toNat : Int) - 128) + ((s.getD (i + 2) 0).toNat : Int) - 128) + ((s.getD (i + 3) 0).toNat : Int) - 128 := rfl
  have c0 : cC ((s.getD i 0).toNat : Int) s i 0 = ((s.getD i 0).toNat : Int) := rfl
  have g0 := gC0 s i
  have g1 := gC1 s i
  have g2 := gC2 s i
  have g3 := gC3 s i
  have l0 := (s.getD i 0).toNat_lt
  have l1 := (s.getD (i + 1) 0).toNat_lt
  have l2 := (s.getD (i + 2) 0).toNat_lt
  have l3 := (s.getD (i + 3) 0).toNat_lt
  unfold utfR finU
  simp only [Nat.reduceSub, c0, c1, c2, c3, g0, g1, g2, g3, Nat.sub_self]
  clear c0 c1 c2 c3 g0 g1 g2 g3
  generalize (s.getD i 0).toNat = b0 at *
  generalize (s.getD (i + 1) 0).toNat = b1 at *
  generalize (s.getD (i + 2) 0).toNat = b2 at *
  generalize (s.getD (i + 3) 0).toNat = b3 at *
  obtain ⟨m, hm⟩ : ∃ m, s.length = i + m := ⟨s.length - i, by omega⟩
  have hm0 : 0 < m := by omega
  rw [hm, show i + m - i = m by omega]
  simp only [Nat.add_lt_add_iff_left]
  clear hm hi
  by_cases a1 : b0 < 128
  · have hd : Lib.decodeN m b0 b1 b2 b3 = (b0, 1) := by unfold Lib.decodeN; rw [if_pos a1]
    rw [hd, if_neg (by omega), if_neg (by omega), if_neg (by omega), if_neg (by omega)]
    rw [if_neg (by omega), if_neg (fun h => h), if_neg (by omega), if_neg (by simp; omega)]
  by_cases a2 : b0 < 192
  · have hd : Lib.decodeN m b0 b1 b2 b3 = (65533, 1) := by
      unfold Lib.decodeN
      rw [if_neg a1, if_neg (by omega), if_neg (by omega), if_neg (by omega)]
    rw [hd, if_neg (by omega), if_neg (by omega), if_neg (by omega), if_pos (by omega), if_pos ⟨rfl, rfl⟩]
  by_cases a3 : b0 < 224
  · have hd : Lib.decodeN m b0 b1 b2 b3 = if (1 < m ∧ b1 / 64 = 2) ∧ b0 % 32 * 64 + b1 % 64 ≥ 128 then (b0 % 32 * 64 + b1 % 64, 2) else (65533, 1) := by
      unfold Lib.decodeN
      rw [if_neg a1]
      by_cases q : 1 < m ∧ b1 / 64 = 2
      · rw [if_pos ⟨by omega, q⟩]
        by_cases q2 : b0 % 32 * 64 + b1 % 64 ≥ 128
        · rw [if_pos q2, if_pos ⟨q, q2⟩]
        · rw [if_neg q2, if_neg (fun h => q2 h.2)]
      · rw [if_neg (fun h => q h.2), if_neg (by omega), if_neg (by omega), if_neg (fun h => q h.1)]
    by_cases q : (1 < m ∧ b1 / 64 = 2) ∧ b0 % 32 * 64 + b1 % 64 ≥ 128
    · rw [hd, if_pos q, rhs_ok _ _ (by decide)]
      rw [if_neg (by omega), if_neg (by omega), if_pos (by omega)]
      rw [if_neg (by omega), if_neg (fun h => h (by omega)), if_neg (by omega)]
    · rw [hd, if_neg q, rhs_bad]
      rw [if_neg (by omega), if_neg (by omega), if_pos (by omega)]
      split
      · rfl
      split
      · rfl
      split
      · rfl
      exfalso
      rename_i h1 h2 h3
      have h2' := Decidable.of_not_not h2
      omega
  by_cases a4 : b0 < 240
  · have hd : Lib.decodeN m b0 b1 b2 b3 = if ((1 < m ∧ b1 / 64 = 2) ∧ (2 < m ∧ b2 / 64 = 2)) ∧ (b0 % 16 * 4096 + b1 % 64 * 64 + b2 % 64 ≥ 2048 ∧ (b0 % 16 * 4096 + b1 % 64 * 64 + b2 % 64 < 55296 ∨ (57344 ≤ b0 % 16 * 4096 + b1 % 64 * 64 + b2 % 64 ∧ b0 % 16 * 4096 + b1 % 64 * 64 + b2 % 64 ≤ 1114111))) then (b0 % 16 * 4096 + b1 % 64 * 64 + b2 % 64, 3) else (65533, 1) := by
      unfold Lib.decodeN
      rw [if_neg a1, if_neg (by omega)]
      by_cases q : (1 < m ∧ b1 / 64 = 2) ∧ (2 < m ∧ b2 / 64 = 2)
      · rw [if_pos ⟨by omega, q.1, q.2⟩]
        by_cases q2 : b0 % 16 * 4096 + b1 % 64 * 64 + b2 % 64 ≥ 2048 ∧ (b0 % 16 * 4096 + b1 % 64 * 64 + b2 % 64 < 55296 ∨ (57344 ≤ b0 % 16 * 4096 + b1 % 64 * 64 + b2 % 64 ∧ b0 % 16 * 4096 + b1 % 64 * 64 + b2 % 64 ≤ 1114111))
        · rw [if_pos q2, if_pos ⟨q, q2⟩]
        · rw [if_neg q2, if_neg (fun h => q2 h.2)]
      · rw [if_neg (fun h => q ⟨h.2.1, h.2.2⟩), if_neg (by omega), if_neg (fun h => q h.1)]
    by_cases q : ((1 < m ∧ b1 / 64 = 2) ∧ (2 < m ∧ b2 / 64 = 2)) ∧ (b0 % 16 * 4096 + b1 % 64 * 64 + b2 % 64 ≥ 2048 ∧ (b0 % 16 * 4096 + b1 % 64 * 64 + b2 % 64 < 55296 ∨ (57344 ≤ b0 % 16 * 4096 + b1 % 64 * 64 + b2 % 64 ∧ b0 % 16 * 4096 + b1 % 64 * 64 + b2 % 64 ≤ 1114111)))
    · rw [hd, if_pos q, rhs_ok _ _ (by decide)]
      rw [if_neg (by omega), if_pos (by omega)]
      rw [if_neg (by omega), if_neg (fun h => h (by omega)), if_neg (by omega)]
    · rw [hd, if_neg q, rhs_bad]
      rw [if_neg (by omega), if_pos (by omega)]
      split
      · rfl
      split
      · rfl
      split
      · rfl
      exfalso
      rename_i h1 h2 h3
      have h2' := Decidable.of_not_not h2
      omega
  by_cases a5 : b0 < 248
  · have hd : Lib.decodeN m b0 b1 b2 b3 = if ((1 < m ∧ b1 / 64 = 2) ∧ (2 < m ∧ b2 / 64 = 2) ∧ (3 < m ∧ b3 / 64 = 2)) ∧ (b0 % 8 * 262144 + b1 % 64 * 4096 + b2 % 64 * 64 + b3 % 64 ≥ 65536 ∧ (b0 % 8 * 262144 + b1 % 64 * 4096 + b2 % 64 * 64 + b3 % 64 < 55296 ∨ (57344 ≤ b0 % 8 * 262144 + b1 % 64 * 4096 + b2 % 64 * 64 + b3 % 64 ∧ b0 % 8 * 262144 + b1 % 64 * 4096 + b2 % 64 * 64 + b3 % 64 ≤ 1114111))) then (b0 % 8 * 262144 + b1 % 64 * 4096 + b2 % 64 * 64 + b3 % 64, 4) else (65533, 1) := by
      unfold Lib.decodeN
      rw [if_neg a1, if_neg (by omega), if_neg (by omega)]
      by_cases q : (1 < m ∧ b1 / 64 = 2) ∧ (2 < m ∧ b2 / 64 = 2) ∧ (3 < m ∧ b3 / 64 = 2)
      · rw [if_pos ⟨by omega, q⟩]
        by_cases q2 : (b0 % 8 * 262144 + b1 % 64 * 4096 + b2 % 64 * 64 + b3 % 64 ≥ 65536 ∧ (b0 % 8 * 262144 + b1 % 64 * 4096 + b2 % 64 * 64 + b3 % 64 < 55296 ∨ (57344 ≤ b0 % 8 * 262144 + b1 % 64 * 4096 + b2 % 64 * 64 + b3 % 64 ∧ b0 % 8 * 262144 + b1 % 64 * 4096 + b2 % 64 * 64 + b3 % 64 ≤ 1114111)))
        · rw [if_pos q2, if_pos ⟨q, q2⟩]
        · rw [if_neg q2, if_neg (fun h => q2 h.2)]
      · rw [if_neg (fun h => q h.2), if_neg (fun h => q h.1)]
    by_cases q : ((1 < m ∧ b1 / 64 = 2) ∧ (2 < m ∧ b2 / 64 = 2) ∧ (3 < m ∧ b3 / 64 = 2)) ∧ (b0 % 8 * 262144 + b1 % 64 * 4096 + b2 % 64 * 64 + b3 % 64 ≥ 65536 ∧ (b0 % 8 * 262144 + b1 % 64 * 4096 + b2 % 64 * 64 + b3 % 64 < 55296 ∨ (57344 ≤ b0 % 8 * 262144 + b1 % 64 * 4096 + b2 % 64 * 64 + b3 % 64 ∧ b0 % 8 * 262144 + b1 % 64 * 4096 + b2 % 64 * 64 + b3 % 64 ≤ 1114111)))
    · rw [hd, if_pos q, rhs_ok _ _ (by decide)]
      rw [if_pos (by omega)]
      rw [if_neg (by omega), if_neg (fun h => h (by omega)), if_neg (by omega)]
    · rw [hd, if_neg q, rhs_bad]
      rw [if_pos (by omega)]
      split
      · rfl
      split
      · rfl
      split
      · rfl
      exfalso
      rename_i h1 h2 h3
      have h2' := Decidable.of_not_not h2
      omega
  · have hd : Lib.decodeN m b0 b1 b2 b3 = (65533, 1) := by
      unfold Lib.decodeN
      rw [if_neg a1, if_neg (by omega), if_neg (by omega), if_neg (by omega)]
    rw [hd, rhs_bad, if_neg (by omega), if_neg (by omega), if_neg (by omega), if_pos (by omega)]
theorem utf_le (s : List UInt8) (i : Nat) : utfR s i ≤ 4 ∧ i + utfR s i ≤ max s.length i := by
  unfold utfR
  repeat' split
  all_goals first | (simp; done) | (unfold finU; repeat' split) | skip
  all_goals omega
theorem rvalid_pure (hP : E.P = Tryz.prog) (s : List UInt8) (hs : s.length ≤ 140737488351232) : XPure E 17 [.str s] (.bool (Lib.validD s)) := by
  refine xpure1 (n := Tryz.f17.ntmps) (c := y17) (t := 2) (by rw [hP]; rfl) (by rw [hP]; kernel_rfl) (by decide) (Nat.le_of_ble_eq_true rfl) ?_
  generalize hρ : entry _ = ρ
  have h0 : ρ 0 = .str s := by rw [← hρ]; rfl
  clear hρ
  unfold y17
  simp only [h0, go_sem, Nat.reduceEqDiff, reduceIte, Int.reduceEq, Int.reduceLT, Int.reduceLE, Nat.reduceAdd, Nat.reduceLT, Nat.reduceLeDiff, Int.reduceToNat, Int.reduceSub, Int.reduceAdd, Int.reduceNeg]
  refine s_loop (fun n ρ L => ∃ j : Nat, j ≤ s.length ∧ n = s.length - j ∧ L = [] ∧ ρ 0 = .str s ∧ ρ 3 = .int .i64 j ∧ Lib.validD s = Lib.validD (s.drop j))
    ⟨0, Nat.zero_le _, rfl, rfl, by simp only [h0, go_sem, Nat.reduceEqDiff, reduceIte, Int.reduceEq, Int.reduceLT, Int.reduceLE, Nat.reduceAdd, Nat.reduceLT, Nat.reduceLeDiff, Int.reduceToNat, Int.reduceSub, Int.reduceAdd, Int.reduceNeg], by simp only [go_sem, Nat.reduceEqDiff, reduceIte, Int.reduceEq, Int.reduceLT, Int.reduceLE, Nat.reduceAdd, Nat.reduceLT, Nat.reduceLeDiff, Int.reduceToNat, Int.reduceSub, Int.reduceAdd, Int.reduceNeg]; try rfl, rfl⟩ ?_
  clear h0 ρ
  rintro n ρ L ⟨j, hj, rfl, rfl, h0, h3, hv⟩
  by_cases hjl : j < s.length
  · have e1 : ((j : Int) < (s.length : Int)) = True := eq_true (by omega)
    simp only [h0, h3, e1, go_sem, Nat.reduceEqDiff, reduceIte, Int.reduceEq, Int.reduceLT, Int.reduceLE, Nat.reduceAdd, Nat.reduceLT, Nat.reduceLeDiff, Int.reduceToNat, Int.reduceSub, Int.reduceAdd, Int.reduceNeg]
    refine xcall_pure (args' := [.str s, .int .i64 j]) rfl (utf8_pure (E := E.noPan) hP s j hjl hs) rfl ?_
    have hne : s.drop j ≠ [] := by
      intro h
      have := congrArg List.length h
      rw [List.length_drop] at this
      simp at this; omega
    rw [Lib.validD_step _ hne] at hv
    have hu := utf_dec s j hjl
    have hle := utf_le s j
    by_cases hb : (Lib.decodeL (s.drop j)).1 = 65533 ∧ (Lib.decodeL (s.drop j)).2 = 1
    · rw [if_pos hb] at hv hu
      rw [hu, hv]
      simp only [h0, h3, e1, go_sem, Nat.reduceEqDiff, reduceIte, Int.reduceEq, Int.reduceLT, Int.reduceLE, Nat.reduceAdd, Nat.reduceLT, Nat.reduceLeDiff, Int.reduceToNat, Int.reduceSub, Int.reduceAdd, Int.reduceNeg]
      rfl
    · rw [if_neg hb] at hv hu
      rw [List.drop_drop, ← hu] at hv
      have hz : utfR s j ≠ 0 := by
        intro hz
        rw [hz] at hu
        have := Lib.decodeL_width (s.drop j)
        omega
      generalize utfR s j = u at *
      have k1 : ((u : Int) = 0) = False := eq_false (by omega)
      have hw : IntKind.i64.wrap ((j : Int) + (u : Int)) = ((j + u : Nat) : Int) := by rw [wrap64 (by omega) (by omega)]; omega
      simp only [h0, h3, e1, k1, hw, go_sem, Nat.reduceEqDiff, reduceIte, Int.reduceEq, Int.reduceLT, Int.reduceLE, Nat.reduceAdd, Nat.reduceLT, Nat.reduceLeDiff, Int.reduceToNat, Int.reduceSub, Int.reduceAdd, Int.reduceNeg]
      exact ⟨s.length - (j + u), by omega, j + u, by omega, rfl, rfl, hv⟩
  · have e1 : ((j : Int) < (s.length : Int)) = False := eq_false (by omega)
    rw [List.drop_eq_nil_of_le (by omega)] at hv
    rw [hv]
    simp only [h0, h3, e1, go_sem, Nat.reduceEqDiff, reduceIte, Int.reduceEq, Int.reduceLT, Int.reduceLE, Nat.reduceAdd, Nat.reduceLT, Nat.reduceLeDiff, Int.reduceToNat, Int.reduceSub, Int.reduceAdd, Int.reduceNeg]
    rfl
end
end Go.X.TryzW
end
section
open Go Go.X Go.Proofs
set_option maxRecDepth 100000
set_option maxHeartbeats 4000000
set_option linter.unusedSimpArgs false
set_option linter.unusedVariables false
namespace Go.X.TryzW
def z12 : XC :=
 (.seq (.ops [ ⟨(some 12), (.mov (.c (.int .i64 1))), none⟩]) (.block 0 (.loop (.seq (.seq (.ops [ ⟨(some 85), (.mov (.t 12)), none⟩, ⟨(some 86), (.mov (.t 8)), none⟩, ⟨(some 87), (.len (.t 86)), none⟩, ⟨(some 88), (.bin .lss (.t 85) (.t 87)), none⟩]) (.cond (.t 88) .skip (.exit 0))) (.seq (.block 1 (.seq (.ops [ ⟨(some 91), (.mov (.t 8)), none⟩, ⟨(some 92), (.mov (.t 12)), none⟩, ⟨(some 93), (.idxS 1 (.t 91) (.t 92)), none⟩, ⟨(some 94), (.load1 (.t 93)), none⟩, ⟨(some 95), (.call (.f 30) [(.t 94), (.c (.str [58]))]), none⟩, ⟨(some 13), (.mov (.t 95)), none⟩]) (.seq (.seq (.ops [ ⟨(some 96), (.mov (.t 13)), none⟩, ⟨(some 97), (.bin .lss (.t 96) (.c (.int .i64 0))), none⟩, ⟨(some 98), (.mov (.t 97)), none⟩, ⟨(some 99), (.mov (.t 8)), (some (98, false))⟩, ⟨(some 100), (.mov (.t 12)), (some (98, false))⟩, ⟨(some 101), (.idxS 1 (.t 99) (.t 100)), (some (98, false))⟩, ⟨(some 102), (.load1 (.t 101)), (some (98, false))⟩, ⟨(some 103), (.mov (.t 13)), (some (98, false))⟩, ⟨(some 104), (.sliceS (.t 102) none (some (.t 103))), (some (98, false))⟩, ⟨(some 105), (.call (.f 33) [(.t 104)]), (some (98, false))⟩, ⟨(some 106), (.un .not (.t 105)), (some (98, false))⟩, ⟨(some 107), (.pick (.t 98) (.c (.bool true)) (.t 106)), none⟩, ⟨(some 108), (.mov (.t 107)), none⟩, ⟨(some 109), (.mov (.t 8)), (some (108, false))⟩, ⟨(some 110), (.mov (.t 12)), (some (108, false))⟩, ⟨(some 111), (.idxS 1 (.t 109) (.t 110)), (some (108, false))⟩, ⟨(some 112), (.load1 (.t 111)), (some (108, false))⟩, ⟨(some 113), (.mov (.t 13)), (some (108, false))⟩, ⟨(some 114), (.bin .add (.t 113) (.c (.int .i64 1))), (some (108, false))⟩, ⟨(some 115), (.sliceS (.t 112) (some (.t 114)) none), (some (108, false))⟩, ⟨(some 116), (.call (.f 32) [(.t 115), (.c (.int .u8 32)), (.c (.int .u8 126))]), (some (108, false))⟩, ⟨(some 117), (.un .not (.t 116)), (some (108, false))⟩, ⟨(some 118), (.pick (.t 108) (.c (.bool true)) (.t 117)), none⟩]) (.cond (.t 118) (.seq (.ops [ ⟨(some 2), (.mov (.c (.str []))), none⟩, ⟨(some 3), (.mov (.c (.str []))), none⟩, ⟨(some 4), (.mov (.c (.str []))), none⟩, ⟨(some 5), (.mov (.c (.int .i64 400))), none⟩]) .ret) .skip)) (.seq (.seq (.ops [ ⟨(some 119), (.mov (.t 8)), none⟩, ⟨(some 120), (.mov (.t 12)), none⟩, ⟨(some 121), (.idxS 1 (.t 119) (.t 120)), none⟩, ⟨(some 122), (.load1 (.t 121)), none⟩, ⟨(some 123), (.mov (.t 13)), none⟩, ⟨(some 124), (.sliceS (.t 122) none (some (.t 123))), none⟩, ⟨(some 125), (.call (.f 34) [(.t 124)]), none⟩, ⟨(some 126), (.bin .neq (.t 125) (.c (.str [99, 111, 110, 116, 101, 110, 116, 45, 108, 101, 110, 103, 116, 104]))), none⟩]) (.cond (.t 126) (.exit 1) .skip)) (.seq (.ops [ ⟨(some 128), (.mov (.t 8)), none⟩, ⟨(some 129), (.mov (.t 12)), none⟩, ⟨(some 130), (.idxS 1 (.t 128) (.t 129)), none⟩, ⟨(some 131), (.load1 (.t 130)), none⟩, ⟨(some 132), (.mov (.t 13)), none⟩, ⟨(some 133), (.bin .add (.t 132) (.c (.int .i64 1))), none⟩, ⟨(some 134), (.sliceS (.t 131) (some (.t 133)) none), none⟩, ⟨(some 135), (.call (.f 36) [(.t 134)]), none⟩, ⟨(some 136), (.call (.f 35) [(.t 135)]), none⟩, ⟨(some 127), (.mov (.t 136)), none⟩, ⟨(some 137), (.ext (.t 127) 0), none⟩, ⟨(some 138), (.ext (.t 127) 1), none⟩, ⟨(some 14), (.mov (.t 137)), none⟩, ⟨(some 15), (.mov (.t 138)), none⟩]) (.seq (.seq (.ops [ ⟨(some 139), (.mov (.t 15)), none⟩, ⟨(some 140), (.un .not (.t 139)), none⟩, ⟨(some 141), (.mov (.t 140)), none⟩, ⟨(some 142), (.mov (.t 11)), (some (141, false))⟩, ⟨(some 143), (.pick (.t 141) (.c (.bool true)) (.t 142)), none⟩]) (.cond (.t 143) (.seq (.ops [ ⟨(some 2), (.mov (.c (.str []))), none⟩, ⟨(some 3), (.mov (.c (.str []))), none⟩, ⟨(some 4), (.mov (.c (.str []))), none⟩, ⟨(some 5), (.mov (.c (.int .i64 400))), none⟩]) .ret) .skip)) (.ops [ ⟨(some 144), (.mov (.t 14)), none⟩, ⟨(some 10), (.mov (.t 144)), none⟩, ⟨(some 11), (.mov (.c (.bool true))), none⟩]))))))) (.ops [ ⟨(some 89), (.mov (.t 12)), none⟩, ⟨(some 90), (.bin .add (.t 89) (.c (.int .i64 1))), none⟩, ⟨(some 12), (.mov (.t 90)), none⟩]))))))
/- "tiller/tillerref13.Read" params { toList := [23] } results { toList := [Go.ResultVar.tmp 2, Go.ResultVar.tmp 3, Go.ResultVar.tmp 4, Go.ResultVar.tmp 5] } -/
section
variable {E : Env} {L : List Blk} {K : IV → List Blk → Prop}
end
end Go.X.TryzW
end
section
open Go Go.X Go.Proofs
set_option maxRecDepth 100000
set_option maxHeartbeats 4000000
set_option linter.unusedSimpArgs false
set_option linter.unusedVariables false
namespace Go.X.TryzW
section
variable {E : Env} {L : List Blk} {K : IV → List Blk → Prop}
end
end Go.X.TryzW
end
section
open Go Go.X Go.Proofs
set_option maxRecDepth 100000
set_option maxHeartbeats 4000000
set_option linter.unusedSimpArgs false
set_option linter.unusedVariables false
namespace Go.X.TryzW
/- "tiller/tillerlaw13.clip" params { toList := [23] } results { toList := [Go.ResultVar.tmp 2] } -/
/- "tiller/tillerkeep.Lend" params { toList := [23] } results { toList := [Go.ResultVar.tmp 2] } -/
/- "tiller/tillerkeep.Intact" params { toList := [23, 23] } results { toList := [Go.ResultVar.tmp 4] } -/
/- "tiller/tillerlaw13.FrontRead" params { toList := [22] } results { toList := [Go.ResultVar.tmp 2] } -/
def y3 : XC :=
 (.seq
  (.ops [
    ⟨(some 2), (.mov (.c (.bool false))), none⟩])
  (.seq
   (.seq
    (.ops [
      ⟨(some 3), (.mov (.c (.int .i64 0))), none⟩])
    (.block 0
     (.loop
      (.seq
       (.seq
        (.ops [
          ⟨(some 14), (.mov (.t 3)), none⟩,
          ⟨(some 15), (.mov (.t 0)), none⟩,
          ⟨(some 16), (.len (.t 15)), none⟩,
          ⟨(some 17), (.bin .lss (.t 14) (.t 16)), none⟩,
          ⟨(some 18), (.mov (.t 17)), none⟩,
          ⟨(some 19), (.mov (.t 3)), (some (18, true))⟩,
          ⟨(some 20), (.bin .lss (.t 19) (.c (.int .i64 12))), (some (18, true))⟩,
          ⟨(some 21), (.pick (.t 18) (.t 20) (.c (.bool false))), none⟩])
        (.cond (.t 21)
         .skip
         (.exit 0)))
       (.seq
        (.block 1
         (.seq
          (.ops [
            ⟨(some 24), (.mov (.t 0)), none⟩,
            ⟨(some 25), (.mov (.t 3)), none⟩,
            ⟨(some 26), (.idxS 1 (.t 24) (.t 25)), none⟩,
            ⟨(some 27), (.load1 (.t 26)), none⟩,
            ⟨(some 28), (.call (.f 9) [(.t 27)]), none⟩,
            ⟨(some 4), (.mov (.t 28)), none⟩])
          (.seq
           (.ops [
             ⟨(some 29), (.mov (.t 4)), none⟩,
             ⟨(some 30), (.call (.f 10) [(.t 29)]), none⟩,
             ⟨(some 5), (.mov (.t 30)), none⟩])
           (.seq
            (.ops [
              ⟨(some 32), (.mov (.t 5)), none⟩,
              ⟨(some 33), (.call (.f 11) [(.t 32)]), none⟩,
              ⟨(some 31), (.mov (.t 33)), none⟩,
              ⟨(some 34), (.ext (.t 31) 0), none⟩,
              ⟨(some 35), (.ext (.t 31) 1), none⟩,
              ⟨(some 36), (.ext (.t 31) 2), none⟩,
              ⟨(some 37), (.ext (.t 31) 3), none⟩,
              ⟨(some 6), (.mov (.t 34)), none⟩,
              ⟨(some 7), (.mov (.t 35)), none⟩,
              ⟨(some 8), (.mov (.t 36)), none⟩,
              ⟨(some 9), (.mov (.t 37)), none⟩])
            (.seq
             (.ops [
               ⟨(some 39), (.mov (.t 4)), none⟩,
               ⟨(some 40), (.call (.f 12) [(.t 39)]), none⟩,
               ⟨(some 38), (.mov (.t 40)), none⟩,
               ⟨(some 41), (.ext (.t 38) 0), none⟩,
               ⟨(some 42), (.ext (.t 38) 1), none⟩,
               ⟨(some 43), (.ext (.t 38) 2), none⟩,
               ⟨(some 44), (.ext (.t 38) 3), none⟩,
               ⟨(some 10), (.mov (.t 41)), none⟩,
               ⟨(some 11), (.mov (.t 42)), none⟩,
               ⟨(some 12), (.mov (.t 43)), none⟩,
               ⟨(some 13), (.mov (.t 44)), none⟩])
             (.seq
              (.ops [
                ⟨(some 45), (.mov (.t 5)), none⟩,
                ⟨(some 46), (.mov (.t 4)), none⟩,
                ⟨(some 47), (.call (.f 13) [(.t 45), (.t 46)]), none⟩,
                ⟨(some 48), (.un .not (.t 47)), none⟩,
                ⟨(some 49), (.mov (.t 48)), none⟩,
                ⟨(some 50), (.mov (.t 6)), (some (49, false))⟩,
                ⟨(some 51), (.mov (.t 10)), (some (49, false))⟩,
                ⟨(some 52), (.bin .neq (.t 50) (.t 51)), (some (49, false))⟩,
                ⟨(some 53), (.pick (.t 49) (.c (.bool true)) (.t 52)), none⟩,
                ⟨(some 54), (.mov (.t 53)), none⟩,
                ⟨(some 55), (.mov (.t 7)), (some (54, false))⟩,
                ⟨(some 56), (.mov (.t 11)), (some (54, false))⟩,
                ⟨(some 57), (.bin .neq (.t 55) (.t 56)), (some (54, false))⟩,
                ⟨(some 58), (.pick (.t 54) (.c (.bool true)) (.t 57)), none⟩,
                ⟨(some 59), (.mov (.t 58)), none⟩,
                ⟨(some 60), (.mov (.t 8)), (some (59, false))⟩,
                ⟨(some 61), (.mov (.t 12)), (some (59, false))⟩,
                ⟨(some 62), (.bin .neq (.t 60) (.t 61)), (some (59, false))⟩,
                ⟨(some 63), (.pick (.t 59) (.c (.bool true)) (.t 62)), none⟩,
                ⟨(some 64), (.mov (.t 63)), none⟩,
                ⟨(some 65), (.mov (.t 9)), (some (64, false))⟩,
                ⟨(some 66), (.mov (.t 13)), (some (64, false))⟩,
                ⟨(some 67), (.bin .neq (.t 65) (.t 66)), (some (64, false))⟩,
                ⟨(some 68), (.pick (.t 64) (.c (.bool true)) (.t 67)), none⟩])
              (.cond (.t 68)
               (.seq
                (.ops [
                  ⟨(some 2), (.mov (.c (.bool false))), none⟩])
                .ret)
               .skip)))))))
        (.ops [
          ⟨(some 22), (.mov (.t 3)), none⟩,
          ⟨(some 23), (.bin .add (.t 22) (.c (.int .i64 1))), none⟩,
          ⟨(some 3), (.mov (.t 23)), none⟩]))))))
   (.seq
    (.ops [
      ⟨(some 69), (.call (.f 14) []), none⟩,
      ⟨(some 2), (.mov (.t 69)), none⟩])
    .ret)))

section
variable {E : Env} {L : List Blk} {K : IV → List Blk → Prop}
def marks : List UInt8 := [201, 202, 203, 204]
end
end Go.X.TryzW
end
section
open Go Go.X Go.Proofs
set_option maxRecDepth 100000
set_option maxHeartbeats 4000000
set_option linter.unusedSimpArgs false
set_option linter.unusedVariables false
namespace Go.X.TryzW
/- "tiller/tillerlaw13.has" params { toList := [38, 9] } results { toList := [Go.ResultVar.tmp 4] } -/
def y22 : XC :=
 (.seq
  (.ops [
    ⟨(some 4), (.mov (.c (.bool false))), none⟩])
  (.seq
   (.seq
    (.ops [
      ⟨(some 5), (.mov (.c (.int .i64 0))), none⟩])
    (.block 0
     (.loop
      (.seq
       (.seq
        (.ops [
          ⟨(some 6), (.mov (.t 5)), none⟩,
          ⟨(some 7), (.mov (.t 0)), none⟩,
          ⟨(some 8), (.len (.t 7)), none⟩,
          ⟨(some 9), (.bin .lss (.t 6) (.t 8)), none⟩])
        (.cond (.t 9)
         .skip
         (.exit 0)))
       (.seq
        (.block 1
         (.seq
          (.ops [
            ⟨(some 12), (.mov (.t 0)), none⟩,
            ⟨(some 13), (.mov (.t 5)), none⟩,
            ⟨(some 14), (.idxS 2 (.t 12) (.t 13)), none⟩,
            ⟨(some 15), (.fldA 0 (.t 14)), none⟩,
            ⟨(some 16), (.load1 (.t 15)), none⟩,
            ⟨(some 17), (.mov (.t 1)), none⟩,
            ⟨(some 18), (.bin .eql (.t 16) (.t 17)), none⟩])
          (.cond (.t 18)
           (.seq
            (.ops [
              ⟨(some 4), (.mov (.c (.bool true))), none⟩])
            .ret)
           .skip)))
        (.ops [
          ⟨(some 10), (.mov (.t 5)), none⟩,
          ⟨(some 11), (.bin .add (.t 10) (.c (.int .i64 1))), none⟩,
          ⟨(some 5), (.mov (.t 11)), none⟩]))))))
   (.seq
    (.ops [
      ⟨(some 4), (.mov (.c (.bool false))), none⟩])
    .ret)))

/- "tiller/tillerkeep.Pairs" params { toList := [38, 38] } results { toList := [Go.ResultVar.tmp 4] } -/
def y24 : XC :=
 (.seq
  (.ops [
    ⟨(some 4), (.mov (.c (.bool false))), none⟩])
  (.seq
   (.seq
    (.ops [
      ⟨(some 6), (.mov (.t 0)), none⟩,
      ⟨(some 7), (.len (.t 6)), none⟩,
      ⟨(some 8), (.mov (.t 1)), none⟩,
      ⟨(some 9), (.len (.t 8)), none⟩,
      ⟨(some 10), (.bin .neq (.t 7) (.t 9)), none⟩])
    (.cond (.t 10)
     (.seq
      (.ops [
        ⟨(some 4), (.mov (.c (.bool false))), none⟩])
      .ret)
     .skip))
   (.seq
    (.seq
     (.ops [
       ⟨(some 5), (.mov (.c (.int .i64 0))), none⟩])
     (.block 0
      (.loop
       (.seq
        (.seq
         (.ops [
           ⟨(some 11), (.mov (.t 5)), none⟩,
           ⟨(some 12), (.mov (.t 0)), none⟩,
           ⟨(some 13), (.len (.t 12)), none⟩,
           ⟨(some 14), (.bin .lss (.t 11) (.t 13)), none⟩])
         (.cond (.t 14)
          .skip
          (.exit 0)))
        (.seq
         (.block 1
          (.seq
           (.drawE [
             ⟨(some 17), (.mov (.t 0)), none⟩,
             ⟨(some 18), (.mov (.t 5)), none⟩,
             ⟨(some 19), (.idxS 2 (.t 17) (.t 18)), none⟩,
             ⟨(some 20), (.loadN 2 (.t 19)), none⟩,
             ⟨(some 21), (.mov (.t 1)), none⟩,
             ⟨(some 22), (.mov (.t 5)), none⟩,
             ⟨(some 23), (.idxS 2 (.t 21) (.t 22)), none⟩,
             ⟨(some 24), (.loadN 2 (.t 23)), none⟩,
             ⟨(some 25), (.ex (.eqA true [1, 1]) [(.t 20), (.t 24)]), none⟩])
           (.cond (.t 25)
            (.seq
             (.ops [
               ⟨(some 4), (.mov (.c (.bool false))), none⟩])
             .ret)
            .skip)))
         (.ops [
           ⟨(some 15), (.mov (.t 5)), none⟩,
           ⟨(some 16), (.bin .add (.t 15) (.c (.int .i64 1))), none⟩,
           ⟨(some 5), (.mov (.t 16)), none⟩]))))))
    (.seq
     (.ops [
       ⟨(some 4), (.mov (.c (.bool true))), none⟩])
     .ret))))

section
variable {E : Env}
theorem rows_pp (l : List Fr.Pair) : Rows 2 (pRows l) := by
  intro row hr
  unfold pRows at hr
  obtain ⟨x, _, rfl⟩ := List.mem_map.1 hr
  rfl
def hasP (l : List Fr.Pair) (k : List UInt8) : Bool := l.any fun p => decide (p.key = k)
theorem pairs_pure (hP : E.P = Tryz.prog) (a b : List Fr.Pair) (ha : a.length ≤ 1000000) (hb : b.length ≤ 1000000) : XPure E 24 [.isl (pRows a), .isl (pRows b)] (.bool (decide (a = b))) := by
  refine xpure1 (n := Tryz.f24.ntmps) (c := y24) (t := 4) (by rw [hP]; rfl) (by rw [hP]; kernel_rfl) (by decide) (Nat.le_of_ble_eq_true rfl) ?_
  generalize hρ : entry _ = ρ
  have h0 : ρ 0 = .isl (pRows a) := by rw [← hρ]; rfl
  have h1 : ρ 1 = .isl (pRows b) := by rw [← hρ]; rfl
  clear hρ
  unfold y24
  by_cases hl : a.length = b.length
  case neg =>
    have f1 : (((pRows a).length : Int) = ((pRows b).length : Int)) = False := eq_false (by rw [pRows_len, pRows_len]; omega)
    simp only [h0, h1, f1, go_sem, Nat.reduceEqDiff, reduceIte, Int.reduceEq, Int.reduceLT, Int.reduceLE, Nat.reduceAdd, Nat.reduceLT, Nat.reduceLeDiff, Int.reduceToNat, Int.reduceSub, Int.reduceAdd, Int.reduceNeg]
    rw [decide_eq_false (fun h => hl (by rw [h]))]
    rfl
  have f1 : (((pRows a).length : Int) = ((pRows b).length : Int)) = True := eq_true (by rw [pRows_len, pRows_len]; omega)
  simp only [h0, h1, f1, go_sem, Nat.reduceEqDiff, reduceIte, Int.reduceEq, Int.reduceLT, Int.reduceLE, Nat.reduceAdd, Nat.reduceLT, Nat.reduceLeDiff, Int.reduceToNat, Int.reduceSub, Int.reduceAdd, Int.reduceNeg]
  refine s_loop (fun n ρ L => ∃ j : Nat, j ≤ a.length ∧ n = a.length - j ∧ L = [] ∧ ρ 0 = .isl (pRows a) ∧ ρ 1 = .isl (pRows b) ∧ ρ 5 = .int .i64 j ∧ a.take j = b.take j) (n := a.length)
    ⟨0, Nat.zero_le _, rfl, rfl, by simp only [h0, go_sem, Nat.reduceEqDiff, reduceIte, Int.reduceEq, Int.reduceLT, Int.reduceLE, Nat.reduceAdd, Nat.reduceLT, Nat.reduceLeDiff, Int.reduceToNat, Int.reduceSub, Int.reduceAdd, Int.reduceNeg], by simp only [h1, go_sem, Nat.reduceEqDiff, reduceIte, Int.reduceEq, Int.reduceLT, Int.reduceLE, Nat.reduceAdd, Nat.reduceLT, Nat.reduceLeDiff, Int.reduceToNat, Int.reduceSub, Int.reduceAdd, Int.reduceNeg], by simp only [go_sem, Nat.reduceEqDiff, reduceIte, Int.reduceEq, Int.reduceLT, Int.reduceLE, Nat.reduceAdd, Nat.reduceLT, Nat.reduceLeDiff, Int.reduceToNat, Int.reduceSub, Int.reduceAdd, Int.reduceNeg]; try rfl, rfl⟩ ?_
  clear h0 h1 f1 ρ
  rintro n ρ L ⟨j, hj, rfl, rfl, h0, h1, h5, ht⟩
  by_cases hjl : j < a.length
  · have e0 : ((0 : Int) ≤ (j : Int)) = True := eq_true (by omega)
    have e1 : ((j : Int) < (a.length : Int)) = True := eq_true (by omega)
    have hga := pRows_get hjl
    have hgb := pRows_get (l := b) (i := j) (by omega)
    have hw : IntKind.i64.wrap ((j : Int) + 1) = ((j + 1 : Nat) : Int) := by rw [wrap64 (by omega) (by omega)]; rfl
    simp only [h0, h1, h5, e0, e1, pRows_len, rows_pp, hga, hgb, pRow, go_sem, Nat.reduceEqDiff, reduceIte, Int.reduceEq, Int.reduceLT, Int.reduceLE, Nat.reduceAdd, Nat.reduceLT, Nat.reduceLeDiff, Int.reduceToNat, Int.reduceSub, Int.reduceAdd, Int.reduceNeg]
    have hta : a.take (j + 1) = a.take j ++ [a.getD j default] := by
      rw [List.take_add_one, List.getD_eq_getElem?_getD, List.getElem?_eq_getElem hjl]; rfl
    have htb : b.take (j + 1) = b.take j ++ [b.getD j default] := by
      rw [List.take_add_one, List.getD_eq_getElem?_getD, List.getElem?_eq_getElem (by omega)]; rfl
    generalize a.getD j default = p at *
    generalize b.getD j default = q at *
    refine ⟨hjl, by omega, by omega, ?_⟩
    rw [show eqCells [1, 1] [IV.str p.key, IV.str p.val] [IV.str q.key, IV.str q.val] = some (decide (p.key = q.key) && (decide (p.val = q.val) && true)) from rfl]
    by_cases hpq : p = q
    · subst hpq
      have k1 : (p.key = p.key) = True := eq_self _
      have k2 : (p.val = p.val) = True := eq_self _
      simp only [h0, h1, h5, k1, k2, decide_true, Bool.and_true, Bool.not_true, hw, go_sem, Nat.reduceEqDiff, reduceIte, Int.reduceEq, Int.reduceLT, Int.reduceLE, Nat.reduceAdd, Nat.reduceLT, Nat.reduceLeDiff, Int.reduceToNat, Int.reduceSub, Int.reduceAdd, Int.reduceNeg]
      exact ⟨a.length - (j + 1), by omega, j + 1, by omega, rfl, rfl, by rw [hta, htb, ht]⟩
    · have hd : (decide (p.key = q.key) && (decide (p.val = q.val) && true)) = false := by
        cases hd : (decide (p.key = q.key) && (decide (p.val = q.val) && true)) with
        | false => rfl
        | true =>
          rw [Bool.and_true, Bool.and_eq_true, decide_eq_true_eq, decide_eq_true_eq] at hd
          exact absurd (by cases p; cases q; simp_all) hpq
      rw [hd]
      simp only [h0, h1, h5, hw, go_sem, Nat.reduceEqDiff, reduceIte, Int.reduceEq, Int.reduceLT, Int.reduceLE, Nat.reduceAdd, Nat.reduceLT, Nat.reduceLeDiff, Int.reduceToNat, Int.reduceSub, Int.reduceAdd, Int.reduceNeg]
      rw [decide_eq_false (fun h => hpq (by
        have := congrArg (List.take (j + 1)) h
        rw [hta, htb, ht] at this
        simpa using this))]
      rfl
  · have e1 : ((j : Int) < (a.length : Int)) = False := eq_false (by omega)
    rw [List.take_of_length_le (by omega), List.take_of_length_le (by omega)] at ht
    simp only [h0, h1, h5, e1, pRows_len, go_sem, Nat.reduceEqDiff, reduceIte, Int.reduceEq, Int.reduceLT, Int.reduceLE, Nat.reduceAdd, Nat.reduceLT, Nat.reduceLeDiff, Int.reduceToNat, Int.reduceSub, Int.reduceAdd, Int.reduceNeg]
    rw [decide_eq_true ht]
    rfl
theorem any_take_succ {l : List Fr.Pair} {f : Fr.Pair → Bool} {j : Nat} (hj : j < l.length) (h : (l.take j).any f = false) (hp : f (l.getD j default) = false) : (l.take (j + 1)).any f = false := by
  rw [List.take_add_one, List.any_append, h, List.getElem?_eq_getElem hj]
  rw [List.getD_eq_getElem?_getD, List.getElem?_eq_getElem hj] at hp
  simpa using hp
theorem has_pure (hP : E.P = Tryz.prog) (l : List Fr.Pair) (hl : l.length ≤ 1000000) (k : List UInt8) : XPure E 22 [.isl (pRows l), .str k] (.bool (hasP l k)) := by
  refine xpure1 (n := Tryz.f22.ntmps) (c := y22) (t := 4) (by rw [hP]; rfl) (by rw [hP]; kernel_rfl) (by decide) (Nat.le_of_ble_eq_true rfl) ?_
  generalize hρ : entry _ = ρ
  have h0 : ρ 0 = .isl (pRows l) := by rw [← hρ]; rfl
  have h1 : ρ 1 = .str k := by rw [← hρ]; rfl
  clear hρ
  unfold y22
  simp only [h0, h1, go_sem, Nat.reduceEqDiff, reduceIte, Int.reduceEq, Int.reduceLT, Int.reduceLE, Nat.reduceAdd, Nat.reduceLT, Nat.reduceLeDiff, Int.reduceToNat, Int.reduceSub, Int.reduceAdd, Int.reduceNeg]
  refine s_loop (fun n ρ L => ∃ j : Nat, j ≤ l.length ∧ n = l.length - j ∧ L = [] ∧ ρ 0 = .isl (pRows l) ∧ ρ 1 = .str k ∧ ρ 5 = .int .i64 j ∧ (l.take j).any (fun p => decide (p.key = k)) = false) (n := l.length)
    ⟨0, Nat.zero_le _, rfl, rfl, by simp only [h0, go_sem, Nat.reduceEqDiff, reduceIte, Int.reduceEq, Int.reduceLT, Int.reduceLE, Nat.reduceAdd, Nat.reduceLT, Nat.reduceLeDiff, Int.reduceToNat, Int.reduceSub, Int.reduceAdd, Int.reduceNeg], by simp only [h1, go_sem, Nat.reduceEqDiff, reduceIte, Int.reduceEq, Int.reduceLT, Int.reduceLE, Nat.reduceAdd, Nat.reduceLT, Nat.reduceLeDiff, Int.reduceToNat, Int.reduceSub, Int.reduceAdd, Int.reduceNeg], by simp only [go_sem, Nat.reduceEqDiff, reduceIte, Int.reduceEq, Int.reduceLT, Int.reduceLE, Nat.reduceAdd, Nat.reduceLT, Nat.reduceLeDiff, Int.reduceToNat, Int.reduceSub, Int.reduceAdd, Int.reduceNeg]; try rfl, rfl⟩ ?_
  clear h0 h1 ρ
  rintro n ρ L ⟨j, hj, rfl, rfl, h0, h1, h5, hno⟩
  by_cases hjl : j < l.length
  · have e0 : ((0 : Int) ≤ (j : Int)) = True := eq_true (by omega)
    have e1 : ((j : Int) < (l.length : Int)) = True := eq_true (by omega)
    have hga := pRows_get hjl
    have hw : IntKind.i64.wrap ((j : Int) + 1) = ((j + 1 : Nat) : Int) := by rw [wrap64 (by omega) (by omega)]; rfl
    by_cases hk : (l.getD j default).key = k
    · have k1 : ((l.getD j default).key = k) = True := eq_true hk
      simp only [h0, h1, h5, e0, e1, pRows_len, rows_pp, hga, pRow, k1, hw, go_sem, Nat.reduceEqDiff, reduceIte, Int.reduceEq, Int.reduceLT, Int.reduceLE, Nat.reduceAdd, Nat.reduceLT, Nat.reduceLeDiff, Int.reduceToNat, Int.reduceSub, Int.reduceAdd, Int.reduceNeg]
      have : hasP l k = true := List.any_eq_true.2 ⟨l.getD j default, by rw [List.getD_eq_getElem?_getD, List.getElem?_eq_getElem hjl]; exact List.getElem_mem _, decide_eq_true hk⟩
      rw [this]
      first | rfl | exact ⟨hjl, rfl⟩
    · have k1 : ((l.getD j default).key = k) = False := eq_false hk
      simp only [h0, h1, h5, e0, e1, pRows_len, rows_pp, hga, pRow, k1, hw, go_sem, Nat.reduceEqDiff, reduceIte, Int.reduceEq, Int.reduceLT, Int.reduceLE, Nat.reduceAdd, Nat.reduceLT, Nat.reduceLeDiff, Int.reduceToNat, Int.reduceSub, Int.reduceAdd, Int.reduceNeg]
      first
        | exact ⟨l.length - (j + 1), by omega, j + 1, by omega, rfl, rfl, any_take_succ hjl hno (decide_eq_false hk)⟩
        | exact ⟨hjl, l.length - (j + 1), by omega, j + 1, by omega, rfl, rfl, any_take_succ hjl hno (decide_eq_false hk)⟩
  · have e1 : ((j : Int) < (l.length : Int)) = False := eq_false (by omega)
    rw [List.take_of_length_le (by omega)] at hno
    simp only [h0, h1, h5, e1, pRows_len, go_sem, Nat.reduceEqDiff, reduceIte, Int.reduceEq, Int.reduceLT, Int.reduceLE, Nat.reduceAdd, Nat.reduceLT, Nat.reduceLeDiff, Int.reduceToNat, Int.reduceSub, Int.reduceAdd, Int.reduceNeg]
    rw [show hasP l k = false from hno]
    rfl
end
end Go.X.TryzW
end
section
open Go Go.X Go.Proofs
set_option maxRecDepth 100000
set_option maxHeartbeats 4000000
set_option linter.unusedSimpArgs false
set_option linter.unusedVariables false
namespace Go.X.TryzW
def z8v : XC :=
 (.seq (.ops [ ⟨(some 137), (.mov (.t 11)), none⟩, ⟨(some 138), (.mov (.t 1)), none⟩, ⟨(some 139), (.len (.t 138)), none⟩, ⟨(some 140), (.bin .lss (.t 137) (.t 139)), none⟩, ⟨(some 141), (.mov (.t 140)), none⟩, ⟨(some 142), (.mov (.t 1)), (some (141, true))⟩, ⟨(some 143), (.mov (.t 11)), (some (141, true))⟩, ⟨(some 144), (.idxS 1 (.t 142) (.t 143)), (some (141, true))⟩, ⟨(some 145), (.load1 (.t 144)), (some (141, true))⟩, ⟨(some 146), (.bin .gtr (.t 145) (.c (.int .i64 (-1000000000000000)))), (some (141, true))⟩, ⟨(some 147), (.pick (.t 141) (.t 146) (.c (.bool false))), none⟩, ⟨(some 148), (.mov (.t 147)), none⟩, ⟨(some 149), (.mov (.t 1)), (some (148, true))⟩, ⟨(some 150), (.mov (.t 11)), (some (148, true))⟩, ⟨(some 151), (.idxS 1 (.t 149) (.t 150)), (some (148, true))⟩, ⟨(some 152), (.load1 (.t 151)), (some (148, true))⟩, ⟨(some 153), (.bin .lss (.t 152) (.c (.int .i64 1000000000000000))), (some (148, true))⟩, ⟨(some 154), (.pick (.t 148) (.t 153) (.c (.bool false))), none⟩]) (.cond (.t 154) (.seq (.ops [ ⟨(some 155), (.mov (.t 1)), none⟩, ⟨(some 156), (.mov (.t 11)), none⟩, ⟨(some 157), (.idxS 1 (.t 155) (.t 156)), none⟩, ⟨(some 158), (.load1 (.t 157)), none⟩, ⟨(some 159), (.call (.f 16) [(.t 158)]), none⟩, ⟨(some 160), (.fldA 1 (.t 12)), none⟩, ⟨none, (.store 1 (.t 160) (.t 159)), none⟩]) (.ops [ ⟨(some 161), (.fldA 1 (.t 12)), none⟩, ⟨(some 162), (.load1 (.t 161)), none⟩, ⟨(some 13), (.mov (.t 162)), none⟩])) .skip))
/- "tiller/tillerlaw13.FrontBack" params { toList := [38, 37, 9] } results { toList := [Go.ResultVar.tmp 6] } -/
def y8 : XC :=
 (.seq (.ops [ ⟨(some 6), (.mov (.c (.bool false))), none⟩]) (.seq (.ops [ ⟨(some 7), (.mov (.c (.str []))), none⟩]) (.seq (.seq (.ops [ ⟨(some 8), (.mov (.c (.int .i64 0))), none⟩]) (.block 0 (.loop (.seq (.seq (.ops [ ⟨(some 17), (.mov (.t 8)), none⟩, ⟨(some 18), (.mov (.t 2)), none⟩, ⟨(some 19), (.lenS (.t 18)), none⟩, ⟨(some 20), (.bin .lss (.t 17) (.t 19)), none⟩, ⟨(some 21), (.mov (.t 20)), none⟩, ⟨(some 22), (.mov (.t 8)), (some (21, true))⟩, ⟨(some 23), (.bin .lss (.t 22) (.c (.int .i64 5))), (some (21, true))⟩, ⟨(some 24), (.pick (.t 21) (.t 23) (.c (.bool false))), none⟩]) (.cond (.t 24) .skip (.exit 0))) (.seq (.block 1 (.seq (.ops [ ⟨(some 27), (.mov (.t 2)), none⟩, ⟨(some 28), (.mov (.t 8)), none⟩, ⟨(some 29), (.idx (.t 27) (.t 28)), none⟩, ⟨(some 30), (.bin .eql (.t 29) (.c (.int .u8 32))), none⟩, ⟨(some 31), (.mov (.t 30)), none⟩, ⟨(some 32), (.mov (.t 2)), (some (31, false))⟩, ⟨(some 33), (.mov (.t 8)), (some (31, false))⟩, ⟨(some 34), (.idx (.t 32) (.t 33)), (some (31, false))⟩, ⟨(some 35), (.bin .eql (.t 34) (.c (.int .u8 10))), (some (31, false))⟩, ⟨(some 36), (.pick (.t 31) (.c (.bool true)) (.t 35)), none⟩, ⟨(some 37), (.mov (.t 36)), none⟩, ⟨(some 38), (.mov (.t 2)), (some (37, false))⟩, ⟨(some 39), (.mov (.t 8)), (some (37, false))⟩, ⟨(some 40), (.idx (.t 38) (.t 39)), (some (37, false))⟩, ⟨(some 41), (.bin .eql (.t 40) (.c (.int .u8 13))), (some (37, false))⟩, ⟨(some 42), (.pick (.t 37) (.c (.bool true)) (.t 41)), none⟩, ⟨(some 43), (.mov (.t 42)), none⟩, ⟨(some 44), (.mov (.t 2)), (some (43, false))⟩, ⟨(some 45), (.mov (.t 8)), (some (43, false))⟩, ⟨(some 46), (.idx (.t 44) (.t 45)), (some (43, false))⟩, ⟨(some 47), (.bin .eql (.t 46) (.c (.int .u8 9))), (some (43, false))⟩, ⟨(some 48), (.pick (.t 43) (.c (.bool true)) (.t 47)), none⟩]) (.cond (.t 48) (.ops [ ⟨(some 49), (.mov (.t 7)), none⟩, ⟨(some 50), (.mov (.t 2)), none⟩, ⟨(some 51), (.mov (.t 8)), none⟩, ⟨(some 52), (.mov (.t 8)), none⟩, ⟨(some 53), (.bin .add (.t 52) (.c (.int .i64 1))), none⟩, ⟨(some 54), (.sliceS (.t 50) (some (.t 51)) (some (.t 53))), none⟩, ⟨(some 55), (.bin .add (.t 49) (.t 54)), none⟩, ⟨(some 7), (.mov (.t 55)), none⟩]) .skip))) (.ops [ ⟨(some 25), (.mov (.t 8)), none⟩, ⟨(some 26), (.bin .add (.t 25) (.c (.int .i64 1))), none⟩, ⟨(some 8), (.mov (.t 26)), none⟩])))))) (.seq (.ops [ ⟨(some 56), (.mov (.t 7)), none⟩, ⟨(some 57), (.bin .add (.t 56) (.c (.str [123]))), none⟩, ⟨(some 58), (.mov (.t 7)), none⟩, ⟨(some 59), (.bin .add (.t 57) (.t 58)), none⟩, ⟨(some 9), (.mov (.t 59)), none⟩]) (.seq (.ops [ ⟨(some 10), (.mov (.c .nsl)), none⟩]) (.seq (.seq (.ops [ ⟨(some 11), (.mov (.c (.int .i64 0))), none⟩]) (.block 2 (.loop (.seq (.seq (.ops [ ⟨(some 60), (.mov (.t 11)), none⟩, ⟨(some 61), (.mov (.t 0)), none⟩, ⟨(some 62), (.len (.t 61)), none⟩, ⟨(some 63), (.bin .lss (.t 60) (.t 62)), none⟩, ⟨(some 64), (.mov (.t 63)), none⟩, ⟨(some 65), (.mov (.t 10)), (some (64, true))⟩, ⟨(some 66), (.len (.t 65)), (some (64, true))⟩, ⟨(some 67), (.bin .lss (.t 66) (.c (.int .i64 10))), (some (64, true))⟩, ⟨(some 68), (.pick (.t 64) (.t 67) (.c (.bool false))), none⟩]) (.cond (.t 68) .skip (.exit 2))) (.seq (.block 3 (.seq (.seq (.drawE [ ⟨(some 71), (.mov (.t 0)), none⟩, ⟨(some 72), (.mov (.t 11)), none⟩, ⟨(some 73), (.idxS 2 (.t 71) (.t 72)), none⟩, ⟨(some 74), (.fldA 0 (.t 73)), none⟩, ⟨(some 75), (.load1 (.t 74)), none⟩, ⟨(some 76), (.pcall (.f 17) [(.t 75)]), none⟩, ⟨(some 77), (.un .not (.t 76)), none⟩, ⟨(some 78), (.mov (.t 77)), none⟩, ⟨(some 79), (.mov (.t 0)), (some (78, false))⟩, ⟨(some 80), (.mov (.t 11)), (some (78, false))⟩, ⟨(some 81), (.idxS 2 (.t 79) (.t 80)), (some (78, false))⟩, ⟨(some 82), (.fldA 1 (.t 81)), (some (78, false))⟩, ⟨(some 83), (.load1 (.t 82)), (some (78, false))⟩, ⟨(some 84), (.pcall (.f 17) [(.t 83)]), (some (78, false))⟩, ⟨(some 85), (.un .not (.t 84)), (some (78, false))⟩, ⟨(some 86), (.pick (.t 78) (.c (.bool true)) (.t 85)), none⟩, ⟨(some 87), (.mov (.t 86)), none⟩, ⟨(some 88), (.mov (.t 0)), (some (87, false))⟩, ⟨(some 89), (.mov (.t 11)), (some (87, false))⟩, ⟨(some 90), (.idxS 2 (.t 88) (.t 89)), (some (87, false))⟩, ⟨(some 91), (.fldA 0 (.t 90)), (some (87, false))⟩, ⟨(some 92), (.load1 (.t 91)), (some (87, false))⟩, ⟨(some 93), (.lenS (.t 92)), (some (87, false))⟩, ⟨(some 94), (.mov (.t 0)), (some (87, false))⟩, ⟨(some 95), (.mov (.t 11)), (some (87, false))⟩, ⟨(some 96), (.idxS 2 (.t 94) (.t 95)), (some (87, false))⟩, ⟨(some 97), (.fldA 1 (.t 96)), (some (87, false))⟩, ⟨(some 98), (.load1 (.t 97)), (some (87, false))⟩, ⟨(some 99), (.lenS (.t 98)), (some (87, false))⟩, ⟨(some 100), (.bin .add (.t 93) (.t 99)), (some (87, false))⟩, ⟨(some 101), (.bin .gtr (.t 100) (.c (.int .i64 100))), (some (87, false))⟩, ⟨(some 102), (.pick (.t 87) (.c (.bool true)) (.t 101)), none⟩, ⟨(some 103), (.mov (.t 102)), none⟩, ⟨(some 104), (.mov (.t 10)), (some (103, false))⟩, ⟨(some 105), (.mov (.t 0)), (some (103, false))⟩, ⟨(some 106), (.mov (.t 11)), (some (103, false))⟩, ⟨(some 107), (.idxS 2 (.t 105) (.t 106)), (some (103, false))⟩, ⟨(some 108), (.fldA 0 (.t 107)), (some (103, false))⟩, ⟨(some 109), (.load1 (.t 108)), (some (103, false))⟩, ⟨(some 110), (.pcall (.f 22) [(.t 104), (.t 109)]), (some (103, false))⟩, ⟨(some 111), (.pick (.t 103) (.c (.bool true)) (.t 110)), none⟩]) (.cond (.t 111) (.exit 3) .skip)) (.seq (.seq (.ops [ ⟨(some 112), (.mov (.t 10)), none⟩, ⟨(some 113), (.len (.t 112)), none⟩, ⟨(some 114), (.bin .gtr (.t 113) (.c (.int .i64 0))), none⟩]) (.cond (.t 114) (.ops [ ⟨(some 115), (.mov (.t 9)), none⟩, ⟨(some 116), (.bin .add (.t 115) (.c (.str [44]))), none⟩, ⟨(some 117), (.mov (.t 7)), none⟩, ⟨(some 118), (.bin .add (.t 116) (.t 117)), none⟩, ⟨(some 9), (.mov (.t 118)), none⟩]) .skip)) (.seq (.drawE [ ⟨(some 119), (.mov (.t 0)), none⟩, ⟨(some 120), (.mov (.t 11)), none⟩, ⟨(some 121), (.idxS 2 (.t 119) (.t 120)), none⟩, ⟨(some 122), (.fldA 0 (.t 121)), none⟩, ⟨(some 123), (.load1 (.t 122)), none⟩, ⟨(some 124), (.mov (.t 0)), none⟩, ⟨(some 125), (.mov (.t 11)), none⟩, ⟨(some 126), (.idxS 2 (.t 124) (.t 125)), none⟩, ⟨(some 127), (.fldA 1 (.t 126)), none⟩, ⟨(some 128), (.load1 (.t 127)), none⟩, ⟨(some 129), (.bin .add (.c (.str [34])) (.t 128)), none⟩, ⟨(some 130), (.build [(.str []), (.str [])] [(0, (1, (.t 123))), (1, (1, (.t 129)))]), none⟩, ⟨(some 12), (.alloc [(.str []), (.str [])]), none⟩, ⟨none, (.store 2 (.t 12) (.t 130)), none⟩]) (.seq (.ops [ ⟨(some 131), (.mov (.t 0)), none⟩, ⟨(some 132), (.mov (.t 11)), none⟩, ⟨(some 133), (.idxS 2 (.t 131) (.t 132)), none⟩, ⟨(some 134), (.fldA 1 (.t 133)), none⟩, ⟨(some 135), (.load1 (.t 134)), none⟩, ⟨(some 136), (.call (.f 23) [(.t 135)]), none⟩, ⟨(some 13), (.mov (.t 136)), none⟩]) (.seq z8v (.seq (.ops [ ⟨(some 163), (.mov (.t 9)), none⟩, ⟨(some 164), (.mov (.t 0)), none⟩, ⟨(some 165), (.mov (.t 11)), none⟩, ⟨(some 166), (.idxS 2 (.t 164) (.t 165)), none⟩, ⟨(some 167), (.fldA 0 (.t 166)), none⟩, ⟨(some 168), (.load1 (.t 167)), none⟩, ⟨(some 169), (.call (.f 23) [(.t 168)]), none⟩, ⟨(some 170), (.bin .add (.t 163) (.t 169)), none⟩, ⟨(some 171), (.mov (.t 7)), none⟩, ⟨(some 172), (.bin .add (.t 170) (.t 171)), none⟩, ⟨(some 173), (.bin .add (.t 172) (.c (.str [58]))), none⟩, ⟨(some 174), (.mov (.t 7)), none⟩, ⟨(some 175), (.bin .add (.t 173) (.t 174)), none⟩, ⟨(some 176), (.mov (.t 13)), none⟩, ⟨(some 177), (.bin .add (.t 175) (.t 176)), none⟩, ⟨(some 178), (.mov (.t 7)), none⟩, ⟨(some 179), (.bin .add (.t 177) (.t 178)), none⟩, ⟨(some 9), (.mov (.t 179)), none⟩]) (.ops [ ⟨(some 180), (.mov (.t 10)), none⟩, ⟨(some 181), (.loadN 2 (.t 12)), none⟩, ⟨(some 182), (.bslice 2 [(.str []), (.str [])] 1 [(0, (.t 181))]), none⟩, ⟨(some 183), (.append 2 32 (.t 180) (.t 182)), none⟩, ⟨(some 10), (.mov (.t 183)), none⟩])))))))) (.ops [ ⟨(some 69), (.mov (.t 11)), none⟩, ⟨(some 70), (.bin .add (.t 69) (.c (.int .i64 1))), none⟩, ⟨(some 11), (.mov (.t 70)), none⟩])))))) (.seq (.ops [ ⟨(some 185), (.mov (.t 9)), none⟩, ⟨(some 186), (.bin .add (.t 185) (.c (.str [125]))), none⟩, ⟨(some 187), (.mov (.t 7)), none⟩, ⟨(some 188), (.bin .add (.t 186) (.t 187)), none⟩, ⟨(some 189), (.call (.f 19) [(.t 188)]), none⟩, ⟨(some 184), (.mov (.t 189)), none⟩, ⟨(some 190), (.ext (.t 184) 0), none⟩, ⟨(some 191), (.ext (.t 184) 1), none⟩, ⟨(some 192), (.ext (.t 184) 2), none⟩, ⟨(some 14), (.mov (.t 190)), none⟩, ⟨(some 15), (.mov (.t 191)), none⟩, ⟨(some 16), (.mov (.t 192)), none⟩]) (.seq (.ops [ ⟨(some 193), (.mov (.t 16)), none⟩, ⟨(some 194), (.bin .eql (.t 193) (.c (.int .i64 0))), none⟩, ⟨(some 195), (.mov (.t 194)), none⟩, ⟨(some 196), (.mov (.t 14)), (some (195, true))⟩, ⟨(some 197), (.mov (.t 10)), (some (195, true))⟩, ⟨(some 198), (.call (.f 24) [(.t 196), (.t 197)]), (some (195, true))⟩, ⟨(some 199), (.pick (.t 195) (.t 198) (.c (.bool false))), none⟩, ⟨(some 200), (.mov (.t 199)), none⟩, ⟨(some 201), (.call (.f 14) []), (some (200, true))⟩, ⟨(some 202), (.pick (.t 200) (.t 201) (.c (.bool false))), none⟩, ⟨(some 6), (.mov (.t 202)), none⟩]) .ret))))))))
section
variable {E : Env} {L : List Blk} {K : IV → List Blk → Prop}
theorem o_lenG {x : IV} {n : Nat} {KV : IV → List Blk → Prop} (h : lenOf x = some n) : xop E (.len (.c x)) cev L KV = KV (.int .i64 n) L := by
  simp only [xop, cev, Opd.ev, h]
theorem LstOk.len {sv : IV} {l : List Fr.Pair} (h : LstOk L sv l) : lenOf sv = some l.length := by
  rcases h with ⟨rfl, rfl⟩ | ⟨k, _, rfl, _⟩ <;> rfl
/-- The blanks that the law takes. -/
def gapOk (g : List UInt8) : Prop := g.all Fr.blankB = true ∧ g.length ≤ 5
theorem blank_int (b : UInt8) : Fr.blankB b = (((decide ((b.toNat : Int) = 32) || decide ((b.toNat : Int) = 10)) || decide ((b.toNat : Int) = 13)) || decide ((b.toNat : Int) = 9)) := by
  unfold Fr.blankB
  have e : ∀ (n : Nat) (h : n < 256), (b = UInt8.ofNat n) = ((b.toNat : Int) = n) := fun n h => propext ⟨fun hb => by rw [hb, UInt8.toNat_ofNat']; omega, fun hb => by
    apply UInt8.toNat.inj; rw [UInt8.toNat_ofNat']; omega⟩
  have e1 := e 32 (by decide)
  have e2 := e 10 (by decide)
  have e3 := e 13 (by decide)
  have e4 := e 9 (by decide)
  have f1 : (b = 32) = ((b.toNat : Int) = 32) := e1
  have f2 : (b = 10) = ((b.toNat : Int) = 10) := e2
  have f3 : (b = 13) = ((b.toNat : Int) = 13) := e3
  have f4 : (b = 9) = ((b.toNat : Int) = 9) := e4
  simp only [f1, f2, f3, f4]
  cases decide ((b.toNat : Int) = 32) <;> cases decide ((b.toNat : Int) = 9) <;> cases decide ((b.toNat : Int) = 10) <;> cases decide ((b.toNat : Int) = 13) <;> rfl
theorem cut_one {s : List UInt8} {i : Nat} (h : i < s.length) : (s.take (i + 1)).drop i = [s.getD i 0] := by
  rw [List.drop_take, show i + 1 - i = 1 by omega, List.getD_eq_getElem?_getD, List.getElem?_eq_getElem h, List.drop_eq_getElem_cons h]; rfl
structure GoodQ (g : List UInt8) (qs : List (Fr.Pair × List UInt8)) : Prop where
  wr : ∀ q ∈ qs, Wr q.1 q.2
  pw : (qs.map (·.1)).Pairwise fun a b => a.key ≠ b.key
  len : qs.length ≤ 10
  sz : (joinB g qs).length ≤ 700 * qs.length
theorem body_len {g : List UInt8} {qs : List (Fr.Pair × List UInt8)} (hg : gapOk g) (h : GoodQ g qs) : (bodyB g qs).length ≤ 7020 := by
  have h1 := h.sz
  have h2 := h.len
  have h3 := hg.2
  unfold bodyB
  simp only [List.length_append, List.length_cons, List.length_nil]
  omega
theorem joinB_app (g : List UInt8) (q : Fr.Pair × List UInt8) (qs : List (Fr.Pair × List UInt8)) : joinB g (qs ++ [q]) = joinB g qs ++ ((if qs = [] then [] else 44 :: g) ++ itemB g q) := by
  by_cases h : qs = []
  · subst h; rw [if_pos rfl]; rfl
  · rw [joinB_snoc g q qs h, if_neg h]; simp
theorem goodQ_snoc {g : List UInt8} {qs : List (Fr.Pair × List UInt8)} {p : Fr.Pair} {x : List UInt8} (hg : gapOk g) (h : GoodQ g qs) (hl : qs.length < 10) (hw : Wr p x) (hk : p.key.length ≤ 100) (hx : (quoteF p.key).length + x.length ≤ 630) (hno : hasP (qs.map (·.1)) p.key = false) : GoodQ g (qs ++ [(p, x)]) where
  wr := fun q hq => by
    rcases List.mem_append.1 hq with hq | hq
    · exact h.wr q hq
    · rw [List.mem_singleton] at hq; subst hq; exact hw
  pw := by
    rw [List.map_append, List.pairwise_append]
    refine ⟨h.pw, by simp, fun a ha b hb => ?_⟩
    simp only [List.map_cons, List.map_nil, List.mem_singleton] at hb
    subst hb
    unfold hasP at hno
    rw [List.any_eq_false] at hno
    have := hno a ha
    rwa [decide_eq_true_eq] at this
  len := by rw [List.length_append]; simp; omega
  sz := by
    have h1 := h.sz
    have h2 := hg.2
    rw [joinB_app, List.length_append, List.length_append, List.length_append]
    have h3 : (if qs = [] then [] else 44 :: g : List UInt8).length ≤ 6 := by split <;> simp; omega
    have h4 : (itemB g (p, x)).length ≤ 650 := by
      unfold itemB
      simp only [List.length_append, List.length_cons]
      omega
    simp only [List.length_cons, List.length_nil]
    omega
theorem back_pure (hP : E.P = Tryz.prog) {m : Int} (hm : E.gl 2 = some [.int .i64 m]) (ht : ∀ w, E.G w → Lib.Utf8Tabs 0 1 w) (l : List Fr.Pair) (ns : List Int) (bl : List UInt8) (hl : l.length ≤ 9223372036854775807) (hsz : ∀ p ∈ l, p.key.length ≤ 140737488351232 ∧ p.val.length ≤ 140737488351232) :
    XPure E 8 [.isl (pRows l), .isl (iRows ns), .str bl] (.bool true) := by
  refine xpure1 (n := Tryz.f8.ntmps) (c := y8) (t := 6) (by rw [hP]; rfl) (by rw [hP]; kernel_rfl) (by decide) (Nat.le_of_ble_eq_true rfl) ?_
  generalize hρ : entry _ = ρ
  have h0 : ρ 0 = .isl (pRows l) := by rw [← hρ]; rfl
  have h1 : ρ 1 = .isl (iRows ns) := by rw [← hρ]; rfl
  have h2 : ρ 2 = .str bl := by rw [← hρ]; rfl
  clear hρ
  unfold y8
  simp only [h0, h1, h2, go_sem, Nat.reduceEqDiff, reduceIte, Int.reduceEq, Int.reduceLT, Int.reduceLE, Nat.reduceAdd, Nat.reduceLT, Nat.reduceLeDiff, Int.reduceToNat, Int.reduceSub, Int.reduceAdd, Int.reduceNeg]
  refine xrun_cut (fun e ρ' L' => e = .exit 0 ∧ L' = [] ∧ ρ' 0 = .isl (pRows l) ∧ ρ' 1 = .isl (iRows ns) ∧ ∃ g, gapOk g ∧ ρ' 7 = .str g) ?_ ?_
  · refine s_loop (fun n ρ L => ∃ (i : Nat) (g : List UInt8), i ≤ bl.length ∧ i ≤ 5 ∧ n = 5 - i ∧ L = [] ∧ ρ 0 = .isl (pRows l) ∧ ρ 1 = .isl (iRows ns) ∧ ρ 2 = .str bl ∧ ρ 7 = .str g ∧ ρ 8 = .int .i64 i ∧ g.all Fr.blankB = true ∧ g.length ≤ i) (n := 5)
      ⟨0, [], Nat.zero_le _, Nat.zero_le _, rfl, rfl, by simp only [h0, go_sem, Nat.reduceEqDiff, reduceIte, Int.reduceEq, Int.reduceLT, Int.reduceLE, Nat.reduceAdd, Nat.reduceLT, Nat.reduceLeDiff, Int.reduceToNat, Int.reduceSub, Int.reduceAdd, Int.reduceNeg], by simp only [h1, go_sem, Nat.reduceEqDiff, reduceIte, Int.reduceEq, Int.reduceLT, Int.reduceLE, Nat.reduceAdd, Nat.reduceLT, Nat.reduceLeDiff, Int.reduceToNat, Int.reduceSub, Int.reduceAdd, Int.reduceNeg], by simp only [h2, go_sem, Nat.reduceEqDiff, reduceIte, Int.reduceEq, Int.reduceLT, Int.reduceLE, Nat.reduceAdd, Nat.reduceLT, Nat.reduceLeDiff, Int.reduceToNat, Int.reduceSub, Int.reduceAdd, Int.reduceNeg], by simp only [go_sem, Nat.reduceEqDiff, reduceIte, Int.reduceEq, Int.reduceLT, Int.reduceLE, Nat.reduceAdd, Nat.reduceLT, Nat.reduceLeDiff, Int.reduceToNat, Int.reduceSub, Int.reduceAdd, Int.reduceNeg]; try rfl, by simp only [go_sem, Nat.reduceEqDiff, reduceIte, Int.reduceEq, Int.reduceLT, Int.reduceLE, Nat.reduceAdd, Nat.reduceLT, Nat.reduceLeDiff, Int.reduceToNat, Int.reduceSub, Int.reduceAdd, Int.reduceNeg]; try rfl, rfl, by simp⟩ ?_
    clear h0 h1 h2 ρ
    rintro n ρ L ⟨i, g, hi, hi5, rfl, rfl, h0, h1, h2, h7, h8, hg, hgl⟩
    by_cases hil : i < bl.length
    case neg =>
      have e1 : ((i : Int) < (bl.length : Int)) = False := eq_false (by omega)
      simp only [h0, h1, h2, h7, h8, e1, go_sem, Nat.reduceEqDiff, reduceIte, Int.reduceEq, Int.reduceLT, Int.reduceLE, Nat.reduceAdd, Nat.reduceLT, Nat.reduceLeDiff, Int.reduceToNat, Int.reduceSub, Int.reduceAdd, Int.reduceNeg]
      exact ⟨g, ⟨hg, by omega⟩, rfl⟩
    have e1 : ((i : Int) < (bl.length : Int)) = True := eq_true (by omega)
    by_cases h5 : i < 5
    case neg =>
      have e2 : ((i : Int) < 5) = False := eq_false (by omega)
      simp only [h0, h1, h2, h7, h8, e1, e2, go_sem, Nat.reduceEqDiff, reduceIte, Int.reduceEq, Int.reduceLT, Int.reduceLE, Nat.reduceAdd, Nat.reduceLT, Nat.reduceLeDiff, Int.reduceToNat, Int.reduceSub, Int.reduceAdd, Int.reduceNeg]
      exact ⟨g, ⟨hg, by omega⟩, rfl⟩
    have e2 : ((i : Int) < 5) = True := eq_true (by omega)
    have e0 : ((0 : Int) ≤ (i : Int)) = True := eq_true (by omega)
    have hw : IntKind.i64.wrap ((i : Int) + 1) = ((i + 1 : Nat) : Int) := by rw [wrap64 (by omega) (by omega)]; rfl
    have hbi := blank_int (bl.getD i 0)
    have hc := cut_one hil
    simp only [h0, h1, h2, h7, h8, e0, e1, e2, go_sem, Nat.reduceEqDiff, reduceIte, Int.reduceEq, Int.reduceLT, Int.reduceLE, Nat.reduceAdd, Nat.reduceLT, Nat.reduceLeDiff, Int.reduceToNat, Int.reduceSub, Int.reduceAdd, Int.reduceNeg]
    repeat (refine s_mg (by simp only [h0, h1, h2, h7, h8, e0, e1, e2, go_sem, Nat.reduceEqDiff, reduceIte, Int.reduceEq, Int.reduceLT, Int.reduceLE, Nat.reduceAdd, Nat.reduceLT, Nat.reduceLeDiff, Int.reduceToNat, Int.reduceSub, Int.reduceAdd, Int.reduceNeg]; try rfl) ?_; simp only [cut_g, cut_t, cut_none, cut_out, memN_cons, memN_nil, Nat.reduceEqDiff, reduceIte, List.nil_append, List.cons_append, not_false_eq_true]; refine ex_merge rfl (by simp only [h0, h1, h2, h7, h8, e0, e1, e2, go_sem, Nat.reduceEqDiff, reduceIte, Int.reduceEq, Int.reduceLT, Int.reduceLE, Nat.reduceAdd, Nat.reduceLT, Nat.reduceLeDiff, Int.reduceToNat, Int.reduceSub, Int.reduceAdd, Int.reduceNeg]) (by intro hb; simp only [hb, h0, h1, h2, h7, h8, e0, e1, e2, go_sem, Nat.reduceEqDiff, reduceIte, Int.reduceEq, Int.reduceLT, Int.reduceLE, Nat.reduceAdd, Nat.reduceLT, Nat.reduceLeDiff, Int.reduceToNat, Int.reduceSub, Int.reduceAdd, Int.reduceNeg]; first | exact rfl | exact ⟨rfl, rfl⟩) (fun vs => ?_); simp only [h0, h1, h2, h7, h8, e0, e1, e2, go_sem, Nat.reduceEqDiff, reduceIte, Int.reduceEq, Int.reduceLT, Int.reduceLE, Nat.reduceAdd, Nat.reduceLT, Nat.reduceLeDiff, Int.reduceToNat, Int.reduceSub, Int.reduceAdd, Int.reduceNeg])
    refine s_cond (b := Fr.blankB (bl.getD i 0)) (by simp only [go_sem, Nat.reduceEqDiff, reduceIte, Int.reduceEq, Int.reduceLT, Int.reduceLE, Nat.reduceAdd, Nat.reduceLT, Nat.reduceLeDiff, Int.reduceToNat, Int.reduceSub, Int.reduceAdd, Int.reduceNeg]; rw [hbi]) ?_ ?_ <;> intro hb
    · simp only [h0, h1, h2, h7, h8, e0, e1, e2, hw, hc, go_sem, Nat.reduceEqDiff, reduceIte, Int.reduceEq, Int.reduceLT, Int.reduceLE, Nat.reduceAdd, Nat.reduceLT, Nat.reduceLeDiff, Int.reduceToNat, Int.reduceSub, Int.reduceAdd, Int.reduceNeg]
      refine ⟨by omega, by omega, by omega, 5 - (i + 1), by omega, i + 1, _, by omega, by omega, rfl, rfl, rfl, ?_, ?_⟩
      · rw [List.all_append, hg, List.all_cons, hb]; rfl
      · rw [List.length_append]; simp; omega
    · simp only [h0, h1, h2, h7, h8, e0, e1, e2, hw, hc, go_sem, Nat.reduceEqDiff, reduceIte, Int.reduceEq, Int.reduceLT, Int.reduceLE, Nat.reduceAdd, Nat.reduceLT, Nat.reduceLeDiff, Int.reduceToNat, Int.reduceSub, Int.reduceAdd, Int.reduceNeg]
      exact ⟨5 - (i + 1), by omega, i + 1, g, by omega, by omega, rfl, rfl, rfl, hg, by omega⟩
  rintro e ρ1 L1 ⟨rfl, rfl, k0, k1, g, hg, k7⟩
  clear h0 h1 h2 ρ
  have hg5 := hg.2
  simp only [k0, k1, k7, go_sem, Nat.reduceEqDiff, reduceIte, Int.reduceEq, Int.reduceLT, Int.reduceLE, Nat.reduceAdd, Nat.reduceLT, Nat.reduceLeDiff, Int.reduceToNat, Int.reduceSub, Int.reduceAdd, Int.reduceNeg]
  refine ⟨by omega, by rw [List.length_append]; simp; omega, ?_⟩
  refine xrun_cut (fun e ρ' L' => e = .exit 2 ∧ ∃ qs sv, GoodQ g qs ∧ LstOk L' sv (qs.map (·.1)) ∧ ρ' 7 = .str g ∧ ρ' 9 = .str (bodyB g qs) ∧ ρ' 10 = sv) ?_ ?_
  rotate_left
  · rintro e ρ L ⟨rfl, qs, sv, hG, hL, h7, h9, h10⟩
    have hbl := body_len hg hG
    simp only [h7, h9, h10, go_sem, Nat.reduceEqDiff, reduceIte, Int.reduceEq, Int.reduceLT, Int.reduceLE, Nat.reduceAdd, Nat.reduceLT, Nat.reduceLeDiff, Int.reduceToNat, Int.reduceSub, Int.reduceAdd, Int.reduceNeg]
    refine ⟨by omega, by rw [List.length_append]; simp; omega, ?_⟩
    have hbd := body_D g qs hg.1 hG.wr (by have := hG.len; omega) hG.pw
    have hob := obj_pure (E := E.noPan) hP ht (bodyB g qs ++ [125] ++ g) (by simp only [List.length_append, List.length_cons, List.length_nil]; omega)
    have hoi : objIV (bodyB g qs ++ [125] ++ g) = .tup [.isl (pRows (qs.map (·.1))), .int .i64 0, .int .i64 0] := by unfold objIV; rw [hbd]
    rw [hoi] at hob
    refine xcall_pure (args' := [.str (bodyB g qs ++ [125] ++ g)]) rfl hob rfl ?_
    simp only [h7, h9, h10, go_sem, Nat.reduceEqDiff, reduceIte, Int.reduceEq, Int.reduceLT, Int.reduceLE, Nat.reduceAdd, Nat.reduceLT, Nat.reduceLeDiff, Int.reduceToNat, Int.reduceSub, Int.reduceAdd, Int.reduceNeg]
    have hcv : mapO (conv L fuel renFreeze) [.isl (pRows (qs.map (·.1))), sv] = some [.isl (pRows (qs.map (·.1))), .isl (pRows (qs.map (·.1)))] := by
      have h1 := hL.conv (m := renFreeze) (fun _ _ => rfl)
      have h2 : conv L fuel renFreeze (.isl (pRows (qs.map (·.1)))) = some (.isl (pRows (qs.map (·.1)))) := rfl
      simp only [mapO, h1, h2]
    have hpp := pairs_pure (E := E.noPan) hP (qs.map (·.1)) (qs.map (·.1)) (by rw [List.length_map]; have := hG.len; omega) (by rw [List.length_map]; have := hG.len; omega)
    rw [decide_eq_true rfl] at hpp
    refine xcall_lend hcv hpp rfl rfl ?_
    simp only [h7, h9, h10, go_sem, Nat.reduceEqDiff, reduceIte, Int.reduceEq, Int.reduceLT, Int.reduceLE, Nat.reduceAdd, Nat.reduceLT, Nat.reduceLeDiff, Int.reduceToNat, Int.reduceSub, Int.reduceAdd, Int.reduceNeg]
    refine xcall_pure (args' := []) rfl (wakes_pure (E := E.noPan) hP hm ht) rfl ?_
    simp only [h7, h9, h10, go_sem, Nat.reduceEqDiff, reduceIte, Int.reduceEq, Int.reduceLT, Int.reduceLE, Nat.reduceAdd, Nat.reduceLT, Nat.reduceLeDiff, Int.reduceToNat, Int.reduceSub, Int.reduceAdd, Int.reduceNeg]
    rfl
  refine s_loop (fun n ρ L => ∃ (j : Nat) (qs : List (Fr.Pair × List UInt8)) (sv : IV), j ≤ l.length ∧ n = l.length - j ∧ GoodQ g qs ∧ LstOk L sv (qs.map (·.1)) ∧ ρ 0 = .isl (pRows l) ∧ ρ 1 = .isl (iRows ns) ∧ ρ 7 = .str g ∧ ρ 9 = .str (bodyB g qs) ∧ ρ 10 = sv ∧ ρ 11 = .int .i64 j) (n := l.length)
    ⟨0, [], .nsl, Nat.zero_le _, rfl, ⟨by simp, by simp, by simp, by simp [joinB]⟩, .inl ⟨rfl, rfl⟩, by simp only [k0, go_sem, Nat.reduceEqDiff, reduceIte, Int.reduceEq, Int.reduceLT, Int.reduceLE, Nat.reduceAdd, Nat.reduceLT, Nat.reduceLeDiff, Int.reduceToNat, Int.reduceSub, Int.reduceAdd, Int.reduceNeg], by simp only [k1, go_sem, Nat.reduceEqDiff, reduceIte, Int.reduceEq, Int.reduceLT, Int.reduceLE, Nat.reduceAdd, Nat.reduceLT, Nat.reduceLeDiff, Int.reduceToNat, Int.reduceSub, Int.reduceAdd, Int.reduceNeg], by simp only [k7, go_sem, Nat.reduceEqDiff, reduceIte, Int.reduceEq, Int.reduceLT, Int.reduceLE, Nat.reduceAdd, Nat.reduceLT, Nat.reduceLeDiff, Int.reduceToNat, Int.reduceSub, Int.reduceAdd, Int.reduceNeg], by simp only [k7, go_sem, Nat.reduceEqDiff, reduceIte, Int.reduceEq, Int.reduceLT, Int.reduceLE, Nat.reduceAdd, Nat.reduceLT, Nat.reduceLeDiff, Int.reduceToNat, Int.reduceSub, Int.reduceAdd, Int.reduceNeg]; simp [bodyB, joinB], by simp only [go_sem, Nat.reduceEqDiff, reduceIte, Int.reduceEq, Int.reduceLT, Int.reduceLE, Nat.reduceAdd, Nat.reduceLT, Nat.reduceLeDiff, Int.reduceToNat, Int.reduceSub, Int.reduceAdd, Int.reduceNeg]; try rfl, by simp only [go_sem, Nat.reduceEqDiff, reduceIte, Int.reduceEq, Int.reduceLT, Int.reduceLE, Nat.reduceAdd, Nat.reduceLT, Nat.reduceLeDiff, Int.reduceToNat, Int.reduceSub, Int.reduceAdd, Int.reduceNeg]; try rfl⟩ ?_
  clear k0 k1 k7 ρ1
  rintro n ρ L ⟨j, qs, sv, hj, rfl, hG, hL, h0, h1, h7, h9, h10, h11⟩
  by_cases hjl : j < l.length
  case neg =>
    have e1 : ((j : Int) < (l.length : Int)) = False := eq_false (by omega)
    simp only [h0, h1, h7, h9, h10, h11, e1, pRows_len, go_sem, Nat.reduceEqDiff, reduceIte, Int.reduceEq, Int.reduceLT, Int.reduceLE, Nat.reduceAdd, Nat.reduceLT, Nat.reduceLeDiff, Int.reduceToNat, Int.reduceSub, Int.reduceAdd, Int.reduceNeg]
    exact ⟨qs, sv, hG, hL, rfl, rfl⟩
  have hlen : lenOf sv = some qs.length := by have := hL.len; rwa [List.length_map] at this
  have e1 : ((j : Int) < (l.length : Int)) = True := eq_true (by omega)
  by_cases hq10 : qs.length < 10
  case neg =>
    have e2 : ((qs.length : Int) < 10) = False := eq_false (by omega)
    simp only [h0, h1, h7, h9, h10, h11, e1, e2, pRows_len, o_lenG hlen, go_sem, Nat.reduceEqDiff, reduceIte, Int.reduceEq, Int.reduceLT, Int.reduceLE, Nat.reduceAdd, Nat.reduceLT, Nat.reduceLeDiff, Int.reduceToNat, Int.reduceSub, Int.reduceAdd, Int.reduceNeg]
    exact ⟨qs, sv, hG, hL, rfl, rfl⟩
  have e2 : ((qs.length : Int) < 10) = True := eq_true (by omega)
  have e0 : ((0 : Int) ≤ (j : Int)) = True := eq_true (by omega)
  have hga := pRows_get hjl
  have hmem : l.getD j default ∈ l := by rw [List.getD_eq_getElem?_getD, List.getElem?_eq_getElem hjl]; exact List.getElem_mem _
  obtain ⟨hszk, hszv⟩ := hsz _ hmem
  generalize hp : l.getD j default = p at *
  have hw : IntKind.i64.wrap ((j : Int) + 1) = ((j + 1 : Nat) : Int) := by rw [wrap64 (by omega) (by omega)]; rfl
  simp only [h0, h1, h7, h9, h10, h11, e0, e1, e2, pRows_len, o_lenG hlen, rows_pp, hga, pRow, go_sem, Nat.reduceEqDiff, reduceIte, Int.reduceEq, Int.reduceLT, Int.reduceLE, Nat.reduceAdd, Nat.reduceLT, Nat.reduceLeDiff, Int.reduceToNat, Int.reduceSub, Int.reduceAdd, Int.reduceNeg]
  refine ⟨hjl, ?_⟩
  refine o_pcall (args' := [.str p.key]) rfl (rvalid_pure (E := E.noPan) hP p.key hszk) (fun m => rfl) ?_
  cases hv : Lib.validD p.key with
  | false =>
    simp only [h0, h1, h7, h9, h10, h11, e0, e1, e2, pRows_len, o_lenG hlen, rows_pp, hga, pRow, hw, go_sem, Nat.reduceEqDiff, reduceIte, Int.reduceEq, Int.reduceLT, Int.reduceLE, Nat.reduceAdd, Nat.reduceLT, Nat.reduceLeDiff, Int.reduceToNat, Int.reduceSub, Int.reduceAdd, Int.reduceNeg]
    exact ⟨l.length - (j + 1), by omega, j + 1, qs, sv, by omega, rfl, hG, hL, rfl, rfl, rfl⟩
  | true =>
  simp only [h0, h1, h7, h9, h10, h11, e0, e1, e2, pRows_len, o_lenG hlen, rows_pp, hga, pRow, go_sem, Nat.reduceEqDiff, reduceIte, Int.reduceEq, Int.reduceLT, Int.reduceLE, Nat.reduceAdd, Nat.reduceLT, Nat.reduceLeDiff, Int.reduceToNat, Int.reduceSub, Int.reduceAdd, Int.reduceNeg]
  refine ⟨hjl, ?_⟩
  refine o_pcall (args' := [.str p.val]) rfl (rvalid_pure (E := E.noPan) hP p.val hszv) (fun m => rfl) ?_
  cases hvv : Lib.validD p.val with
  | false =>
    simp only [h0, h1, h7, h9, h10, h11, e0, e1, e2, pRows_len, o_lenG hlen, rows_pp, hga, pRow, hw, go_sem, Nat.reduceEqDiff, reduceIte, Int.reduceEq, Int.reduceLT, Int.reduceLE, Nat.reduceAdd, Nat.reduceLT, Nat.reduceLeDiff, Int.reduceToNat, Int.reduceSub, Int.reduceAdd, Int.reduceNeg]
    exact ⟨l.length - (j + 1), by omega, j + 1, qs, sv, by omega, rfl, hG, hL, rfl, rfl, rfl⟩
  | true =>
  have hw100 : IntKind.i64.wrap ((p.key.length : Int) + (p.val.length : Int)) = ((p.key.length + p.val.length : Nat) : Int) := by rw [wrap64 (by omega) (by omega)]; rfl
  by_cases h100 : 100 < p.key.length + p.val.length
  · have f1 : ((100 : Int) < ((p.key.length + p.val.length : Nat) : Int)) = True := eq_true (by omega)
    simp only [h0, h1, h7, h9, h10, h11, e0, e1, e2, pRows_len, o_lenG hlen, rows_pp, hga, pRow, hw, hw100, f1, go_sem, Nat.reduceEqDiff, reduceIte, Int.reduceEq, Int.reduceLT, Int.reduceLE, Nat.reduceAdd, Nat.reduceLT, Nat.reduceLeDiff, Int.reduceToNat, Int.reduceSub, Int.reduceAdd, Int.reduceNeg]
    refine ⟨hjl, hjl, ?_⟩
    exact ⟨l.length - (j + 1), by omega, j + 1, qs, sv, by omega, rfl, hG, hL, rfl, rfl, rfl⟩
  have f1 : ((100 : Int) < ((p.key.length + p.val.length : Nat) : Int)) = False := eq_false (by omega)
  simp only [h0, h1, h7, h9, h10, h11, e0, e1, e2, pRows_len, o_lenG hlen, rows_pp, hga, pRow, hw, hw100, f1, go_sem, Nat.reduceEqDiff, reduceIte, Int.reduceEq, Int.reduceLT, Int.reduceLE, Nat.reduceAdd, Nat.reduceLT, Nat.reduceLeDiff, Int.reduceToNat, Int.reduceSub, Int.reduceAdd, Int.reduceNeg]
  refine ⟨hjl, hjl, hjl, ?_⟩
  have hcv : mapO (conv L fuel renFreeze) [sv, .str p.key] = some [.isl (pRows (qs.map (·.1))), .str p.key] := by
    have h1 := hL.conv (m := renFreeze) (fun _ _ => rfl)
    have h2 : conv L fuel renFreeze (.str p.key) = some (.str p.key) := rfl
    simp only [mapO, h1, h2]
  refine o_pcall_lend hcv (has_pure (E := E.noPan) hP (qs.map (·.1)) (by rw [List.length_map]; have := hG.len; omega) p.key) rfl (fun m => rfl) ?_
  cases hh : hasP (qs.map (·.1)) p.key with
  | true =>
    simp only [h0, h1, h7, h9, h10, h11, e0, e1, e2, pRows_len, o_lenG hlen, rows_pp, hga, pRow, hw, go_sem, Nat.reduceEqDiff, reduceIte, Int.reduceEq, Int.reduceLT, Int.reduceLE, Nat.reduceAdd, Nat.reduceLT, Nat.reduceLeDiff, Int.reduceToNat, Int.reduceSub, Int.reduceAdd, Int.reduceNeg]
    exact ⟨l.length - (j + 1), by omega, j + 1, qs, sv, by omega, rfl, hG, hL, rfl, rfl, rfl⟩
  | false =>
  simp only [h0, h1, h7, h9, h10, h11, e0, e1, e2, pRows_len, o_lenG hlen, rows_pp, hga, pRow, go_sem, Nat.reduceEqDiff, reduceIte, Int.reduceEq, Int.reduceLT, Int.reduceLE, Nat.reduceAdd, Nat.reduceLT, Nat.reduceLeDiff, Int.reduceToNat, Int.reduceSub, Int.reduceAdd, Int.reduceNeg]
  refine xcut_norm (fun ρ' L' => L' = L ∧ ρ' 0 = .isl (pRows l) ∧ ρ' 1 = .isl (iRows ns) ∧ ρ' 7 = .str g ∧ ρ' 9 = .str (bodyB g qs ++ (if qs = [] then [] else 44 :: g)) ∧ ρ' 10 = sv ∧ ρ' 11 = .int .i64 j) ?_ (fun ρ' L' h => ?_)
  · by_cases hq0 : qs = []
    · have f2 : ((0 : Int) < (qs.length : Int)) = False := eq_false (by rw [hq0]; simp)
      rw [if_pos hq0, List.append_nil]
      simp only [h0, h1, h7, h9, h10, h11, f2, go_sem, Nat.reduceEqDiff, reduceIte, Int.reduceEq, Int.reduceLT, Int.reduceLE, Nat.reduceAdd, Nat.reduceLT, Nat.reduceLeDiff, Int.reduceToNat, Int.reduceSub, Int.reduceAdd, Int.reduceNeg]
    · have f2 : ((0 : Int) < (qs.length : Int)) = True := eq_true (by have := List.length_pos_iff.2 hq0; omega)
      have hbl := body_len hg hG
      rw [if_neg hq0]
      simp only [h0, h1, h7, h9, h10, h11, f2, go_sem, Nat.reduceEqDiff, reduceIte, Int.reduceEq, Int.reduceLT, Int.reduceLE, Nat.reduceAdd, Nat.reduceLT, Nat.reduceLeDiff, Int.reduceToNat, Int.reduceSub, Int.reduceAdd, Int.reduceNeg]
      refine ⟨by omega, by rw [List.length_append]; simp; omega, ?_⟩
      simp
  obtain ⟨rfl, k0, k1, k7, k9, k10, k11⟩ := h
  clear h0 h1 h7 h9 h10 h11 ρ
  simp only [k0, k1, k7, k9, k10, k11, e0, e1, pRows_len, rows_pp, hga, pRow, go_sem, Nat.reduceEqDiff, reduceIte, Int.reduceEq, Int.reduceLT, Int.reduceLE, Nat.reduceAdd, Nat.reduceLT, Nat.reduceLeDiff, Int.reduceToNat, Int.reduceSub, Int.reduceAdd, Int.reduceNeg]
  refine ⟨hjl, hjl, by omega, hjl, ?_⟩
  refine xcall_pure (args' := [.str p.val]) rfl (quote_pure (E := E.noPan) hP ht p.val (by omega)) rfl ?_
  simp only [k0, k1, k7, k9, k10, k11, e0, e1, pRows_len, rows_pp, hga, pRow, go_sem, Nat.reduceEqDiff, reduceIte, Int.reduceEq, Int.reduceLT, Int.reduceLE, Nat.reduceAdd, Nat.reduceLT, Nat.reduceLeDiff, Int.reduceToNat, Int.reduceSub, Int.reduceAdd, Int.reduceNeg]
  have hqv := quoteF_len p.val
  have hqk := quoteF_len p.key
  refine xcut_norm (fun ρ2 L2 => ∃ x pv, Wr ⟨p.key, pv⟩ x ∧ x.length ≤ 6 * p.val.length + 20 ∧ L2 = L' ++ [Blk.cells 2 [[.str p.key, .str pv]]] ∧ ρ2 0 = .isl (pRows l) ∧ ρ2 1 = .isl (iRows ns) ∧ ρ2 7 = .str g ∧ ρ2 9 = .str (bodyB g qs ++ (if qs = [] then [] else 44 :: g)) ∧ ρ2 10 = sv ∧ ρ2 11 = .int .i64 j ∧ ρ2 12 = .ptr L'.length 0 0 ∧ ρ2 13 = .str x) ?_ (fun ρ2 L2 h => ?_)
  · unfold z8v
    have hno : ∃ x pv, Wr ⟨p.key, pv⟩ x ∧ x.length ≤ 6 * p.val.length + 20 ∧ x = quoteF p.val ∧ pv = 34 :: p.val := ⟨_, _, .text p.key p.val hv hvv, by omega, rfl, rfl⟩
    by_cases hjn : j < ns.length
    case neg =>
      have f2 : ((j : Int) < (ns.length : Int)) = False := eq_false (by omega)
      simp only [k0, k1, k7, k9, k10, k11, e0, iRows_len, f2, go_sem, Nat.reduceEqDiff, reduceIte, Int.reduceEq, Int.reduceLT, Int.reduceLE, Nat.reduceAdd, Nat.reduceLT, Nat.reduceLeDiff, Int.reduceToNat, Int.reduceSub, Int.reduceAdd, Int.reduceNeg]
      exact ⟨quoteF p.val, 34 :: p.val, .text p.key p.val hv hvv, by omega, rfl, rfl⟩
    have f2 : ((j : Int) < (ns.length : Int)) = True := eq_true (by omega)
    have hgn := iRows_get hjn
    by_cases hlo : (-1000000000000000 : Int) < ns.getD j 0
    case neg =>
      have f3 : ((-1000000000000000 : Int) < ns.getD j 0) = False := eq_false (by omega)
      simp only [k0, k1, k7, k9, k10, k11, e0, iRows_len, rows_i, f2, hgn, f3, go_sem, Nat.reduceEqDiff, reduceIte, Int.reduceEq, Int.reduceLT, Int.reduceLE, Nat.reduceAdd, Nat.reduceLT, Nat.reduceLeDiff, Int.reduceToNat, Int.reduceSub, Int.reduceAdd, Int.reduceNeg]
      exact ⟨hjn, quoteF p.val, 34 :: p.val, .text p.key p.val hv hvv, by omega, rfl, rfl⟩
    have f3 : ((-1000000000000000 : Int) < ns.getD j 0) = True := eq_true hlo
    by_cases hhi : ns.getD j 0 < 1000000000000000
    case neg =>
      have f4 : (ns.getD j 0 < (1000000000000000 : Int)) = False := eq_false (by omega)
      simp only [k0, k1, k7, k9, k10, k11, e0, iRows_len, rows_i, f2, hgn, f3, f4, go_sem, Nat.reduceEqDiff, reduceIte, Int.reduceEq, Int.reduceLT, Int.reduceLE, Nat.reduceAdd, Nat.reduceLT, Nat.reduceLeDiff, Int.reduceToNat, Int.reduceSub, Int.reduceAdd, Int.reduceNeg]
      exact ⟨hjn, hjn, quoteF p.val, 34 :: p.val, .text p.key p.val hv hvv, by omega, rfl, rfl⟩
    have f4 : (ns.getD j 0 < (1000000000000000 : Int)) = True := eq_true hhi
    simp only [k0, k1, k7, k9, k10, k11, e0, iRows_len, rows_i, f2, hgn, f3, f4, go_sem, Nat.reduceEqDiff, reduceIte, Int.reduceEq, Int.reduceLT, Int.reduceLE, Nat.reduceAdd, Nat.reduceLT, Nat.reduceLeDiff, Int.reduceToNat, Int.reduceSub, Int.reduceAdd, Int.reduceNeg]
    refine ⟨hjn, hjn, hjn, ?_⟩
    generalize ns.getD j 0 = z at *
    by_cases hz : 0 ≤ z
    · obtain ⟨N, rfl⟩ : ∃ N : Nat, z = N := ⟨z.toNat, by omega⟩
      refine xcall_pure (args' := [.int .i64 ((N : Nat) : Int)]) rfl (digits_pure (E := E.noPan) hP N (by omega) (by omega)) rfl ?_
      have h15 := dec_len15 (N := N) (by omega)
      simp only [k0, k1, k7, k9, k10, k11, e0, go_sem, Nat.reduceEqDiff, reduceIte, Int.reduceEq, Int.reduceLT, Int.reduceLE, Nat.reduceAdd, Nat.reduceLT, Nat.reduceLeDiff, Int.reduceToNat, Int.reduceSub, Int.reduceAdd, Int.reduceNeg]
      exact ⟨_, _, .num p.key N hv (by omega), by omega, rfl, rfl⟩
    · obtain ⟨N, hN⟩ : ∃ N : Nat, z = -((N : Nat) : Int) := ⟨(-z).toNat, by omega⟩
      subst hN
      refine xcall_pure (args' := [.int .i64 (-((N : Nat) : Int))]) rfl (digits_neg (E := E.noPan) hP N (by omega) (by omega)) rfl ?_
      have h15 := dec_len15 (N := N) (by omega)
      simp only [k0, k1, k7, k9, k10, k11, e0, go_sem, Nat.reduceEqDiff, reduceIte, Int.reduceEq, Int.reduceLT, Int.reduceLE, Nat.reduceAdd, Nat.reduceLT, Nat.reduceLeDiff, Int.reduceToNat, Int.reduceSub, Int.reduceAdd, Int.reduceNeg]
      exact ⟨_, _, .neg p.key N hv (by omega) (by omega), by simp only [List.length_cons]; omega, rfl, rfl⟩
  obtain ⟨x, pv, hwr, hxl, rfl, m0, m1, m7, m9, m10, m11, m12, m13⟩ := h
  clear k0 k1 k7 k9 k10 k11 ρ'
  simp only [m0, m1, m7, m9, m10, m11, m12, m13, e0, e1, pRows_len, rows_pp, hga, pRow, go_sem, Nat.reduceEqDiff, reduceIte, Int.reduceEq, Int.reduceLT, Int.reduceLE, Nat.reduceAdd, Nat.reduceLT, Nat.reduceLeDiff, Int.reduceToNat, Int.reduceSub, Int.reduceAdd, Int.reduceNeg]
  refine ⟨hjl, ?_⟩
  refine xcall_pure (args' := [.str p.key]) rfl (quote_pure (E := E.noPan) hP ht p.key (by omega)) rfl ?_
  have hbl := body_len hg hG
  have hcl : (if qs = [] then [] else 44 :: g : List UInt8).length ≤ 6 := by split <;> simp; omega
  simp only [m0, m1, m7, m9, m10, m11, m12, m13, e0, e1, pRows_len, rows_pp, hga, pRow, go_sem, Nat.reduceEqDiff, reduceIte, Int.reduceEq, Int.reduceLT, Int.reduceLE, Nat.reduceAdd, Nat.reduceLT, Nat.reduceLeDiff, Int.reduceToNat, Int.reduceSub, Int.reduceAdd, Int.reduceNeg]
  generalize hcc : (if qs = [] then [] else 44 :: g : List UInt8) = cc at *
  refine ⟨?_, ?_, ?_, ?_, ?_, ?_, ?_⟩
  case refine_7 =>
    refine app_row (p := ⟨p.key, pv⟩) hL.app.app (by simp [rowsOf, pRow]) (by rw [List.length_map]; have := hG.len; omega) (by simp) fun L3 sv3 hL3 _ => ?_
    simp only [m0, m1, m7, m9, m10, m11, m12, m13, hw, go_sem, Nat.reduceEqDiff, reduceIte, Int.reduceEq, Int.reduceLT, Int.reduceLE, Nat.reduceAdd, Nat.reduceLT, Nat.reduceLeDiff, Int.reduceToNat, Int.reduceSub, Int.reduceAdd, Int.reduceNeg]
    have hG3 := goodQ_snoc hg hG hq10 hwr (by show p.key.length ≤ 100; omega) (by show (quoteF p.key).length + x.length ≤ 630; omega) hh
    refine ⟨l.length - (j + 1), by omega, j + 1, qs ++ [(⟨p.key, pv⟩, x)], sv3, by omega, rfl, hG3, ?_, ?_, rfl, rfl⟩
    · rw [List.map_append]; exact hL3
    · unfold bodyB
      rw [joinB_app, hcc]
      simp [itemB]
  all_goals simp only [List.length_append, List.length_cons, List.length_nil]
  all_goals omega
end
end Go.X.TryzW
end
