/- Parts of the proof: Xfdigits, Xfref2. -/
import Derived.Test.YtepkimlnaoaboaaGreatDoorXP21
import Derived.Lib.ItoaMem
set_option linter.unusedVariables false
set_option linter.unusedSimpArgs false
set_option linter.unusedSectionVars false
section
open Go Go.X Go.Proofs
set_option maxRecDepth 100000
set_option maxHeartbeats 4000000
set_option linter.unusedSimpArgs false
set_option linter.unusedVariables false
namespace Go.X.TryzW
/- "tiller/tillerref13.Digits" params { toList := [3] } results { toList := [Go.ResultVar.tmp 2] } -/
section
variable {E : Env}
end
end Go.X.TryzW
end
section
open Go Go.X Go.Proofs
set_option maxRecDepth 100000
set_option maxHeartbeats 4000000
set_option linter.unusedSimpArgs false
set_option linter.unusedVariables false
namespace Go.X.TryzW
/- "tiller/tillerref13.split" params { toList := [9, 9] } results { toList := [Go.ResultVar.tmp 4] } -/
def y31 : XC :=
 (.seq
  (.ops [
    ⟨(some 4), (.mov (.c .nsl)), none⟩])
  (.seq
   (.ops [
     ⟨(some 5), (.mov (.c .nsl)), none⟩])
   (.block 0
    (.loop
     (.block 1
      (.seq
       (.ops [
         ⟨(some 7), (.mov (.t 0)), none⟩,
         ⟨(some 8), (.mov (.t 1)), none⟩,
         ⟨(some 9), (.call (.f 30) [(.t 7), (.t 8)]), none⟩,
         ⟨(some 6), (.mov (.t 9)), none⟩])
       (.seq
        (.seq
         (.ops [
           ⟨(some 10), (.mov (.t 6)), none⟩,
           ⟨(some 11), (.bin .lss (.t 10) (.c (.int .i64 0))), none⟩])
         (.cond (.t 11)
          (.seq
           (.ops [
             ⟨(some 12), (.mov (.t 5)), none⟩,
             ⟨(some 13), (.mov (.t 0)), none⟩,
             ⟨(some 14), (.bslice 1 [(.str [])] 1 [(0, (.t 13))]), none⟩,
             ⟨(some 15), (.append 1 16 (.t 12) (.t 14)), none⟩,
             ⟨(some 4), (.mov (.t 15)), none⟩])
           .ret)
          .skip))
        (.seq
         (.ops [
           ⟨(some 16), (.mov (.t 5)), none⟩,
           ⟨(some 17), (.mov (.t 0)), none⟩,
           ⟨(some 18), (.mov (.t 6)), none⟩,
           ⟨(some 19), (.sliceS (.t 17) none (some (.t 18))), none⟩,
           ⟨(some 20), (.bslice 1 [(.str [])] 1 [(0, (.t 19))]), none⟩,
           ⟨(some 21), (.append 1 16 (.t 16) (.t 20)), none⟩,
           ⟨(some 5), (.mov (.t 21)), none⟩])
         (.ops [
           ⟨(some 22), (.mov (.t 0)), none⟩,
           ⟨(some 23), (.mov (.t 6)), none⟩,
           ⟨(some 24), (.mov (.t 1)), none⟩,
           ⟨(some 25), (.lenS (.t 24)), none⟩,
           ⟨(some 26), (.bin .add (.t 23) (.t 25)), none⟩,
           ⟨(some 27), (.sliceS (.t 22) (some (.t 26)) none), none⟩,
           ⟨(some 0), (.mov (.t 27)), none⟩])))))))))

/- "tiller/tillerref13.lower" params { toList := [9] } results { toList := [Go.ResultVar.tmp 2] } -/
def y34 : XC :=
 (.seq
  (.ops [
    ⟨(some 2), (.mov (.c (.str []))), none⟩])
  (.seq
   (.ops [
     ⟨(some 5), (.mov (.t 0)), none⟩,
     ⟨(some 6), (.ex (.strB 5) [(.t 5)]), none⟩,
     ⟨(some 3), (.mov (.t 6)), none⟩])
   (.seq
    (.seq
     (.ops [
       ⟨(some 4), (.mov (.c (.int .i64 0))), none⟩])
     (.block 0
      (.loop
       (.seq
        (.seq
         (.ops [
           ⟨(some 7), (.mov (.t 4)), none⟩,
           ⟨(some 8), (.mov (.t 3)), none⟩,
           ⟨(some 9), (.len (.t 8)), none⟩,
           ⟨(some 10), (.bin .lss (.t 7) (.t 9)), none⟩])
         (.cond (.t 10)
          .skip
          (.exit 0)))
        (.seq
         (.block 1
          (.seq
           (.ops [
             ⟨(some 13), (.mov (.t 3)), none⟩,
             ⟨(some 14), (.mov (.t 4)), none⟩,
             ⟨(some 15), (.idxS 1 (.t 13) (.t 14)), none⟩,
             ⟨(some 16), (.load1 (.t 15)), none⟩,
             ⟨(some 17), (.bin .geq (.t 16) (.c (.int .u8 65))), none⟩,
             ⟨(some 18), (.mov (.t 17)), none⟩,
             ⟨(some 19), (.mov (.t 3)), (some (18, true))⟩,
             ⟨(some 20), (.mov (.t 4)), (some (18, true))⟩,
             ⟨(some 21), (.idxS 1 (.t 19) (.t 20)), (some (18, true))⟩,
             ⟨(some 22), (.load1 (.t 21)), (some (18, true))⟩,
             ⟨(some 23), (.bin .leq (.t 22) (.c (.int .u8 90))), (some (18, true))⟩,
             ⟨(some 24), (.pick (.t 18) (.t 23) (.c (.bool false))), none⟩])
           (.cond (.t 24)
            (.ops [
              ⟨(some 25), (.mov (.t 3)), none⟩,
              ⟨(some 26), (.mov (.t 4)), none⟩,
              ⟨(some 27), (.mov (.t 3)), none⟩,
              ⟨(some 28), (.mov (.t 4)), none⟩,
              ⟨(some 29), (.idxS 1 (.t 27) (.t 28)), none⟩,
              ⟨(some 30), (.load1 (.t 29)), none⟩,
              ⟨(some 31), (.bin .add (.t 30) (.c (.int .u8 32))), none⟩,
              ⟨(some 32), (.idxS 1 (.t 25) (.t 26)), none⟩,
              ⟨none, (.store 1 (.t 32) (.t 31)), none⟩])
            .skip)))
         (.ops [
           ⟨(some 11), (.mov (.t 4)), none⟩,
           ⟨(some 12), (.bin .add (.t 11) (.c (.int .i64 1))), none⟩,
           ⟨(some 4), (.mov (.t 12)), none⟩]))))))
    (.seq
     (.ops [
       ⟨(some 33), (.mov (.t 3)), none⟩,
       ⟨(some 34), (.ex .bStr [(.t 33)]), none⟩,
       ⟨(some 2), (.mov (.t 34)), none⟩])
     .ret))))

/- "tiller/tillerref13.length" params { toList := [9] } results { toList := [Go.ResultVar.tmp 2, Go.ResultVar.tmp 3] } -/
def y35 : XC :=
 (.seq
  (.ops [
    ⟨(some 2), (.mov (.c (.int .i64 0))), none⟩,
    ⟨(some 3), (.mov (.c (.bool false))), none⟩])
  (.seq
   (.seq
    (.ops [
      ⟨(some 6), (.mov (.t 0)), none⟩,
      ⟨(some 7), (.lenS (.t 6)), none⟩,
      ⟨(some 8), (.bin .lss (.t 7) (.c (.int .i64 1))), none⟩,
      ⟨(some 9), (.mov (.t 8)), none⟩,
      ⟨(some 10), (.mov (.t 0)), (some (9, false))⟩,
      ⟨(some 11), (.lenS (.t 10)), (some (9, false))⟩,
      ⟨(some 12), (.bin .gtr (.t 11) (.c (.int .i64 9))), (some (9, false))⟩,
      ⟨(some 13), (.pick (.t 9) (.c (.bool true)) (.t 12)), none⟩,
      ⟨(some 14), (.mov (.t 13)), none⟩,
      ⟨(some 15), (.mov (.t 0)), (some (14, false))⟩,
      ⟨(some 16), (.idx (.t 15) (.c (.int .i64 0))), (some (14, false))⟩,
      ⟨(some 17), (.bin .eql (.t 16) (.c (.int .u8 48))), (some (14, false))⟩,
      ⟨(some 18), (.mov (.t 17)), (some (14, false))⟩,
      ⟨(some 19), (.mov (.t 0)), (some (18, true))⟩,
      ⟨(some 20), (.lenS (.t 19)), (some (18, true))⟩,
      ⟨(some 21), (.bin .gtr (.t 20) (.c (.int .i64 1))), (some (18, true))⟩,
      ⟨(some 22), (.pick (.t 18) (.t 21) (.c (.bool false))), (some (14, false))⟩,
      ⟨(some 23), (.pick (.t 14) (.c (.bool true)) (.t 22)), none⟩,
      ⟨(some 24), (.mov (.t 23)), none⟩,
      ⟨(some 25), (.mov (.t 0)), (some (24, false))⟩,
      ⟨(some 26), (.call (.f 32) [(.t 25), (.c (.int .u8 48)), (.c (.int .u8 57))]), (some (24, false))⟩,
      ⟨(some 27), (.un .not (.t 26)), (some (24, false))⟩,
      ⟨(some 28), (.pick (.t 24) (.c (.bool true)) (.t 27)), none⟩])
    (.cond (.t 28)
     (.seq
      (.ops [
        ⟨(some 2), (.mov (.c (.int .i64 0))), none⟩,
        ⟨(some 3), (.mov (.c (.bool false))), none⟩])
      .ret)
     .skip))
   (.seq
    (.ops [
      ⟨(some 4), (.mov (.c (.int .i64 0))), none⟩])
    (.seq
     (.seq
      (.ops [
        ⟨(some 5), (.mov (.c (.int .i64 0))), none⟩])
      (.block 0
       (.loop
        (.seq
         (.seq
          (.ops [
            ⟨(some 29), (.mov (.t 5)), none⟩,
            ⟨(some 30), (.mov (.t 0)), none⟩,
            ⟨(some 31), (.lenS (.t 30)), none⟩,
            ⟨(some 32), (.bin .lss (.t 29) (.t 31)), none⟩])
          (.cond (.t 32)
           .skip
           (.exit 0)))
         (.seq
          (.block 1
           (.ops [
             ⟨(some 35), (.mov (.t 4)), none⟩,
             ⟨(some 36), (.bin .mul (.c (.int .i64 10)) (.t 35)), none⟩,
             ⟨(some 37), (.mov (.t 0)), none⟩,
             ⟨(some 38), (.mov (.t 5)), none⟩,
             ⟨(some 39), (.idx (.t 37) (.t 38)), none⟩,
             ⟨(some 40), (.bin .sub (.t 39) (.c (.int .u8 48))), none⟩,
             ⟨(some 41), (.cvInt .i64 (.t 40)), none⟩,
             ⟨(some 42), (.bin .add (.t 36) (.t 41)), none⟩,
             ⟨(some 4), (.mov (.t 42)), none⟩]))
          (.ops [
            ⟨(some 33), (.mov (.t 5)), none⟩,
            ⟨(some 34), (.bin .add (.t 33) (.c (.int .i64 1))), none⟩,
            ⟨(some 5), (.mov (.t 34)), none⟩]))))))
     (.seq
      (.ops [
        ⟨(some 43), (.mov (.t 4)), none⟩,
        ⟨(some 2), (.mov (.t 43)), none⟩,
        ⟨(some 3), (.mov (.c (.bool true))), none⟩])
      .ret)))))

/- "tiller/tillerref13.trim" params { toList := [9] } results { toList := [Go.ResultVar.tmp 2] } -/
def y36 : XC :=
 (.seq
  (.ops [
    ⟨(some 2), (.mov (.c (.str []))), none⟩])
  (.seq
   (.block 0
    (.loop
     (.seq
      (.seq
       (.ops [
         ⟨(some 3), (.mov (.t 0)), none⟩,
         ⟨(some 4), (.lenS (.t 3)), none⟩,
         ⟨(some 5), (.bin .gtr (.t 4) (.c (.int .i64 0))), none⟩,
         ⟨(some 6), (.mov (.t 5)), none⟩,
         ⟨(some 7), (.mov (.t 0)), (some (6, true))⟩,
         ⟨(some 8), (.idx (.t 7) (.c (.int .i64 0))), (some (6, true))⟩,
         ⟨(some 9), (.bin .eql (.t 8) (.c (.int .u8 32))), (some (6, true))⟩,
         ⟨(some 10), (.pick (.t 6) (.t 9) (.c (.bool false))), none⟩])
       (.cond (.t 10)
        .skip
        (.exit 0)))
      (.block 1
       (.ops [
         ⟨(some 11), (.mov (.t 0)), none⟩,
         ⟨(some 12), (.sliceS (.t 11) (some (.c (.int .i64 1))) none), none⟩,
         ⟨(some 0), (.mov (.t 12)), none⟩])))))
   (.seq
    (.block 2
     (.loop
      (.seq
       (.seq
        (.ops [
          ⟨(some 13), (.mov (.t 0)), none⟩,
          ⟨(some 14), (.lenS (.t 13)), none⟩,
          ⟨(some 15), (.bin .gtr (.t 14) (.c (.int .i64 0))), none⟩,
          ⟨(some 16), (.mov (.t 15)), none⟩,
          ⟨(some 17), (.mov (.t 0)), (some (16, true))⟩,
          ⟨(some 18), (.mov (.t 0)), (some (16, true))⟩,
          ⟨(some 19), (.lenS (.t 18)), (some (16, true))⟩,
          ⟨(some 20), (.bin .sub (.t 19) (.c (.int .i64 1))), (some (16, true))⟩,
          ⟨(some 21), (.idx (.t 17) (.t 20)), (some (16, true))⟩,
          ⟨(some 22), (.bin .eql (.t 21) (.c (.int .u8 32))), (some (16, true))⟩,
          ⟨(some 23), (.pick (.t 16) (.t 22) (.c (.bool false))), none⟩])
        (.cond (.t 23)
         .skip
         (.exit 2)))
       (.block 3
        (.ops [
          ⟨(some 24), (.mov (.t 0)), none⟩,
          ⟨(some 25), (.mov (.t 0)), none⟩,
          ⟨(some 26), (.lenS (.t 25)), none⟩,
          ⟨(some 27), (.bin .sub (.t 26) (.c (.int .i64 1))), none⟩,
          ⟨(some 28), (.sliceS (.t 24) none (some (.t 27))), none⟩,
          ⟨(some 0), (.mov (.t 28)), none⟩])))))
    (.seq
     (.ops [
       ⟨(some 29), (.mov (.t 0)), none⟩,
       ⟨(some 2), (.mov (.t 29)), none⟩])
     .ret))))

section
variable {E : Env} {L : List Blk} {K : IV → List Blk → Prop}
theorem trimL_hit (s : List UInt8) (c : UInt8) (h0 : 0 < s.length) (h : s.getD 0 0 = c) : Lib.trimLeftB s c = Lib.trimLeftB (s.drop 1) c := by
  cases s with
  | nil => simp at h0
  | cons a t =>
    have ha : a = c := h
    subst ha
    simp [Lib.trimLeftB, List.dropWhile]
theorem trimL_stop (s : List UInt8) (c : UInt8) (h : s.length = 0 ∨ s.getD 0 0 ≠ c) : Lib.trimLeftB s c = s := by
  cases s with
  | nil => rfl
  | cons a t =>
    have ha : a ≠ c := by simpa using h
    have hb : (a == c) = false := by rw [beq_eq_false_iff_ne]; exact ha
    simp [Lib.trimLeftB, List.dropWhile, hb]
theorem u8_is (b c : UInt8) : (((b.toNat : Nat) : Int) = ((c.toNat : Nat) : Int)) = (b = c) := propext ⟨fun h => UInt8.toNat_inj.1 (by omega), fun h => by rw [h]⟩
theorem rtrim_pure (hP : E.P = Tryz.prog) (s : List UInt8) (hs : s.length ≤ 1000000) : XPure E 36 [.str s] (.str (Lib.trimB s 32)) := by
  refine xpure1 (n := Tryz.f36.ntmps) (c := y36) (t := 2) (by rw [hP]; rfl) (by rw [hP]; kernel_rfl) (by decide) (Nat.le_of_ble_eq_true rfl) ?_
  generalize hρ : entry _ = ρ
  have h0 : ρ 0 = .str s := by rw [← hρ]; rfl
  clear hρ
  unfold y36
  simp only [h0, go_sem, Nat.reduceEqDiff, reduceIte, Int.reduceEq, Int.reduceLT, Int.reduceLE, Nat.reduceAdd, Nat.reduceLT, Nat.reduceLeDiff, Int.reduceToNat, Int.reduceSub, Int.reduceAdd, Int.reduceNeg]
  refine xrun_cut (fun e ρ' L' => e = .exit 0 ∧ L' = [] ∧ ρ' 0 = .str (Lib.trimLeftB s 32)) ?_ ?_
  · refine s_loop (fun n ρ L => ∃ s' : List UInt8, n = s'.length ∧ s'.length ≤ 1000000 ∧ L = [] ∧ ρ 0 = .str s' ∧ Lib.trimLeftB s' 32 = Lib.trimLeftB s 32) ⟨s, rfl, hs, rfl, h0, rfl⟩ ?_
    clear h0 ρ
    rintro n ρ L ⟨s', rfl, hs', rfl, h0, htl⟩
    by_cases hl : 0 < s'.length
    · have e1 : ((0 : Int) < (s'.length : Int)) = True := eq_true (by omega)
      by_cases h32 : s'.getD 0 0 = 32
      · have e2 : (((s'.getD 0 0).toNat : Nat) : Int) = 32 := by rw [h32]; rfl
        simp only [h0, e1, e2, go_sem, Nat.reduceEqDiff, reduceIte, Int.reduceEq, Int.reduceLT, Int.reduceLE, Nat.reduceAdd, Nat.reduceLT, Nat.reduceLeDiff, Int.reduceToNat, Int.reduceSub, Int.reduceAdd, Int.reduceNeg]
        refine ⟨by omega, s'.length - 1, by omega, s'.drop 1, by rw [List.length_drop], by rw [List.length_drop]; omega, rfl, ?_⟩
        rw [← htl, trimL_hit s' 32 hl h32]
      · have e2 : ((((s'.getD 0 0).toNat : Nat) : Int) = 32) = False := eq_false (fun h => h32 (by have := (u8_is (s'.getD 0 0) 32).mp h; exact this))
        simp only [h0, e1, e2, go_sem, Nat.reduceEqDiff, reduceIte, Int.reduceEq, Int.reduceLT, Int.reduceLE, Nat.reduceAdd, Nat.reduceLT, Nat.reduceLeDiff, Int.reduceToNat, Int.reduceSub, Int.reduceAdd, Int.reduceNeg]
        rw [← htl, trimL_stop s' 32 (.inr h32)]
    · have e1 : ((0 : Int) < (s'.length : Int)) = False := eq_false (by omega)
      simp only [h0, e1, go_sem, Nat.reduceEqDiff, reduceIte, Int.reduceEq, Int.reduceLT, Int.reduceLE, Nat.reduceAdd, Nat.reduceLT, Nat.reduceLeDiff, Int.reduceToNat, Int.reduceSub, Int.reduceAdd, Int.reduceNeg]
      rw [← htl, trimL_stop s' 32 (.inl (by omega))]
  rintro e ρ' L' ⟨rfl, rfl, h0'⟩
  clear h0 ρ
  have h0 := h0'
  have hg : Lib.trimB s 32 = Lib.trimRightB (Lib.trimLeftB s 32) 32 := by unfold Lib.trimB; rw [← trim_comm]
  rw [hg]
  have hll : (Lib.trimLeftB s 32).length ≤ 1000000 := by
    unfold Lib.trimLeftB
    have := List.Sublist.length_le (List.dropWhile_sublist (p := (· == (32 : UInt8))) (l := s))
    omega
  generalize Lib.trimLeftB s 32 = d at *
  simp only [h0, go_sem, Nat.reduceEqDiff, reduceIte, Int.reduceEq, Int.reduceLT, Int.reduceLE, Nat.reduceAdd, Nat.reduceLT, Nat.reduceLeDiff, Int.reduceToNat, Int.reduceSub, Int.reduceAdd, Int.reduceNeg]
  refine s_loop (fun n ρ L => ∃ s' : List UInt8, n = s'.length ∧ s'.length ≤ 1000000 ∧ L = [] ∧ ρ 0 = .str s' ∧ Lib.trimRightB s' 32 = Lib.trimRightB d 32) ⟨d, rfl, hll, rfl, h0, rfl⟩ ?_
  clear h0 h0' ρ'
  rintro n ρ L ⟨s', rfl, hs', rfl, h0, htl⟩
  by_cases hl : 0 < s'.length
  · have e1 : ((0 : Int) < (s'.length : Int)) = True := eq_true (by omega)
    have hw : IntKind.i64.wrap ((s'.length : Int) - 1) = ((s'.length - 1 : Nat) : Int) := by rw [wrap64 (by omega) (by omega)]; omega
    have hne : s' ≠ [] := by intro h; subst h; simp at hl
    by_cases h32 : s'.getD (s'.length - 1) 0 = 32
    · have e2 : (((s'.getD (s'.length - 1) 0).toNat : Nat) : Int) = 32 := by rw [h32]; rfl
      simp only [h0, e1, e2, hw, go_sem, Nat.reduceEqDiff, reduceIte, Int.reduceEq, Int.reduceLT, Int.reduceLE, Nat.reduceAdd, Nat.reduceLT, Nat.reduceLeDiff, Int.reduceToNat, Int.reduceSub, Int.reduceAdd, Int.reduceNeg]
      refine ⟨by omega, by omega, s'.length - 1, by omega, s'.take (s'.length - 1), by rw [List.length_take]; omega, by rw [List.length_take]; omega, rfl, ?_⟩
      rw [← htl, trimR_last s' 32 hne h32]
    · have e2 : ((((s'.getD (s'.length - 1) 0).toNat : Nat) : Int) = 32) = False := eq_false (fun h => h32 (by have := (u8_is (s'.getD (s'.length - 1) 0) 32).mp h; exact this))
      simp only [h0, e1, e2, hw, go_sem, Nat.reduceEqDiff, reduceIte, Int.reduceEq, Int.reduceLT, Int.reduceLE, Nat.reduceAdd, Nat.reduceLT, Nat.reduceLeDiff, Int.reduceToNat, Int.reduceSub, Int.reduceAdd, Int.reduceNeg]
      rw [← htl, trimR_stop s' 32 (.inr h32)]
      exact ⟨by omega, rfl⟩
  · have e1 : ((0 : Int) < (s'.length : Int)) = False := eq_false (by omega)
    simp only [h0, e1, go_sem, Nat.reduceEqDiff, reduceIte, Int.reduceEq, Int.reduceLT, Int.reduceLE, Nat.reduceAdd, Nat.reduceLT, Nat.reduceLeDiff, Int.reduceToNat, Int.reduceSub, Int.reduceAdd, Int.reduceNeg]
    have hnil : s' = [] := List.eq_nil_of_length_eq_zero (by omega)
    rw [← htl, trimR_stop s' 32 (.inl hnil)]
    rfl

theorem bytesRows_take (bs : List UInt8) (n : Nat) : (bytesRows bs).take n = bytesRows (bs.take n) := by simp [bytesRows, List.map_take]
theorem sl_bytesT {ty k n cap : Nat} {bs : List UInt8} (hL : L[k]? = some (.tcells ty 1 (bytesRows bs))) (hn : n ≤ bs.length) : (rowsSl L (.sl k 0 n cap)).bind (mapO byteOf) = some (bs.take n) := by
  have h := bytesRows_of (bs.take n)
  have e : rowsSl L (.sl k 0 n cap) = rowsSl [] (.isl (bytesRows (bs.take n))) := by
    simp only [rowsSl, rowsOf, hL]
    rw [if_pos (by rw [bytesRows_len]; omega), List.drop_zero, bytesRows_take]
  rw [e]; exact h
theorem sl_bytesC {k n cap : Nat} {bs : List UInt8} (hL : L[k]? = some (.cells 1 (bytesRows bs))) (hn : n ≤ bs.length) : (rowsSl L (.sl k 0 n cap)).bind (mapO byteOf) = some (bs.take n) := by
  have h := bytesRows_of (bs.take n)
  have e : rowsSl L (.sl k 0 n cap) = rowsSl [] (.isl (bytesRows (bs.take n))) := by
    simp only [rowsSl, rowsOf, hL]
    rw [if_pos (by rw [bytesRows_len]; omega), List.drop_zero, bytesRows_take]
  rw [e]; exact h
/-- A small letter. -/
def low1 (b : UInt8) : UInt8 := if (65 : Int) ≤ (b.toNat : Int) ∧ (b.toNat : Int) ≤ 90 then b + 32 else b
theorem low_rows {s : List UInt8} {j : Nat} (hj : j < s.length) : ((bytesRows ((s.take j).map low1 ++ s.drop j)).set j [.int .u8 (low1 (s.getD j 0)).toNat]) = bytesRows ((s.take (j + 1)).map low1 ++ s.drop (j + 1)) := by
  apply List.ext_getElem?
  intro i
  have hl : ((s.take j).map low1).length = j := by rw [List.length_map, List.length_take]; omega
  have hl2 : ((s.take (j + 1)).map low1).length = j + 1 := by rw [List.length_map, List.length_take]; omega
  rw [List.getElem?_set]
  unfold bytesRows
  rw [List.getElem?_map, List.getElem?_map]
  by_cases hij : j = i
  · subst hij
    rw [if_pos rfl, if_pos (by simp only [List.length_map, List.length_append, List.length_take, List.length_drop]; omega), List.getElem?_append_left (by omega), List.getElem?_map, List.getElem?_take, if_pos (by omega), List.getElem?_eq_getElem hj, List.getD_eq_getElem?_getD, List.getElem?_eq_getElem hj]
    rfl
  · rw [if_neg hij]
    rcases Nat.lt_or_ge i j with h | h
    · rw [List.getElem?_append_left (by omega), List.getElem?_append_left (by omega), List.getElem?_map, List.getElem?_map, List.getElem?_take, List.getElem?_take, if_pos h, if_pos (by omega)]
    · rw [List.getElem?_append_right (by omega), List.getElem?_append_right (by omega), hl, hl2, List.getElem?_drop, List.getElem?_drop]
      congr 2
      rw [show j + (i - j) = i by omega, show j + 1 + (i - (j + 1)) = i by omega]
theorem rlower_pure (hP : E.P = Tryz.prog) (s : List UInt8) (hs : s.length ≤ 1000000) : XPure E 34 [.str s] (.str (s.map low1)) := by
  refine xpure1 (n := Tryz.f34.ntmps) (c := y34) (t := 2) (by rw [hP]; rfl) (by rw [hP]; kernel_rfl) (by decide) (Nat.le_of_ble_eq_true rfl) ?_
  generalize hρ : entry _ = ρ
  have h0 : ρ 0 = .str s := by rw [← hρ]; rfl
  clear hρ
  unfold y34
  simp only [h0, go_sem, Nat.reduceEqDiff, reduceIte, Int.reduceEq, Int.reduceLT, Int.reduceLE, Nat.reduceAdd, Nat.reduceLT, Nat.reduceLeDiff, Int.reduceToNat, Int.reduceSub, Int.reduceAdd, Int.reduceNeg]
  have hM0 : bytesRows s = bytesRows ((s.take 0).map low1 ++ s.drop 0) := by simp
  refine s_loop (fun n ρ L => ∃ j : Nat, j ≤ s.length ∧ n = s.length - j ∧ L = [.tcells 5 1 (bytesRows ((s.take j).map low1 ++ s.drop j))] ∧ ρ 3 = .sl 0 0 s.length s.length ∧ ρ 4 = .int .i64 j)
    ⟨0, Nat.zero_le _, rfl, by rw [← hM0], by simp only [h0, go_sem, Nat.reduceEqDiff, reduceIte, Int.reduceEq, Int.reduceLT, Int.reduceLE, Nat.reduceAdd, Nat.reduceLT, Nat.reduceLeDiff, Int.reduceToNat, Int.reduceSub, Int.reduceAdd, Int.reduceNeg], by simp only [h0, go_sem, Nat.reduceEqDiff, reduceIte, Int.reduceEq, Int.reduceLT, Int.reduceLE, Nat.reduceAdd, Nat.reduceLT, Nat.reduceLeDiff, Int.reduceToNat, Int.reduceSub, Int.reduceAdd, Int.reduceNeg]; try rfl⟩ ?_
  clear h0 hM0 ρ
  rintro n ρ L ⟨j, hj, rfl, rfl, h3, h4⟩
  by_cases hjl : j < s.length
  · have e1 : ((j : Int) < (s.length : Int)) = True := eq_true (by omega)
    have hMl : (bytesRows ((s.take j).map low1 ++ s.drop j)).length = s.length := by rw [bytesRows_len, List.length_append, List.length_map, List.length_take, List.length_drop]; omega
    have hMg : (bytesRows ((s.take j).map low1 ++ s.drop j)).getD j [] = [.int .u8 (s.getD j 0).toNat] := by
      rw [List.getD_eq_getElem?_getD]
      unfold bytesRows
      rw [List.getElem?_map, List.getElem?_append_right (by rw [List.length_map, List.length_take]; omega), List.length_map, List.length_take, List.getElem?_drop, show j + (j - min j s.length) = j by omega, List.getElem?_eq_getElem hjl, List.getD_eq_getElem?_getD, List.getElem?_eq_getElem hjl]
      rfl
    have hMs := low_rows hjl
    have hw : IntKind.i64.wrap ((j : Int) + 1) = ((j + 1 : Nat) : Int) := by rw [wrap64 (by omega) (by omega)]; rfl
    have hself : (bytesRows ((s.take j).map low1 ++ s.drop j)) = (bytesRows ((s.take j).map low1 ++ s.drop j)).set j ((bytesRows ((s.take j).map low1 ++ s.drop j)).getD j []) := by
      apply List.ext_getElem?
      intro i
      rw [List.getElem?_set]
      split
      · rename_i hij; subst hij
        rw [if_pos (by rw [hMl]; exact hjl), List.getD_eq_getElem?_getD, List.getElem?_eq_getElem (by rw [hMl]; exact hjl)]; rfl
      · rfl
    rw [hMg] at hself
    generalize (bytesRows ((s.take j).map low1 ++ s.drop j)) = M at *
    by_cases hlo : (65 : Int) ≤ ((s.getD j 0).toNat : Int)
    · have f1 : ((65 : Int) ≤ ((s.getD j 0).toNat : Int)) = True := eq_true hlo
      by_cases hhi : ((s.getD j 0).toNat : Int) ≤ 90
      · have f2 : (((s.getD j 0).toNat : Int) ≤ 90) = True := eq_true hhi
        have hadd : IntKind.u8.wrap (((s.getD j 0).toNat : Int) + 32) = ((low1 (s.getD j 0)).toNat : Int) := by
          unfold low1
          rw [if_pos ⟨hlo, hhi⟩, UInt8.toNat_add]
          simp [IntKind.wrap, IntKind.bits, IntKind.signed]
        simp only [h3, h4, e1, hMl, hMg, f1, f2, hadd, hMs, hw, go_sem, Nat.reduceEqDiff, reduceIte, Int.reduceEq, Int.reduceLT, Int.reduceLE, Nat.reduceAdd, Nat.reduceLT, Nat.reduceLeDiff, Int.reduceToNat, Int.reduceSub, Int.reduceAdd, Int.reduceNeg]
        exact ⟨hjl, hjl, hjl, hjl, s.length - (j + 1), by omega, j + 1, by omega, rfl, rfl, rfl⟩
      · have f2 : (((s.getD j 0).toNat : Int) ≤ 90) = False := eq_false hhi
        have hid : low1 (s.getD j 0) = s.getD j 0 := by unfold low1; rw [if_neg (fun h => hhi h.2)]
        rw [hid, ← hself] at hMs
        simp only [h3, h4, e1, hMl, hMg, f1, f2, hw, go_sem, Nat.reduceEqDiff, reduceIte, Int.reduceEq, Int.reduceLT, Int.reduceLE, Nat.reduceAdd, Nat.reduceLT, Nat.reduceLeDiff, Int.reduceToNat, Int.reduceSub, Int.reduceAdd, Int.reduceNeg]
        exact ⟨hjl, hjl, s.length - (j + 1), by omega, j + 1, by omega, rfl, by rw [hMs], rfl⟩
    · have f1 : ((65 : Int) ≤ ((s.getD j 0).toNat : Int)) = False := eq_false hlo
      have hid : low1 (s.getD j 0) = s.getD j 0 := by unfold low1; rw [if_neg (fun h => hlo h.1)]
      rw [hid, ← hself] at hMs
      simp only [h3, h4, e1, hMl, hMg, f1, hw, go_sem, Nat.reduceEqDiff, reduceIte, Int.reduceEq, Int.reduceLT, Int.reduceLE, Nat.reduceAdd, Nat.reduceLT, Nat.reduceLeDiff, Int.reduceToNat, Int.reduceSub, Int.reduceAdd, Int.reduceNeg]
      exact ⟨hjl, s.length - (j + 1), by omega, j + 1, by omega, rfl, by rw [hMs], rfl⟩
  · have e1 : ((j : Int) < (s.length : Int)) = False := eq_false (by omega)
    have hjl' : j = s.length := by omega
    subst hjl'
    have hend : (rowsSl [Blk.tcells 5 1 (bytesRows ((s.take s.length).map low1 ++ s.drop s.length))] (IV.sl 0 0 s.length s.length)).bind (mapO byteOf) = some (s.map low1) := by
      rw [List.take_length, List.drop_length, List.append_nil]
      have := sl_bytesT (L := [Blk.tcells 5 1 (bytesRows (s.map low1))]) (k := 0) (n := s.length) (cap := s.length) rfl (by rw [List.length_map]; exact Nat.le_refl _)
      rw [this, List.take_of_length_le (by rw [List.length_map]; exact Nat.le_refl _)]
    simp only [h3, h4, e1, go_sem, Nat.reduceEqDiff, reduceIte, Int.reduceEq, Int.reduceLT, Int.reduceLE, Nat.reduceAdd, Nat.reduceLT, Nat.reduceLeDiff, Int.reduceToNat, Int.reduceSub, Int.reduceAdd, Int.reduceNeg]
    rw [hend]
    rfl

theorem dec_step (s : List UInt8) (j : Nat) (n : Nat) (hj : j < s.length) (h : Lib.decFrom 0 (s.take j) = some n) (hd : digitF (s.getD j 0) = true) : Lib.decFrom 0 (s.take (j + 1)) = some (n * 10 + ((s.getD j 0).toNat - 48)) := by
  have hb : s[j]? = some (s.getD j 0) := by rw [List.getD_eq_getElem?_getD, List.getElem?_eq_getElem hj]; rfl
  refine Lib.decFrom_take s j 0 n (s.getD j 0) _ h hb ?_
  unfold digitF at hd
  rw [Bool.and_eq_true, decide_eq_true_eq, decide_eq_true_eq] at hd
  unfold Lib.digitVal
  rw [if_pos (by omega)]
/-- What a content-length's text says. -/
def lenV (s : List UInt8) : Int := (Lib.atoi s).getD 0
theorem digit_in : inB 48 57 = digitF := by
  funext b
  unfold inB outB digitF
  by_cases h1 : (48 : Int) ≤ (b.toNat : Int) <;> by_cases h2 : (b.toNat : Int) ≤ 57 <;> simp [h1, h2] <;> omega
theorem dec_all (s : List UInt8) (h : s.all digitF = true) : ∀ j, j ≤ s.length → ∃ n, Lib.decFrom 0 (s.take j) = some n ∧ n < 10 ^ j := by
  intro j
  induction j with
  | zero => exact fun _ => ⟨0, rfl, by simp⟩
  | succ j ih =>
    intro hj
    obtain ⟨n, h1, h2⟩ := ih (by omega)
    have hd : digitF (s.getD j 0) = true := by
      rw [List.all_eq_true] at h
      exact h _ (by rw [List.getD_eq_getElem?_getD, List.getElem?_eq_getElem (by omega)]; exact List.getElem_mem _)
    refine ⟨_, dec_step s j n (by omega) h1 hd, ?_⟩
    unfold digitF at hd
    rw [Bool.and_eq_true, decide_eq_true_eq, decide_eq_true_eq] at hd
    rw [Nat.pow_succ]
    omega
theorem atoi_digits {s : List UInt8} (hne : s ≠ []) (h : s.all digitF = true) {n : Nat} (hd : Lib.decFrom 0 s = some n) : Lib.atoi s = some (n : Int) := by
  cases s with
  | nil => exact absurd rfl hne
  | cons b l =>
    have hb : digitF b = true := by rw [List.all_cons, Bool.and_eq_true] at h; exact h.1
    unfold digitF at hb
    rw [Bool.and_eq_true, decide_eq_true_eq, decide_eq_true_eq] at hb
    have e1 : (b == 45) = false := by rw [beq_eq_false_iff_ne]; intro h; subst h; revert hb; decide
    have e2 : (b == 43) = false := by rw [beq_eq_false_iff_ne]; intro h; subst h; revert hb; decide
    unfold Lib.atoi
    simp only [e1, e2, Bool.false_eq_true, if_false]
    unfold Lib.decNat
    simp [hd]
theorem rlength_pure (hP : E.P = Tryz.prog) (s : List UInt8) (hs : s.length ≤ 1000000) : XPure E 35 [.str s] (.tup [.int .i64 (if wholeF s 9 then lenV s else 0), .bool (wholeF s 9)]) := by
  refine xpure2 (n := Tryz.f35.ntmps) (c := y35) (t := 2) (t' := 3) (by rw [hP]; rfl) (by rw [hP]; kernel_rfl) (by decide) (Nat.le_of_ble_eq_true rfl) ?_
  generalize hρ : entry _ = ρ
  have h0 : ρ 0 = .str s := by rw [← hρ]; rfl
  clear hρ
  unfold y35
  simp only [h0, go_sem, Nat.reduceEqDiff, reduceIte, Int.reduceEq, Int.reduceLT, Int.reduceLE, Nat.reduceAdd, Nat.reduceLT, Nat.reduceLeDiff, Int.reduceToNat, Int.reduceSub, Int.reduceAdd, Int.reduceNeg]
  by_cases hl1 : s.length < 1
  · have f1 : ((s.length : Int) < 1) = True := eq_true (by omega)
    have hnil : s = [] := List.eq_nil_of_length_eq_zero (by omega)
    simp only [h0, f1, go_sem, Nat.reduceEqDiff, reduceIte, Int.reduceEq, Int.reduceLT, Int.reduceLE, Nat.reduceAdd, Nat.reduceLT, Nat.reduceLeDiff, Int.reduceToNat, Int.reduceSub, Int.reduceAdd, Int.reduceNeg]
    subst hnil
    exact ⟨rfl, rfl⟩
  have f1 : ((s.length : Int) < 1) = False := eq_false (by omega)
  by_cases hl9 : 9 < s.length
  · have f2 : ((9 : Int) < (s.length : Int)) = True := eq_true (by omega)
    have hwf : wholeF s 9 = false := by
      unfold wholeF
      have : decide ((s.length : Int) ≤ 9) = false := decide_eq_false (by omega)
      rw [this, Bool.and_false, Bool.false_and]
    simp only [h0, f1, f2, go_sem, Nat.reduceEqDiff, reduceIte, Int.reduceEq, Int.reduceLT, Int.reduceLE, Nat.reduceAdd, Nat.reduceLT, Nat.reduceLeDiff, Int.reduceToNat, Int.reduceSub, Int.reduceAdd, Int.reduceNeg]
    rw [hwf]
    exact ⟨rfl, rfl⟩
  have f2 : ((9 : Int) < (s.length : Int)) = False := eq_false (by omega)
  have hdg : s.all (inB 48 57) = s.all digitF := by rw [digit_in]
  have hne : s ≠ [] := by intro h; subst h; simp at hl1
  have hwf : wholeF s 9 = !((decide (((s.getD 0 0).toNat : Int) = 48) && decide ((1 : Int) < (s.length : Int))) || !s.all (inB 48 57)) := by
    rw [hdg]
    unfold wholeF madeF
    have e1 : decide ((s.length : Int) ≤ 9) = true := decide_eq_true (by omega)
    have e2 : decide (s = []) = false := decide_eq_false hne
    have e3 : decide ((1 : Int) < (s.length : Int)) = !decide ((s.length : Int) = 1) := by
      by_cases h : s.length = 1
      · rw [decide_eq_false (by omega), decide_eq_true (by omega)]; rfl
      · rw [decide_eq_true (by omega), decide_eq_false (by omega)]; rfl
    rw [e1, e2, e3]
    cases s.all digitF <;> cases decide ((s.length : Int) = 1) <;> cases decide (((s.getD 0 0).toNat : Int) = 48) <;> rfl
  simp only [h0, f1, f2, go_sem, Nat.reduceEqDiff, reduceIte, Int.reduceEq, Int.reduceLT, Int.reduceLE, Nat.reduceAdd, Nat.reduceLT, Nat.reduceLeDiff, Int.reduceToNat, Int.reduceSub, Int.reduceAdd, Int.reduceNeg]
  first | refine ⟨by omega, ?_⟩ | skip
  refine s_mg (by simp only [h0, f1, f2, go_sem, Nat.reduceEqDiff, reduceIte, Int.reduceEq, Int.reduceLT, Int.reduceLE, Nat.reduceAdd, Nat.reduceLT, Nat.reduceLeDiff, Int.reduceToNat, Int.reduceSub, Int.reduceAdd, Int.reduceNeg]; try rfl) ?_; simp only [cut_g, cut_t, cut_none, cut_out, memN_cons, memN_nil, Nat.reduceEqDiff, reduceIte, List.nil_append, List.cons_append, not_false_eq_true]; refine ex_merge rfl (by simp only [h0, f1, f2, go_sem, Nat.reduceEqDiff, reduceIte, Int.reduceEq, Int.reduceLT, Int.reduceLE, Nat.reduceAdd, Nat.reduceLT, Nat.reduceLeDiff, Int.reduceToNat, Int.reduceSub, Int.reduceAdd, Int.reduceNeg]) (by intro hb; simp only [hb, h0, f1, f2, go_sem, Nat.reduceEqDiff, reduceIte, Int.reduceEq, Int.reduceLT, Int.reduceLE, Nat.reduceAdd, Nat.reduceLT, Nat.reduceLeDiff, Int.reduceToNat, Int.reduceSub, Int.reduceAdd, Int.reduceNeg]; first | exact rfl | exact ⟨rfl, rfl⟩) (fun vs => ?_); simp only [h0, f1, f2, go_sem, Nat.reduceEqDiff, reduceIte, Int.reduceEq, Int.reduceLT, Int.reduceLE, Nat.reduceAdd, Nat.reduceLT, Nat.reduceLeDiff, Int.reduceToNat, Int.reduceSub, Int.reduceAdd, Int.reduceNeg]
  refine s_mg (by simp only [h0, f1, f2, go_sem, Nat.reduceEqDiff, reduceIte, Int.reduceEq, Int.reduceLT, Int.reduceLE, Nat.reduceAdd, Nat.reduceLT, Nat.reduceLeDiff, Int.reduceToNat, Int.reduceSub, Int.reduceAdd, Int.reduceNeg]; try rfl) ?_; simp only [cut_g, cut_t, cut_none, cut_out, memN_cons, memN_nil, Nat.reduceEqDiff, reduceIte, List.nil_append, List.cons_append, not_false_eq_true]; refine ex_merge rfl (by simp only [h0, f1, f2, go_sem, Nat.reduceEqDiff, reduceIte, Int.reduceEq, Int.reduceLT, Int.reduceLE, Nat.reduceAdd, Nat.reduceLT, Nat.reduceLeDiff, Int.reduceToNat, Int.reduceSub, Int.reduceAdd, Int.reduceNeg]) (by intro hb; simp only [hb, h0, f1, f2, go_sem, Nat.reduceEqDiff, reduceIte, Int.reduceEq, Int.reduceLT, Int.reduceLE, Nat.reduceAdd, Nat.reduceLT, Nat.reduceLeDiff, Int.reduceToNat, Int.reduceSub, Int.reduceAdd, Int.reduceNeg]; refine xcall_pure (args' := [.str s, .int .u8 48, .int .u8 57]) rfl (rwithin_pure (E := E.noPan) hP s 48 57 hs) rfl ?_; (try simp only [hb, h0, f1, f2, go_sem, Nat.reduceEqDiff, reduceIte, Int.reduceEq, Int.reduceLT, Int.reduceLE, Nat.reduceAdd, Nat.reduceLT, Nat.reduceLeDiff, Int.reduceToNat, Int.reduceSub, Int.reduceAdd, Int.reduceNeg]); first | exact rfl | exact ⟨rfl, rfl⟩) (fun vs => ?_); simp only [h0, f1, f2, go_sem, Nat.reduceEqDiff, reduceIte, Int.reduceEq, Int.reduceLT, Int.reduceLE, Nat.reduceAdd, Nat.reduceLT, Nat.reduceLeDiff, Int.reduceToNat, Int.reduceSub, Int.reduceAdd, Int.reduceNeg]
  refine s_cond (b := (decide (((s.getD 0 0).toNat : Int) = 48) && decide ((1 : Int) < (s.length : Int))) || !s.all (inB 48 57)) (by simp only [h0, go_sem, Nat.reduceEqDiff, reduceIte, Int.reduceEq, Int.reduceLT, Int.reduceLE, Nat.reduceAdd, Nat.reduceLT, Nat.reduceLeDiff, Int.reduceToNat, Int.reduceSub, Int.reduceAdd, Int.reduceNeg]; try rfl) ?_ ?_ <;> intro hc <;> rw [hc] at hwf <;> simp only [hc, h0, go_sem, Nat.reduceEqDiff, reduceIte, Int.reduceEq, Int.reduceLT, Int.reduceLE, Nat.reduceAdd, Nat.reduceLT, Nat.reduceLeDiff, Int.reduceToNat, Int.reduceSub, Int.reduceAdd, Int.reduceNeg]
  · rw [hwf]
    exact ⟨rfl, rfl⟩
  rw [hwf]
  have hall : s.all digitF = true := by
    rw [← hdg]
    cases h : s.all (inB 48 57) with
    | true => rfl
    | false => rw [h] at hc; simp at hc
  refine s_loop (fun c ρ L => ∃ j n : Nat, j ≤ s.length ∧ c = s.length - j ∧ L = [] ∧ ρ 0 = .str s ∧ ρ 4 = .int .i64 n ∧ ρ 5 = .int .i64 j ∧ Lib.decFrom 0 (s.take j) = some n)
    ⟨0, 0, Nat.zero_le _, rfl, rfl, by simp only [h0, go_sem, Nat.reduceEqDiff, reduceIte, Int.reduceEq, Int.reduceLT, Int.reduceLE, Nat.reduceAdd, Nat.reduceLT, Nat.reduceLeDiff, Int.reduceToNat, Int.reduceSub, Int.reduceAdd, Int.reduceNeg], by simp only [h0, go_sem, Nat.reduceEqDiff, reduceIte, Int.reduceEq, Int.reduceLT, Int.reduceLE, Nat.reduceAdd, Nat.reduceLT, Nat.reduceLeDiff, Int.reduceToNat, Int.reduceSub, Int.reduceAdd, Int.reduceNeg]; try rfl, by simp only [h0, go_sem, Nat.reduceEqDiff, reduceIte, Int.reduceEq, Int.reduceLT, Int.reduceLE, Nat.reduceAdd, Nat.reduceLT, Nat.reduceLeDiff, Int.reduceToNat, Int.reduceSub, Int.reduceAdd, Int.reduceNeg]; try rfl, rfl⟩ ?_
  clear h0 ρ
  rintro c ρ L ⟨j, n, hj, rfl, rfl, h0, h4, h5, hd⟩
  have hn : n < 10 ^ j := by
    obtain ⟨n', h1, h2⟩ := dec_all s hall j hj
    rw [hd] at h1; cases h1; exact h2
  have hn9 : n < 1000000000 := Nat.lt_of_lt_of_le hn (Nat.le_trans (Nat.pow_le_pow_right (by omega) (show j ≤ 9 by omega)) (by decide))
  by_cases hjl : j < s.length
  · have e1 : ((j : Int) < (s.length : Int)) = True := eq_true (by omega)
    have hdj : digitF (s.getD j 0) = true := by
      rw [List.all_eq_true] at hall
      exact hall _ (by rw [List.getD_eq_getElem?_getD, List.getElem?_eq_getElem hjl]; exact List.getElem_mem _)
    have hst := dec_step s j n hjl hd hdj
    unfold digitF at hdj
    rw [Bool.and_eq_true, decide_eq_true_eq, decide_eq_true_eq] at hdj
    have hm : IntKind.i64.wrap (10 * (n : Int)) = ((10 * n : Nat) : Int) := by rw [wrap64 (by omega) (by omega)]; omega
    have hsub' : ∀ x : Nat, 48 ≤ x → x ≤ 57 → IntKind.u8.wrap ((x : Int) - 48) = ((x - 48 : Nat) : Int) := by
      intro x h1 h2
      simp [IntKind.wrap, IntKind.bits, IntKind.signed]; omega
    have hsub := hsub' (s.getD j 0).toNat (by omega) (by omega)
    have hcv : IntKind.i64.wrap (((s.getD j 0).toNat - 48 : Nat) : Int) = (((s.getD j 0).toNat - 48 : Nat) : Int) := wrap64 (by omega) (by omega)
    have hadd : IntKind.i64.wrap (((10 * n : Nat) : Int) + (((s.getD j 0).toNat - 48 : Nat) : Int)) = ((n * 10 + ((s.getD j 0).toNat - 48) : Nat) : Int) := by rw [wrap64 (by omega) (by omega)]; omega
    have hw : IntKind.i64.wrap ((j : Int) + 1) = ((j + 1 : Nat) : Int) := by rw [wrap64 (by omega) (by omega)]; rfl
    simp only [h0, h4, h5, e1, hm, hsub, hcv, hadd, hw, go_sem, Nat.reduceEqDiff, reduceIte, Int.reduceEq, Int.reduceLT, Int.reduceLE, Nat.reduceAdd, Nat.reduceLT, Nat.reduceLeDiff, Int.reduceToNat, Int.reduceSub, Int.reduceAdd, Int.reduceNeg]
    exact ⟨s.length - (j + 1), by omega, j + 1, _, by omega, rfl, rfl, rfl, hst⟩
  · have e1 : ((j : Int) < (s.length : Int)) = False := eq_false (by omega)
    have hjl' : j = s.length := by omega
    subst hjl'
    rw [List.take_length] at hd
    have hv : lenV s = (n : Int) := by unfold lenV; rw [atoi_digits hne hall hd]; rfl
    simp only [h0, h4, h5, e1, go_sem, Nat.reduceEqDiff, reduceIte, Int.reduceEq, Int.reduceLT, Int.reduceLE, Nat.reduceAdd, Nat.reduceLT, Nat.reduceLeDiff, Int.reduceToNat, Int.reduceSub, Int.reduceAdd, Int.reduceNeg]
    rw [hv]
    exact ⟨rfl, rfl⟩

theorem splitL_none {sep s : List UInt8} (h : Lib.index s sep = -1) : splitL sep s = [s] := by
  unfold splitL
  rw [Lib.splitB_data]
  cases Lib.countB ⟨s.toArray⟩ ⟨sep.toArray⟩ with
  | zero => rfl
  | succ k => unfold Lib.splitK; rw [if_pos (by simp [h])]
theorem splitL_some {sep s : List UInt8} (h1 : 1 ≤ sep.length) {i : Nat} (h : Lib.index s sep = i) : splitL sep s = s.take i :: splitL sep (s.drop (i + sep.length)) := by
  have hc := Lib.countB_hit ⟨s.toArray⟩ ⟨sep.toArray⟩ i (by simpa [ByteArray.size] using h1) h
  have he : (ByteArray.extract ⟨s.toArray⟩ (i + (⟨sep.toArray⟩ : ByteArray).size) (⟨s.toArray⟩ : ByteArray).size) = ⟨(s.drop (i + sep.length)).toArray⟩ := by
    have := Lib.extract_to_end (⟨s.toArray⟩ : ByteArray) (i + (⟨sep.toArray⟩ : ByteArray).size)
    apply ByteArray.ext
    apply Array.ext'
    rw [this]
    simp [ByteArray.size]
  rw [he] at hc
  unfold splitL
  rw [Lib.splitB_data, Lib.splitB_data, hc, Nat.add_comm 1]
  rw [Lib.splitK, if_neg (by simp [h])]
  rw [h]
  rfl
def LstS (L : List Blk) (sv : IV) (l : List (List UInt8)) : Prop := (l = [] ∧ sv = .nsl) ∨ ∃ k, sv = .sl k 0 l.length l.length ∧ L[k]? = some (.cells 1 (sRows l))
theorem conv_sRows {n : Nat} {m : Ren} (l : List (List UInt8)) : mapO (mapO (conv L (n + 1) m)) (sRows l) = some (sRows l) := by
  refine mapO_same fun row hr => ?_
  unfold sRows at hr
  obtain ⟨b, _, rfl⟩ := List.mem_map.1 hr
  rfl
theorem LstS.conv {sv : IV} {l : List (List UInt8)} (h : LstS L sv l) : conv L fuel renFreeze sv = some (.isl (sRows l)) := by
  rcases h with ⟨rfl, rfl⟩ | ⟨k, rfl, h3⟩
  · rfl
  · show Go.X.conv L 12 renFreeze _ = _
    simp only [Go.X.conv, renFreeze, h3]
    rw [if_pos (by rw [sRows_len]; omega), List.drop_zero, List.take_of_length_le (by rw [sRows_len]; exact Nat.le_refl _), conv_sRows]
    rfl
theorem LstS.app {sv : IV} {l : List (List UInt8)} {b : Blk} (h : LstS L sv l) : LstS (L ++ [b]) sv l := by
  rcases h with ⟨rfl, rfl⟩ | ⟨k, rfl, h3⟩
  · exact .inl ⟨rfl, rfl⟩
  · exact .inr ⟨k, rfl, by rw [List.getElem?_append_left (lt_of_get h3)]; exact h3⟩
theorem app_srow {sv x : IV} {l : List (List UInt8)} {p : List UInt8} (hl : LstS L sv l) (hx : rowsOf L x = some [[.str p]]) (hb : l.length ≤ 2000000)
    (hk : ∀ L' sv', LstS L' sv' (l ++ [p]) → K sv' L') : xop E (.append 1 16 (.c sv) (.c x)) cev L K := by
  show xappend 1 16 sv x L K
  unfold xappend
  rw [hx]
  refine ⟨fun row hr => by rw [List.mem_singleton] at hr; subst hr; exact ⟨rfl, rfl⟩, ?_⟩
  rcases hl with ⟨rfl, rfl⟩ | ⟨k, rfl, h3⟩
  · refine ⟨fun h => by simp at h, fun _ => ⟨by simp, ?_⟩⟩
    exact hk _ _ (.inr ⟨L.length, rfl, by simp [sRows]⟩)
  · simp only [h3]
    refine ⟨trivial, by rw [sRows_len]; omega, ?_⟩
    rw [if_neg (by simp)]
    refine ⟨by simp; omega, ?_⟩
    refine hk _ _ (.inr ⟨L.length, by simp, ?_⟩)
    rw [List.getElem?_append_right (by simp)]
    simp [sRows, List.take_of_length_le]
theorem rsplit_pure (hP : E.P = Tryz.prog) (s sep : List UInt8) (hs : s.length ≤ 1000000) (hs1 : 1 ≤ sep.length) (hsep : sep.length ≤ 100) : XPure E 31 [.str s, .str sep] (.isl (sRows (splitL sep s))) := by
  refine xpure1 (n := Tryz.f31.ntmps) (c := y31) (t := 4) (by rw [hP]; rfl) (by rw [hP]; kernel_rfl) (by decide) (Nat.le_of_ble_eq_true rfl) ?_
  generalize hρ : entry _ = ρ
  have h0 : ρ 0 = .str s := by rw [← hρ]; rfl
  have h1 : ρ 1 = .str sep := by rw [← hρ]; rfl
  clear hρ
  unfold y31
  simp only [h0, h1, go_sem, Nat.reduceEqDiff, reduceIte, Int.reduceEq, Int.reduceLT, Int.reduceLE, Nat.reduceAdd, Nat.reduceLT, Nat.reduceLeDiff, Int.reduceToNat, Int.reduceSub, Int.reduceAdd, Int.reduceNeg]
  refine s_loop (fun n ρ L => ∃ (s' : List UInt8) (l : List (List UInt8)) (sv : IV), n = s'.length ∧ s'.length + l.length ≤ s.length ∧ ρ 0 = .str s' ∧ ρ 1 = .str sep ∧ ρ 5 = sv ∧ LstS L sv l ∧ splitL sep s = l ++ splitL sep s') ⟨s, [], .nsl, rfl, by simp, h0, h1, by simp only [h0, go_sem, Nat.reduceEqDiff, reduceIte, Int.reduceEq, Int.reduceLT, Int.reduceLE, Nat.reduceAdd, Nat.reduceLT, Nat.reduceLeDiff, Int.reduceToNat, Int.reduceSub, Int.reduceAdd, Int.reduceNeg], .inl ⟨rfl, rfl⟩, rfl⟩ ?_
  clear h0 h1 ρ
  rintro n ρ L ⟨s', l, sv, rfl, hsl, h0, h1, h5, hl, heq⟩
  simp only [h0, h1, h5, go_sem, Nat.reduceEqDiff, reduceIte, Int.reduceEq, Int.reduceLT, Int.reduceLE, Nat.reduceAdd, Nat.reduceLT, Nat.reduceLeDiff, Int.reduceToNat, Int.reduceSub, Int.reduceAdd, Int.reduceNeg]
  refine xcall_pure (args' := [.str s', .str sep]) rfl (rindex_pure (E := E.noPan) hP s' sep (by omega) (by omega) (by intro h; subst h; simp at hs1)) rfl ?_
  rcases Lib.index_spec s' sep with ⟨hi, _⟩ | ⟨i, hi, hil, hocc, _⟩
  · rw [hi]
    simp only [h0, h1, h5, go_sem, Nat.reduceEqDiff, reduceIte, Int.reduceEq, Int.reduceLT, Int.reduceLE, Nat.reduceAdd, Nat.reduceLT, Nat.reduceLeDiff, Int.reduceToNat, Int.reduceSub, Int.reduceAdd, Int.reduceNeg]
    refine app_srow (l := l) (p := s') hl.app (by simp [rowsOf]) (by omega) fun L2 sv2 hl2 => ?_
    simp only [h0, h1, h5, go_sem, Nat.reduceEqDiff, reduceIte, Int.reduceEq, Int.reduceLT, Int.reduceLE, Nat.reduceAdd, Nat.reduceLT, Nat.reduceLeDiff, Int.reduceToNat, Int.reduceSub, Int.reduceAdd, Int.reduceNeg]
    rw [heq, splitL_none hi]
    exact hl2.conv
  · have hroom : i + sep.length ≤ s'.length := by
      have := Lib.index_room s' sep (by rw [hi]; omega)
      rw [hi] at this; omega
    rw [hi]
    have f1 : ((i : Int) < 0) = False := eq_false (by omega)
    have hw : IntKind.i64.wrap ((i : Int) + (sep.length : Int)) = ((i + sep.length : Nat) : Int) := by rw [wrap64 (by omega) (by omega)]; omega
    simp only [h0, h1, h5, f1, hw, go_sem, Nat.reduceEqDiff, reduceIte, Int.reduceEq, Int.reduceLT, Int.reduceLE, Nat.reduceAdd, Nat.reduceLT, Nat.reduceLeDiff, Int.reduceToNat, Int.reduceSub, Int.reduceAdd, Int.reduceNeg]
    refine ⟨by omega, ?_⟩
    refine app_srow (l := l) (p := s'.take i) hl.app (by simp [rowsOf]) (by omega) fun L2 sv2 hl2 => ?_
    simp only [h0, h1, h5, f1, hw, go_sem, Nat.reduceEqDiff, reduceIte, Int.reduceEq, Int.reduceLT, Int.reduceLE, Nat.reduceAdd, Nat.reduceLT, Nat.reduceLeDiff, Int.reduceToNat, Int.reduceSub, Int.reduceAdd, Int.reduceNeg]
    refine ⟨by omega, (s'.drop (i + sep.length)).length, by rw [List.length_drop]; omega, s'.drop (i + sep.length), l ++ [s'.take i], sv2, rfl, by rw [List.length_drop, List.length_append]; simp; omega, rfl, rfl, hl2, ?_⟩
    rw [heq, splitL_some hs1 hi]; simp
end
end Go.X.TryzW
end
