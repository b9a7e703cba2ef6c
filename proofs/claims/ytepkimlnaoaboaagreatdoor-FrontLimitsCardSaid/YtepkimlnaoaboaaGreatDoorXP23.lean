/- Parts of the proof: Xflimits. -/
import Derived.Test.YtepkimlnaoaboaaGreatDoorXP22
import Derived.Lib.ValidLaws
set_option linter.unusedVariables false
set_option linter.unusedSimpArgs false
set_option linter.unusedSectionVars false
section
open Go Go.X Go.Proofs
set_option maxRecDepth 100000
set_option maxHeartbeats 4000000
set_option linter.unusedSimpArgs false
set_option linter.unusedVariables false
namespace Go.X.TryzW
/- "tiller/tillerlaw13.FrontLimits" params { toList := [3, 4] } results { toList := [Go.ResultVar.tmp 4] } -/
def y4 : XC :=
 (.seq
  (.ops [
    ⟨(some 4), (.mov (.c (.bool false))), none⟩])
  (.seq
   (.ops [
     ⟨(some 21), (.mov (.t 0)), none⟩,
     ⟨(some 22), (.call (.f 15) [(.t 21), (.c (.int .i64 5))]), none⟩,
     ⟨(some 23), (.bin .sub (.t 22) (.c (.int .i64 2))), none⟩,
     ⟨(some 5), (.mov (.t 23)), none⟩])
   (.seq
    (.seq
     (.ops [
       ⟨(some 24), (.mov (.t 1)), none⟩])
     (.cond (.t 24)
      (.seq
       (.ops [
         ⟨(some 25), (.mov (.t 5)), none⟩,
         ⟨(some 26), (.bin .add (.c (.int .i64 4096)) (.t 25)), none⟩,
         ⟨(some 6), (.mov (.t 26)), none⟩])
       (.seq
        (.ops [
          ⟨(some 27), (.mov (.t 6)), none⟩,
          ⟨(some 28), (.call (.f 16) [(.t 27)]), none⟩,
          ⟨(some 29), (.bin .add (.c (.str [80, 79, 83, 84, 32, 47, 32, 72, 84, 84, 80, 47, 49, 46, 49, 13, 10, 67, 111, 110, 116, 101, 110, 116, 45, 76, 101, 110, 103, 116, 104, 58, 32])) (.t 28)), none⟩,
          ⟨(some 30), (.bin .add (.t 29) (.c (.str [13, 10, 13, 10]))), none⟩,
          ⟨(some 31), (.ex (.strB 5) [(.t 30)]), none⟩,
          ⟨(some 7), (.mov (.t 31)), none⟩])
        (.seq
         (.seq
          (.ops [
            ⟨(some 8), (.mov (.c (.int .i64 0))), none⟩])
          (.block 0
           (.loop
            (.seq
             (.seq
              (.ops [
                ⟨(some 32), (.mov (.t 8)), none⟩,
                ⟨(some 33), (.mov (.t 6)), none⟩,
                ⟨(some 34), (.bin .lss (.t 32) (.t 33)), none⟩])
              (.cond (.t 34)
               .skip
               (.exit 0)))
             (.seq
              (.block 1
               (.ops [
                 ⟨(some 37), (.mov (.t 7)), none⟩,
                 ⟨(some 38), (.bslice 1 [(.int .u8 0)] 1 [(0, (.c (.int .u8 120)))]), none⟩,
                 ⟨(some 39), (.ex (.appT 5 1) [(.t 37), (.t 38)]), none⟩,
                 ⟨(some 7), (.mov (.t 39)), none⟩]))
              (.ops [
                ⟨(some 35), (.mov (.t 8)), none⟩,
                ⟨(some 36), (.bin .add (.t 35) (.c (.int .i64 1))), none⟩,
                ⟨(some 8), (.mov (.t 36)), none⟩]))))))
         (.seq
          (.ops [
            ⟨(some 41), (.mov (.t 7)), none⟩,
            ⟨(some 42), (.call (.f 11) [(.t 41)]), none⟩,
            ⟨(some 40), (.mov (.t 42)), none⟩,
            ⟨(some 43), (.ext (.t 40) 0), none⟩,
            ⟨(some 44), (.ext (.t 40) 1), none⟩,
            ⟨(some 45), (.ext (.t 40) 2), none⟩,
            ⟨(some 46), (.ext (.t 40) 3), none⟩,
            ⟨(some 9), (.mov (.t 43)), none⟩,
            ⟨(some 10), (.mov (.t 44)), none⟩,
            ⟨(some 11), (.mov (.t 45)), none⟩,
            ⟨(some 12), (.mov (.t 46)), none⟩])
          (.seq
           (.ops [
             ⟨(some 47), (.mov (.t 6)), none⟩,
             ⟨(some 48), (.bin .leq (.t 47) (.c (.int .i64 4096))), none⟩,
             ⟨(some 49), (.mov (.t 48)), none⟩,
             ⟨(some 50), (.mov (.t 12)), (some (49, true))⟩,
             ⟨(some 51), (.bin .eql (.t 50) (.c (.int .i64 200))), (some (49, true))⟩,
             ⟨(some 52), (.pick (.t 49) (.t 51) (.c (.bool false))), none⟩,
             ⟨(some 53), (.mov (.t 52)), none⟩,
             ⟨(some 54), (.mov (.t 11)), (some (53, true))⟩,
             ⟨(some 55), (.lenS (.t 54)), (some (53, true))⟩,
             ⟨(some 56), (.mov (.t 6)), (some (53, true))⟩,
             ⟨(some 57), (.bin .eql (.t 55) (.t 56)), (some (53, true))⟩,
             ⟨(some 58), (.pick (.t 53) (.t 57) (.c (.bool false))), none⟩,
             ⟨(some 59), (.mov (.t 58)), none⟩,
             ⟨(some 60), (.mov (.t 6)), (some (59, false))⟩,
             ⟨(some 61), (.bin .gtr (.t 60) (.c (.int .i64 4096))), (some (59, false))⟩,
             ⟨(some 62), (.mov (.t 61)), (some (59, false))⟩,
             ⟨(some 63), (.mov (.t 12)), (some (62, true))⟩,
             ⟨(some 64), (.bin .eql (.t 63) (.c (.int .i64 413))), (some (62, true))⟩,
             ⟨(some 65), (.pick (.t 62) (.t 64) (.c (.bool false))), (some (59, false))⟩,
             ⟨(some 66), (.mov (.t 65)), (some (59, false))⟩,
             ⟨(some 67), (.mov (.t 11)), (some (66, true))⟩,
             ⟨(some 68), (.bin .eql (.t 67) (.c (.str []))), (some (66, true))⟩,
             ⟨(some 69), (.pick (.t 66) (.t 68) (.c (.bool false))), (some (59, false))⟩,
             ⟨(some 70), (.pick (.t 59) (.c (.bool true)) (.t 69)), none⟩,
             ⟨(some 71), (.mov (.t 70)), none⟩,
             ⟨(some 72), (.call (.f 14) []), (some (71, true))⟩,
             ⟨(some 73), (.pick (.t 71) (.t 72) (.c (.bool false))), none⟩,
             ⟨(some 4), (.mov (.t 73)), none⟩])
           .ret)))))
      .skip))
    (.seq
     (.ops [
       ⟨(some 13), (.mov (.c (.str [32, 72, 84, 84, 80, 47, 49, 46, 49, 13, 10, 13, 10]))), none⟩])
     (.seq
      (.ops [
        ⟨(some 74), (.mov (.t 5)), none⟩,
        ⟨(some 75), (.bin .add (.c (.int .i64 4096)) (.t 74)), none⟩,
        ⟨(some 76), (.bin .sub (.t 75) (.c (.int .i64 5))), none⟩,
        ⟨(some 77), (.mov (.t 13)), none⟩,
        ⟨(some 78), (.lenS (.t 77)), none⟩,
        ⟨(some 79), (.bin .sub (.t 76) (.t 78)), none⟩,
        ⟨(some 14), (.mov (.t 79)), none⟩])
      (.seq
       (.ops [
         ⟨(some 80), (.bslice 1 [(.int .u8 0)] 5 [(0, (.c (.int .u8 71))), (1, (.c (.int .u8 69))), (2, (.c (.int .u8 84))), (3, (.c (.int .u8 32))), (4, (.c (.int .u8 47)))]), none⟩,
         ⟨(some 81), (.ex .slId [(.t 80)]), none⟩,
         ⟨(some 15), (.mov (.t 81)), none⟩])
       (.seq
        (.seq
         (.ops [
           ⟨(some 16), (.mov (.c (.int .i64 0))), none⟩])
         (.block 2
          (.loop
           (.seq
            (.seq
             (.ops [
               ⟨(some 82), (.mov (.t 16)), none⟩,
               ⟨(some 83), (.mov (.t 14)), none⟩,
               ⟨(some 84), (.bin .lss (.t 82) (.t 83)), none⟩])
             (.cond (.t 84)
              .skip
              (.exit 2)))
            (.seq
             (.block 3
              (.ops [
                ⟨(some 87), (.mov (.t 15)), none⟩,
                ⟨(some 88), (.bslice 1 [(.int .u8 0)] 1 [(0, (.c (.int .u8 120)))]), none⟩,
                ⟨(some 89), (.ex (.appT 5 1) [(.t 87), (.t 88)]), none⟩,
                ⟨(some 15), (.mov (.t 89)), none⟩]))
             (.ops [
               ⟨(some 85), (.mov (.t 16)), none⟩,
               ⟨(some 86), (.bin .add (.t 85) (.c (.int .i64 1))), none⟩,
               ⟨(some 16), (.mov (.t 86)), none⟩]))))))
        (.seq
         (.ops [
           ⟨(some 90), (.mov (.t 15)), none⟩,
           ⟨(some 91), (.mov (.t 13)), none⟩,
           ⟨(some 92), (.ex (.appT 5 1) [(.t 90), (.t 91)]), none⟩,
           ⟨(some 15), (.mov (.t 92)), none⟩])
         (.seq
          (.ops [
            ⟨(some 94), (.mov (.t 15)), none⟩,
            ⟨(some 95), (.call (.f 11) [(.t 94)]), none⟩,
            ⟨(some 93), (.mov (.t 95)), none⟩,
            ⟨(some 96), (.ext (.t 93) 0), none⟩,
            ⟨(some 97), (.ext (.t 93) 1), none⟩,
            ⟨(some 98), (.ext (.t 93) 2), none⟩,
            ⟨(some 99), (.ext (.t 93) 3), none⟩,
            ⟨(some 17), (.mov (.t 96)), none⟩,
            ⟨(some 18), (.mov (.t 97)), none⟩,
            ⟨(some 19), (.mov (.t 98)), none⟩,
            ⟨(some 20), (.mov (.t 99)), none⟩])
          (.seq
           (.ops [
             ⟨(some 100), (.mov (.t 15)), none⟩,
             ⟨(some 101), (.len (.t 100)), none⟩,
             ⟨(some 102), (.bin .leq (.t 101) (.c (.int .i64 4096))), none⟩,
             ⟨(some 103), (.mov (.t 102)), none⟩,
             ⟨(some 104), (.mov (.t 20)), (some (103, true))⟩,
             ⟨(some 105), (.bin .eql (.t 104) (.c (.int .i64 200))), (some (103, true))⟩,
             ⟨(some 106), (.pick (.t 103) (.t 105) (.c (.bool false))), none⟩,
             ⟨(some 107), (.mov (.t 106)), none⟩,
             ⟨(some 108), (.mov (.t 18)), (some (107, true))⟩,
             ⟨(some 109), (.lenS (.t 108)), (some (107, true))⟩,
             ⟨(some 110), (.mov (.t 14)), (some (107, true))⟩,
             ⟨(some 111), (.bin .add (.t 110) (.c (.int .i64 1))), (some (107, true))⟩,
             ⟨(some 112), (.bin .eql (.t 109) (.t 111)), (some (107, true))⟩,
             ⟨(some 113), (.pick (.t 107) (.t 112) (.c (.bool false))), none⟩,
             ⟨(some 114), (.mov (.t 113)), none⟩,
             ⟨(some 115), (.mov (.t 15)), (some (114, false))⟩,
             ⟨(some 116), (.len (.t 115)), (some (114, false))⟩,
             ⟨(some 117), (.bin .gtr (.t 116) (.c (.int .i64 4096))), (some (114, false))⟩,
             ⟨(some 118), (.mov (.t 117)), (some (114, false))⟩,
             ⟨(some 119), (.mov (.t 20)), (some (118, true))⟩,
             ⟨(some 120), (.bin .eql (.t 119) (.c (.int .i64 431))), (some (118, true))⟩,
             ⟨(some 121), (.pick (.t 118) (.t 120) (.c (.bool false))), (some (114, false))⟩,
             ⟨(some 122), (.mov (.t 121)), (some (114, false))⟩,
             ⟨(some 123), (.mov (.t 18)), (some (122, true))⟩,
             ⟨(some 124), (.bin .eql (.t 123) (.c (.str []))), (some (122, true))⟩,
             ⟨(some 125), (.pick (.t 122) (.t 124) (.c (.bool false))), (some (114, false))⟩,
             ⟨(some 126), (.pick (.t 114) (.c (.bool true)) (.t 125)), none⟩,
             ⟨(some 127), (.mov (.t 126)), none⟩,
             ⟨(some 128), (.call (.f 14) []), (some (127, true))⟩,
             ⟨(some 129), (.pick (.t 127) (.t 128) (.c (.bool false))), none⟩,
             ⟨(some 4), (.mov (.t 129)), none⟩])
           .ret))))))))))

section
variable {E : Env} {L : List Blk} {K : IV → List Blk → Prop}
theorem index_skip (c : UInt8) (p B : List UInt8) : ∀ A : List UInt8, (∀ b ∈ A, b ≠ c) → Lib.index (A ++ (c :: p ++ B)) (c :: p) = A.length
  | [], _ => by
    show Lib.index (c :: (p ++ B)) (c :: p) = 0
    unfold Lib.index
    rw [if_pos (by simp)]
  | a :: A, h => by
    have ih := index_skip c p B A (fun b hb => h b (by simp [hb]))
    have ha : a ≠ c := h a (by simp)
    show Lib.index (a :: (A ++ (c :: p ++ B))) (c :: p) = _
    unfold Lib.index
    rw [if_neg (by simp [Ne.symm ha]), ih]
    have : ((A.length : Int) == -1) = false := by rw [beq_eq_false_iff_ne]; omega
    simp [this]
theorem index_miss (c : UInt8) (p : List UInt8) : ∀ A : List UInt8, (∀ b ∈ A, b ≠ c) → Lib.index A (c :: p) = -1
  | [], _ => rfl
  | a :: A, h => by
    have ih := index_miss c p A (fun b hb => h b (by simp [hb]))
    have ha : a ≠ c := h a (by simp)
    unfold Lib.index
    rw [if_neg (by simp [Ne.symm ha]), ih]; rfl
theorem cut_skip (c : UInt8) (p A B : List UInt8) (h : ∀ b ∈ A, b ≠ c) : Lib.cut (A ++ (c :: p ++ B)) (c :: p) = (A, B, true) := by
  unfold Lib.cut
  rw [index_skip c p B A h, if_pos (by omega)]
  rw [Int.toNat_natCast, List.take_left, show A.length + (c :: p).length = (A ++ (c :: p)).length by simp, ← List.append_assoc, List.drop_left]
theorem split_miss (c : UInt8) (p A : List UInt8) (h : ∀ b ∈ A, b ≠ c) : splitL (c :: p) A = [A] := by
  unfold splitL
  rw [Lib.splitB_data]
  cases Lib.countB ⟨A.toArray⟩ ⟨(c :: p).toArray⟩ with
  | zero => rfl
  | succ k => unfold Lib.splitK; rw [if_pos (by simp [index_miss c p A h])]
def xL (n : Nat) : List UInt8 := List.replicate n 120
theorem xL_len (n : Nat) : (xL n).length = n := List.length_replicate ..
theorem xL_succ (n : Nat) : xL (n + 1) = xL n ++ [120] := List.replicate_succ'
def postL : List UInt8 := [80, 79, 83, 84, 32, 47, 32, 72, 84, 84, 80, 47, 49, 46, 49, 13, 10, 67, 111, 110, 116, 101, 110, 116, 45, 76, 101, 110, 103, 116, 104, 58, 32]
/-- The numbers about the bound in digits. -/
def boundL (n : Nat) : List UInt8 := if n = 4094 then [52, 48, 57, 52] else if n = 4095 then [52, 48, 57, 53] else if n = 4096 then [52, 48, 57, 54] else if n = 4097 then [52, 48, 57, 55] else [52, 48, 57, 56]
def headL (n : Nat) : List UInt8 := postL ++ boundL n ++ endL
theorem headL_len {n : Nat} : (headL n).length = 41 := by
  unfold headL boundL
  repeat' split
  all_goals rfl
theorem bound_dec {n : Nat} (h1 : 4094 ≤ n) (h2 : n ≤ 4098) : Lib.decDigits n = boundL n := by
  obtain rfl | rfl | rfl | rfl | rfl : n = 4094 ∨ n = 4095 ∨ n = 4096 ∨ n = 4097 ∨ n = 4098 := by omega
  all_goals (rw [Lib.decDigits, Lib.decDigits, Lib.decDigits, Lib.decDigits]; rfl)
theorem body_read {n : Nat} (h1 : 4094 ≤ n) (h2 : n ≤ 4098) : readF Lib.validD (headL n ++ xL n) = if n ≤ 4096 then ⟨[80, 79, 83, 84], [47], xL n, 200⟩ else ⟨[], [], [], 413⟩ := by
  have hv : Lib.validD (xL n) = true := by
    rw [Lib.validD_ascii n (xL n) (fun b hb => by
      have := List.eq_of_mem_replicate (List.mem_of_mem_take hb); subst this; decide), List.drop_eq_nil_of_le (by rw [xL_len]; exact Nat.le_refl _)]; rfl
  have key : ∀ (xs : List UInt8), readF Lib.validD (headL n ++ xs) = if 4096 < (n : Int) then ⟨[], [], [], 413⟩ else if !decide ((n : Int) = (xs.length : Int)) || !Lib.validD xs then ⟨[], [], [], 400⟩ else ⟨[80, 79, 83, 84], [47], xs, 200⟩ := by
    intro xs
    obtain rfl | rfl | rfl | rfl | rfl : n = 4094 ∨ n = 4095 ∨ n = 4096 ∨ n = 4097 ∨ n = 4098 := by omega
    all_goals kernel_rfl
  rw [key, hv, xL_len]
  by_cases h : n ≤ 4096
  · rw [if_pos h, if_neg (by omega), if_neg (by simp)]
  · rw [if_neg h, if_pos (by omega)]
def getL : List UInt8 := [71, 69, 84, 32, 47]
def restL : List UInt8 := [32, 72, 84, 84, 80, 47, 49, 46, 49, 13, 10, 13, 10]
theorem path_read (n : Nat) : readF Lib.validD (getL ++ xL n ++ restL) = if n + 18 ≤ 4096 then ⟨[71, 69, 84], 47 :: xL n, [], 200⟩ else ⟨[], [], [], 431⟩ := by
  have hx : ∀ b ∈ xL n, b = 120 := fun b hb => List.eq_of_mem_replicate hb
  have e1 : getL ++ xL n ++ restL = (getL ++ xL n ++ [32, 72, 84, 84, 80, 47, 49, 46, 49]) ++ (13 :: [10, 13, 10] ++ []) := by simp [restL]
  have hc : Lib.cut (getL ++ xL n ++ restL) endL = (getL ++ xL n ++ [32, 72, 84, 84, 80, 47, 49, 46, 49], [], true) := by
    rw [e1]
    refine cut_skip 13 [10, 13, 10] _ [] fun b hb => ?_
    rw [List.append_assoc] at hb
    rcases List.mem_append.1 hb with h | h
    · intro h13; subst h13; revert h; decide
    rcases List.mem_append.1 h with h | h
    · rw [hx b h]; decide
    · intro h13; subst h13; revert h; decide
  have hs : splitL [13, 10] (getL ++ xL n ++ [32, 72, 84, 84, 80, 47, 49, 46, 49]) = [getL ++ xL n ++ [32, 72, 84, 84, 80, 47, 49, 46, 49]] := by
    refine split_miss 13 [10] _ fun b hb => ?_
    rw [List.append_assoc] at hb
    rcases List.mem_append.1 hb with h | h
    · intro h13; subst h13; revert h; decide
    rcases List.mem_append.1 h with h | h
    · rw [hx b h]; decide
    · intro h13; subst h13; revert h; decide
  have hg : cut1 (getL ++ xL n ++ [32, 72, 84, 84, 80, 47, 49, 46, 49]) = ([71, 69, 84], 47 :: xL n ++ [32, 72, 84, 84, 80, 47, 49, 46, 49], true) := by
    have : getL ++ xL n ++ [32, 72, 84, 84, 80, 47, 49, 46, 49] = [71, 69, 84] ++ (32 :: [] ++ (47 :: xL n ++ [32, 72, 84, 84, 80, 47, 49, 46, 49])) := by simp [getL]
    rw [this]
    exact cut_skip 32 [] [71, 69, 84] (47 :: xL n ++ [32, 72, 84, 84, 80, 47, 49, 46, 49]) (by decide)
  have hp : cut1 (47 :: xL n ++ [32, 72, 84, 84, 80, 47, 49, 46, 49]) = (47 :: xL n, [72, 84, 84, 80, 47, 49, 46, 49], true) :=
    cut_skip 32 [] (47 :: xL n) [72, 84, 84, 80, 47, 49, 46, 49] (fun b hb => by
      rcases List.mem_cons.1 hb with h | h
      · subst h; decide
      · rw [hx b h]; decide)
  have hm : madeF seenF (47 :: xL n) = true := by
    unfold madeF
    have : (47 :: xL n).all seenF = true := by
      rw [List.all_eq_true]
      intro b hb
      rcases List.mem_cons.1 hb with h | h
      · subst h; decide
      · rw [hx b h]; decide
    rw [this]; simp
  have hf : firstOk (getL ++ xL n ++ [32, 72, 84, 84, 80, 47, 49, 46, 49]) = true := by
    unfold firstOk
    rw [hg]
    simp only [hp, hm]
    simp [Lib.hasPrefix, madeF, upF]
  have hl1 : (getL ++ xL n ++ [32, 72, 84, 84, 80, 47, 49, 46, 49]).length = n + 14 := by simp [getL, xL_len]
  have hl2 : (getL ++ xL n ++ restL).length = n + 18 := by simp [getL, restL, xL_len]
  unfold readF
  rw [hc, hl2]
  simp only [hs, hl1, List.getD_cons_zero, hf, hg, hp, List.drop_succ_cons, List.drop_nil, lengthGo]
  by_cases h : n + 18 ≤ 4096
  · rw [if_pos h, if_neg (by simp; omega)]
    rfl
  · rw [if_neg h, if_pos (by simp; omega)]
/-- Bytes behind bytes whose type is not known. -/
theorem appG_cells {ty g t n : Nat} {bs x : List UInt8} {xv : IV} (hn : n = bs.length) (hL : L[t]? = some (.cells 1 (bytesRows bs))) (hx : rowsOf L xv = some (bytesRows x)) (hg : g = L.length) (hne : x ≠ []) (hb : bs.length + x.length ≤ 70368744177664)
    (h : K (.sl g 0 (bs.length + x.length) (bs.length + x.length)) (L.set t .dead ++ [.cells 1 (bytesRows (bs ++ x))])) : xappT ty 1 (.sl t 0 n n) xv g L K := by
  subst hn
  have hxl : 1 ≤ x.length := by cases x with
    | nil => exact absurd rfl hne
    | cons => simp
  unfold xappT
  rw [hx]
  refine ⟨bytesRows_rowsC x, rfl, rfl, ?_⟩
  rw [hL]
  show xappendR 1 1 (.sl t 0 bs.length bs.length) xv g _ L K
  unfold xappendR
  rw [hx]
  refine ⟨bytesRows_rowsC x, ?_⟩
  simp only [hL]
  refine ⟨trivial, by rw [bytesRows_len]; omega, ?_⟩
  rw [if_neg (by rw [bytesRows_len]; omega), bytesRows_len, Nat.mul_one, List.drop_zero, List.take_of_length_le (by rw [bytesRows_len]; exact Nat.le_refl _), ← bytesRows_app]
  refine ⟨hb, ?_⟩
  unfold layAt
  rw [if_pos (by rw [List.length_set]; exact hg)]
  exact h
theorem conv_bytesC {t n : Nat} {bs : List UInt8} (hn : n = bs.length) (hL : L[t]? = some (.cells 1 (bytesRows bs))) : mapO (conv L fuel renFreeze) [.sl t 0 n n] = some [.isl (bytesRows bs)] := by
  subst hn
  have : Go.X.conv L 12 renFreeze (.sl t 0 bs.length bs.length) = some (.isl (bytesRows bs)) := by
    simp only [Go.X.conv, renFreeze, hL]
    rw [if_pos (by rw [bytesRows_len]; omega), List.drop_zero, List.take_of_length_le (by rw [bytesRows_len]; exact Nat.le_refl _), mapO_bytes]
    rfl
  show mapO (conv L 12 renFreeze) _ = _
  simp only [mapO, this]
theorem conv_bytesT {ty t n : Nat} {bs : List UInt8} (hn : n = bs.length) (hL : L[t]? = some (.tcells ty 1 (bytesRows bs))) : mapO (conv L fuel renFreeze) [.sl t 0 n n] = some [.isl (bytesRows bs)] := by
  subst hn
  have : Go.X.conv L 12 renFreeze (.sl t 0 bs.length bs.length) = some (.isl (bytesRows bs)) := by
    simp only [Go.X.conv, renFreeze, hL]
    rw [if_pos (by rw [bytesRows_len]; omega), List.drop_zero, List.take_of_length_le (by rw [bytesRows_len]; exact Nat.le_refl _), mapO_bytes]
    rfl
  show mapO (conv L 12 renFreeze) _ = _
  simp only [mapO, this]
theorem limits_pure (hP : E.P = Tryz.prog) {m : Int} (hm : E.gl 2 = some [.int .i64 m]) (ht : ∀ w, E.G w → Lib.Utf8Tabs 0 1 w) (a : Int) (b : Bool) : XPure E 4 [.int .i64 a, .bool b] (.bool true) := by
  refine xpure1 (n := Tryz.f4.ntmps) (c := y4) (t := 4) (by rw [hP]; rfl) (by rw [hP]; kernel_rfl) (by decide) (Nat.le_of_ble_eq_true rfl) ?_
  generalize hρ : entry _ = ρ
  have h0 : ρ 0 = .int .i64 a := by rw [← hρ]; rfl
  have h1 : ρ 1 = .bool b := by rw [← hρ]; rfl
  clear hρ
  unfold y4
  simp only [h0, h1, go_sem, Nat.reduceEqDiff, reduceIte, Int.reduceEq, Int.reduceLT, Int.reduceLE, Nat.reduceAdd, Nat.reduceLT, Nat.reduceLeDiff, Int.reduceToNat, Int.reduceSub, Int.reduceAdd, Int.reduceNeg]
  refine xcall_pure (args' := [.int .i64 a, .int .i64 5]) rfl (within_pure (E := E.noPan) hP a 5 (by decide) (by decide)) rfl ?_
  obtain ⟨w1, w2⟩ := withinF_bnd a 5 (by decide)
  generalize withinF a 5 = w at *
  have hw1 : IntKind.i64.wrap (w - 2) = w - 2 := wrap64 (by omega) (by omega)
  cases b with
  | true =>
    obtain ⟨n, hn⟩ : ∃ n : Nat, 4096 + (w - 2) = (n : Int) := ⟨(4096 + (w - 2)).toNat, by omega⟩
    have hn1 : 4094 ≤ n := by omega
    have hn2 : n ≤ 4098 := by omega
    have hw2 : IntKind.i64.wrap (n : Int) = (n : Int) := wrap64 (by omega) (by omega)
    simp only [h0, h1, hw1, hn, hw2, go_sem, Nat.reduceEqDiff, reduceIte, Int.reduceEq, Int.reduceLT, Int.reduceLE, Nat.reduceAdd, Nat.reduceLT, Nat.reduceLeDiff, Int.reduceToNat, Int.reduceSub, Int.reduceAdd, Int.reduceNeg]
    have hdg := digits_pure (E := E.noPan) hP n (by omega) (by omega)
    rw [bound_dec hn1 hn2] at hdg
    refine xcall_pure (args' := [.int .i64 n]) rfl hdg rfl ?_
    simp only [h0, h1, go_sem, Nat.reduceEqDiff, reduceIte, Int.reduceEq, Int.reduceLT, Int.reduceLE, Nat.reduceAdd, Nat.reduceLT, Nat.reduceLeDiff, Int.reduceToNat, Int.reduceSub, Int.reduceAdd, Int.reduceNeg]
    have hbr := body_read hn1 hn2
    have hhl : (postL ++ boundL n ++ endL).length = 41 := headL_len (n := n)
    have hrd := read_pure (E := E.noPan) hP hm Lib.validD (fun s hs => valid_pure (E := E.noPan) hP ht s (by omega)) (headL n ++ xL n) (by rw [List.length_append, headL_len, xL_len]; omega)
    rw [hbr] at hrd
    have hxn : ∀ j, (headL n ++ xL j).length = 41 + j := fun j => by rw [List.length_append, headL_len, xL_len]
    have hbl : (boundL n).length = 4 := by
      unfold boundL
      repeat' split
      all_goals rfl
    refine ⟨by omega, by omega, ?_⟩
    refine s_loop (fun c ρ L => ∃ j k : Nat, j ≤ n ∧ c = n - j ∧ ρ 6 = .int .i64 n ∧ ρ 8 = .int .i64 j ∧ ρ 7 = .sl k 0 (41 + j) (41 + j) ∧ L[k]? = some (.tcells 5 1 (bytesRows (headL n ++ xL j)))) (n := n)
      ⟨0, 0, Nat.zero_le _, rfl, by simp only [h0, h1, go_sem, Nat.reduceEqDiff, reduceIte, Int.reduceEq, Int.reduceLT, Int.reduceLE, Nat.reduceAdd, Nat.reduceLT, Nat.reduceLeDiff, Int.reduceToNat, Int.reduceSub, Int.reduceAdd, Int.reduceNeg], by simp only [h0, h1, go_sem, Nat.reduceEqDiff, reduceIte, Int.reduceEq, Int.reduceLT, Int.reduceLE, Nat.reduceAdd, Nat.reduceLT, Nat.reduceLeDiff, Int.reduceToNat, Int.reduceSub, Int.reduceAdd, Int.reduceNeg]; try rfl, by simp only [h0, h1, go_sem, Nat.reduceEqDiff, reduceIte, Int.reduceEq, Int.reduceLT, Int.reduceLE, Nat.reduceAdd, Nat.reduceLT, Nat.reduceLeDiff, Int.reduceToNat, Int.reduceSub, Int.reduceAdd, Int.reduceNeg]; simp [hbl], by show some _ = some _; rw [show headL n ++ xL 0 = postL ++ boundL n ++ endL by show headL n ++ [] = _; rw [List.append_nil]; rfl]; rfl⟩ ?_
    clear h0 h1 ρ
    rintro c ρ L ⟨j, k, hj, rfl, h6, h8, h7, hL⟩
    by_cases hjn : j < n
    · have f1 : ((j : Int) < (n : Int)) = True := eq_true (by omega)
      have hwj : IntKind.i64.wrap ((j : Int) + 1) = ((j + 1 : Nat) : Int) := by rw [wrap64 (by omega) (by omega)]; rfl
      simp only [h6, h7, h8, f1, go_sem, Nat.reduceEqDiff, reduceIte, Int.reduceEq, Int.reduceLT, Int.reduceLE, Nat.reduceAdd, Nat.reduceLT, Nat.reduceLeDiff, Int.reduceToNat, Int.reduceSub, Int.reduceAdd, Int.reduceNeg]
      refine appG_used (bs := headL n ++ xL j) (x := [120]) (by rw [hxn]) (by rw [List.getElem?_append_left (lt_of_get hL)]; exact hL) (by simp [rowsOf, bytesRows]) rfl (by simp) (by rw [hxn]; show 41 + j + 1 ≤ _; omega) ?_
      simp only [h6, h7, h8, f1, hwj, go_sem, Nat.reduceEqDiff, reduceIte, Int.reduceEq, Int.reduceLT, Int.reduceLE, Nat.reduceAdd, Nat.reduceLT, Nat.reduceLeDiff, Int.reduceToNat, Int.reduceSub, Int.reduceAdd, Int.reduceNeg]
      refine ⟨n - (j + 1), by omega, j + 1, (L ++ [Blk.cells 1 [[IV.int IntKind.u8 120]]]).length, by omega, rfl, rfl, by rw [hxn]; rfl, ?_⟩
      rw [List.getElem?_append_right (by simp), xL_succ, ← List.append_assoc]
      simp
    · have hjn' : j = n := by omega
      subst hjn'
      have f1 : ((j : Int) < (j : Int)) = False := eq_false (by omega)
      simp only [h6, h7, h8, f1, go_sem, Nat.reduceEqDiff, reduceIte, Int.reduceEq, Int.reduceLT, Int.reduceLE, Nat.reduceAdd, Nat.reduceLT, Nat.reduceLeDiff, Int.reduceToNat, Int.reduceSub, Int.reduceAdd, Int.reduceNeg]
      refine xcall_lend (args' := [.isl (bytesRows (headL j ++ xL j))]) (conv_bytesT (by rw [hxn]) hL) hrd (by split <;> rfl) (by split <;> rfl) ?_
      by_cases h4 : j ≤ 4096
      · have f2 : ((j : Int) ≤ 4096) = True := eq_true (by omega)
        rw [if_pos h4]
        unfold Req.iv
        simp only [h6, h7, h8, f1, f2, xL_len, go_sem, Nat.reduceEqDiff, reduceIte, Int.reduceEq, Int.reduceLT, Int.reduceLE, Nat.reduceAdd, Nat.reduceLT, Nat.reduceLeDiff, Int.reduceToNat, Int.reduceSub, Int.reduceAdd, Int.reduceNeg]
        refine xcall_pure (args' := []) rfl (wakes_pure (E := E.noPan) hP hm ht) rfl ?_
        simp only [h6, h7, h8, f1, f2, xL_len, go_sem, Nat.reduceEqDiff, reduceIte, Int.reduceEq, Int.reduceLT, Int.reduceLE, Nat.reduceAdd, Nat.reduceLT, Nat.reduceLeDiff, Int.reduceToNat, Int.reduceSub, Int.reduceAdd, Int.reduceNeg]
        rfl
      · have f2 : ((j : Int) ≤ 4096) = False := eq_false (by omega)
        have f3 : ((4096 : Int) < (j : Int)) = True := eq_true (by omega)
        rw [if_neg h4]
        unfold Req.iv
        simp only [h6, h7, h8, f1, f2, f3, go_sem, Nat.reduceEqDiff, reduceIte, Int.reduceEq, Int.reduceLT, Int.reduceLE, Nat.reduceAdd, Nat.reduceLT, Nat.reduceLeDiff, Int.reduceToNat, Int.reduceSub, Int.reduceAdd, Int.reduceNeg]
        refine xcall_pure (args' := []) rfl (wakes_pure (E := E.noPan) hP hm ht) rfl ?_
        simp only [h6, h7, h8, f1, f2, f3, go_sem, Nat.reduceEqDiff, reduceIte, Int.reduceEq, Int.reduceLT, Int.reduceLE, Nat.reduceAdd, Nat.reduceLT, Nat.reduceLeDiff, Int.reduceToNat, Int.reduceSub, Int.reduceAdd, Int.reduceNeg]
        rfl
  | false =>
    obtain ⟨n, hn⟩ : ∃ n : Nat, 4096 + (w - 2) - 5 - 13 = (n : Int) := ⟨(4096 + (w - 2) - 5 - 13).toNat, by omega⟩
    have hw2 : IntKind.i64.wrap (4096 + (w - 2)) = 4096 + (w - 2) := wrap64 (by omega) (by omega)
    have hw3 : IntKind.i64.wrap (4096 + (w - 2) - 5) = 4096 + (w - 2) - 5 := wrap64 (by omega) (by omega)
    have hw4 : IntKind.i64.wrap (4096 + (w - 2) - 5 - 13) = (n : Int) := by rw [wrap64 (by omega) (by omega)]; exact hn
    simp only [h0, h1, hw1, hw2, hw3, hw4, go_sem, Nat.reduceEqDiff, reduceIte, Int.reduceEq, Int.reduceLT, Int.reduceLE, Nat.reduceAdd, Nat.reduceLT, Nat.reduceLeDiff, Int.reduceToNat, Int.reduceSub, Int.reduceAdd, Int.reduceNeg]
    have hw5 : IntKind.i64.wrap (n : Int) = (n : Int) := wrap64 (by omega) (by omega)
    have hbr := path_read n
    have hxn : ∀ j, (getL ++ xL j).length = 5 + j := fun j => by rw [List.length_append, xL_len]; rfl
    have hrd := read_pure (E := E.noPan) hP hm Lib.validD (fun s hs => valid_pure (E := E.noPan) hP ht s (by omega)) (getL ++ xL n ++ restL) (by rw [List.length_append, hxn]; show 5 + n + 13 ≤ _; omega)
    rw [hbr] at hrd
    refine o_bsliceK (rows := bytesRows getL) rfl (by kernel_rfl) ?_
    simp only [h0, h1, hw1, hw2, hw3, hw4, go_sem, Nat.reduceEqDiff, reduceIte, Int.reduceEq, Int.reduceLT, Int.reduceLE, Nat.reduceAdd, Nat.reduceLT, Nat.reduceLeDiff, Int.reduceToNat, Int.reduceSub, Int.reduceAdd, Int.reduceNeg]
    refine ⟨by omega, ?_⟩
    change xrun E.noPan (.loop _) _ [Blk.cells 1 (bytesRows getL)] _
    refine s_loop (fun c ρ L => ∃ j k : Nat, j ≤ n ∧ c = n - j ∧ ρ 13 = .str restL ∧ ρ 14 = .int .i64 n ∧ ρ 16 = .int .i64 j ∧ ρ 15 = .sl k 0 (5 + j) (5 + j) ∧ L[k]? = some (.cells 1 (bytesRows (getL ++ xL j)))) (n := n)
      ⟨0, 0, Nat.zero_le _, rfl, by simp only [h0, h1, go_sem, Nat.reduceEqDiff, reduceIte, Int.reduceEq, Int.reduceLT, Int.reduceLE, Nat.reduceAdd, Nat.reduceLT, Nat.reduceLeDiff, Int.reduceToNat, Int.reduceSub, Int.reduceAdd, Int.reduceNeg]; try rfl, by simp only [h0, h1, go_sem, Nat.reduceEqDiff, reduceIte, Int.reduceEq, Int.reduceLT, Int.reduceLE, Nat.reduceAdd, Nat.reduceLT, Nat.reduceLeDiff, Int.reduceToNat, Int.reduceSub, Int.reduceAdd, Int.reduceNeg]; try rfl, by simp only [h0, h1, go_sem, Nat.reduceEqDiff, reduceIte, Int.reduceEq, Int.reduceLT, Int.reduceLE, Nat.reduceAdd, Nat.reduceLT, Nat.reduceLeDiff, Int.reduceToNat, Int.reduceSub, Int.reduceAdd, Int.reduceNeg]; try rfl, by simp only [h0, h1, go_sem, Nat.reduceEqDiff, reduceIte, Int.reduceEq, Int.reduceLT, Int.reduceLE, Nat.reduceAdd, Nat.reduceLT, Nat.reduceLeDiff, Int.reduceToNat, Int.reduceSub, Int.reduceAdd, Int.reduceNeg]; try rfl, by rw [show getL ++ xL 0 = getL by show getL ++ [] = _; rw [List.append_nil]]; rfl⟩ ?_
    clear h0 h1 ρ
    rintro c ρ L ⟨j, k, hj, rfl, h13, h14, h16, h15, hL⟩
    by_cases hjn : j < n
    · have f1 : ((j : Int) < (n : Int)) = True := eq_true (by omega)
      have hwj : IntKind.i64.wrap ((j : Int) + 1) = ((j + 1 : Nat) : Int) := by rw [wrap64 (by omega) (by omega)]; rfl
      simp only [h13, h14, h15, h16, f1, go_sem, Nat.reduceEqDiff, reduceIte, Int.reduceEq, Int.reduceLT, Int.reduceLE, Nat.reduceAdd, Nat.reduceLT, Nat.reduceLeDiff, Int.reduceToNat, Int.reduceSub, Int.reduceAdd, Int.reduceNeg]
      refine appG_cells (bs := getL ++ xL j) (x := [120]) (by rw [hxn]) (by rw [List.getElem?_append_left (lt_of_get hL)]; exact hL) (by simp [rowsOf, bytesRows]) rfl (by simp) (by rw [hxn]; show 5 + j + 1 ≤ _; omega) ?_
      simp only [h13, h14, h15, h16, f1, hwj, go_sem, Nat.reduceEqDiff, reduceIte, Int.reduceEq, Int.reduceLT, Int.reduceLE, Nat.reduceAdd, Nat.reduceLT, Nat.reduceLeDiff, Int.reduceToNat, Int.reduceSub, Int.reduceAdd, Int.reduceNeg]
      refine ⟨n - (j + 1), by omega, j + 1, (L ++ [Blk.cells 1 [[IV.int IntKind.u8 120]]]).length, by omega, rfl, rfl, by rw [hxn]; rfl, ?_⟩
      rw [List.getElem?_append_right (by simp), xL_succ, ← List.append_assoc]
      simp
    · have hjn' : j = n := by omega
      subst hjn'
      have f1 : ((j : Int) < (j : Int)) = False := eq_false (by omega)
      simp only [h13, h14, h15, h16, f1, go_sem, Nat.reduceEqDiff, reduceIte, Int.reduceEq, Int.reduceLT, Int.reduceLE, Nat.reduceAdd, Nat.reduceLT, Nat.reduceLeDiff, Int.reduceToNat, Int.reduceSub, Int.reduceAdd, Int.reduceNeg]
      refine appG_cells (bs := getL ++ xL j) (x := restL) (by rw [hxn]) hL rfl rfl (by simp [restL]) (by rw [hxn]; show 5 + j + 13 ≤ _; omega) ?_
      have hxr : (getL ++ xL j).length + restL.length = (getL ++ xL j ++ restL).length := by exact List.length_append.symm
      have hxr2 : (getL ++ xL j ++ restL).length = j + 18 := by rw [← hxr, hxn]; show 5 + j + 13 = _; omega
      rw [hxr]
      have hL2 : (List.set L k .dead ++ [.cells 1 (bytesRows (getL ++ xL j ++ restL))])[L.length]? = some (.cells 1 (bytesRows (getL ++ xL j ++ restL))) := by
        rw [List.getElem?_append_right (by simp)]; simp
      generalize List.set L k .dead ++ [.cells 1 (bytesRows (getL ++ xL j ++ restL))] = L2 at *
      simp only [h13, h14, h15, h16, f1, go_sem, Nat.reduceEqDiff, reduceIte, Int.reduceEq, Int.reduceLT, Int.reduceLE, Nat.reduceAdd, Nat.reduceLT, Nat.reduceLeDiff, Int.reduceToNat, Int.reduceSub, Int.reduceAdd, Int.reduceNeg]
      refine xcall_lend (args' := [.isl (bytesRows (getL ++ xL j ++ restL))]) (conv_bytesC rfl hL2) hrd (by split <;> rfl) (by split <;> rfl) ?_
      rw [hxr2]
      by_cases h4 : j + 18 ≤ 4096
      · have f2 : (((j + 18 : Nat) : Int) ≤ 4096) = True := eq_true (by omega)
        have hw7 : IntKind.i64.wrap ((j : Int) + 1) = ((j + 1 : Nat) : Int) := by rw [wrap64 (by omega) (by omega)]; rfl
        have hxl : (47 :: xL j).length = j + 1 := by rw [List.length_cons, xL_len]
        rw [if_pos h4]
        unfold Req.iv
        simp only [h13, h14, h15, h16, f2, hw7, hxl, go_sem, Nat.reduceEqDiff, reduceIte, Int.reduceEq, Int.reduceLT, Int.reduceLE, Nat.reduceAdd, Nat.reduceLT, Nat.reduceLeDiff, Int.reduceToNat, Int.reduceSub, Int.reduceAdd, Int.reduceNeg]
        refine xcall_pure (args' := []) rfl (wakes_pure (E := E.noPan) hP hm ht) rfl ?_
        simp only [h13, h14, h15, h16, f2, hw7, hxl, go_sem, Nat.reduceEqDiff, reduceIte, Int.reduceEq, Int.reduceLT, Int.reduceLE, Nat.reduceAdd, Nat.reduceLT, Nat.reduceLeDiff, Int.reduceToNat, Int.reduceSub, Int.reduceAdd, Int.reduceNeg]
        rfl
      · have f2 : (((j + 18 : Nat) : Int) ≤ 4096) = False := eq_false (by omega)
        have f3 : ((4096 : Int) < ((j + 18 : Nat) : Int)) = True := eq_true (by omega)
        rw [if_neg h4]
        unfold Req.iv
        simp only [h13, h14, h15, h16, f2, f3, go_sem, Nat.reduceEqDiff, reduceIte, Int.reduceEq, Int.reduceLT, Int.reduceLE, Nat.reduceAdd, Nat.reduceLT, Nat.reduceLeDiff, Int.reduceToNat, Int.reduceSub, Int.reduceAdd, Int.reduceNeg]
        refine xcall_pure (args' := []) rfl (wakes_pure (E := E.noPan) hP hm ht) rfl ?_
        simp only [h13, h14, h15, h16, f2, f3, go_sem, Nat.reduceEqDiff, reduceIte, Int.reduceEq, Int.reduceLT, Int.reduceLE, Nat.reduceAdd, Nat.reduceLT, Nat.reduceLeDiff, Int.reduceToNat, Int.reduceSub, Int.reduceAdd, Int.reduceNeg]
        rfl
end
end Go.X.TryzW
end
