/- Parts of the proof: Xflimits, Xfref3, Xfwholep, Xfref5, Xfref6, Xfwhole. -/
import Derived.Test.YtepkimlnaoaboaaGreatDoorXP22
import Derived.Lib.ValidLaws
set_option linter.unusedVariables false
set_option linter.unusedSimpArgs false
set_option linter.unusedSectionVars false
section
open Go Go.X Go.Proofs
set_option maxRecDepth 100000
set_option maxHeartbeats 4000000
set_option linter.unusedSimpArgs false
set_option linter.unusedVariables false
namespace Go.X.TryzW
/- "tiller/tillerlaw13.FrontLimits" params { toList := [3, 4] } results { toList := [Go.ResultVar.tmp 4] } -/
def y4 : XC :=
 (.seq
  (.ops [
    ⟨(some 4), (.mov (.c (.bool false))), none⟩])
  (.seq
   (.ops [
     ⟨(some 21), (.mov (.t 0)), none⟩,
     ⟨(some 22), (.call (.f 15) [(.t 21), (.c (.int .i64 5))]), none⟩,
     ⟨(some 23), (.bin .sub (.t 22) (.c (.int .i64 2))), none⟩,
     ⟨(some 5), (.mov (.t 23)), none⟩])
   (.seq
    (.seq
     (.ops [
       ⟨(some 24), (.mov (.t 1)), none⟩])
     (.cond (.t 24)
      (.seq
       (.ops [
         ⟨(some 25), (.mov (.t 5)), none⟩,
         ⟨(some 26), (.bin .add (.c (.int .i64 4096)) (.t 25)), none⟩,
         ⟨(some 6), (.mov (.t 26)), none⟩])
       (.seq
        (.ops [
          ⟨(some 27), (.mov (.t 6)), none⟩,
          ⟨(some 28), (.call (.f 16) [(.t 27)]), none⟩,
          ⟨(some 29), (.bin .add (.c (.str [80, 79, 83, 84, 32, 47, 32, 72, 84, 84, 80, 47, 49, 46, 49, 13, 10, 67, 111, 110, 116, 101, 110, 116, 45, 76, 101, 110, 103, 116, 104, 58, 32])) (.t 28)), none⟩,
          ⟨(some 30), (.bin .add (.t 29) (.c (.str [13, 10, 13, 10]))), none⟩,
          ⟨(some 31), (.ex (.strB 5) [(.t 30)]), none⟩,
          ⟨(some 7), (.mov (.t 31)), none⟩])
        (.seq
         (.seq
          (.ops [
            ⟨(some 8), (.mov (.c (.int .i64 0))), none⟩])
          (.block 0
           (.loop
            (.seq
             (.seq
              (.ops [
                ⟨(some 32), (.mov (.t 8)), none⟩,
                ⟨(some 33), (.mov (.t 6)), none⟩,
                ⟨(some 34), (.bin .lss (.t 32) (.t 33)), none⟩])
              (.cond (.t 34)
               .skip
               (.exit 0)))
             (.seq
              (.block 1
               (.ops [
                 ⟨(some 37), (.mov (.t 7)), none⟩,
                 ⟨(some 38), (.bslice 1 [(.int .u8 0)] 1 [(0, (.c (.int .u8 120)))]), none⟩,
                 ⟨(some 39), (.ex (.appT 5 1) [(.t 37), (.t 38)]), none⟩,
                 ⟨(some 7), (.mov (.t 39)), none⟩]))
              (.ops [
                ⟨(some 35), (.mov (.t 8)), none⟩,
                ⟨(some 36), (.bin .add (.t 35) (.c (.int .i64 1))), none⟩,
                ⟨(some 8), (.mov (.t 36)), none⟩]))))))
         (.seq
          (.ops [
            ⟨(some 41), (.mov (.t 7)), none⟩,
            ⟨(some 42), (.call (.f 11) [(.t 41)]), none⟩,
            ⟨(some 40), (.mov (.t 42)), none⟩,
            ⟨(some 43), (.ext (.t 40) 0), none⟩,
            ⟨(some 44), (.ext (.t 40) 1), none⟩,
            ⟨(some 45), (.ext (.t 40) 2), none⟩,
            ⟨(some 46), (.ext (.t 40) 3), none⟩,
            ⟨(some 9), (.mov (.t 43)), none⟩,
            ⟨(some 10), (.mov (.t 44)), none⟩,
            ⟨(some 11), (.mov (.t 45)), none⟩,
            ⟨(some 12), (.mov (.t 46)), none⟩])
          (.seq
           (.ops [
             ⟨(some 47), (.mov (.t 6)), none⟩,
             ⟨(some 48), (.bin .leq (.t 47) (.c (.int .i64 4096))), none⟩,
             ⟨(some 49), (.mov (.t 48)), none⟩,
             ⟨(some 50), (.mov (.t 12)), (some (49, true))⟩,
             ⟨(some 51), (.bin .eql (.t 50) (.c (.int .i64 200))), (some (49, true))⟩,
             ⟨(some 52), (.pick (.t 49) (.t 51) (.c (.bool false))), none⟩,
             ⟨(some 53), (.mov (.t 52)), none⟩,
             ⟨(some 54), (.mov (.t 11)), (some (53, true))⟩,
             ⟨(some 55), (.lenS (.t 54)), (some (53, true))⟩,
             ⟨(some 56), (.mov (.t 6)), (some (53, true))⟩,
             ⟨(some 57), (.bin .eql (.t 55) (.t 56)), (some (53, true))⟩,
             ⟨(some 58), (.pick (.t 53) (.t 57) (.c (.bool false))), none⟩,
             ⟨(some 59), (.mov (.t 58)), none⟩,
             ⟨(some 60), (.mov (.t 6)), (some (59, false))⟩,
             ⟨(some 61), (.bin .gtr (.t 60) (.c (.int .i64 4096))), (some (59, false))⟩,
             ⟨(some 62), (.mov (.t 61)), (some (59, false))⟩,
             ⟨(some 63), (.mov (.t 12)), (some (62, true))⟩,
             ⟨(some 64), (.bin .eql (.t 63) (.c (.int .i64 413))), (some (62, true))⟩,
             ⟨(some 65), (.pick (.t 62) (.t 64) (.c (.bool false))), (some (59, false))⟩,
             ⟨(some 66), (.mov (.t 65)), (some (59, false))⟩,
             ⟨(some 67), (.mov (.t 11)), (some (66, true))⟩,
             ⟨(some 68), (.bin .eql (.t 67) (.c (.str []))), (some (66, true))⟩,
             ⟨(some 69), (.pick (.t 66) (.t 68) (.c (.bool false))), (some (59, false))⟩,
             ⟨(some 70), (.pick (.t 59) (.c (.bool true)) (.t 69)), none⟩,
             ⟨(some 71), (.mov (.t 70)), none⟩,
             ⟨(some 72), (.call (.f 14) []), (some (71, true))⟩,
             ⟨(some 73), (.pick (.t 71) (.t 72) (.c (.bool false))), none⟩,
             ⟨(some 4), (.mov (.t 73)), none⟩])
           .ret)))))
      .skip))
    (.seq
     (.ops [
       ⟨(some 13), (.mov (.c (.str [32, 72, 84, 84, 80, 47, 49, 46, 49, 13, 10, 13, 10]))), none⟩])
     (.seq
      (.ops [
        ⟨(some 74), (.mov (.t 5)), none⟩,
        ⟨(some 75), (.bin .add (.c (.int .i64 4096)) (.t 74)), none⟩,
        ⟨(some 76), (.bin .sub (.t 75) (.c (.int .i64 5))), none⟩,
        ⟨(some 77), (.mov (.t 13)), none⟩,
        ⟨(some 78), (.lenS (.t 77)), none⟩,
        ⟨(some 79), (.bin .sub (.t 76) (.t 78)), none⟩,
        ⟨(some 14), (.mov (.t 79)), none⟩])
      (.seq
       (.ops [
         ⟨(some 80), (.bslice 1 [(.int .u8 0)] 5 [(0, (.c (.int .u8 71))), (1, (.c (.int .u8 69))), (2, (.c (.int .u8 84))), (3, (.c (.int .u8 32))), (4, (.c (.int .u8 47)))]), none⟩,
         ⟨(some 81), (.ex .slId [(.t 80)]), none⟩,
         ⟨(some 15), (.mov (.t 81)), none⟩])
       (.seq
        (.seq
         (.ops [
           ⟨(some 16), (.mov (.c (.int .i64 0))), none⟩])
         (.block 2
          (.loop
           (.seq
            (.seq
             (.ops [
               ⟨(some 82), (.mov (.t 16)), none⟩,
               ⟨(some 83), (.mov (.t 14)), none⟩,
               ⟨(some 84), (.bin .lss (.t 82) (.t 83)), none⟩])
             (.cond (.t 84)
              .skip
              (.exit 2)))
            (.seq
             (.block 3
              (.ops [
                ⟨(some 87), (.mov (.t 15)), none⟩,
                ⟨(some 88), (.bslice 1 [(.int .u8 0)] 1 [(0, (.c (.int .u8 120)))]), none⟩,
                ⟨(some 89), (.ex (.appT 5 1) [(.t 87), (.t 88)]), none⟩,
                ⟨(some 15), (.mov (.t 89)), none⟩]))
             (.ops [
               ⟨(some 85), (.mov (.t 16)), none⟩,
               ⟨(some 86), (.bin .add (.t 85) (.c (.int .i64 1))), none⟩,
               ⟨(some 16), (.mov (.t 86)), none⟩]))))))
        (.seq
         (.ops [
           ⟨(some 90), (.mov (.t 15)), none⟩,
           ⟨(some 91), (.mov (.t 13)), none⟩,
           ⟨(some 92), (.ex (.appT 5 1) [(.t 90), (.t 91)]), none⟩,
           ⟨(some 15), (.mov (.t 92)), none⟩])
         (.seq
          (.ops [
            ⟨(some 94), (.mov (.t 15)), none⟩,
            ⟨(some 95), (.call (.f 11) [(.t 94)]), none⟩,
            ⟨(some 93), (.mov (.t 95)), none⟩,
            ⟨(some 96), (.ext (.t 93) 0), none⟩,
            ⟨(some 97), (.ext (.t 93) 1), none⟩,
            ⟨(some 98), (.ext (.t 93) 2), none⟩,
            ⟨(some 99), (.ext (.t 93) 3), none⟩,
            ⟨(some 17), (.mov (.t 96)), none⟩,
            ⟨(some 18), (.mov (.t 97)), none⟩,
            ⟨(some 19), (.mov (.t 98)), none⟩,
            ⟨(some 20), (.mov (.t 99)), none⟩])
          (.seq
           (.ops [
             ⟨(some 100), (.mov (.t 15)), none⟩,
             ⟨(some 101), (.len (.t 100)), none⟩,
             ⟨(some 102), (.bin .leq (.t 101) (.c (.int .i64 4096))), none⟩,
             ⟨(some 103), (.mov (.t 102)), none⟩,
             ⟨(some 104), (.mov (.t 20)), (some (103, true))⟩,
             ⟨(some 105), (.bin .eql (.t 104) (.c (.int .i64 200))), (some (103, true))⟩,
             ⟨(some 106), (.pick (.t 103) (.t 105) (.c (.bool false))), none⟩,
             ⟨(some 107), (.mov (.t 106)), none⟩,
             ⟨(some 108), (.mov (.t 18)), (some (107, true))⟩,
             ⟨(some 109), (.lenS (.t 108)), (some (107, true))⟩,
             ⟨(some 110), (.mov (.t 14)), (some (107, true))⟩,
             ⟨(some 111), (.bin .add (.t 110) (.c (.int .i64 1))), (some (107, true))⟩,
             ⟨(some 112), (.bin .eql (.t 109) (.t 111)), (some (107, true))⟩,
             ⟨(some 113), (.pick (.t 107) (.t 112) (.c (.bool false))), none⟩,
             ⟨(some 114), (.mov (.t 113)), none⟩,
             ⟨(some 115), (.mov (.t 15)), (some (114, false))⟩,
             ⟨(some 116), (.len (.t 115)), (some (114, false))⟩,
             ⟨(some 117), (.bin .gtr (.t 116) (.c (.int .i64 4096))), (some (114, false))⟩,
             ⟨(some 118), (.mov (.t 117)), (some (114, false))⟩,
             ⟨(some 119), (.mov (.t 20)), (some (118, true))⟩,
             ⟨(some 120), (.bin .eql (.t 119) (.c (.int .i64 431))), (some (118, true))⟩,
             ⟨(some 121), (.pick (.t 118) (.t 120) (.c (.bool false))), (some (114, false))⟩,
             ⟨(some 122), (.mov (.t 121)), (some (114, false))⟩,
             ⟨(some 123), (.mov (.t 18)), (some (122, true))⟩,
             ⟨(some 124), (.bin .eql (.t 123) (.c (.str []))), (some (122, true))⟩,
             ⟨(some 125), (.pick (.t 122) (.t 124) (.c (.bool false))), (some (114, false))⟩,
             ⟨(some 126), (.pick (.t 114) (.c (.bool true)) (.t 125)), none⟩,
             ⟨(some 127), (.mov (.t 126)), none⟩,
             ⟨(some 128), (.call (.f 14) []), (some (127, true))⟩,
             ⟨(some 129), (.pick (.t 127) (.t 128) (.c (.bool false))), none⟩,
             ⟨(some 4), (.mov (.t 129)), none⟩])
           .ret))))))))))

section
variable {E : Env} {L : List Blk} {K : IV → List Blk → Prop}
theorem index_skip (c : UInt8) (p B : List UInt8) : ∀ A : List UInt8, (∀ b ∈ A, b ≠ c) → Lib.index (A ++ (c :: p ++ B)) (c :: p) = A.length
  | [], _ => by
    show Lib.index (c :: (p ++ B)) (c :: p) = 0
    unfold Lib.index
    rw [if_pos (by simp)]
  | a :: A, h => by
    have ih := index_skip c p B A (fun b hb => h b (by simp [hb]))
    have ha : a ≠ c := h a (by simp)
    show Lib.index (a :: (A ++ (c :: p ++ B))) (c :: p) = _
    unfold Lib.index
    rw [if_neg (by simp [Ne.symm ha]), ih]
    have : ((A.length : Int) == -1) = false := by rw [beq_eq_false_iff_ne]; omega
    simp [this]
theorem index_miss (c : UInt8) (p : List UInt8) : ∀ A : List UInt8, (∀ b ∈ A, b ≠ c) → Lib.index A (c :: p) = -1
  | [], _ => rfl
  | a :: A, h => by
    have ih := index_miss c p A (fun b hb => h b (by simp [hb]))
    have ha : a ≠ c := h a (by simp)
    unfold Lib.index
    rw [if_neg (by simp [Ne.symm ha]), ih]; rfl
theorem cut_skip (c : UInt8) (p A B : List UInt8) (h : ∀ b ∈ A, b ≠ c) : Lib.cut (A ++ (c :: p ++ B)) (c :: p) = (A, B, true) := by
  unfold Lib.cut
  rw [index_skip c p B A h, if_pos (by omega)]
  rw [Int.toNat_natCast, List.take_left, show A.length + (c :: p).length = (A ++ (c :: p)).length by simp, ← List.append_assoc, List.drop_left]
theorem split_miss (c : UInt8) (p A : List UInt8) (h : ∀ b ∈ A, b ≠ c) : splitL (c :: p) A = [A] := by
  unfold splitL
  rw [Lib.splitB_data]
  cases Lib.countB ⟨A.toArray⟩ ⟨(c :: p).toArray⟩ with
  | zero => rfl
  | succ k => unfold Lib.splitK; rw [if_pos (by simp [index_miss c p A h])]
def getL : List UInt8 := [71, 69, 84, 32, 47]
theorem conv_bytesT {ty t n : Nat} {bs : List UInt8} (hn : n = bs.length) (hL : L[t]? = some (.tcells ty 1 (bytesRows bs))) : mapO (conv L fuel renFreeze) [.sl t 0 n n] = some [.isl (bytesRows bs)] := by
  subst hn
  have : Go.X.conv L 12 renFreeze (.sl t 0 bs.length bs.length) = some (.isl (bytesRows bs)) := by
    simp only [Go.X.conv, renFreeze, hL]
    rw [if_pos (by rw [bytesRows_len]; omega), List.drop_zero, List.take_of_length_le (by rw [bytesRows_len]; exact Nat.le_refl _), mapO_bytes]
    rfl
  show mapO (conv L 12 renFreeze) _ = _
  simp only [mapO, this]
end
end Go.X.TryzW
end
section
open Go Go.X Go.Proofs
set_option maxRecDepth 100000
set_option maxHeartbeats 4000000
set_option linter.unusedSimpArgs false
set_option linter.unusedVariables false
namespace Go.X.TryzW

theorem cutL_some {s p : List UInt8} {i : Nat} (h : Lib.index s p = i) : Lib.cut s p = (s.take i, s.drop (i + p.length), true) := by
  unfold Lib.cut
  rw [h, if_pos (by omega), Int.toNat_natCast]
theorem value_in : inB 32 126 = valueF := by
  funext b
  show (!(decide ((b.toNat : Int) < 32) || decide ((126 : Int) < (b.toNat : Int)))) = (decide ((b.toNat : Int) = 32) || (decide (33 ≤ (b.toNat : Int)) && decide ((b.toNat : Int) ≤ 126)))
  rw [Bool.eq_iff_iff]
  simp only [Bool.not_eq_true', Bool.or_eq_false_iff, Bool.or_eq_true, Bool.and_eq_true, decide_eq_true_eq, decide_eq_false_iff_not]
  omega
theorem bad_some {l : List UInt8} {k : Nat} (h : Lib.index l [58] = k) : headBad l = (!madeF nameF (l.take k) || !(l.drop (k + 1)).all (inB 32 126)) := by
  unfold headBad
  rw [cutL_some h, value_in]
  show ((!true || !madeF nameF (l.take k)) || (!decide (l.drop (k + 1) = []) && !madeF valueF (l.drop (k + 1)))) = _
  unfold madeF
  cases hd : l.drop (k + 1) with
  | nil => simp
  | cons a t => simp
end Go.X.TryzW
end
section
open Go Go.X Go.Proofs
set_option maxRecDepth 100000
set_option maxHeartbeats 4000000
set_option linter.unusedSimpArgs false
set_option linter.unusedVariables false
namespace Go.X.TryzW
def digB (b : UInt8) : Bool := decide (48 ≤ b.toNat ∧ b.toNat ≤ 57)
theorem decFrom_app : ∀ (l r : List UInt8) (acc : Nat), Lib.decFrom acc (l ++ r) = (Lib.decFrom acc l).bind fun a => Lib.decFrom a r
  | [], _, _ => rfl
  | b :: l, r, acc => by
    simp only [List.cons_append, Lib.decFrom]
    cases Lib.digitVal b with
    | none => rfl
    | some d => exact decFrom_app l r _
theorem dig_toNat {k : Nat} (h : k < 10) : (UInt8.ofNat (48 + k)).toNat = 48 + k := by
  rw [UInt8.toNat_ofNat']; omega
theorem dec_from (u : Nat) : Lib.decFrom 0 (Lib.decDigits u) = some u := by
  induction u using Nat.strongRecOn with
  | _ u ih =>
    have hd : ∀ k, k < 10 → Lib.digitVal (UInt8.ofNat (48 + k)) = some k := fun k hk => by
      unfold Lib.digitVal; rw [dig_toNat hk, if_pos (by omega)]; congr 1; omega
    by_cases h : u < 10
    · rw [Lib.decDigits, dif_pos h]; simp only [Lib.decFrom, hd u h]; congr 1; omega
    · rw [Lib.decDigits, dif_neg h, decFrom_app, ih (u / 10) (by omega)]
      simp only [Option.bind_some, Lib.decFrom, hd (u % 10) (by omega)]; congr 1; omega
theorem dec_ne (u : Nat) : Lib.decDigits u ≠ [] := by
  rw [Lib.decDigits]; split <;> simp
theorem dec_dig (u : Nat) : ∀ b ∈ Lib.decDigits u, digB b = true := by
  have hd : ∀ k, k < 10 → digB (UInt8.ofNat (48 + k)) = true := fun k hk => by
    unfold digB; rw [dig_toNat hk, decide_eq_true_eq]; omega
  induction u using Nat.strongRecOn with
  | _ u ih =>
    by_cases h : u < 10
    · rw [Lib.decDigits, dif_pos h]; intro b hb; rw [List.mem_singleton] at hb; subst hb; exact hd u h
    · rw [Lib.decDigits, dif_neg h]; intro b hb
      rcases List.mem_append.1 hb with hb | hb
      · exact ih (u / 10) (by omega) b hb
      · rw [List.mem_singleton] at hb; subst hb; exact hd _ (by omega)
theorem dec_head (u : Nat) (h1 : 1 ≤ u) : (Lib.decDigits u).getD 0 0 ≠ 48 := by
  induction u using Nat.strongRecOn with
  | _ u ih =>
    have hd : ∀ k, k < 10 → 1 ≤ k → UInt8.ofNat (48 + k) ≠ 48 := fun k hk h1 h => by
      have := congrArg UInt8.toNat h
      rw [dig_toNat hk] at this
      have h48 : (48 : UInt8).toNat = 48 := rfl
      omega
    by_cases h : u < 10
    · rw [Lib.decDigits, dif_pos h]; exact hd u h h1
    · rw [Lib.decDigits, dif_neg h]
      have hi := ih (u / 10) (by omega) (by omega)
      have hn := dec_ne (u / 10)
      cases he : Lib.decDigits (u / 10) with
      | nil => exact absurd he hn
      | cons a l => rw [he] at hi; exact hi
theorem dec_atoi (N : Nat) : Lib.atoi (Lib.decDigits N) = some (N : Int) := by
  have hd := dec_dig N
  have hn := dec_ne N
  have hf := dec_from N
  cases he : Lib.decDigits N with
  | nil => exact absurd he hn
  | cons b l =>
    have hb := hd b (by rw [he]; exact List.mem_cons_self)
    unfold digB at hb
    rw [decide_eq_true_eq] at hb
    have e1 : (b == 45) = false := by rw [beq_eq_false_iff_ne]; intro h; subst h; revert hb; decide
    have e2 : (b == 43) = false := by rw [beq_eq_false_iff_ne]; intro h; subst h; revert hb; decide
    unfold Lib.atoi
    simp only [e1, e2, Bool.false_eq_true, if_false]
    unfold Lib.decNat
    rw [← he, hf, he]; rfl
theorem dec_small {N : Nat} (h : N ≤ 1000000) : (Lib.decDigits N).length ≤ 7 := by
  rw [Lib.decDigits_length]
  have hp := Lib.nDigits_pos N
  by_cases h0 : N < 10
  · rw [Lib.nDigits_small h0]; omega
  · by_cases h7 : Lib.nDigits N ≤ 7
    · exact h7
    · exfalso
      have : ∀ k, 1 ≤ k → ∀ u, k < Lib.nDigits u → 10 ^ k ≤ u := by
        intro k hk
        induction k with
        | zero => omega
        | succ k ih =>
          intro u hu
          by_cases hs : u < 10
          · rw [Lib.nDigits_small hs] at hu; omega
          · rw [Lib.nDigits_big hs] at hu
            by_cases hk0 : k = 0
            · subst hk0; simp; omega
            · have := ih (by omega) (u / 10) (by omega)
              rw [Nat.pow_succ]; omega
      have := this 7 (by omega) N (by omega)
      omega


def joinC : List (List UInt8) → List UInt8
  | [] => []
  | a :: r => if r = [] then a else a ++ (13 :: 10 :: joinC r)
def GoodL (a : List UInt8) : Prop := a ≠ [] ∧ ∀ b ∈ a, b ≠ 13
theorem joinC_one (a : List UInt8) : joinC [a] = a := by simp [joinC]
theorem joinC_two (a b : List UInt8) (r : List (List UInt8)) : joinC (a :: b :: r) = a ++ (13 :: 10 :: joinC (b :: r)) := by
  show (if b :: r = [] then a else a ++ (13 :: 10 :: joinC (b :: r))) = _
  rw [if_neg (by simp)]
theorem joinC_head (a : List UInt8) (r : List (List UInt8)) (h : GoodL a) : ∃ x t, joinC (a :: r) = x :: t ∧ x ≠ 13 := by
  obtain ⟨hne, h13⟩ := h
  cases a with
  | nil => exact absurd rfl hne
  | cons x t =>
    cases r with
    | nil => exact ⟨x, t, joinC_one _, h13 x (by simp)⟩
    | cons b r => exact ⟨x, t ++ (13 :: 10 :: joinC (b :: r)), by rw [joinC_two]; rfl, h13 x (by simp)⟩
theorem prefix_no {c x : UInt8} (p t : List UInt8) (h : x ≠ c) : (c :: p).isPrefixOf (x :: t) = false := by
  show ((c == x) && _) = false
  rw [show (c == x) = false by rw [beq_eq_false_iff_ne]; exact fun hh => h hh.symm, Bool.false_and]
theorem index_cons_no {a : UInt8} {t p : List UInt8} {n : Nat} (h : p.isPrefixOf (a :: t) = false) (ht : Lib.index t p = (n : Int)) : Lib.index (a :: t) p = ((n + 1 : Nat) : Int) := by
  unfold Lib.index
  rw [if_neg (by rw [h]; decide), ht]
  have : ((n : Int) == -1) = false := by rw [beq_eq_false_iff_ne]; omega
  simp [this]
theorem index_over (x : UInt8) (R : List UInt8) (hx : x ≠ 13) (n : Nat) (hn : Lib.index (x :: R) endL = (n : Int)) : ∀ A : List UInt8, (∀ b ∈ A, b ≠ 13) → Lib.index (A ++ (13 :: 10 :: x :: R)) endL = ((A.length + 2 + n : Nat) : Int)
  | [], _ => by
    have h1 : Lib.index (10 :: x :: R) endL = ((n + 1 : Nat) : Int) := index_cons_no (prefix_no _ _ (by decide)) hn
    have h2 : Lib.index (13 :: 10 :: x :: R) endL = ((n + 1 + 1 : Nat) : Int) := index_cons_no (by show (true && (true && List.isPrefixOf (13 :: [10]) (x :: R))) = false; rw [prefix_no _ _ hx]; rfl) h1
    rw [List.nil_append, h2]; simp; omega
  | a :: A, h => by
    have ih := index_over x R hx n hn A (fun b hb => h b (by simp [hb]))
    have ha : a ≠ 13 := h a (by simp)
    have : Lib.index (a :: (A ++ (13 :: 10 :: x :: R))) endL = ((A.length + 2 + n + 1 : Nat) : Int) := index_cons_no (prefix_no _ _ ha) ih
    show Lib.index (a :: (A ++ (13 :: 10 :: x :: R))) endL = _
    rw [this]; simp; omega
theorem index_lines (B : List UInt8) : ∀ (ls : List (List UInt8)), ls ≠ [] → (∀ a ∈ ls, GoodL a) → Lib.index (joinC ls ++ (endL ++ B)) endL = ((joinC ls).length : Int)
  | [], h, _ => absurd rfl h
  | [a], _, h => by
    rw [joinC_one]
    exact index_skip 13 [10, 13, 10] B a (h a (by simp)).2
  | a :: b :: r, _, h => by
    have ih := index_lines B (b :: r) (by simp) (fun c hc => h c (by simp [hc]))
    obtain ⟨x, t, ht, hx⟩ := joinC_head b r (h b (by simp))
    rw [joinC_two, ht]
    rw [ht] at ih
    have := index_over x (t ++ (endL ++ B)) hx (x :: t).length (by rw [← ih]; rfl) a (h a (by simp)).2
    rw [List.append_assoc]
    show Lib.index (a ++ (13 :: 10 :: x :: (t ++ (endL ++ B)))) endL = _
    rw [this]
    simp only [List.length_append, List.length_cons]
    omega
theorem split_lines : ∀ (ls : List (List UInt8)), ls ≠ [] → (∀ a ∈ ls, GoodL a) → splitL [13, 10] (joinC ls) = ls
  | [], h, _ => absurd rfl h
  | [a], _, h => by
    rw [joinC_one]
    exact split_miss 13 [10] a (h a (by simp)).2
  | a :: b :: r, _, h => by
    have ih := split_lines (b :: r) (by simp) (fun c hc => h c (by simp [hc]))
    have hi : Lib.index (a ++ (13 :: [10] ++ joinC (b :: r))) (13 :: [10]) = (a.length : Int) := index_skip 13 [10] (joinC (b :: r)) a (h a (by simp)).2
    rw [joinC_two]
    show splitL [13, 10] (a ++ (13 :: [10] ++ joinC (b :: r))) = _
    rw [splitL_some (by decide) hi, List.take_left]
    have hd : (a ++ (13 :: [10] ++ joinC (b :: r))).drop (a.length + [13, 10].length) = joinC (b :: r) := by
      rw [← List.append_assoc, show a.length + [13, 10].length = (a ++ (13 :: [10])).length by simp, List.drop_left]
    exact (congrArg (fun z => a :: splitL [13, 10] z) hd).trans (by rw [ih])
theorem joinC_flat (c : List UInt8) : ∀ (hs : List (List UInt8)) (a : List UInt8), joinC (a :: (hs ++ [c])) = a ++ [13, 10] ++ hs.flatMap (· ++ [13, 10]) ++ c
  | [], a => by rw [List.nil_append, joinC_two, joinC_one]; simp
  | h :: hs, a => by
    rw [List.cons_append, joinC_two, joinC_flat c hs h]; simp
/-- A header of the law. -/
def hdrL (c : UInt8) (p : List UInt8) : List UInt8 := [88, 45, c, 58, 32] ++ p
theorem hdr_go (c : UInt8) (p : List UInt8) (hc : nameF c = true) (hc2 : c ≠ 58) (hp : p.all (inB 32 126) = true) (r : List (List UInt8)) (n : Int) (said : Bool) : lengthGo (hdrL c p :: r) n said = lengthGo r n said := by
  have hcut : Lib.cut (hdrL c p) [58] = ([88, 45, c], 32 :: p, true) := by
    refine cut_skip 58 [] [88, 45, c] (32 :: p) fun b hb => ?_
    simp at hb
    rcases hb with rfl | rfl | rfl
    · decide
    · decide
    · exact hc2
  have hi : Lib.index (hdrL c p) [58] = ((3 : Nat) : Int) := by
    refine index_skip 58 [] (32 :: p) [88, 45, c] fun b hb => ?_
    simp at hb
    rcases hb with rfl | rfl | rfl
    · decide
    · decide
    · exact hc2
  have hbad : headBad (hdrL c p) = false := by
    rw [bad_some hi]
    show (!madeF nameF [88, 45, c] || !(32 :: p).all (inB 32 126)) = false
    have h1 : madeF nameF [88, 45, c] = true := by
      unfold madeF
      have e : decide (([88, 45, c] : List UInt8) = []) = false := decide_eq_false (by simp)
      rw [List.all_cons, List.all_cons, List.all_cons, hc, e]; decide
    rw [h1, List.all_cons, hp]; decide
  conv => lhs; rw [lengthGo]
  rw [hbad, hcut]
  rfl
theorem hdrs_go : ∀ (hs : List (List UInt8)) (r : List (List UInt8)) (n : Int) (said : Bool), (∀ h ∈ hs, ∃ c p, h = hdrL c p ∧ nameF c = true ∧ c ≠ 58 ∧ p.all (inB 32 126) = true) → lengthGo (hs ++ r) n said = lengthGo r n said
  | [], _, _, _, _ => rfl
  | h :: hs, r, n, said, hh => by
    obtain ⟨c, p, rfl, h1, h2, h3⟩ := hh h (by simp)
    rw [List.cons_append, hdr_go c p h1 h2 h3, hdrs_go hs r n said (fun x hx => hh x (by simp [hx]))]
def nameL : List UInt8 := [67, 79, 78, 84, 69, 78, 84, 45, 108, 101, 110, 103, 116, 104]
def clLine (N : Nat) : List UInt8 := nameL ++ (58 :: (32 :: Lib.decDigits N))
theorem dig_digit {b : UInt8} (h : digB b = true) : digitF b = true := by
  unfold digB at h
  rw [decide_eq_true_eq] at h
  unfold digitF
  rw [Bool.and_eq_true, decide_eq_true_eq, decide_eq_true_eq]
  omega
theorem cl_go (N : Nat) (hN : N ≤ 1000000) : lengthGo [clLine N] 0 false = ((N : Int), true) := by
  have hd := dec_dig N
  have hne := dec_ne N
  have hdd : ∀ b ∈ Lib.decDigits N, 48 ≤ b.toNat ∧ b.toNat ≤ 57 := fun b hb => by
    have := hd b hb
    unfold digB at this
    rw [decide_eq_true_eq] at this; exact this
  have hcut : Lib.cut (clLine N) [58] = (nameL, 32 :: Lib.decDigits N, true) := cut_skip 58 [] nameL (32 :: Lib.decDigits N) (by decide)
  have hi : Lib.index (clLine N) [58] = ((14 : Nat) : Int) := index_skip 58 [] (32 :: Lib.decDigits N) nameL (by decide)
  have hin : (32 :: Lib.decDigits N).all (inB 32 126) = true := by
    rw [value_in, List.all_cons, List.all_eq_true.2 (fun b hb => ?_)]
    · decide
    · have := hdd b hb
      unfold valueF seenF
      rw [Bool.or_eq_true, Bool.and_eq_true, decide_eq_true_eq, decide_eq_true_eq, decide_eq_true_eq]
      omega
  have hbad : headBad (clLine N) = false := by
    rw [bad_some hi]
    show (!madeF nameF nameL || !(32 :: Lib.decDigits N).all (inB 32 126)) = false
    rw [hin]; decide
  have hlast : Lib.trimRightB (Lib.decDigits N) 32 = Lib.decDigits N := by
    refine trimR_stop _ 32 (.inr fun h => ?_)
    have hl : 0 < (Lib.decDigits N).length := List.length_pos_iff.2 hne
    have := hdd ((Lib.decDigits N).getD ((Lib.decDigits N).length - 1) 0) (by rw [List.getD_eq_getElem?_getD, List.getElem?_eq_getElem (by omega)]; exact List.getElem_mem _)
    rw [h] at this
    revert this; decide
  have hfirst : Lib.trimLeftB (Lib.decDigits N) 32 = Lib.decDigits N := by
    refine trimL_stop _ 32 (.inr fun h => ?_)
    have hl : 0 < (Lib.decDigits N).length := List.length_pos_iff.2 hne
    have := hdd ((Lib.decDigits N).getD 0 0) (by rw [List.getD_eq_getElem?_getD, List.getElem?_eq_getElem hl]; exact List.getElem_mem _)
    rw [h] at this
    revert this; decide
  have hval : headVal (clLine N) = Lib.decDigits N := by
    unfold headVal
    rw [hcut]
    show Lib.trimLeftB (Lib.trimRightB (32 :: Lib.decDigits N) 32) 32 = _
    rw [trimR_cons, hlast, if_neg (fun h => hne h.1)]
    rw [trimL_hit (32 :: Lib.decDigits N) 32 (by simp) rfl]
    exact hfirst
  have hsm := dec_small hN
  have hall : (Lib.decDigits N).all digitF = true := List.all_eq_true.2 fun b hb => dig_digit (hd b hb)
  have hwh : wholeF (Lib.decDigits N) 9 = true := by
    unfold wholeF madeF
    rw [hall, decide_eq_false hne, decide_eq_true (show ((Lib.decDigits N).length : Int) ≤ 9 by omega)]
    by_cases h0 : N = 0
    · subst h0
      rw [show Lib.decDigits 0 = [48] from by rw [Lib.decDigits]; rfl]; decide
    · have hh := dec_head N (by omega)
      have : decide (((((Lib.decDigits N).getD 0 0).toNat : Nat) : Int) = 48) = false := decide_eq_false (fun h => hh ((u8_is _ 48).mp h))
      rw [this]; simp
  have hfold : Lib.equalFold nameL clL = true := by decide
  conv => lhs; rw [lengthGo]
  rw [hbad, hcut, hval, hwh]
  show (if (false : Bool) = true then _ else if (!Lib.equalFold nameL clL) = true then _ else if (false || !true) = true then _ else lengthGo [] ((Lib.atoi (Lib.decDigits N)).getD 0) true) = _
  rw [hfold, dec_atoi]
  rfl
def metL (b : Bool) : List UInt8 := if b then [71, 69, 84] else [80, 79, 83, 84]
def lineL : List UInt8 := [32, 47, 112, 47, 97, 63, 98, 61, 99, 32, 72, 84, 84, 80, 47, 49, 46, 49]
def pathL : List UInt8 := [47, 112, 47, 97, 63, 98, 61, 99]
theorem whole_read (b : Bool) (hs : List (List UInt8)) (hh : ∀ h ∈ hs, ∃ c p, h = hdrL c p ∧ nameF c = true ∧ c ≠ 58 ∧ c ≠ 13 ∧ p.all (inB 32 126) = true) (body : List UInt8) (hb : body.length ≤ 1000) (hv : Lib.validD body = true)
    (hsz : ((metL b ++ lineL) ++ [13, 10] ++ hs.flatMap (· ++ [13, 10]) ++ clLine body.length).length + 4 ≤ 4096) :
    readF Lib.validD ((metL b ++ lineL) ++ [13, 10] ++ hs.flatMap (· ++ [13, 10]) ++ clLine body.length ++ (endL ++ body)) = ⟨metL b, pathL, body, 200⟩ := by
  have hg : ∀ a ∈ (metL b ++ lineL) :: (hs ++ [clLine body.length]), GoodL a := by
    intro a ha
    rcases List.mem_cons.1 ha with rfl | ha
    · refine ⟨by cases b <;> simp [metL, lineL], ?_⟩
      cases b <;> decide
    rcases List.mem_append.1 ha with ha | ha
    · obtain ⟨c, p, rfl, h1, h2, h3, h4⟩ := hh a ha
      refine ⟨by simp [hdrL], fun x hx => ?_⟩
      rcases List.mem_append.1 hx with hx | hx
      · simp at hx
        rcases hx with rfl | rfl | rfl | rfl | rfl
        · decide
        · decide
        · exact h3
        · decide
        · decide
      · rw [List.all_eq_true] at h4
        have := h4 x hx
        intro hx13; subst hx13; revert this; decide
    · rw [List.mem_singleton] at ha
      subst ha
      refine ⟨by simp [clLine, nameL], fun x hx => ?_⟩
      unfold clLine at hx
      rcases List.mem_append.1 hx with hx | hx
      · intro h; subst h; revert hx; decide
      rcases List.mem_cons.1 hx with rfl | hx
      · decide
      rcases List.mem_cons.1 hx with rfl | hx
      · decide
      · have := dec_dig body.length x hx
        intro h; subst h; revert this; decide
  have hj := joinC_flat (clLine body.length) hs (metL b ++ lineL)
  rw [← hj] at hsz ⊢
  have hi := index_lines body _ (by simp) hg
  have hcut : Lib.cut (joinC ((metL b ++ lineL) :: (hs ++ [clLine body.length])) ++ (endL ++ body)) endL = (joinC ((metL b ++ lineL) :: (hs ++ [clLine body.length])), body, true) := by
    rw [cutL_some hi, List.take_left]
    rw [← List.append_assoc, ← List.length_append, List.drop_left]
  have hsp := split_lines _ (by simp) hg
  have hlg : lengthGo (hs ++ [clLine body.length]) 0 false = ((body.length : Int), true) := by
    rw [hdrs_go hs _ 0 false (fun h hx => by obtain ⟨c, p, q1, q2, q3, _, q4⟩ := hh h hx; exact ⟨c, p, q1, q2, q3, q4⟩), cl_go _ (by omega)]
  have hok : firstOk (metL b ++ lineL) = true := by cases b <;> kernel_rfl
  have hm : (cut1 (metL b ++ lineL)).1 = metL b := by cases b <;> kernel_rfl
  have hp : (cut1 (cut1 (metL b ++ lineL)).2.1).1 = pathL := by cases b <;> kernel_rfl
  unfold readF
  rw [hcut]
  generalize joinC ((metL b ++ lineL) :: (hs ++ [clLine body.length])) = J at *
  simp only [hsp, List.getD_cons_zero, List.drop_succ_cons, List.drop_zero, hlg, hok, hm, hp, hv]
  have c1 : decide (4096 < (J.length : Int) + 4) = false := decide_eq_false (by omega)
  have c2 : (!decide (metL b = [71, 69, 84]) && !decide (metL b = [80, 79, 83, 84])) = false := by cases b <;> decide
  rw [c1, c2]
  rw [if_neg (by simp), if_neg (by simp), if_neg (by simp), if_neg (by omega), if_neg (by simp)]
end Go.X.TryzW
end
section
open Go Go.X Go.Proofs
set_option maxRecDepth 100000
set_option maxHeartbeats 4000000
set_option linter.unusedSimpArgs false
set_option linter.unusedVariables false
namespace Go.X.TryzW
def z37 : XC :=
 (.seq (.ops [ ⟨(some 9), (.mov (.c (.int .i64 1))), none⟩]) (.block 1 (.loop (.seq (.seq (.ops [ ⟨(some 52), (.mov (.t 9)), none⟩, ⟨(some 53), (.mov (.t 6)), none⟩, ⟨(some 54), (.bin .lss (.t 52) (.t 53)), none⟩]) (.cond (.t 54) .skip (.exit 1))) (.seq (.block 2 (.seq (.ops [ ⟨(some 57), (.mov (.t 0)), none⟩, ⟨(some 58), (.mov (.t 1)), none⟩, ⟨(some 59), (.mov (.t 9)), none⟩, ⟨(some 60), (.bin .add (.t 58) (.t 59)), none⟩, ⟨(some 61), (.idx (.t 57) (.t 60)), none⟩, ⟨(some 62), (.cvInt .i64 (.t 61)), none⟩, ⟨(some 10), (.mov (.t 62)), none⟩]) (.seq (.seq (.ops [ ⟨(some 63), (.mov (.t 10)), none⟩, ⟨(some 64), (.bin .lss (.t 63) (.c (.int .i64 128))), none⟩, ⟨(some 65), (.mov (.t 64)), none⟩, ⟨(some 66), (.mov (.t 10)), (some (65, false))⟩, ⟨(some 67), (.bin .geq (.t 66) (.c (.int .i64 192))), (some (65, false))⟩, ⟨(some 68), (.pick (.t 65) (.c (.bool true)) (.t 67)), none⟩]) (.cond (.t 68) (.seq (.ops [ ⟨(some 4), (.mov (.c (.int .i64 0))), none⟩]) .ret) .skip)) (.ops [ ⟨(some 69), (.mov (.t 7)), none⟩, ⟨(some 70), (.bin .mul (.c (.int .i64 64)) (.t 69)), none⟩, ⟨(some 71), (.mov (.t 10)), none⟩, ⟨(some 72), (.bin .add (.t 70) (.t 71)), none⟩, ⟨(some 73), (.bin .sub (.t 72) (.c (.int .i64 128))), none⟩, ⟨(some 7), (.mov (.t 73)), none⟩])))) (.ops [ ⟨(some 55), (.mov (.t 9)), none⟩, ⟨(some 56), (.bin .add (.t 55) (.c (.int .i64 1))), none⟩, ⟨(some 9), (.mov (.t 56)), none⟩]))))))
/- "tiller/tillerref13.UTF8" params { toList := [9, 3] } results { toList := [Go.ResultVar.tmp 4] } -/
def y37 : XC :=
 (.seq (.ops [ ⟨(some 4), (.mov (.c (.int .i64 0))), none⟩]) (.seq (.ops [ ⟨(some 11), (.mov (.t 0)), none⟩, ⟨(some 12), (.mov (.t 1)), none⟩, ⟨(some 13), (.idx (.t 11) (.t 12)), none⟩, ⟨(some 14), (.cvInt .i64 (.t 13)), none⟩, ⟨(some 5), (.mov (.t 14)), none⟩]) (.seq (.ops [ ⟨(some 15), (.mov (.t 5)), none⟩, ⟨(some 6), (.mov (.c (.int .i64 1))), none⟩, ⟨(some 7), (.mov (.t 15)), none⟩, ⟨(some 8), (.mov (.c (.int .i64 0))), none⟩]) (.seq (.block 0 (.seq (.ops [ ⟨(some 17), (.mov (.t 5)), none⟩, ⟨(some 18), (.bin .geq (.t 17) (.c (.int .i64 240))), none⟩, ⟨(some 19), (.mov (.t 18)), none⟩, ⟨(some 20), (.mov (.t 5)), (some (19, true))⟩, ⟨(some 21), (.bin .lss (.t 20) (.c (.int .i64 248))), (some (19, true))⟩, ⟨(some 22), (.pick (.t 19) (.t 21) (.c (.bool false))), none⟩, ⟨(some 16), (.mov (.t 22)), none⟩]) (.cond (.t 16) (.ops [ ⟨(some 23), (.mov (.t 5)), none⟩, ⟨(some 24), (.bin .sub (.t 23) (.c (.int .i64 240))), none⟩, ⟨(some 6), (.mov (.c (.int .i64 4))), none⟩, ⟨(some 7), (.mov (.t 24)), none⟩, ⟨(some 8), (.mov (.c (.int .i64 65536))), none⟩]) (.seq (.ops [ ⟨(some 26), (.mov (.t 5)), none⟩, ⟨(some 27), (.bin .geq (.t 26) (.c (.int .i64 224))), none⟩, ⟨(some 28), (.mov (.t 27)), none⟩, ⟨(some 29), (.mov (.t 5)), (some (28, true))⟩, ⟨(some 30), (.bin .lss (.t 29) (.c (.int .i64 240))), (some (28, true))⟩, ⟨(some 31), (.pick (.t 28) (.t 30) (.c (.bool false))), none⟩, ⟨(some 25), (.mov (.t 31)), none⟩]) (.cond (.t 25) (.ops [ ⟨(some 32), (.mov (.t 5)), none⟩, ⟨(some 33), (.bin .sub (.t 32) (.c (.int .i64 224))), none⟩, ⟨(some 6), (.mov (.c (.int .i64 3))), none⟩, ⟨(some 7), (.mov (.t 33)), none⟩, ⟨(some 8), (.mov (.c (.int .i64 2048))), none⟩]) (.seq (.ops [ ⟨(some 35), (.mov (.t 5)), none⟩, ⟨(some 36), (.bin .geq (.t 35) (.c (.int .i64 192))), none⟩, ⟨(some 37), (.mov (.t 36)), none⟩, ⟨(some 38), (.mov (.t 5)), (some (37, true))⟩, ⟨(some 39), (.bin .lss (.t 38) (.c (.int .i64 224))), (some (37, true))⟩, ⟨(some 40), (.pick (.t 37) (.t 39) (.c (.bool false))), none⟩, ⟨(some 34), (.mov (.t 40)), none⟩]) (.cond (.t 34) (.ops [ ⟨(some 41), (.mov (.t 5)), none⟩, ⟨(some 42), (.bin .sub (.t 41) (.c (.int .i64 192))), none⟩, ⟨(some 6), (.mov (.c (.int .i64 2))), none⟩, ⟨(some 7), (.mov (.t 42)), none⟩, ⟨(some 8), (.mov (.c (.int .i64 128))), none⟩]) (.seq (.ops [ ⟨(some 44), (.mov (.t 5)), none⟩, ⟨(some 45), (.bin .geq (.t 44) (.c (.int .i64 128))), none⟩, ⟨(some 43), (.mov (.t 45)), none⟩]) (.cond (.t 43) (.seq (.ops [ ⟨(some 4), (.mov (.c (.int .i64 0))), none⟩]) .ret) .skip))))))))) (.seq (.seq (.ops [ ⟨(some 46), (.mov (.t 1)), none⟩, ⟨(some 47), (.mov (.t 6)), none⟩, ⟨(some 48), (.bin .add (.t 46) (.t 47)), none⟩, ⟨(some 49), (.mov (.t 0)), none⟩, ⟨(some 50), (.lenS (.t 49)), none⟩, ⟨(some 51), (.bin .gtr (.t 48) (.t 50)), none⟩]) (.cond (.t 51) (.seq (.ops [ ⟨(some 4), (.mov (.c (.int .i64 0))), none⟩]) .ret) .skip)) (.seq z37 (.seq (.seq (.ops [ ⟨(some 74), (.mov (.t 7)), none⟩, ⟨(some 75), (.mov (.t 8)), none⟩, ⟨(some 76), (.bin .lss (.t 74) (.t 75)), none⟩, ⟨(some 77), (.mov (.t 76)), none⟩, ⟨(some 78), (.mov (.t 7)), (some (77, false))⟩, ⟨(some 79), (.bin .gtr (.t 78) (.c (.int .i64 1114111))), (some (77, false))⟩, ⟨(some 80), (.pick (.t 77) (.c (.bool true)) (.t 79)), none⟩, ⟨(some 81), (.mov (.t 80)), none⟩, ⟨(some 82), (.mov (.t 7)), (some (81, false))⟩, ⟨(some 83), (.bin .geq (.t 82) (.c (.int .i64 55296))), (some (81, false))⟩, ⟨(some 84), (.mov (.t 83)), (some (81, false))⟩, ⟨(some 85), (.mov (.t 7)), (some (84, true))⟩, ⟨(some 86), (.bin .leq (.t 85) (.c (.int .i64 57343))), (some (84, true))⟩, ⟨(some 87), (.pick (.t 84) (.t 86) (.c (.bool false))), (some (81, false))⟩, ⟨(some 88), (.pick (.t 81) (.c (.bool true)) (.t 87)), none⟩]) (.cond (.t 88) (.seq (.ops [ ⟨(some 4), (.mov (.c (.int .i64 0))), none⟩]) .ret) .skip)) (.seq (.ops [ ⟨(some 89), (.mov (.t 6)), none⟩, ⟨(some 4), (.mov (.t 89)), none⟩]) .ret))))))))
/- "tiller/tillerref13.Valid" params { toList := [9] } results { toList := [Go.ResultVar.tmp 2] } -/
def y17 : XC :=
 (.seq
  (.ops [
    ⟨(some 2), (.mov (.c (.bool false))), none⟩])
  (.seq
   (.seq
    (.ops [
      ⟨(some 3), (.mov (.c (.int .i64 0))), none⟩])
    (.block 0
     (.loop
      (.seq
       (.seq
        (.ops [
          ⟨(some 5), (.mov (.t 3)), none⟩,
          ⟨(some 6), (.mov (.t 0)), none⟩,
          ⟨(some 7), (.lenS (.t 6)), none⟩,
          ⟨(some 8), (.bin .lss (.t 5) (.t 7)), none⟩])
        (.cond (.t 8)
         .skip
         (.exit 0)))
       (.block 1
        (.seq
         (.ops [
           ⟨(some 9), (.mov (.t 0)), none⟩,
           ⟨(some 10), (.mov (.t 3)), none⟩,
           ⟨(some 11), (.call (.f 37) [(.t 9), (.t 10)]), none⟩,
           ⟨(some 4), (.mov (.t 11)), none⟩])
         (.seq
          (.seq
           (.ops [
             ⟨(some 12), (.mov (.t 4)), none⟩,
             ⟨(some 13), (.bin .eql (.t 12) (.c (.int .i64 0))), none⟩])
           (.cond (.t 13)
            (.seq
             (.ops [
               ⟨(some 2), (.mov (.c (.bool false))), none⟩])
             .ret)
            .skip))
          (.ops [
            ⟨(some 14), (.mov (.t 3)), none⟩,
            ⟨(some 15), (.mov (.t 4)), none⟩,
            ⟨(some 16), (.bin .add (.t 14) (.t 15)), none⟩,
            ⟨(some 3), (.mov (.t 16)), none⟩]))))))))
   (.seq
    (.ops [
      ⟨(some 2), (.mov (.c (.bool true))), none⟩])
    .ret)))

section
variable {E : Env} {L : List Blk} {K : IV → List Blk → Prop}
def goodC (b : UInt8) : Bool := decide (128 ≤ b.toNat ∧ b.toNat < 192)
def gC (s : List UInt8) (i : Nat) : Nat → Bool
  | 0 => true
  | k + 1 => gC s i k && goodC (s.getD (i + (k + 1)) 0)
def cC (c0 : Int) (s : List UInt8) (i : Nat) : Nat → Int
  | 0 => c0
  | k + 1 => 64 * cC c0 s i k + ((s.getD (i + (k + 1)) 0).toNat : Int) - 128
theorem gC_mono (s : List UInt8) (i : Nat) : ∀ (n k : Nat), k ≤ n → gC s i n = true → gC s i k = true
  | 0, k, hk, h => by
    have : k = 0 := by omega
    subst this; exact h
  | n + 1, k, hk, h => by
    by_cases hkn : k = n + 1
    · subst hkn; exact h
    · unfold gC at h
      rw [Bool.and_eq_true] at h
      exact gC_mono s i n k (by omega) h.1
theorem cC_bnd (c0 : Int) (s : List UInt8) (i : Nat) (h0 : 0 ≤ c0) (h1 : c0 < 128) : ∀ k, gC s i k = true → 0 ≤ cC c0 s i k ∧ cC c0 s i k < 128 * 64 ^ k
  | 0, _ => by simp [cC]; omega
  | k + 1, h => by
    unfold gC at h
    rw [Bool.and_eq_true] at h
    obtain ⟨q1, q2⟩ := cC_bnd c0 s i h0 h1 k h.1
    have q3 := h.2
    unfold goodC at q3
    rw [decide_eq_true_eq] at q3
    unfold cC
    rw [Int.pow_succ]
    omega
theorem utf_cont (s : List UInt8) (i n : Nat) (c0 : Int) (x : IV) (hn : 1 ≤ n) (hn4 : n ≤ 4) (hin : i + n ≤ s.length) (hs : s.length ≤ 140737488351232) (hc0 : 0 ≤ c0) (hc1 : c0 < 128) {ρ : Rho}
    (h0 : ρ 0 = .str s) (h1 : ρ 1 = .int .i64 i) (h6 : ρ 6 = .int .i64 n) (h7 : ρ 7 = .int .i64 c0) (h8 : ρ 8 = x) :
    xrun E.noPan z37 ρ [] (fun e ρ' L' => L' = [] ∧ ((e = .ret ∧ ρ' 4 = .int .i64 0 ∧ gC s i (n - 1) = false) ∨
      (e = .normal ∧ gC s i (n - 1) = true ∧ ρ' 6 = .int .i64 n ∧ ρ' 7 = .int .i64 (cC c0 s i (n - 1)) ∧ ρ' 8 = x))) := by
  unfold z37
  simp only [h0, h1, h6, h7, h8, go_sem, Nat.reduceEqDiff, reduceIte, Int.reduceEq, Int.reduceLT, Int.reduceLE, Nat.reduceAdd, Nat.reduceLT, Nat.reduceLeDiff, Int.reduceToNat, Int.reduceSub, Int.reduceAdd, Int.reduceNeg]
  refine s_loop (fun c ρ L => ∃ j : Nat, j + 1 ≤ n ∧ c = n - 1 - j ∧ L = [] ∧ ρ 0 = .str s ∧ ρ 1 = .int .i64 i ∧ ρ 6 = .int .i64 n ∧ ρ 7 = .int .i64 (cC c0 s i j) ∧ ρ 8 = x ∧ ρ 9 = .int .i64 ((j + 1 : Nat) : Int) ∧ gC s i j = true) (n := n - 1)
    ⟨0, hn, rfl, rfl, by simp only [h0, go_sem, Nat.reduceEqDiff, reduceIte, Int.reduceEq, Int.reduceLT, Int.reduceLE, Nat.reduceAdd, Nat.reduceLT, Nat.reduceLeDiff, Int.reduceToNat, Int.reduceSub, Int.reduceAdd, Int.reduceNeg], by simp only [h1, go_sem, Nat.reduceEqDiff, reduceIte, Int.reduceEq, Int.reduceLT, Int.reduceLE, Nat.reduceAdd, Nat.reduceLT, Nat.reduceLeDiff, Int.reduceToNat, Int.reduceSub, Int.reduceAdd, Int.reduceNeg], by simp only [h6, go_sem, Nat.reduceEqDiff, reduceIte, Int.reduceEq, Int.reduceLT, Int.reduceLE, Nat.reduceAdd, Nat.reduceLT, Nat.reduceLeDiff, Int.reduceToNat, Int.reduceSub, Int.reduceAdd, Int.reduceNeg], by simp only [h7, go_sem, Nat.reduceEqDiff, reduceIte, Int.reduceEq, Int.reduceLT, Int.reduceLE, Nat.reduceAdd, Nat.reduceLT, Nat.reduceLeDiff, Int.reduceToNat, Int.reduceSub, Int.reduceAdd, Int.reduceNeg]; try rfl, by simp only [h8, go_sem, Nat.reduceEqDiff, reduceIte, Int.reduceEq, Int.reduceLT, Int.reduceLE, Nat.reduceAdd, Nat.reduceLT, Nat.reduceLeDiff, Int.reduceToNat, Int.reduceSub, Int.reduceAdd, Int.reduceNeg], by simp only [go_sem, Nat.reduceEqDiff, reduceIte, Int.reduceEq, Int.reduceLT, Int.reduceLE, Nat.reduceAdd, Nat.reduceLT, Nat.reduceLeDiff, Int.reduceToNat, Int.reduceSub, Int.reduceAdd, Int.reduceNeg]; try rfl, rfl⟩ ?_
  clear h0 h1 h6 h7 h8 ρ
  rintro c ρ L ⟨j, hj, rfl, rfl, h0, h1, h6, h7, h8, h9, hg⟩
  have hb := cC_bnd c0 s i hc0 hc1 j hg
  have hpow : (128 : Int) * 64 ^ j ≤ 128 * 64 ^ 3 := by
    have : j = 0 ∨ j = 1 ∨ j = 2 ∨ j = 3 := by omega
    rcases this with rfl | rfl | rfl | rfl <;> decide
  have hpow2 : (128 : Int) * 64 ^ 3 = 33554432 := by decide
  by_cases hjn : j + 1 < n
  · have e1 : (((j + 1 : Nat) : Int) < (n : Int)) = True := eq_true (by omega)
    have hwj : IntKind.i64.wrap ((i : Int) + ((j + 1 : Nat) : Int)) = ((i + (j + 1) : Nat) : Int) := by rw [wrap64 (by omega) (by omega)]; omega
    have hw1 : IntKind.i64.wrap (((j + 1 : Nat) : Int) + 1) = ((j + 1 + 1 : Nat) : Int) := by rw [wrap64 (by omega) (by omega)]; omega
    have e2 : (((i + (j + 1) : Nat) : Int) < (s.length : Int)) = True := eq_true (by omega)
    have hbl := (s.getD (i + (j + 1)) 0).toNat_lt
    have hcv : IntKind.i64.wrap (((s.getD (i + (j + 1)) 0).toNat : Nat) : Int) = (((s.getD (i + (j + 1)) 0).toNat : Nat) : Int) := wrap64 (by omega) (by omega)
    have hcs : cC c0 s i (j + 1) = 64 * cC c0 s i j + ((s.getD (i + (j + 1)) 0).toNat : Int) - 128 := rfl
    have hgs : gC s i (j + 1) = (gC s i j && goodC (s.getD (i + (j + 1)) 0)) := rfl
    have hbad : goodC (s.getD (i + (j + 1)) 0) = false → gC s i (n - 1) = false := fun h => by
      cases hq : gC s i (n - 1) with
      | false => rfl
      | true =>
        have := gC_mono s i (n - 1) (j + 1) (by omega) hq
        rw [hgs, h, Bool.and_false] at this
        cases this
    have hgood : goodC (s.getD (i + (j + 1)) 0) = decide (128 ≤ (s.getD (i + (j + 1)) 0).toNat ∧ (s.getD (i + (j + 1)) 0).toNat < 192) := rfl
    generalize hbe : s.getD (i + (j + 1)) 0 = b at *
    by_cases q1 : b.toNat < 128
    · have k1 : ((b.toNat : Int) < 128) = True := eq_true (by omega)
      simp only [h0, h1, h6, h7, h8, h9, e1, hwj, e2, hbe, k1, hcv, go_sem, Nat.reduceEqDiff, reduceIte, Int.reduceEq, Int.reduceLT, Int.reduceLE, Nat.reduceAdd, Nat.reduceLT, Nat.reduceLeDiff, Int.reduceToNat, Int.reduceSub, Int.reduceAdd, Int.reduceNeg]
      repeat (refine ⟨by omega, ?_⟩)
      have := hbad (by rw [hgood, decide_eq_false (by omega)])
      simp [this]
    have k1 : ((b.toNat : Int) < 128) = False := eq_false (by omega)
    by_cases q2 : 192 ≤ b.toNat
    · have k2 : ((192 : Int) ≤ (b.toNat : Int)) = True := eq_true (by omega)
      simp only [h0, h1, h6, h7, h8, h9, e1, hwj, e2, hbe, k1, k2, hcv, go_sem, Nat.reduceEqDiff, reduceIte, Int.reduceEq, Int.reduceLT, Int.reduceLE, Nat.reduceAdd, Nat.reduceLT, Nat.reduceLeDiff, Int.reduceToNat, Int.reduceSub, Int.reduceAdd, Int.reduceNeg]
      repeat (refine ⟨by omega, ?_⟩)
      have := hbad (by rw [hgood, decide_eq_false (by omega)])
      simp [this]
    have k2 : ((192 : Int) ≤ (b.toNat : Int)) = False := eq_false (by omega)
    have hm1 : IntKind.i64.wrap (64 * cC c0 s i j) = 64 * cC c0 s i j := wrap64 (by omega) (by omega)
    have hm2 : IntKind.i64.wrap (64 * cC c0 s i j + (b.toNat : Int)) = 64 * cC c0 s i j + (b.toNat : Int) := wrap64 (by omega) (by omega)
    have hm3 : IntKind.i64.wrap (64 * cC c0 s i j + (b.toNat : Int) - 128) = cC c0 s i (j + 1) := by rw [hcs, wrap64 (by omega) (by omega)]
    simp only [h0, h1, h6, h7, h8, h9, e1, hwj, e2, hbe, k1, k2, hcv, hm1, hm2, hm3, go_sem, Nat.reduceEqDiff, reduceIte, Int.reduceEq, Int.reduceLT, Int.reduceLE, Nat.reduceAdd, Nat.reduceLT, Nat.reduceLeDiff, Int.reduceToNat, Int.reduceSub, Int.reduceAdd, Int.reduceNeg]
    trace_state
    exact ⟨n - 1 - (j + 1), by omega, j + 1, by omega, rfl, rfl, by rw [hw1], by rw [hgs, hg, hgood, decide_eq_true (by omega)]; rfl⟩
  · have e1 : (((j + 1 : Nat) : Int) < (n : Int)) = False := eq_false (by omega)
    have hjn' : n - 1 = j := by omega
    rw [hjn']
    simp only [h0, h1, h6, h7, h8, h9, e1, go_sem, Nat.reduceEqDiff, reduceIte, Int.reduceEq, Int.reduceLT, Int.reduceLE, Nat.reduceAdd, Nat.reduceLT, Nat.reduceLeDiff, Int.reduceToNat, Int.reduceSub, Int.reduceAdd, Int.reduceNeg]
    simp [hg]
def finU (s : List UInt8) (i n : Nat) (c0 least : Int) : Nat :=
  if s.length < i + n then 0 else if gC s i (n - 1) = false then 0 else if cC c0 s i (n - 1) < least ∨ 1114111 < cC c0 s i (n - 1) ∨ (55296 ≤ cC c0 s i (n - 1) ∧ cC c0 s i (n - 1) ≤ 57343) then 0 else n
def utfR (s : List UInt8) (i : Nat) : Nat :=
  if 240 ≤ (s.getD i 0).toNat ∧ (s.getD i 0).toNat < 248 then finU s i 4 (((s.getD i 0).toNat : Int) - 240) 65536
  else if 224 ≤ (s.getD i 0).toNat ∧ (s.getD i 0).toNat < 240 then finU s i 3 (((s.getD i 0).toNat : Int) - 224) 2048
  else if 192 ≤ (s.getD i 0).toNat ∧ (s.getD i 0).toNat < 224 then finU s i 2 (((s.getD i 0).toNat : Int) - 192) 128
  else if 128 ≤ (s.getD i 0).toNat then 0
  else finU s i 1 ((s.getD i 0).toNat : Int) 0
theorem utf8_pure (hP : E.P = Tryz.prog) (s : List UInt8) (i : Nat) (hi : i < s.length) (hs : s.length ≤ 140737488351232) : XPure E 37 [.str s, .int .i64 i] (.int .i64 (utfR s i)) := by
  refine xpure1 (n := Tryz.f37.ntmps) (c := y37) (t := 4) (by rw [hP]; rfl) (by rw [hP]; kernel_rfl) (by decide) (Nat.le_of_ble_eq_true rfl) ?_
  generalize hρ : entry _ = ρ
  have h0 : ρ 0 = .str s := by rw [← hρ]; rfl
  have h1 : ρ 1 = .int .i64 i := by rw [← hρ]; rfl
  clear hρ
  unfold y37
  have e0 : ((0 : Int) ≤ (i : Int)) = True := eq_true (by omega)
  have e1 : ((i : Int) < (s.length : Int)) = True := eq_true (by omega)
  have hbl := (s.getD i 0).toNat_lt
  have hcv : IntKind.i64.wrap (((s.getD i 0).toNat : Nat) : Int) = (((s.getD i 0).toNat : Nat) : Int) := wrap64 (by omega) (by omega)
  unfold utfR
  generalize hbe : (s.getD i 0).toNat = b at *
  by_cases a1 : 240 ≤ b
  · have f1 : ((240 : Int) ≤ (b : Int)) = True := eq_true (by omega)
    by_cases a2 : b < 248
    · have f2 : ((b : Int) < 248) = True := eq_true (by omega)
      have hw : IntKind.i64.wrap ((b : Int) - 240) = (b : Int) - 240 := wrap64 (by omega) (by omega)
      rw [if_pos ⟨a1, a2⟩]
      by_cases hlen : i + 4 ≤ s.length
      case neg =>
        have k1 : ((s.length : Int) < ((i + 4 : Nat) : Int)) = True := eq_true (by omega)
        have hwn : IntKind.i64.wrap ((i : Int) + 4) = ((i + 4 : Nat) : Int) := by rw [wrap64 (by omega) (by omega)]; rfl
        simp only [h0, h1, e0, e1, hcv, hbe, f1, f2, hw, k1, hwn, go_sem, Nat.reduceEqDiff, reduceIte, Int.reduceEq, Int.reduceLT, Int.reduceLE, Nat.reduceAdd, Nat.reduceLT, Nat.reduceLeDiff, Int.reduceToNat, Int.reduceSub, Int.reduceAdd, Int.reduceNeg]
        repeat (refine ⟨by omega, ?_⟩)
        unfold finU
        rw [if_pos (by omega)]
        rfl
      have k1 : ((s.length : Int) < ((i + 4 : Nat) : Int)) = False := eq_false (by omega)
      have hwn : IntKind.i64.wrap ((i : Int) + 4) = ((i + 4 : Nat) : Int) := by rw [wrap64 (by omega) (by omega)]; rfl
      simp only [h0, h1, e0, e1, hcv, hbe, f1, f2, hw, k1, hwn, go_sem, Nat.reduceEqDiff, reduceIte, Int.reduceEq, Int.reduceLT, Int.reduceLE, Nat.reduceAdd, Nat.reduceLT, Nat.reduceLeDiff, Int.reduceToNat, Int.reduceSub, Int.reduceAdd, Int.reduceNeg]
      refine xrun_cut _ (utf_cont s i 4 ((b : Int) - 240) (.int .i64 65536) (by omega) (by omega) hlen hs (by omega) (by omega) (by simp only [h0, h1, e0, e1, hcv, hbe, go_sem, Nat.reduceEqDiff, reduceIte, Int.reduceEq, Int.reduceLT, Int.reduceLE, Nat.reduceAdd, Nat.reduceLT, Nat.reduceLeDiff, Int.reduceToNat, Int.reduceSub, Int.reduceAdd, Int.reduceNeg]) (by simp only [h0, h1, e0, e1, hcv, hbe, go_sem, Nat.reduceEqDiff, reduceIte, Int.reduceEq, Int.reduceLT, Int.reduceLE, Nat.reduceAdd, Nat.reduceLT, Nat.reduceLeDiff, Int.reduceToNat, Int.reduceSub, Int.reduceAdd, Int.reduceNeg]) (by simp only [h0, h1, e0, e1, hcv, hbe, go_sem, Nat.reduceEqDiff, reduceIte, Int.reduceEq, Int.reduceLT, Int.reduceLE, Nat.reduceAdd, Nat.reduceLT, Nat.reduceLeDiff, Int.reduceToNat, Int.reduceSub, Int.reduceAdd, Int.reduceNeg]; try rfl) (by simp only [h0, h1, e0, e1, hcv, hbe, go_sem, Nat.reduceEqDiff, reduceIte, Int.reduceEq, Int.reduceLT, Int.reduceLE, Nat.reduceAdd, Nat.reduceLT, Nat.reduceLeDiff, Int.reduceToNat, Int.reduceSub, Int.reduceAdd, Int.reduceNeg]; try rfl) (by simp only [h0, h1, e0, e1, hcv, hbe, go_sem, Nat.reduceEqDiff, reduceIte, Int.reduceEq, Int.reduceLT, Int.reduceLE, Nat.reduceAdd, Nat.reduceLT, Nat.reduceLeDiff, Int.reduceToNat, Int.reduceSub, Int.reduceAdd, Int.reduceNeg]; try rfl)) ?_
      clear h0 h1 ρ
      rintro e ρ L ⟨rfl, ⟨rfl, h4, hg⟩ | ⟨rfl, hg, h6, h7, h8⟩⟩
      · simp only [h4, go_sem, Nat.reduceEqDiff, reduceIte, Int.reduceEq, Int.reduceLT, Int.reduceLE, Nat.reduceAdd, Nat.reduceLT, Nat.reduceLeDiff, Int.reduceToNat, Int.reduceSub, Int.reduceAdd, Int.reduceNeg]
        unfold finU
        rw [if_neg (by omega), if_pos hg]
        rfl
      unfold finU
      rw [if_neg (by omega), if_neg (by rw [hg]; decide)]
      generalize cC ((b : Int) - 240) s i (4 - 1) = c at *
      by_cases r1 : c < 65536
      · have m1 : (c < 65536) = True := eq_true r1
        rw [if_pos (.inl r1)]
        simp only [h6, h7, h8, m1, go_sem, Nat.reduceEqDiff, reduceIte, Int.reduceEq, Int.reduceLT, Int.reduceLE, Nat.reduceAdd, Nat.reduceLT, Nat.reduceLeDiff, Int.reduceToNat, Int.reduceSub, Int.reduceAdd, Int.reduceNeg]
        rfl
      have m1 : (c < 65536) = False := eq_false r1
      by_cases r2 : 1114111 < c
      · have m2 : ((1114111 : Int) < c) = True := eq_true r2
        rw [if_pos (.inr (.inl r2))]
        simp only [h6, h7, h8, m1, m2, go_sem, Nat.reduceEqDiff, reduceIte, Int.reduceEq, Int.reduceLT, Int.reduceLE, Nat.reduceAdd, Nat.reduceLT, Nat.reduceLeDiff, Int.reduceToNat, Int.reduceSub, Int.reduceAdd, Int.reduceNeg]
        rfl
      have m2 : ((1114111 : Int) < c) = False := eq_false r2
      by_cases r3 : 55296 ≤ c
      case neg =>
        have m3 : ((55296 : Int) ≤ c) = False := eq_false r3
        rw [if_neg (by omega)]
        simp only [h6, h7, h8, m1, m2, m3, go_sem, Nat.reduceEqDiff, reduceIte, Int.reduceEq, Int.reduceLT, Int.reduceLE, Nat.reduceAdd, Nat.reduceLT, Nat.reduceLeDiff, Int.reduceToNat, Int.reduceSub, Int.reduceAdd, Int.reduceNeg]
        rfl
      have m3 : ((55296 : Int) ≤ c) = True := eq_true r3
      by_cases r4 : c ≤ 57343
      · have m4 : (c ≤ (57343 : Int)) = True := eq_true r4
        rw [if_pos (.inr (.inr ⟨r3, r4⟩))]
        simp only [h6, h7, h8, m1, m2, m3, m4, go_sem, Nat.reduceEqDiff, reduceIte, Int.reduceEq, Int.reduceLT, Int.reduceLE, Nat.reduceAdd, Nat.reduceLT, Nat.reduceLeDiff, Int.reduceToNat, Int.reduceSub, Int.reduceAdd, Int.reduceNeg]
        rfl
      have m4 : (c ≤ (57343 : Int)) = False := eq_false r4
      rw [if_neg (by omega)]
      simp only [h6, h7, h8, m1, m2, m3, m4, go_sem, Nat.reduceEqDiff, reduceIte, Int.reduceEq, Int.reduceLT, Int.reduceLE, Nat.reduceAdd, Nat.reduceLT, Nat.reduceLeDiff, Int.reduceToNat, Int.reduceSub, Int.reduceAdd, Int.reduceNeg]
      rfl
    have f2 : ((b : Int) < 248) = False := eq_false (by omega)
    have f3 : ((224 : Int) ≤ (b : Int)) = True := eq_true (by omega)
    have f4 : ((b : Int) < 240) = False := eq_false (by omega)
    have f5 : ((192 : Int) ≤ (b : Int)) = True := eq_true (by omega)
    have f6 : ((b : Int) < 224) = False := eq_false (by omega)
    have f7 : ((128 : Int) ≤ (b : Int)) = True := eq_true (by omega)
    rw [if_neg (by omega), if_neg (by omega), if_neg (by omega), if_pos (by omega)]
    simp only [h0, h1, e0, e1, hcv, hbe, f1, f2, f3, f4, f5, f6, f7, go_sem, Nat.reduceEqDiff, reduceIte, Int.reduceEq, Int.reduceLT, Int.reduceLE, Nat.reduceAdd, Nat.reduceLT, Nat.reduceLeDiff, Int.reduceToNat, Int.reduceSub, Int.reduceAdd, Int.reduceNeg]
    repeat (refine ⟨by omega, ?_⟩)
    rfl
  have f1 : ((240 : Int) ≤ (b : Int)) = False := eq_false (by omega)
  rw [if_neg (by omega)]
  by_cases a3 : 224 ≤ b
  · have f3 : ((224 : Int) ≤ (b : Int)) = True := eq_true (by omega)
    have f4 : ((b : Int) < 240) = True := eq_true (by omega)
    have hw : IntKind.i64.wrap ((b : Int) - 224) = (b : Int) - 224 := wrap64 (by omega) (by omega)
    rw [if_pos (by omega)]
    by_cases hlen : i + 3 ≤ s.length
    case neg =>
      have k1 : ((s.length : Int) < ((i + 3 : Nat) : Int)) = True := eq_true (by omega)
      have hwn : IntKind.i64.wrap ((i : Int) + 3) = ((i + 3 : Nat) : Int) := by rw [wrap64 (by omega) (by omega)]; rfl
      simp only [h0, h1, e0, e1, hcv, hbe, f1, f3, f4, hw, k1, hwn, go_sem, Nat.reduceEqDiff, reduceIte, Int.reduceEq, Int.reduceLT, Int.reduceLE, Nat.reduceAdd, Nat.reduceLT, Nat.reduceLeDiff, Int.reduceToNat, Int.reduceSub, Int.reduceAdd, Int.reduceNeg]
      repeat (refine ⟨by omega, ?_⟩)
      unfold finU
      rw [if_pos (by omega)]
      rfl
    have k1 : ((s.length : Int) < ((i + 3 : Nat) : Int)) = False := eq_false (by omega)
    have hwn : IntKind.i64.wrap ((i : Int) + 3) = ((i + 3 : Nat) : Int) := by rw [wrap64 (by omega) (by omega)]; rfl
    simp only [h0, h1, e0, e1, hcv, hbe, f1, f3, f4, hw, k1, hwn, go_sem, Nat.reduceEqDiff, reduceIte, Int.reduceEq, Int.reduceLT, Int.reduceLE, Nat.reduceAdd, Nat.reduceLT, Nat.reduceLeDiff, Int.reduceToNat, Int.reduceSub, Int.reduceAdd, Int.reduceNeg]
    refine xrun_cut _ (utf_cont s i 3 ((b : Int) - 224) (.int .i64 2048) (by omega) (by omega) hlen hs (by omega) (by omega) (by simp only [h0, h1, e0, e1, hcv, hbe, go_sem, Nat.reduceEqDiff, reduceIte, Int.reduceEq, Int.reduceLT, Int.reduceLE, Nat.reduceAdd, Nat.reduceLT, Nat.reduceLeDiff, Int.reduceToNat, Int.reduceSub, Int.reduceAdd, Int.reduceNeg]) (by simp only [h0, h1, e0, e1, hcv, hbe, go_sem, Nat.reduceEqDiff, reduceIte, Int.reduceEq, Int.reduceLT, Int.reduceLE, Nat.reduceAdd, Nat.reduceLT, Nat.reduceLeDiff, Int.reduceToNat, Int.reduceSub, Int.reduceAdd, Int.reduceNeg]) (by simp only [h0, h1, e0, e1, hcv, hbe, go_sem, Nat.reduceEqDiff, reduceIte, Int.reduceEq, Int.reduceLT, Int.reduceLE, Nat.reduceAdd, Nat.reduceLT, Nat.reduceLeDiff, Int.reduceToNat, Int.reduceSub, Int.reduceAdd, Int.reduceNeg]; try rfl) (by simp only [h0, h1, e0, e1, hcv, hbe, go_sem, Nat.reduceEqDiff, reduceIte, Int.reduceEq, Int.reduceLT, Int.reduceLE, Nat.reduceAdd, Nat.reduceLT, Nat.reduceLeDiff, Int.reduceToNat, Int.reduceSub, Int.reduceAdd, Int.reduceNeg]; try rfl) (by simp only [h0, h1, e0, e1, hcv, hbe, go_sem, Nat.reduceEqDiff, reduceIte, Int.reduceEq, Int.reduceLT, Int.reduceLE, Nat.reduceAdd, Nat.reduceLT, Nat.reduceLeDiff, Int.reduceToNat, Int.reduceSub, Int.reduceAdd, Int.reduceNeg]; try rfl)) ?_
    clear h0 h1 ρ
    rintro e ρ L ⟨rfl, ⟨rfl, h4, hg⟩ | ⟨rfl, hg, h6, h7, h8⟩⟩
    · simp only [h4, go_sem, Nat.reduceEqDiff, reduceIte, Int.reduceEq, Int.reduceLT, Int.reduceLE, Nat.reduceAdd, Nat.reduceLT, Nat.reduceLeDiff, Int.reduceToNat, Int.reduceSub, Int.reduceAdd, Int.reduceNeg]
      unfold finU
      rw [if_neg (by omega), if_pos hg]
      rfl
    unfold finU
    rw [if_neg (by omega), if_neg (by rw [hg]; decide)]
    generalize cC ((b : Int) - 224) s i (3 - 1) = c at *
    by_cases r1 : c < 2048
    · have m1 : (c < 2048) = True := eq_true r1
      rw [if_pos (.inl r1)]
      simp only [h6, h7, h8, m1, go_sem, Nat.reduceEqDiff, reduceIte, Int.reduceEq, Int.reduceLT, Int.reduceLE, Nat.reduceAdd, Nat.reduceLT, Nat.reduceLeDiff, Int.reduceToNat, Int.reduceSub, Int.reduceAdd, Int.reduceNeg]
      rfl
    have m1 : (c < 2048) = False := eq_false r1
    by_cases r2 : 1114111 < c
    · have m2 : ((1114111 : Int) < c) = True := eq_true r2
      rw [if_pos (.inr (.inl r2))]
      simp only [h6, h7, h8, m1, m2, go_sem, Nat.reduceEqDiff, reduceIte, Int.reduceEq, Int.reduceLT, Int.reduceLE, Nat.reduceAdd, Nat.reduceLT, Nat.reduceLeDiff, Int.reduceToNat, Int.reduceSub, Int.reduceAdd, Int.reduceNeg]
      rfl
    have m2 : ((1114111 : Int) < c) = False := eq_false r2
    by_cases r3 : 55296 ≤ c
    case neg =>
      have m3 : ((55296 : Int) ≤ c) = False := eq_false r3
      rw [if_neg (by omega)]
      simp only [h6, h7, h8, m1, m2, m3, go_sem, Nat.reduceEqDiff, reduceIte, Int.reduceEq, Int.reduceLT, Int.reduceLE, Nat.reduceAdd, Nat.reduceLT, Nat.reduceLeDiff, Int.reduceToNat, Int.reduceSub, Int.reduceAdd, Int.reduceNeg]
      rfl
    have m3 : ((55296 : Int) ≤ c) = True := eq_true r3
    by_cases r4 : c ≤ 57343
    · have m4 : (c ≤ (57343 : Int)) = True := eq_true r4
      rw [if_pos (.inr (.inr ⟨r3, r4⟩))]
      simp only [h6, h7, h8, m1, m2, m3, m4, go_sem, Nat.reduceEqDiff, reduceIte, Int.reduceEq, Int.reduceLT, Int.reduceLE, Nat.reduceAdd, Nat.reduceLT, Nat.reduceLeDiff, Int.reduceToNat, Int.reduceSub, Int.reduceAdd, Int.reduceNeg]
      rfl
    have m4 : (c ≤ (57343 : Int)) = False := eq_false r4
    rw [if_neg (by omega)]
    simp only [h6, h7, h8, m1, m2, m3, m4, go_sem, Nat.reduceEqDiff, reduceIte, Int.reduceEq, Int.reduceLT, Int.reduceLE, Nat.reduceAdd, Nat.reduceLT, Nat.reduceLeDiff, Int.reduceToNat, Int.reduceSub, Int.reduceAdd, Int.reduceNeg]
    rfl
  have f3 : ((224 : Int) ≤ (b : Int)) = False := eq_false (by omega)
  rw [if_neg (by omega)]
  by_cases a4 : 192 ≤ b
  · have f5 : ((192 : Int) ≤ (b : Int)) = True := eq_true (by omega)
    have f6 : ((b : Int) < 224) = True := eq_true (by omega)
    have hw : IntKind.i64.wrap ((b : Int) - 192) = (b : Int) - 192 := wrap64 (by omega) (by omega)
    rw [if_pos (by omega)]
    by_cases hlen : i + 2 ≤ s.length
    case neg =>
      have k1 : ((s.length : Int) < ((i + 2 : Nat) : Int)) = True := eq_true (by omega)
      have hwn : IntKind.i64.wrap ((i : Int) + 2) = ((i + 2 : Nat) : Int) := by rw [wrap64 (by omega) (by omega)]; rfl
      simp only [h0, h1, e0, e1, hcv, hbe, f1, f3, f5, f6, hw, k1, hwn, go_sem, Nat.reduceEqDiff, reduceIte, Int.reduceEq, Int.reduceLT, Int.reduceLE, Nat.reduceAdd, Nat.reduceLT, Nat.reduceLeDiff, Int.reduceToNat, Int.reduceSub, Int.reduceAdd, Int.reduceNeg]
      repeat (refine ⟨by omega, ?_⟩)
      unfold finU
      rw [if_pos (by omega)]
      rfl
    have k1 : ((s.length : Int) < ((i + 2 : Nat) : Int)) = False := eq_false (by omega)
    have hwn : IntKind.i64.wrap ((i : Int) + 2) = ((i + 2 : Nat) : Int) := by rw [wrap64 (by omega) (by omega)]; rfl
    simp only [h0, h1, e0, e1, hcv, hbe, f1, f3, f5, f6, hw, k1, hwn, go_sem, Nat.reduceEqDiff, reduceIte, Int.reduceEq, Int.reduceLT, Int.reduceLE, Nat.reduceAdd, Nat.reduceLT, Nat.reduceLeDiff, Int.reduceToNat, Int.reduceSub, Int.reduceAdd, Int.reduceNeg]
    refine xrun_cut _ (utf_cont s i 2 ((b : Int) - 192) (.int .i64 128) (by omega) (by omega) hlen hs (by omega) (by omega) (by simp only [h0, h1, e0, e1, hcv, hbe, go_sem, Nat.reduceEqDiff, reduceIte, Int.reduceEq, Int.reduceLT, Int.reduceLE, Nat.reduceAdd, Nat.reduceLT, Nat.reduceLeDiff, Int.reduceToNat, Int.reduceSub, Int.reduceAdd, Int.reduceNeg]) (by simp only [h0, h1, e0, e1, hcv, hbe, go_sem, Nat.reduceEqDiff, reduceIte, Int.reduceEq, Int.reduceLT, Int.reduceLE, Nat.reduceAdd, Nat.reduceLT, Nat.reduceLeDiff, Int.reduceToNat, Int.reduceSub, Int.reduceAdd, Int.reduceNeg]) (by simp only [h0, h1, e0, e1, hcv, hbe, go_sem, Nat.reduceEqDiff, reduceIte, Int.reduceEq, Int.reduceLT, Int.reduceLE, Nat.reduceAdd, Nat.reduceLT, Nat.reduceLeDiff, Int.reduceToNat, Int.reduceSub, Int.reduceAdd, Int.reduceNeg]; try rfl) (by simp only [h0, h1, e0, e1, hcv, hbe, go_sem, Nat.reduceEqDiff, reduceIte, Int.reduceEq, Int.reduceLT, Int.reduceLE, Nat.reduceAdd, Nat.reduceLT, Nat.reduceLeDiff, Int.reduceToNat, Int.reduceSub, Int.reduceAdd, Int.reduceNeg]; try rfl) (by simp only [h0, h1, e0, e1, hcv, hbe, go_sem, Nat.reduceEqDiff, reduceIte, Int.reduceEq, Int.reduceLT, Int.reduceLE, Nat.reduceAdd, Nat.reduceLT, Nat.reduceLeDiff, Int.reduceToNat, Int.reduceSub, Int.reduceAdd, Int.reduceNeg]; try rfl)) ?_
    clear h0 h1 ρ
    rintro e ρ L ⟨rfl, ⟨rfl, h4, hg⟩ | ⟨rfl, hg, h6, h7, h8⟩⟩
    · simp only [h4, go_sem, Nat.reduceEqDiff, reduceIte, Int.reduceEq, Int.reduceLT, Int.reduceLE, Nat.reduceAdd, Nat.reduceLT, Nat.reduceLeDiff, Int.reduceToNat, Int.reduceSub, Int.reduceAdd, Int.reduceNeg]
      unfold finU
      rw [if_neg (by omega), if_pos hg]
      rfl
    unfold finU
    rw [if_neg (by omega), if_neg (by rw [hg]; decide)]
    generalize cC ((b : Int) - 192) s i (2 - 1) = c at *
    by_cases r1 : c < 128
    · have m1 : (c < 128) = True := eq_true r1
      rw [if_pos (.inl r1)]
      simp only [h6, h7, h8, m1, go_sem, Nat.reduceEqDiff, reduceIte, Int.reduceEq, Int.reduceLT, Int.reduceLE, Nat.reduceAdd, Nat.reduceLT, Nat.reduceLeDiff, Int.reduceToNat, Int.reduceSub, Int.reduceAdd, Int.reduceNeg]
      rfl
    have m1 : (c < 128) = False := eq_false r1
    by_cases r2 : 1114111 < c
    · have m2 : ((1114111 : Int) < c) = True := eq_true r2
      rw [if_pos (.inr (.inl r2))]
      simp only [h6, h7, h8, m1, m2, go_sem, Nat.reduceEqDiff, reduceIte, Int.reduceEq, Int.reduceLT, Int.reduceLE, Nat.reduceAdd, Nat.reduceLT, Nat.reduceLeDiff, Int.reduceToNat, Int.reduceSub, Int.reduceAdd, Int.reduceNeg]
      rfl
    have m2 : ((1114111 : Int) < c) = False := eq_false r2
    by_cases r3 : 55296 ≤ c
    case neg =>
      have m3 : ((55296 : Int) ≤ c) = False := eq_false r3
      rw [if_neg (by omega)]
      simp only [h6, h7, h8, m1, m2, m3, go_sem, Nat.reduceEqDiff, reduceIte, Int.reduceEq, Int.reduceLT, Int.reduceLE, Nat.reduceAdd, Nat.reduceLT, Nat.reduceLeDiff, Int.reduceToNat, Int.reduceSub, Int.reduceAdd, Int.reduceNeg]
      rfl
    have m3 : ((55296 : Int) ≤ c) = True := eq_true r3
    by_cases r4 : c ≤ 57343
    · have m4 : (c ≤ (57343 : Int)) = True := eq_true r4
      rw [if_pos (.inr (.inr ⟨r3, r4⟩))]
      simp only [h6, h7, h8, m1, m2, m3, m4, go_sem, Nat.reduceEqDiff, reduceIte, Int.reduceEq, Int.reduceLT, Int.reduceLE, Nat.reduceAdd, Nat.reduceLT, Nat.reduceLeDiff, Int.reduceToNat, Int.reduceSub, Int.reduceAdd, Int.reduceNeg]
      rfl
    have m4 : (c ≤ (57343 : Int)) = False := eq_false r4
    rw [if_neg (by omega)]
    simp only [h6, h7, h8, m1, m2, m3, m4, go_sem, Nat.reduceEqDiff, reduceIte, Int.reduceEq, Int.reduceLT, Int.reduceLE, Nat.reduceAdd, Nat.reduceLT, Nat.reduceLeDiff, Int.reduceToNat, Int.reduceSub, Int.reduceAdd, Int.reduceNeg]
    rfl
  have f5 : ((192 : Int) ≤ (b : Int)) = False := eq_false (by omega)
  rw [if_neg (by omega)]
  by_cases a5 : 128 ≤ b
  · have f7 : ((128 : Int) ≤ (b : Int)) = True := eq_true (by omega)
    rw [if_pos a5]
    simp only [h0, h1, e0, e1, hcv, hbe, f1, f3, f5, f7, go_sem, Nat.reduceEqDiff, reduceIte, Int.reduceEq, Int.reduceLT, Int.reduceLE, Nat.reduceAdd, Nat.reduceLT, Nat.reduceLeDiff, Int.reduceToNat, Int.reduceSub, Int.reduceAdd, Int.reduceNeg]
    repeat (refine ⟨by omega, ?_⟩)
    rfl
  have f7 : ((128 : Int) ≤ (b : Int)) = False := eq_false (by omega)
  rw [if_neg a5]
  by_cases hlen : i + 1 ≤ s.length
  case neg =>
    have k1 : ((s.length : Int) < ((i + 1 : Nat) : Int)) = True := eq_true (by omega)
    have hwn : IntKind.i64.wrap ((i : Int) + 1) = ((i + 1 : Nat) : Int) := by rw [wrap64 (by omega) (by omega)]; rfl
    simp only [h0, h1, e0, e1, hcv, hbe, f1, f3, f5, f7, k1, hwn, go_sem, Nat.reduceEqDiff, reduceIte, Int.reduceEq, Int.reduceLT, Int.reduceLE, Nat.reduceAdd, Nat.reduceLT, Nat.reduceLeDiff, Int.reduceToNat, Int.reduceSub, Int.reduceAdd, Int.reduceNeg]
    repeat (refine ⟨by omega, ?_⟩)
    unfold finU
    rw [if_pos (by omega)]
    rfl
  have k1 : ((s.length : Int) < ((i + 1 : Nat) : Int)) = False := eq_false (by omega)
  have hwn : IntKind.i64.wrap ((i : Int) + 1) = ((i + 1 : Nat) : Int) := by rw [wrap64 (by omega) (by omega)]; rfl
  simp only [h0, h1, e0, e1, hcv, hbe, f1, f3, f5, f7, k1, hwn, go_sem, Nat.reduceEqDiff, reduceIte, Int.reduceEq, Int.reduceLT, Int.reduceLE, Nat.reduceAdd, Nat.reduceLT, Nat.reduceLeDiff, Int.reduceToNat, Int.reduceSub, Int.reduceAdd, Int.reduceNeg]
  refine xrun_cut _ (utf_cont s i 1 ((b : Int)) (.int .i64 0) (by omega) (by omega) hlen hs (by omega) (by omega) (by simp only [h0, h1, e0, e1, hcv, hbe, go_sem, Nat.reduceEqDiff, reduceIte, Int.reduceEq, Int.reduceLT, Int.reduceLE, Nat.reduceAdd, Nat.reduceLT, Nat.reduceLeDiff, Int.reduceToNat, Int.reduceSub, Int.reduceAdd, Int.reduceNeg]) (by simp only [h0, h1, e0, e1, hcv, hbe, go_sem, Nat.reduceEqDiff, reduceIte, Int.reduceEq, Int.reduceLT, Int.reduceLE, Nat.reduceAdd, Nat.reduceLT, Nat.reduceLeDiff, Int.reduceToNat, Int.reduceSub, Int.reduceAdd, Int.reduceNeg]) (by simp only [h0, h1, e0, e1, hcv, hbe, go_sem, Nat.reduceEqDiff, reduceIte, Int.reduceEq, Int.reduceLT, Int.reduceLE, Nat.reduceAdd, Nat.reduceLT, Nat.reduceLeDiff, Int.reduceToNat, Int.reduceSub, Int.reduceAdd, Int.reduceNeg]; try rfl) (by simp only [h0, h1, e0, e1, hcv, hbe, go_sem, Nat.reduceEqDiff, reduceIte, Int.reduceEq, Int.reduceLT, Int.reduceLE, Nat.reduceAdd, Nat.reduceLT, Nat.reduceLeDiff, Int.reduceToNat, Int.reduceSub, Int.reduceAdd, Int.reduceNeg]; try rfl) (by simp only [h0, h1, e0, e1, hcv, hbe, go_sem, Nat.reduceEqDiff, reduceIte, Int.reduceEq, Int.reduceLT, Int.reduceLE, Nat.reduceAdd, Nat.reduceLT, Nat.reduceLeDiff, Int.reduceToNat, Int.reduceSub, Int.reduceAdd, Int.reduceNeg]; try rfl)) ?_
  clear h0 h1 ρ
  rintro e ρ L ⟨rfl, ⟨rfl, h4, hg⟩ | ⟨rfl, hg, h6, h7, h8⟩⟩
  · simp only [h4, go_sem, Nat.reduceEqDiff, reduceIte, Int.reduceEq, Int.reduceLT, Int.reduceLE, Nat.reduceAdd, Nat.reduceLT, Nat.reduceLeDiff, Int.reduceToNat, Int.reduceSub, Int.reduceAdd, Int.reduceNeg]
    unfold finU
    rw [if_neg (by omega), if_pos hg]
    rfl
  unfold finU
  rw [if_neg (by omega), if_neg (by rw [hg]; decide)]
  generalize cC ((b : Int)) s i (1 - 1) = c at *
  by_cases r1 : c < 0
  · have m1 : (c < 0) = True := eq_true r1
    rw [if_pos (.inl r1)]
    simp only [h6, h7, h8, m1, go_sem, Nat.reduceEqDiff, reduceIte, Int.reduceEq, Int.reduceLT, Int.reduceLE, Nat.reduceAdd, Nat.reduceLT, Nat.reduceLeDiff, Int.reduceToNat, Int.reduceSub, Int.reduceAdd, Int.reduceNeg]
    rfl
  have m1 : (c < 0) = False := eq_false r1
  by_cases r2 : 1114111 < c
  · have m2 : ((1114111 : Int) < c) = True := eq_true r2
    rw [if_pos (.inr (.inl r2))]
    simp only [h6, h7, h8, m1, m2, go_sem, Nat.reduceEqDiff, reduceIte, Int.reduceEq, Int.reduceLT, Int.reduceLE, Nat.reduceAdd, Nat.reduceLT, Nat.reduceLeDiff, Int.reduceToNat, Int.reduceSub, Int.reduceAdd, Int.reduceNeg]
    rfl
  have m2 : ((1114111 : Int) < c) = False := eq_false r2
  by_cases r3 : 55296 ≤ c
  case neg =>
    have m3 : ((55296 : Int) ≤ c) = False := eq_false r3
    rw [if_neg (by omega)]
    simp only [h6, h7, h8, m1, m2, m3, go_sem, Nat.reduceEqDiff, reduceIte, Int.reduceEq, Int.reduceLT, Int.reduceLE, Nat.reduceAdd, Nat.reduceLT, Nat.reduceLeDiff, Int.reduceToNat, Int.reduceSub, Int.reduceAdd, Int.reduceNeg]
    rfl
  have m3 : ((55296 : Int) ≤ c) = True := eq_true r3
  by_cases r4 : c ≤ 57343
  · have m4 : (c ≤ (57343 : Int)) = True := eq_true r4
    rw [if_pos (.inr (.inr ⟨r3, r4⟩))]
    simp only [h6, h7, h8, m1, m2, m3, m4, go_sem, Nat.reduceEqDiff, reduceIte, Int.reduceEq, Int.reduceLT, Int.reduceLE, Nat.reduceAdd, Nat.reduceLT, Nat.reduceLeDiff, Int.reduceToNat, Int.reduceSub, Int.reduceAdd, Int.reduceNeg]
    rfl
  have m4 : (c ≤ (57343 : Int)) = False := eq_false r4
  rw [if_neg (by omega)]
  simp only [h6, h7, h8, m1, m2, m3, m4, go_sem, Nat.reduceEqDiff, reduceIte, Int.reduceEq, Int.reduceLT, Int.reduceLE, Nat.reduceAdd, Nat.reduceLT, Nat.reduceLeDiff, Int.reduceToNat, Int.reduceSub, Int.reduceAdd, Int.reduceNeg]
  rfl
end
end Go.X.TryzW
end
section
open Go Go.X Go.Proofs
set_option maxRecDepth 100000
set_option maxHeartbeats 4000000
set_option linter.unusedSimpArgs false
set_option linter.unusedVariables false
namespace Go.X.TryzW
section
variable {E : Env} {L : List Blk} {K : IV → List Blk → Prop}
theorem get_ba (l : List UInt8) (k : Nat) : (⟨l.toArray⟩ : ByteArray).get! k = l.getD k 0 := by
  show (l.toArray)[k]! = _
  rw [List.getD_eq_getElem?_getD]
  by_cases h : k < l.length
  · rw [getElem!_pos l.toArray k (by simpa using h), List.getElem?_eq_getElem h]; simp
  · rw [getElem!_neg l.toArray k (by simpa using h), List.getElem?_eq_none (by omega)]; rfl
theorem decodeL_eq (s : List UInt8) (i : Nat) : Lib.decodeL (s.drop i) = Lib.decodeN (s.length - i) (s.getD i 0).toNat (s.getD (i + 1) 0).toNat (s.getD (i + 2) 0).toNat (s.getD (i + 3) 0).toNat := by
  unfold Lib.decodeL
  rw [Lib.decode_at]
  simp only [get_ba]
  have e : ∀ k, (s.drop i).getD k 0 = s.getD (i + k) 0 := fun k => by rw [List.getD_eq_getElem?_getD, List.getD_eq_getElem?_getD, List.getElem?_drop]
  simp only [e]
  rw [show (⟨(s.drop i).toArray⟩ : ByteArray).size - 0 = s.length - i by simp [ByteArray.size]]
  simp
theorem gC0 (s : List UInt8) (i : Nat) : (gC s i 0 = false) = False := by simp [gC]
theorem gC1 (s : List UInt8) (i : Nat) : (gC s i 1 = false) = ¬ (128 ≤ (s.getD (i + 1) 0).toNat ∧ (s.getD (i + 1) 0).toNat < 192) := by
  unfold gC gC goodC
  rw [Bool.true_and, decide_eq_false_iff_not]
theorem gC2 (s : List UInt8) (i : Nat) : (gC s i 2 = false) = ¬ ((128 ≤ (s.getD (i + 1) 0).toNat ∧ (s.getD (i + 1) 0).toNat < 192) ∧ (128 ≤ (s.getD (i + 2) 0).toNat ∧ (s.getD (i + 2) 0).toNat < 192)) := by
  unfold gC gC gC goodC
  rw [Bool.true_and, ← Bool.decide_and, decide_eq_false_iff_not]
theorem gC3 (s : List UInt8) (i : Nat) : (gC s i 3 = false) = ¬ (((128 ≤ (s.getD (i + 1) 0).toNat ∧ (s.getD (i + 1) 0).toNat < 192) ∧ (128 ≤ (s.getD (i + 2) 0).toNat ∧ (s.getD (i + 2) 0).toNat < 192)) ∧ (128 ≤ (s.getD (i + 3) 0).toNat ∧ (s.getD (i + 3) 0).toNat < 192)) := by
  unfold gC gC gC gC goodC
  rw [Bool.true_and, ← Bool.decide_and, ← Bool.decide_and, decide_eq_false_iff_not]
theorem rhs_bad : (if ((65533, 1) : Nat × Nat).1 = 65533 ∧ ((65533, 1) : Nat × Nat).2 = 1 then 0 else ((65533, 1) : Nat × Nat).2) = 0 := if_pos ⟨rfl, rfl⟩
theorem rhs_ok (c n : Nat) (hn : n ≠ 1) : (if ((c, n) : Nat × Nat).1 = 65533 ∧ ((c, n) : Nat × Nat).2 = 1 then 0 else ((c, n) : Nat × Nat).2) = n := if_neg (fun h => hn h.2)
theorem utf_dec (s : List UInt8) (i : Nat) (hi : i < s.length) : utfR s i = if (Lib.decodeL (s.drop i)).1 = 65533 ∧ (Lib.decodeL (s.drop i)).2 = 1 then 0 else (Lib.decodeL (s.drop i)).2 := by
  rw [decodeL_eq]
  have c1 : cC (((s.getD i 0).toNat : Int) - 192) s i 1 = 64 * (((s.getD i 0).toNat : Int) - 192) + ((s.getD (i + 1) 0).toNat : Int) - 128 := rfl
  have c2 : cC (((s.getD i 0).toNat : Int) - 224) s i 2 = 64 * (64 * (((s.getD i 0).toNat : Int) - 224) + ((s.getD (i + 1) 0).toNat : Int) - 128) + ((s.getD (i + 2) 0).toNat : Int) - 128 := rfl
  have c3 : cC (((s.getD i 0).toNat : Int) - 240) s i 3 = 64 * (64 * (64 * (((s.getD i 0).toNat : Int) - 240) + ((s.getD (i + 1) 0).toNat : Int) - 128) + ((s.getD (i + 2) 0).toNat : Int) - 128) + ((s.getD (i + 3) 0).toNat : Int) - 128 := rfl
  have c0 : cC ((s.getD i 0).toNat : Int) s i 0 = ((s.getD i 0).toNat : Int) := rfl
  have g0 := gC0 s i
  have g1 := gC1 s i
  have g2 := gC2 s i
  have g3 := gC3 s i
  have l0 := (s.getD i 0).toNat_lt
  have l1 := (s.getD (i + 1) 0).toNat_lt
  have l2 := (s.getD (i + 2) 0).toNat_lt
  have l3 := (s.getD (i + 3) 0).toNat_lt
  unfold utfR finU
  simp only [Nat.reduceSub, c0, c1, c2, c3, g0, g1, g2, g3, Nat.sub_self]
  clear c0 c1 c2 c3 g0 g1 g2 g3
  generalize (s.getD i 0).toNat = b0 at *
  generalize (s.getD (i + 1) 0).toNat = b1 at *
  generalize (s.getD (i + 2) 0).toNat = b2 at *
  generalize (s.getD (i + 3) 0).toNat = b3 at *
  obtain ⟨m, hm⟩ : ∃ m, s.length = i + m := ⟨s.length - i, by omega⟩
  have hm0 : 0 < m := by omega
  rw [hm, show i + m - i = m by omega]
  simp only [Nat.add_lt_add_iff_left]
  clear hm hi
  by_cases a1 : b0 < 128
  · have hd : Lib.decodeN m b0 b1 b2 b3 = (b0, 1) := by unfold Lib.decodeN; rw [if_pos a1]
    rw [hd, if_neg (by omega), if_neg (by omega), if_neg (by omega), if_neg (by omega)]
    rw [if_neg (by omega), if_neg (fun h => h), if_neg (by omega), if_neg (by simp; omega)]
  by_cases a2 : b0 < 192
  · have hd : Lib.decodeN m b0 b1 b2 b3 = (65533, 1) := by
      unfold Lib.decodeN
      rw [if_neg a1, if_neg (by omega), if_neg (by omega), if_neg (by omega)]
    rw [hd, if_neg (by omega), if_neg (by omega), if_neg (by omega), if_pos (by omega), if_pos ⟨rfl, rfl⟩]
  by_cases a3 : b0 < 224
  · have hd : Lib.decodeN m b0 b1 b2 b3 = if (1 < m ∧ b1 / 64 = 2) ∧ b0 % 32 * 64 + b1 % 64 ≥ 128 then (b0 % 32 * 64 + b1 % 64, 2) else (65533, 1) := by
      unfold Lib.decodeN
      rw [if_neg a1]
      by_cases q : 1 < m ∧ b1 / 64 = 2
      · rw [if_pos ⟨by omega, q⟩]
        by_cases q2 : b0 % 32 * 64 + b1 % 64 ≥ 128
        · rw [if_pos q2, if_pos ⟨q, q2⟩]
        · rw [if_neg q2, if_neg (fun h => q2 h.2)]
      · rw [if_neg (fun h => q h.2), if_neg (by omega), if_neg (by omega), if_neg (fun h => q h.1)]
    by_cases q : (1 < m ∧ b1 / 64 = 2) ∧ b0 % 32 * 64 + b1 % 64 ≥ 128
    · rw [hd, if_pos q, rhs_ok _ _ (by decide)]
      rw [if_neg (by omega), if_neg (by omega), if_pos (by omega)]
      rw [if_neg (by omega), if_neg (fun h => h (by omega)), if_neg (by omega)]
    · rw [hd, if_neg q, rhs_bad]
      rw [if_neg (by omega), if_neg (by omega), if_pos (by omega)]
      split
      · rfl
      split
      · rfl
      split
      · rfl
      exfalso
      rename_i h1 h2 h3
      have h2' := Decidable.of_not_not h2
      omega
  by_cases a4 : b0 < 240
  · have hd : Lib.decodeN m b0 b1 b2 b3 = if ((1 < m ∧ b1 / 64 = 2) ∧ (2 < m ∧ b2 / 64 = 2)) ∧ (b0 % 16 * 4096 + b1 % 64 * 64 + b2 % 64 ≥ 2048 ∧ (b0 % 16 * 4096 + b1 % 64 * 64 + b2 % 64 < 55296 ∨ (57344 ≤ b0 % 16 * 4096 + b1 % 64 * 64 + b2 % 64 ∧ b0 % 16 * 4096 + b1 % 64 * 64 + b2 % 64 ≤ 1114111))) then (b0 % 16 * 4096 + b1 % 64 * 64 + b2 % 64, 3) else (65533, 1) := by
      unfold Lib.decodeN
      rw [if_neg a1, if_neg (by omega)]
      by_cases q : (1 < m ∧ b1 / 64 = 2) ∧ (2 < m ∧ b2 / 64 = 2)
      · rw [if_pos ⟨by omega, q.1, q.2⟩]
        by_cases q2 : b0 % 16 * 4096 + b1 % 64 * 64 + b2 % 64 ≥ 2048 ∧ (b0 % 16 * 4096 + b1 % 64 * 64 + b2 % 64 < 55296 ∨ (57344 ≤ b0 % 16 * 4096 + b1 % 64 * 64 + b2 % 64 ∧ b0 % 16 * 4096 + b1 % 64 * 64 + b2 % 64 ≤ 1114111))
        · rw [if_pos q2, if_pos ⟨q, q2⟩]
        · rw [if_neg q2, if_neg (fun h => q2 h.2)]
      · rw [if_neg (fun h => q ⟨h.2.1, h.2.2⟩), if_neg (by omega), if_neg (fun h => q h.1)]
    by_cases q : ((1 < m ∧ b1 / 64 = 2) ∧ (2 < m ∧ b2 / 64 = 2)) ∧ (b0 % 16 * 4096 + b1 % 64 * 64 + b2 % 64 ≥ 2048 ∧ (b0 % 16 * 4096 + b1 % 64 * 64 + b2 % 64 < 55296 ∨ (57344 ≤ b0 % 16 * 4096 + b1 % 64 * 64 + b2 % 64 ∧ b0 % 16 * 4096 + b1 % 64 * 64 + b2 % 64 ≤ 1114111)))
    · rw [hd, if_pos q, rhs_ok _ _ (by decide)]
      rw [if_neg (by omega), if_pos (by omega)]
      rw [if_neg (by omega), if_neg (fun h => h (by omega)), if_neg (by omega)]
    · rw [hd, if_neg q, rhs_bad]
      rw [if_neg (by omega), if_pos (by omega)]
      split
      · rfl
      split
      · rfl
      split
      · rfl
      exfalso
      rename_i h1 h2 h3
      have h2' := Decidable.of_not_not h2
      omega
  by_cases a5 : b0 < 248
  · have hd : Lib.decodeN m b0 b1 b2 b3 = if ((1 < m ∧ b1 / 64 = 2) ∧ (2 < m ∧ b2 / 64 = 2) ∧ (3 < m ∧ b3 / 64 = 2)) ∧ (b0 % 8 * 262144 + b1 % 64 * 4096 + b2 % 64 * 64 + b3 % 64 ≥ 65536 ∧ (b0 % 8 * 262144 + b1 % 64 * 4096 + b2 % 64 * 64 + b3 % 64 < 55296 ∨ (57344 ≤ b0 % 8 * 262144 + b1 % 64 * 4096 + b2 % 64 * 64 + b3 % 64 ∧ b0 % 8 * 262144 + b1 % 64 * 4096 + b2 % 64 * 64 + b3 % 64 ≤ 1114111))) then (b0 % 8 * 262144 + b1 % 64 * 4096 + b2 % 64 * 64 + b3 % 64, 4) else (65533, 1) := by
      unfold Lib.decodeN
      rw [if_neg a1, if_neg (by omega), if_neg (by omega)]
      by_cases q : (1 < m ∧ b1 / 64 = 2) ∧ (2 < m ∧ b2 / 64 = 2) ∧ (3 < m ∧ b3 / 64 = 2)
      · rw [if_pos ⟨by omega, q⟩]
        by_cases q2 : (b0 % 8 * 262144 + b1 % 64 * 4096 + b2 % 64 * 64 + b3 % 64 ≥ 65536 ∧ (b0 % 8 * 262144 + b1 % 64 * 4096 + b2 % 64 * 64 + b3 % 64 < 55296 ∨ (57344 ≤ b0 % 8 * 262144 + b1 % 64 * 4096 + b2 % 64 * 64 + b3 % 64 ∧ b0 % 8 * 262144 + b1 % 64 * 4096 + b2 % 64 * 64 + b3 % 64 ≤ 1114111)))
        · rw [if_pos q2, if_pos ⟨q, q2⟩]
        · rw [if_neg q2, if_neg (fun h => q2 h.2)]
      · rw [if_neg (fun h => q h.2), if_neg (fun h => q h.1)]
    by_cases q : ((1 < m ∧ b1 / 64 = 2) ∧ (2 < m ∧ b2 / 64 = 2) ∧ (3 < m ∧ b3 / 64 = 2)) ∧ (b0 % 8 * 262144 + b1 % 64 * 4096 + b2 % 64 * 64 + b3 % 64 ≥ 65536 ∧ (b0 % 8 * 262144 + b1 % 64 * 4096 + b2 % 64 * 64 + b3 % 64 < 55296 ∨ (57344 ≤ b0 % 8 * 262144 + b1 % 64 * 4096 + b2 % 64 * 64 + b3 % 64 ∧ b0 % 8 * 262144 + b1 % 64 * 4096 + b2 % 64 * 64 + b3 % 64 ≤ 1114111)))
    · rw [hd, if_pos q, rhs_ok _ _ (by decide)]
      rw [if_pos (by omega)]
      rw [if_neg (by omega), if_neg (fun h => h (by omega)), if_neg (by omega)]
    · rw [hd, if_neg q, rhs_bad]
      rw [if_pos (by omega)]
      split
      · rfl
      split
      · rfl
      split
      · rfl
      exfalso
      rename_i h1 h2 h3
      have h2' := Decidable.of_not_not h2
      omega
  · have hd : Lib.decodeN m b0 b1 b2 b3 = (65533, 1) := by
      unfold Lib.decodeN
      rw [if_neg a1, if_neg (by omega), if_neg (by omega), if_neg (by omega)]
    rw [hd, rhs_bad, if_neg (by omega), if_neg (by omega), if_neg (by omega), if_pos (by omega)]
theorem utf_le (s : List UInt8) (i : Nat) : utfR s i ≤ 4 ∧ i + utfR s i ≤ max s.length i := by
  unfold utfR
  repeat' split
  all_goals first | (simp; done) | (unfold finU; repeat' split) | skip
  all_goals omega
theorem rvalid_pure (hP : E.P = Tryz.prog) (s : List UInt8) (hs : s.length ≤ 140737488351232) : XPure E 17 [.str s] (.bool (Lib.validD s)) := by
  refine xpure1 (n := Tryz.f17.ntmps) (c := y17) (t := 2) (by rw [hP]; rfl) (by rw [hP]; kernel_rfl) (by decide) (Nat.le_of_ble_eq_true rfl) ?_
  generalize hρ : entry _ = ρ
  have h0 : ρ 0 = .str s := by rw [← hρ]; rfl
  clear hρ
  unfold y17
  simp only [h0, go_sem, Nat.reduceEqDiff, reduceIte, Int.reduceEq, Int.reduceLT, Int.reduceLE, Nat.reduceAdd, Nat.reduceLT, Nat.reduceLeDiff, Int.reduceToNat, Int.reduceSub, Int.reduceAdd, Int.reduceNeg]
  refine s_loop (fun n ρ L => ∃ j : Nat, j ≤ s.length ∧ n = s.length - j ∧ L = [] ∧ ρ 0 = .str s ∧ ρ 3 = .int .i64 j ∧ Lib.validD s = Lib.validD (s.drop j))
    ⟨0, Nat.zero_le _, rfl, rfl, by simp only [h0, go_sem, Nat.reduceEqDiff, reduceIte, Int.reduceEq, Int.reduceLT, Int.reduceLE, Nat.reduceAdd, Nat.reduceLT, Nat.reduceLeDiff, Int.reduceToNat, Int.reduceSub, Int.reduceAdd, Int.reduceNeg], by simp only [go_sem, Nat.reduceEqDiff, reduceIte, Int.reduceEq, Int.reduceLT, Int.reduceLE, Nat.reduceAdd, Nat.reduceLT, Nat.reduceLeDiff, Int.reduceToNat, Int.reduceSub, Int.reduceAdd, Int.reduceNeg]; try rfl, rfl⟩ ?_
  clear h0 ρ
  rintro n ρ L ⟨j, hj, rfl, rfl, h0, h3, hv⟩
  by_cases hjl : j < s.length
  · have e1 : ((j : Int) < (s.length : Int)) = True := eq_true (by omega)
    simp only [h0, h3, e1, go_sem, Nat.reduceEqDiff, reduceIte, Int.reduceEq, Int.reduceLT, Int.reduceLE, Nat.reduceAdd, Nat.reduceLT, Nat.reduceLeDiff, Int.reduceToNat, Int.reduceSub, Int.reduceAdd, Int.reduceNeg]
    refine xcall_pure (args' := [.str s, .int .i64 j]) rfl (utf8_pure (E := E.noPan) hP s j hjl hs) rfl ?_
    have hne : s.drop j ≠ [] := by
      intro h
      have := congrArg List.length h
      rw [List.length_drop] at this
      simp at this; omega
    rw [Lib.validD_step _ hne] at hv
    have hu := utf_dec s j hjl
    have hle := utf_le s j
    by_cases hb : (Lib.decodeL (s.drop j)).1 = 65533 ∧ (Lib.decodeL (s.drop j)).2 = 1
    · rw [if_pos hb] at hv hu
      rw [hu, hv]
      simp only [h0, h3, e1, go_sem, Nat.reduceEqDiff, reduceIte, Int.reduceEq, Int.reduceLT, Int.reduceLE, Nat.reduceAdd, Nat.reduceLT, Nat.reduceLeDiff, Int.reduceToNat, Int.reduceSub, Int.reduceAdd, Int.reduceNeg]
      rfl
    · rw [if_neg hb] at hv hu
      rw [List.drop_drop, ← hu] at hv
      have hz : utfR s j ≠ 0 := by
        intro hz
        rw [hz] at hu
        have := Lib.decodeL_width (s.drop j)
        omega
      generalize utfR s j = u at *
      have k1 : ((u : Int) = 0) = False := eq_false (by omega)
      have hw : IntKind.i64.wrap ((j : Int) + (u : Int)) = ((j + u : Nat) : Int) := by rw [wrap64 (by omega) (by omega)]; omega
      simp only [h0, h3, e1, k1, hw, go_sem, Nat.reduceEqDiff, reduceIte, Int.reduceEq, Int.reduceLT, Int.reduceLE, Nat.reduceAdd, Nat.reduceLT, Nat.reduceLeDiff, Int.reduceToNat, Int.reduceSub, Int.reduceAdd, Int.reduceNeg]
      exact ⟨s.length - (j + u), by omega, j + u, by omega, rfl, rfl, hv⟩
  · have e1 : ((j : Int) < (s.length : Int)) = False := eq_false (by omega)
    rw [List.drop_eq_nil_of_le (by omega)] at hv
    rw [hv]
    simp only [h0, h3, e1, go_sem, Nat.reduceEqDiff, reduceIte, Int.reduceEq, Int.reduceLT, Int.reduceLE, Nat.reduceAdd, Nat.reduceLT, Nat.reduceLeDiff, Int.reduceToNat, Int.reduceSub, Int.reduceAdd, Int.reduceNeg]
    rfl
end
end Go.X.TryzW
end
section
open Go Go.X Go.Proofs
set_option maxRecDepth 100000
set_option maxHeartbeats 4000000
set_option linter.unusedSimpArgs false
set_option linter.unusedVariables false
namespace Go.X.TryzW
/- "tiller/tillerlaw13.plain" params { toList := [9] } results { toList := [Go.ResultVar.tmp 2] } -/
def y18 : XC :=
 (.seq
  (.ops [
    ⟨(some 2), (.mov (.c (.str []))), none⟩])
  (.seq
   (.ops [
     ⟨(some 3), (.mov (.c (.str []))), none⟩])
   (.seq
    (.seq
     (.ops [
       ⟨(some 4), (.mov (.c (.int .i64 0))), none⟩])
     (.block 0
      (.loop
       (.seq
        (.seq
         (.ops [
           ⟨(some 5), (.mov (.t 4)), none⟩,
           ⟨(some 6), (.mov (.t 0)), none⟩,
           ⟨(some 7), (.lenS (.t 6)), none⟩,
           ⟨(some 8), (.bin .lss (.t 5) (.t 7)), none⟩,
           ⟨(some 9), (.mov (.t 8)), none⟩,
           ⟨(some 10), (.mov (.t 4)), (some (9, true))⟩,
           ⟨(some 11), (.bin .lss (.t 10) (.c (.int .i64 60))), (some (9, true))⟩,
           ⟨(some 12), (.pick (.t 9) (.t 11) (.c (.bool false))), none⟩])
         (.cond (.t 12)
          .skip
          (.exit 0)))
        (.seq
         (.block 1
          (.seq
           (.ops [
             ⟨(some 15), (.mov (.t 0)), none⟩,
             ⟨(some 16), (.mov (.t 4)), none⟩,
             ⟨(some 17), (.idx (.t 15) (.t 16)), none⟩,
             ⟨(some 18), (.bin .geq (.t 17) (.c (.int .u8 32))), none⟩,
             ⟨(some 19), (.mov (.t 18)), none⟩,
             ⟨(some 20), (.mov (.t 0)), (some (19, true))⟩,
             ⟨(some 21), (.mov (.t 4)), (some (19, true))⟩,
             ⟨(some 22), (.idx (.t 20) (.t 21)), (some (19, true))⟩,
             ⟨(some 23), (.bin .leq (.t 22) (.c (.int .u8 126))), (some (19, true))⟩,
             ⟨(some 24), (.pick (.t 19) (.t 23) (.c (.bool false))), none⟩])
           (.cond (.t 24)
            (.ops [
              ⟨(some 25), (.mov (.t 3)), none⟩,
              ⟨(some 26), (.mov (.t 0)), none⟩,
              ⟨(some 27), (.mov (.t 4)), none⟩,
              ⟨(some 28), (.mov (.t 4)), none⟩,
              ⟨(some 29), (.bin .add (.t 28) (.c (.int .i64 1))), none⟩,
              ⟨(some 30), (.sliceS (.t 26) (some (.t 27)) (some (.t 29))), none⟩,
              ⟨(some 31), (.bin .add (.t 25) (.t 30)), none⟩,
              ⟨(some 3), (.mov (.t 31)), none⟩])
            .skip)))
         (.ops [
           ⟨(some 13), (.mov (.t 4)), none⟩,
           ⟨(some 14), (.bin .add (.t 13) (.c (.int .i64 1))), none⟩,
           ⟨(some 4), (.mov (.t 14)), none⟩]))))))
    (.seq
     (.ops [
       ⟨(some 32), (.mov (.t 3)), none⟩,
       ⟨(some 2), (.mov (.t 32)), none⟩])
     .ret))))

/- "tiller/tillerlaw13.FrontWhole" params { toList := [9, 33, 4] } results { toList := [Go.ResultVar.tmp 6] } -/
def y5 : XC :=
 (.seq
  (.ops [
    ⟨(some 6), (.mov (.c (.bool false))), none⟩])
  (.seq
   (.seq
    (.ops [
      ⟨(some 14), (.mov (.t 0)), none⟩,
      ⟨(some 15), (.call (.f 17) [(.t 14)]), none⟩,
      ⟨(some 16), (.un .not (.t 15)), none⟩,
      ⟨(some 17), (.mov (.t 16)), none⟩,
      ⟨(some 18), (.mov (.t 0)), (some (17, false))⟩,
      ⟨(some 19), (.lenS (.t 18)), (some (17, false))⟩,
      ⟨(some 20), (.bin .gtr (.t 19) (.c (.int .i64 1000))), (some (17, false))⟩,
      ⟨(some 21), (.pick (.t 17) (.c (.bool true)) (.t 20)), none⟩])
    (.cond (.t 21)
     (.seq
      (.ops [
        ⟨(some 22), (.call (.f 14) []), none⟩,
        ⟨(some 6), (.mov (.t 22)), none⟩])
      .ret)
     .skip))
   (.seq
    (.ops [
      ⟨(some 7), (.mov (.c (.str [80, 79, 83, 84]))), none⟩])
    (.seq
     (.seq
      (.ops [
        ⟨(some 23), (.mov (.t 2)), none⟩])
      (.cond (.t 23)
       (.ops [
         ⟨(some 7), (.mov (.c (.str [71, 69, 84]))), none⟩])
       .skip))
     (.seq
      (.ops [
        ⟨(some 24), (.mov (.t 7)), none⟩,
        ⟨(some 25), (.bin .add (.t 24) (.c (.str [32, 47, 112, 47, 97, 63, 98, 61, 99, 32, 72, 84, 84, 80, 47, 49, 46, 49, 13, 10]))), none⟩,
        ⟨(some 8), (.mov (.t 25)), none⟩])
      (.seq
       (.seq
        (.ops [
          ⟨(some 9), (.mov (.c (.int .i64 0))), none⟩])
        (.block 0
         (.loop
          (.seq
           (.seq
            (.ops [
              ⟨(some 26), (.mov (.t 9)), none⟩,
              ⟨(some 27), (.mov (.t 1)), none⟩,
              ⟨(some 28), (.len (.t 27)), none⟩,
              ⟨(some 29), (.bin .lss (.t 26) (.t 28)), none⟩,
              ⟨(some 30), (.mov (.t 29)), none⟩,
              ⟨(some 31), (.mov (.t 9)), (some (30, true))⟩,
              ⟨(some 32), (.bin .lss (.t 31) (.c (.int .i64 5))), (some (30, true))⟩,
              ⟨(some 33), (.pick (.t 30) (.t 32) (.c (.bool false))), none⟩])
            (.cond (.t 33)
             .skip
             (.exit 0)))
           (.seq
            (.block 1
             (.drawR [(⟨(some 36), (.mov (.t 8)), none⟩, ([], false)), (⟨(some 37), (.bin .add (.t 36) (.c (.str [88, 45]))), none⟩, ([], false)), (⟨(some 38), (.mov (.t 9)), none⟩, ([], false)), (⟨(some 39), (.bin .add (.c (.int .i64 97)) (.t 38)), none⟩, ([], false)), (⟨(some 40), (.cvInt .u8 (.t 39)), none⟩, ([], false)), (⟨(some 41), (.bslice 1 [(.int .u8 0)] 1 [(0, (.t 40))]), none⟩, ([], true)), (⟨(some 42), (.ex .bStr [(.t 41)]), none⟩, ([], false)), (⟨(some 43), (.bin .add (.t 37) (.t 42)), none⟩, ([], false)), (⟨(some 44), (.bin .add (.t 43) (.c (.str [58, 32]))), none⟩, ([], false)), (⟨(some 45), (.mov (.t 1)), none⟩, ([], false)), (⟨(some 46), (.mov (.t 9)), none⟩, ([], false)), (⟨(some 47), (.idxS 1 (.t 45) (.t 46)), none⟩, ([5], false)), (⟨(some 48), (.load1 (.t 47)), none⟩, ([5], false)), (⟨(some 49), (.pcall (.f 18) [(.t 48)]), none⟩, ([5], false)), (⟨(some 50), (.bin .add (.t 44) (.t 49)), none⟩, ([], false)), (⟨(some 51), (.bin .add (.t 50) (.c (.str [13, 10]))), none⟩, ([], false)), (⟨(some 8), (.mov (.t 51)), none⟩, ([], false))]))
            (.ops [
              ⟨(some 34), (.mov (.t 9)), none⟩,
              ⟨(some 35), (.bin .add (.t 34) (.c (.int .i64 1))), none⟩,
              ⟨(some 9), (.mov (.t 35)), none⟩]))))))
       (.seq
        (.ops [
          ⟨(some 52), (.mov (.t 8)), none⟩,
          ⟨(some 53), (.bin .add (.t 52) (.c (.str [67, 79, 78, 84, 69, 78, 84, 45, 108, 101, 110, 103, 116, 104, 58, 32]))), none⟩,
          ⟨(some 54), (.mov (.t 0)), none⟩,
          ⟨(some 55), (.lenS (.t 54)), none⟩,
          ⟨(some 56), (.call (.f 16) [(.t 55)]), none⟩,
          ⟨(some 57), (.bin .add (.t 53) (.t 56)), none⟩,
          ⟨(some 58), (.bin .add (.t 57) (.c (.str [13, 10, 13, 10]))), none⟩,
          ⟨(some 59), (.mov (.t 0)), none⟩,
          ⟨(some 60), (.bin .add (.t 58) (.t 59)), none⟩,
          ⟨(some 8), (.mov (.t 60)), none⟩])
        (.seq
         (.ops [
           ⟨(some 62), (.mov (.t 8)), none⟩,
           ⟨(some 63), (.ex (.strB 5) [(.t 62)]), none⟩,
           ⟨(some 64), (.call (.f 11) [(.t 63)]), none⟩,
           ⟨(some 61), (.mov (.t 64)), none⟩,
           ⟨(some 65), (.ext (.t 61) 0), none⟩,
           ⟨(some 66), (.ext (.t 61) 1), none⟩,
           ⟨(some 67), (.ext (.t 61) 2), none⟩,
           ⟨(some 68), (.ext (.t 61) 3), none⟩,
           ⟨(some 10), (.mov (.t 65)), none⟩,
           ⟨(some 11), (.mov (.t 66)), none⟩,
           ⟨(some 12), (.mov (.t 67)), none⟩,
           ⟨(some 13), (.mov (.t 68)), none⟩])
         (.seq
          (.ops [
            ⟨(some 69), (.mov (.t 10)), none⟩,
            ⟨(some 70), (.mov (.t 7)), none⟩,
            ⟨(some 71), (.bin .eql (.t 69) (.t 70)), none⟩,
            ⟨(some 72), (.mov (.t 71)), none⟩,
            ⟨(some 73), (.mov (.t 11)), (some (72, true))⟩,
            ⟨(some 74), (.bin .eql (.t 73) (.c (.str [47, 112, 47, 97, 63, 98, 61, 99]))), (some (72, true))⟩,
            ⟨(some 75), (.pick (.t 72) (.t 74) (.c (.bool false))), none⟩,
            ⟨(some 76), (.mov (.t 75)), none⟩,
            ⟨(some 77), (.mov (.t 12)), (some (76, true))⟩,
            ⟨(some 78), (.mov (.t 0)), (some (76, true))⟩,
            ⟨(some 79), (.bin .eql (.t 77) (.t 78)), (some (76, true))⟩,
            ⟨(some 80), (.pick (.t 76) (.t 79) (.c (.bool false))), none⟩,
            ⟨(some 81), (.mov (.t 80)), none⟩,
            ⟨(some 82), (.mov (.t 13)), (some (81, true))⟩,
            ⟨(some 83), (.bin .eql (.t 82) (.c (.int .i64 200))), (some (81, true))⟩,
            ⟨(some 84), (.pick (.t 81) (.t 83) (.c (.bool false))), none⟩,
            ⟨(some 85), (.mov (.t 84)), none⟩,
            ⟨(some 86), (.call (.f 14) []), (some (85, true))⟩,
            ⟨(some 87), (.pick (.t 85) (.t 86) (.c (.bool false))), none⟩,
            ⟨(some 6), (.mov (.t 87)), none⟩])
          .ret)))))))))

section
variable {E : Env} {L : List Blk} {K : IV → List Blk → Prop}
def plainF (s : List UInt8) : List UInt8 := (s.take 60).filter (inB 32 126)
theorem plainF_all (s : List UInt8) : (plainF s).all (inB 32 126) = true := by
  rw [List.all_eq_true]
  intro b hb
  exact (List.mem_filter.1 hb).2
theorem plainF_len (s : List UInt8) : (plainF s).length ≤ 60 := by
  have := List.length_filter_le (inB 32 126) (s.take 60)
  rw [List.length_take] at this
  unfold plainF; omega
theorem filt_succ (s : List UInt8) (p : UInt8 → Bool) (j : Nat) (hj : j < s.length) : (s.take (j + 1)).filter p = (s.take j).filter p ++ (if p (s.getD j 0) = true then [s.getD j 0] else []) := by
  rw [List.take_add_one, List.filter_append, List.getElem?_eq_getElem hj, List.getD_eq_getElem?_getD, List.getElem?_eq_getElem hj]
  show _ ++ List.filter p [s[j]] = _
  rw [List.filter_cons, List.filter_nil]
  rfl
theorem plain_pure (hP : E.P = Tryz.prog) (s : List UInt8) : XPure E 18 [.str s] (.str (plainF s)) := by
  refine xpure1 (n := Tryz.f18.ntmps) (c := y18) (t := 2) (by rw [hP]; rfl) (by rw [hP]; kernel_rfl) (by decide) (Nat.le_of_ble_eq_true rfl) ?_
  generalize hρ : entry _ = ρ
  have h0 : ρ 0 = .str s := by rw [← hρ]; rfl
  clear hρ
  unfold y18
  simp only [h0, go_sem, Nat.reduceEqDiff, reduceIte, Int.reduceEq, Int.reduceLT, Int.reduceLE, Nat.reduceAdd, Nat.reduceLT, Nat.reduceLeDiff, Int.reduceToNat, Int.reduceSub, Int.reduceAdd, Int.reduceNeg]
  refine s_loop (fun n ρ L => ∃ j : Nat, j ≤ 60 ∧ j ≤ s.length ∧ n = 60 - j ∧ L = [] ∧ ρ 0 = .str s ∧ ρ 3 = .str ((s.take j).filter (inB 32 126)) ∧ ρ 4 = .int .i64 j)
    (n := 60) ⟨0, Nat.zero_le _, Nat.zero_le _, rfl, rfl, by simp only [h0, go_sem, Nat.reduceEqDiff, reduceIte, Int.reduceEq, Int.reduceLT, Int.reduceLE, Nat.reduceAdd, Nat.reduceLT, Nat.reduceLeDiff, Int.reduceToNat, Int.reduceSub, Int.reduceAdd, Int.reduceNeg], by simp only [go_sem, Nat.reduceEqDiff, reduceIte, Int.reduceEq, Int.reduceLT, Int.reduceLE, Nat.reduceAdd, Nat.reduceLT, Nat.reduceLeDiff, Int.reduceToNat, Int.reduceSub, Int.reduceAdd, Int.reduceNeg]; try rfl, by simp only [go_sem, Nat.reduceEqDiff, reduceIte, Int.reduceEq, Int.reduceLT, Int.reduceLE, Nat.reduceAdd, Nat.reduceLT, Nat.reduceLeDiff, Int.reduceToNat, Int.reduceSub, Int.reduceAdd, Int.reduceNeg]; try rfl⟩ ?_
  clear h0 ρ
  rintro n ρ L ⟨j, hj, hjs, rfl, rfl, h0, h3, h4⟩
  by_cases hi : j < s.length ∧ j < 60
  case neg =>
    have hend : (s.take j).filter (inB 32 126) = plainF s := by
      unfold plainF
      by_cases h : j = 60
      · rw [h]
      · rw [List.take_of_length_le (show s.length ≤ j by omega), List.take_of_length_le (show s.length ≤ 60 by omega)]
    rw [hend] at h3
    by_cases hi1 : j < s.length
    · have e1 : ((j : Int) < (s.length : Int)) = True := eq_true (by omega)
      have e2 : ((j : Int) < 60) = False := eq_false (by omega)
      simp only [h0, h3, h4, e1, e2, go_sem, Nat.reduceEqDiff, reduceIte, Int.reduceEq, Int.reduceLT, Int.reduceLE, Nat.reduceAdd, Nat.reduceLT, Nat.reduceLeDiff, Int.reduceToNat, Int.reduceSub, Int.reduceAdd, Int.reduceNeg]
      rfl
    · have e1 : ((j : Int) < (s.length : Int)) = False := eq_false (by omega)
      simp only [h0, h3, h4, e1, go_sem, Nat.reduceEqDiff, reduceIte, Int.reduceEq, Int.reduceLT, Int.reduceLE, Nat.reduceAdd, Nat.reduceLT, Nat.reduceLeDiff, Int.reduceToNat, Int.reduceSub, Int.reduceAdd, Int.reduceNeg]
      rfl
  obtain ⟨hi1, hi2⟩ := hi
  have e1 : ((j : Int) < (s.length : Int)) = True := eq_true (by omega)
  have e2 : ((j : Int) < 60) = True := eq_true (by omega)
  have hw : IntKind.i64.wrap ((j : Int) + 1) = ((j + 1 : Nat) : Int) := by rw [wrap64 (by omega) (by omega)]; rfl
  have hf := filt_succ s (inB 32 126) j hi1
  have ht1 := take1 s j hi1
  have hin : inB 32 126 (s.getD j 0) = decide (32 ≤ (s.getD j 0).toNat ∧ (s.getD j 0).toNat ≤ 126) := by
    show (!(decide (((s.getD j 0).toNat : Int) < 32) || decide ((126 : Int) < ((s.getD j 0).toNat : Int)))) = _
    rw [Bool.eq_iff_iff]
    simp only [Bool.not_eq_true', Bool.or_eq_false_iff, decide_eq_true_eq, decide_eq_false_iff_not]
    omega
  have hl60 : ((s.take j).filter (inB 32 126)).length ≤ 60 := by
    have := List.length_filter_le (inB 32 126) (s.take j)
    rw [List.length_take] at this
    omega
  by_cases b1 : 32 ≤ (s.getD j 0).toNat
  · have k1 : ((32 : Int) ≤ ((s.getD j 0).toNat : Int)) = True := eq_true (by omega)
    by_cases b2 : (s.getD j 0).toNat ≤ 126
    · have k2 : (((s.getD j 0).toNat : Int) ≤ 126) = True := eq_true (by omega)
      rw [hin, decide_eq_true ⟨b1, b2⟩, if_pos rfl] at hf
      simp only [h0, h3, h4, e1, e2, k1, k2, hw, ht1, go_sem, Nat.reduceEqDiff, reduceIte, Int.reduceEq, Int.reduceLT, Int.reduceLE, Nat.reduceAdd, Nat.reduceLT, Nat.reduceLeDiff, Int.reduceToNat, Int.reduceSub, Int.reduceAdd, Int.reduceNeg]
      refine ⟨by omega, by omega, by omega, 60 - (j + 1), by omega, j + 1, by omega, by omega, rfl, by rw [hf], rfl⟩
    · have k2 : (((s.getD j 0).toNat : Int) ≤ 126) = False := eq_false (by omega)
      rw [hin, decide_eq_false (by omega), if_neg (by decide), List.append_nil] at hf
      simp only [h0, h3, h4, e1, e2, k1, k2, hw, go_sem, Nat.reduceEqDiff, reduceIte, Int.reduceEq, Int.reduceLT, Int.reduceLE, Nat.reduceAdd, Nat.reduceLT, Nat.reduceLeDiff, Int.reduceToNat, Int.reduceSub, Int.reduceAdd, Int.reduceNeg]
      refine ⟨60 - (j + 1), by omega, j + 1, by omega, by omega, rfl, by rw [hf], rfl⟩
  · have k1 : ((32 : Int) ≤ ((s.getD j 0).toNat : Int)) = False := eq_false (by omega)
    rw [hin, decide_eq_false (by omega), if_neg (by decide), List.append_nil] at hf
    simp only [h0, h3, h4, e1, e2, k1, hw, go_sem, Nat.reduceEqDiff, reduceIte, Int.reduceEq, Int.reduceLT, Int.reduceLE, Nat.reduceAdd, Nat.reduceLT, Nat.reduceLeDiff, Int.reduceToNat, Int.reduceSub, Int.reduceAdd, Int.reduceNeg]
    refine ⟨60 - (j + 1), by omega, j + 1, by omega, by omega, rfl, by rw [hf], rfl⟩
/-- The law's headers. -/
def hsL : Nat → List (List UInt8) → List (List UInt8)
  | 0, _ => []
  | j + 1, vals => hsL j vals ++ [hdrL (UInt8.ofNat (97 + j)) (plainF (vals.getD j []))]
theorem hsL_ok (vals : List (List UInt8)) : ∀ j, j ≤ 5 → ∀ h ∈ hsL j vals, ∃ c p, h = hdrL c p ∧ nameF c = true ∧ c ≠ 58 ∧ c ≠ 13 ∧ p.all (inB 32 126) = true
  | 0, _, h, hh => by simp [hsL] at hh
  | j + 1, hj, h, hh => by
    rcases List.mem_append.1 hh with hh | hh
    · exact hsL_ok vals j (by omega) h hh
    · rw [List.mem_singleton] at hh
      have : ∀ k : Fin 5, nameF (UInt8.ofNat (97 + k.val)) = true ∧ UInt8.ofNat (97 + k.val) ≠ 58 ∧ UInt8.ofNat (97 + k.val) ≠ 13 := by decide
      obtain ⟨q1, q2, q3⟩ := this ⟨j, by omega⟩
      exact ⟨_, _, hh, q1, q2, q3, plainF_all _⟩
def flatH (hs : List (List UInt8)) : List UInt8 := hs.flatMap (· ++ [13, 10])
theorem flatH_len (vals : List (List UInt8)) : ∀ j, (flatH (hsL j vals)).length ≤ 67 * j
  | 0 => by simp [flatH, hsL]
  | j + 1 => by
    have := flatH_len vals j
    have h2 := plainF_len (vals.getD j [])
    unfold flatH at *
    unfold hsL
    rw [List.flatMap_append]
    simp only [List.length_append, List.flatMap_cons, List.flatMap_nil, List.append_nil, hdrL, List.length_cons, List.length_nil]
    omega
theorem flatH_succ (vals : List (List UInt8)) (j : Nat) : flatH (hsL (j + 1) vals) = flatH (hsL j vals) ++ (hdrL (UInt8.ofNat (97 + j)) (plainF (vals.getD j [])) ++ [13, 10]) := by
  unfold flatH
  rw [hsL, List.flatMap_append]; simp
theorem whole_pure' (hP : E.P = Tryz.prog) {m : Int} (hm : E.gl 2 = some [.int .i64 m]) (ht : ∀ w, E.G w → Lib.Utf8Tabs 0 1 w) (body : List UInt8) (vals : List (List UInt8)) (g : Bool) (hbd : body.length ≤ 140737488351232) : XPure E 5 [.str body, .isl (sRows vals), .bool g] (.bool true) := by
  refine xpure1 (n := Tryz.f5.ntmps) (c := y5) (t := 6) (by rw [hP]; rfl) (by rw [hP]; kernel_rfl) (by decide) (Nat.le_of_ble_eq_true rfl) ?_
  generalize hρ : entry _ = ρ
  have h0 : ρ 0 = .str body := by rw [← hρ]; rfl
  have h1 : ρ 1 = .isl (sRows vals) := by rw [← hρ]; rfl
  have h2 : ρ 2 = .bool g := by rw [← hρ]; rfl
  clear hρ
  unfold y5
  simp only [h0, h1, h2, go_sem, Nat.reduceEqDiff, reduceIte, Int.reduceEq, Int.reduceLT, Int.reduceLE, Nat.reduceAdd, Nat.reduceLT, Nat.reduceLeDiff, Int.reduceToNat, Int.reduceSub, Int.reduceAdd, Int.reduceNeg]
  refine xcall_pure (args' := [.str body]) rfl (rvalid_pure (E := E.noPan) hP body hbd) rfl ?_
  cases hv : Lib.validD body with
  | false =>
    simp only [h0, h1, h2, go_sem, Nat.reduceEqDiff, reduceIte, Int.reduceEq, Int.reduceLT, Int.reduceLE, Nat.reduceAdd, Nat.reduceLT, Nat.reduceLeDiff, Int.reduceToNat, Int.reduceSub, Int.reduceAdd, Int.reduceNeg]
    refine xcall_pure (args' := []) rfl (wakes_pure (E := E.noPan) hP hm ht) rfl ?_
    simp only [h0, h1, h2, go_sem, Nat.reduceEqDiff, reduceIte, Int.reduceEq, Int.reduceLT, Int.reduceLE, Nat.reduceAdd, Nat.reduceLT, Nat.reduceLeDiff, Int.reduceToNat, Int.reduceSub, Int.reduceAdd, Int.reduceNeg]
    rfl
  | true =>
  by_cases hbig : 1000 < body.length
  · have f1 : ((1000 : Int) < (body.length : Int)) = True := eq_true (by omega)
    simp only [h0, h1, h2, f1, go_sem, Nat.reduceEqDiff, reduceIte, Int.reduceEq, Int.reduceLT, Int.reduceLE, Nat.reduceAdd, Nat.reduceLT, Nat.reduceLeDiff, Int.reduceToNat, Int.reduceSub, Int.reduceAdd, Int.reduceNeg]
    refine xcall_pure (args' := []) rfl (wakes_pure (E := E.noPan) hP hm ht) rfl ?_
    simp only [h0, h1, h2, go_sem, Nat.reduceEqDiff, reduceIte, Int.reduceEq, Int.reduceLT, Int.reduceLE, Nat.reduceAdd, Nat.reduceLT, Nat.reduceLeDiff, Int.reduceToNat, Int.reduceSub, Int.reduceAdd, Int.reduceNeg]
    rfl
  have f1 : ((1000 : Int) < (body.length : Int)) = False := eq_false (by omega)
  cases g with
  | true =>
    simp only [h0, h1, h2, f1, go_sem, Nat.reduceEqDiff, reduceIte, Int.reduceEq, Int.reduceLT, Int.reduceLE, Nat.reduceAdd, Nat.reduceLT, Nat.reduceLeDiff, Int.reduceToNat, Int.reduceSub, Int.reduceAdd, Int.reduceNeg]
    try (refine ⟨by simp, ?_⟩)
    refine xrun_cut (fun e ρ' L' => e = .exit 0 ∧ ∃ j, j ≤ 5 ∧ ρ' 0 = .str body ∧ ρ' 7 = .str (metL true) ∧ ρ' 8 = .str ((metL true ++ lineL) ++ [13, 10] ++ flatH (hsL j vals))) ?_ ?_
    · refine s_loop (fun n ρ L => ∃ j : Nat, j ≤ 5 ∧ n = 5 - j ∧ ρ 0 = .str body ∧ ρ 1 = .isl (sRows vals) ∧ ρ 7 = .str (metL true) ∧ ρ 8 = .str ((metL true ++ lineL) ++ [13, 10] ++ flatH (hsL j vals)) ∧ ρ 9 = .int .i64 j) (n := 5)
        ⟨0, Nat.zero_le _, rfl, by simp only [h0, go_sem, Nat.reduceEqDiff, reduceIte, Int.reduceEq, Int.reduceLT, Int.reduceLE, Nat.reduceAdd, Nat.reduceLT, Nat.reduceLeDiff, Int.reduceToNat, Int.reduceSub, Int.reduceAdd, Int.reduceNeg], by simp only [h1, go_sem, Nat.reduceEqDiff, reduceIte, Int.reduceEq, Int.reduceLT, Int.reduceLE, Nat.reduceAdd, Nat.reduceLT, Nat.reduceLeDiff, Int.reduceToNat, Int.reduceSub, Int.reduceAdd, Int.reduceNeg], by simp only [h0, go_sem, Nat.reduceEqDiff, reduceIte, Int.reduceEq, Int.reduceLT, Int.reduceLE, Nat.reduceAdd, Nat.reduceLT, Nat.reduceLeDiff, Int.reduceToNat, Int.reduceSub, Int.reduceAdd, Int.reduceNeg]; try rfl, by simp only [h0, go_sem, Nat.reduceEqDiff, reduceIte, Int.reduceEq, Int.reduceLT, Int.reduceLE, Nat.reduceAdd, Nat.reduceLT, Nat.reduceLeDiff, Int.reduceToNat, Int.reduceSub, Int.reduceAdd, Int.reduceNeg]; try rfl, by simp only [h0, go_sem, Nat.reduceEqDiff, reduceIte, Int.reduceEq, Int.reduceLT, Int.reduceLE, Nat.reduceAdd, Nat.reduceLT, Nat.reduceLeDiff, Int.reduceToNat, Int.reduceSub, Int.reduceAdd, Int.reduceNeg]; try rfl⟩ ?_
      clear h0 h1 h2 ρ
      rintro n ρ L ⟨j, hj, rfl, h0, h1, h7, h8, h9⟩
      by_cases hi : j < vals.length ∧ j < 5
      case neg =>
        by_cases hi1 : j < vals.length
        · have e1 : ((j : Int) < (vals.length : Int)) = True := eq_true (by omega)
          have e2 : ((j : Int) < 5) = False := eq_false (by omega)
          simp only [h0, h1, h7, h8, h9, e1, e2, sRows_len, go_sem, Nat.reduceEqDiff, reduceIte, Int.reduceEq, Int.reduceLT, Int.reduceLE, Nat.reduceAdd, Nat.reduceLT, Nat.reduceLeDiff, Int.reduceToNat, Int.reduceSub, Int.reduceAdd, Int.reduceNeg]
          exact ⟨j, hj, rfl⟩
        · have e1 : ((j : Int) < (vals.length : Int)) = False := eq_false (by omega)
          simp only [h0, h1, h7, h8, h9, e1, sRows_len, go_sem, Nat.reduceEqDiff, reduceIte, Int.reduceEq, Int.reduceLT, Int.reduceLE, Nat.reduceAdd, Nat.reduceLT, Nat.reduceLeDiff, Int.reduceToNat, Int.reduceSub, Int.reduceAdd, Int.reduceNeg]
          exact ⟨j, hj, rfl⟩
      obtain ⟨hi1, hi2⟩ := hi
      have e0 : ((0 : Int) ≤ (j : Int)) = True := eq_true (by omega)
      have e1 : ((j : Int) < (vals.length : Int)) = True := eq_true (by omega)
      have e2 : ((j : Int) < 5) = True := eq_true (by omega)
      have hwj : IntKind.i64.wrap ((j : Int) + 1) = ((j + 1 : Nat) : Int) := by rw [wrap64 (by omega) (by omega)]; rfl
      have hg := sRows_get hi1
      have hfl := flatH_len vals j
      have hfs := flatH_succ vals j
      have hpl := plainF_len (vals.getD j [])
      simp only [h0, h1, h7, h8, h9, e0, e1, e2, hwj, hg, sRows_len, rows_s, go_sem, Nat.reduceEqDiff, reduceIte, Int.reduceEq, Int.reduceLT, Int.reduceLE, Nat.reduceAdd, Nat.reduceLT, Nat.reduceLeDiff, Int.reduceToNat, Int.reduceSub, Int.reduceAdd, Int.reduceNeg]
      have hln : ((metL true ++ lineL) ++ [13, 10] ++ flatH (hsL j vals)).length ≤ 400 := by simp [metL, lineL]; omega
      have hc8 : byteOf [.int .u8 (IntKind.u8.wrap (IntKind.i64.wrap (97 + (j : Int))))] = some (UInt8.ofNat (97 + j)) := by
        have : ∀ v : Fin 5, byteOf [.int .u8 (IntKind.u8.wrap (IntKind.i64.wrap (97 + ((v.val : Nat) : Int))))] = some (UInt8.ofNat (97 + v.val)) := by decide +kernel
        exact this ⟨j, hi2⟩
      refine ⟨by omega, ?_⟩
      have hr : (rowsSl (L ++ [Blk.cells 1 [[IV.int .u8 (IntKind.u8.wrap (IntKind.i64.wrap (97 + (j : Int))))]]]) (IV.sl L.length 0 1 1)).bind (mapO byteOf) = some [UInt8.ofNat (97 + j)] := by
        simp only [rowsSl, rowsOf]
        rw [List.getElem?_append_right (Nat.le_refl _)]
        simp [mapO, hc8]
      rw [hr]
      simp only [h0, h1, h7, h8, h9, e0, e1, e2, hwj, hg, sRows_len, rows_s, go_sem, Nat.reduceEqDiff, reduceIte, Int.reduceEq, Int.reduceLT, Int.reduceLE, Nat.reduceAdd, Nat.reduceLT, Nat.reduceLeDiff, Int.reduceToNat, Int.reduceSub, Int.reduceAdd, Int.reduceNeg]
      refine ⟨by rw [List.length_append]; simp only [List.length_cons, List.length_nil]; omega, by rw [List.length_append, List.length_append]; simp only [List.length_cons, List.length_nil]; omega, hi1, ?_⟩
      refine o_pcall (args' := [.str (vals.getD j [])]) rfl (plain_pure hP _) (fun m => rfl) ?_
      simp only [h0, h1, h7, h8, h9, e0, e1, e2, hwj, hg, sRows_len, rows_s, go_sem, Nat.reduceEqDiff, reduceIte, Int.reduceEq, Int.reduceLT, Int.reduceLE, Nat.reduceAdd, Nat.reduceLT, Nat.reduceLeDiff, Int.reduceToNat, Int.reduceSub, Int.reduceAdd, Int.reduceNeg]
      generalize plainF (vals.getD j []) = pl at *
      generalize UInt8.ofNat (97 + j) = cj at *
      refine ⟨by unfold feetR; rw [show (XO.pcall (Opd.c (IV.fn (Fn.func 18) [] [])) [Opd.c (IV.str (vals.getD j []))]).rd cev (L ++ [Blk.cells 1 [[IV.int .u8 (IntKind.u8.wrap (IntKind.i64.wrap (97 + (j : Int))))]]]) = [] from rfl]; simp [newS, ninP], by rw [List.length_append, List.length_append, List.length_append]; simp only [List.length_cons, List.length_nil]; omega, by rw [List.length_append, List.length_append, List.length_append, List.length_append]; simp only [List.length_cons, List.length_nil]; omega, 5 - (j + 1), by omega, j + 1, by omega, rfl, ?_, rfl⟩
      rw [hfs]
      simp [hdrL]
    rintro e ρ' L' ⟨rfl, j, hj, h0', h7, h8⟩
    clear h0 h1 h2
    have hfl := flatH_len vals j
    have hln : ((metL true ++ lineL) ++ [13, 10] ++ flatH (hsL j vals)).length ≤ 400 := by simp [metL, lineL]; omega
    have hdl : (Lib.decDigits body.length).length ≤ 7 := dec_small (by omega)
    simp only [h0', h7, h8, go_sem, Nat.reduceEqDiff, reduceIte, Int.reduceEq, Int.reduceLT, Int.reduceLE, Nat.reduceAdd, Nat.reduceLT, Nat.reduceLeDiff, Int.reduceToNat, Int.reduceSub, Int.reduceAdd, Int.reduceNeg]
    first | refine ⟨by omega, ?_⟩ | skip
    refine xcall_pure (args' := [.int .i64 ((body.length : Nat) : Int)]) rfl (digits_pure (E := E.noPan) hP body.length (by omega) (by omega)) rfl ?_
    have hS : (metL true ++ lineL) ++ [13, 10] ++ flatH (hsL j vals) ++ [67, 79, 78, 84, 69, 78, 84, 45, 108, 101, 110, 103, 116, 104, 58, 32] ++ Lib.decDigits body.length ++ [13, 10, 13, 10] ++ body = (metL true ++ lineL) ++ [13, 10] ++ (hsL j vals).flatMap (· ++ [13, 10]) ++ clLine body.length ++ (endL ++ body) := by
      simp [flatH, clLine, nameL, endL]
    have hwr := whole_read true (hsL j vals) (hsL_ok vals j hj) body (by omega) hv (by
      have : (hsL j vals).flatMap (· ++ [13, 10]) = flatH (hsL j vals) := rfl
      rw [this, List.length_append]
      have hcl : (clLine body.length).length ≤ 30 := by simp [clLine, nameL]; omega
      omega)
    rw [← hS] at hwr
    simp only [h0', h7, h8, go_sem, Nat.reduceEqDiff, reduceIte, Int.reduceEq, Int.reduceLT, Int.reduceLE, Nat.reduceAdd, Nat.reduceLT, Nat.reduceLeDiff, Int.reduceToNat, Int.reduceSub, Int.reduceAdd, Int.reduceNeg]
    refine ⟨by simp only [List.length_append, List.length_cons, List.length_nil] at hln ⊢; omega, by simp only [List.length_append, List.length_cons, List.length_nil] at hln ⊢; omega, by simp only [List.length_append, List.length_cons, List.length_nil] at hln ⊢; omega, ?_⟩
    have hSl : ((metL true ++ lineL) ++ [13, 10] ++ flatH (hsL j vals) ++ [67, 79, 78, 84, 69, 78, 84, 45, 108, 101, 110, 103, 116, 104, 58, 32] ++ Lib.decDigits body.length ++ [13, 10, 13, 10] ++ body).length ≤ 100000 := by simp only [List.length_append, List.length_cons, List.length_nil] at hln ⊢; omega
    generalize (metL true ++ lineL) ++ [13, 10] ++ flatH (hsL j vals) ++ [67, 79, 78, 84, 69, 78, 84, 45, 108, 101, 110, 103, 116, 104, 58, 32] ++ Lib.decDigits body.length ++ [13, 10, 13, 10] ++ body = S at *
    have hrd := read_pure (E := E.noPan) hP hm Lib.validD (fun s hs => valid_pure (E := E.noPan) hP ht s (by omega)) S hSl
    rw [hwr] at hrd
    refine xcall_lend (args' := [.isl (bytesRows S)]) (conv_bytesT (ty := 5) rfl (by rw [List.getElem?_append_right (Nat.le_refl _)]; simp)) hrd rfl rfl ?_
    unfold Req.iv
    have hpe : (pathL = [47, 112, 47, 97, 63, 98, 61, 99]) = True := eq_true rfl
    simp only [h0', h7, h8, hpe, eq_self, decide_true, go_sem, Nat.reduceEqDiff, reduceIte, Int.reduceEq, Int.reduceLT, Int.reduceLE, Nat.reduceAdd, Nat.reduceLT, Nat.reduceLeDiff, Int.reduceToNat, Int.reduceSub, Int.reduceAdd, Int.reduceNeg]
    refine xcall_pure (args' := []) rfl (wakes_pure (E := E.noPan) hP hm ht) rfl ?_
    simp only [h0', h7, h8, go_sem, Nat.reduceEqDiff, reduceIte, Int.reduceEq, Int.reduceLT, Int.reduceLE, Nat.reduceAdd, Nat.reduceLT, Nat.reduceLeDiff, Int.reduceToNat, Int.reduceSub, Int.reduceAdd, Int.reduceNeg]
    rfl
  | false =>
    simp only [h0, h1, h2, f1, go_sem, Nat.reduceEqDiff, reduceIte, Int.reduceEq, Int.reduceLT, Int.reduceLE, Nat.reduceAdd, Nat.reduceLT, Nat.reduceLeDiff, Int.reduceToNat, Int.reduceSub, Int.reduceAdd, Int.reduceNeg]
    try (refine ⟨by simp, ?_⟩)
    refine xrun_cut (fun e ρ' L' => e = .exit 0 ∧ ∃ j, j ≤ 5 ∧ ρ' 0 = .str body ∧ ρ' 7 = .str (metL false) ∧ ρ' 8 = .str ((metL false ++ lineL) ++ [13, 10] ++ flatH (hsL j vals))) ?_ ?_
    · refine s_loop (fun n ρ L => ∃ j : Nat, j ≤ 5 ∧ n = 5 - j ∧ ρ 0 = .str body ∧ ρ 1 = .isl (sRows vals) ∧ ρ 7 = .str (metL false) ∧ ρ 8 = .str ((metL false ++ lineL) ++ [13, 10] ++ flatH (hsL j vals)) ∧ ρ 9 = .int .i64 j) (n := 5)
        ⟨0, Nat.zero_le _, rfl, by simp only [h0, go_sem, Nat.reduceEqDiff, reduceIte, Int.reduceEq, Int.reduceLT, Int.reduceLE, Nat.reduceAdd, Nat.reduceLT, Nat.reduceLeDiff, Int.reduceToNat, Int.reduceSub, Int.reduceAdd, Int.reduceNeg], by simp only [h1, go_sem, Nat.reduceEqDiff, reduceIte, Int.reduceEq, Int.reduceLT, Int.reduceLE, Nat.reduceAdd, Nat.reduceLT, Nat.reduceLeDiff, Int.reduceToNat, Int.reduceSub, Int.reduceAdd, Int.reduceNeg], by simp only [h0, go_sem, Nat.reduceEqDiff, reduceIte, Int.reduceEq, Int.reduceLT, Int.reduceLE, Nat.reduceAdd, Nat.reduceLT, Nat.reduceLeDiff, Int.reduceToNat, Int.reduceSub, Int.reduceAdd, Int.reduceNeg]; try rfl, by simp only [h0, go_sem, Nat.reduceEqDiff, reduceIte, Int.reduceEq, Int.reduceLT, Int.reduceLE, Nat.reduceAdd, Nat.reduceLT, Nat.reduceLeDiff, Int.reduceToNat, Int.reduceSub, Int.reduceAdd, Int.reduceNeg]; try rfl, by simp only [h0, go_sem, Nat.reduceEqDiff, reduceIte, Int.reduceEq, Int.reduceLT, Int.reduceLE, Nat.reduceAdd, Nat.reduceLT, Nat.reduceLeDiff, Int.reduceToNat, Int.reduceSub, Int.reduceAdd, Int.reduceNeg]; try rfl⟩ ?_
      clear h0 h1 h2 ρ
      rintro n ρ L ⟨j, hj, rfl, h0, h1, h7, h8, h9⟩
      by_cases hi : j < vals.length ∧ j < 5
      case neg =>
        by_cases hi1 : j < vals.length
        · have e1 : ((j : Int) < (vals.length : Int)) = True := eq_true (by omega)
          have e2 : ((j : Int) < 5) = False := eq_false (by omega)
          simp only [h0, h1, h7, h8, h9, e1, e2, sRows_len, go_sem, Nat.reduceEqDiff, reduceIte, Int.reduceEq, Int.reduceLT, Int.reduceLE, Nat.reduceAdd, Nat.reduceLT, Nat.reduceLeDiff, Int.reduceToNat, Int.reduceSub, Int.reduceAdd, Int.reduceNeg]
          exact ⟨j, hj, rfl⟩
        · have e1 : ((j : Int) < (vals.length : Int)) = False := eq_false (by omega)
          simp only [h0, h1, h7, h8, h9, e1, sRows_len, go_sem, Nat.reduceEqDiff, reduceIte, Int.reduceEq, Int.reduceLT, Int.reduceLE, Nat.reduceAdd, Nat.reduceLT, Nat.reduceLeDiff, Int.reduceToNat, Int.reduceSub, Int.reduceAdd, Int.reduceNeg]
          exact ⟨j, hj, rfl⟩
      obtain ⟨hi1, hi2⟩ := hi
      have e0 : ((0 : Int) ≤ (j : Int)) = True := eq_true (by omega)
      have e1 : ((j : Int) < (vals.length : Int)) = True := eq_true (by omega)
      have e2 : ((j : Int) < 5) = True := eq_true (by omega)
      have hwj : IntKind.i64.wrap ((j : Int) + 1) = ((j + 1 : Nat) : Int) := by rw [wrap64 (by omega) (by omega)]; rfl
      have hg := sRows_get hi1
      have hfl := flatH_len vals j
      have hfs := flatH_succ vals j
      have hpl := plainF_len (vals.getD j [])
      simp only [h0, h1, h7, h8, h9, e0, e1, e2, hwj, hg, sRows_len, rows_s, go_sem, Nat.reduceEqDiff, reduceIte, Int.reduceEq, Int.reduceLT, Int.reduceLE, Nat.reduceAdd, Nat.reduceLT, Nat.reduceLeDiff, Int.reduceToNat, Int.reduceSub, Int.reduceAdd, Int.reduceNeg]
      have hln : ((metL false ++ lineL) ++ [13, 10] ++ flatH (hsL j vals)).length ≤ 400 := by simp [metL, lineL]; omega
      have hc8 : byteOf [.int .u8 (IntKind.u8.wrap (IntKind.i64.wrap (97 + (j : Int))))] = some (UInt8.ofNat (97 + j)) := by
        have : ∀ v : Fin 5, byteOf [.int .u8 (IntKind.u8.wrap (IntKind.i64.wrap (97 + ((v.val : Nat) : Int))))] = some (UInt8.ofNat (97 + v.val)) := by decide +kernel
        exact this ⟨j, hi2⟩
      refine ⟨by omega, ?_⟩
      have hr : (rowsSl (L ++ [Blk.cells 1 [[IV.int .u8 (IntKind.u8.wrap (IntKind.i64.wrap (97 + (j : Int))))]]]) (IV.sl L.length 0 1 1)).bind (mapO byteOf) = some [UInt8.ofNat (97 + j)] := by
        simp only [rowsSl, rowsOf]
        rw [List.getElem?_append_right (Nat.le_refl _)]
        simp [mapO, hc8]
      rw [hr]
      simp only [h0, h1, h7, h8, h9, e0, e1, e2, hwj, hg, sRows_len, rows_s, go_sem, Nat.reduceEqDiff, reduceIte, Int.reduceEq, Int.reduceLT, Int.reduceLE, Nat.reduceAdd, Nat.reduceLT, Nat.reduceLeDiff, Int.reduceToNat, Int.reduceSub, Int.reduceAdd, Int.reduceNeg]
      refine ⟨by rw [List.length_append]; simp only [List.length_cons, List.length_nil]; omega, by rw [List.length_append, List.length_append]; simp only [List.length_cons, List.length_nil]; omega, hi1, ?_⟩
      refine o_pcall (args' := [.str (vals.getD j [])]) rfl (plain_pure hP _) (fun m => rfl) ?_
      simp only [h0, h1, h7, h8, h9, e0, e1, e2, hwj, hg, sRows_len, rows_s, go_sem, Nat.reduceEqDiff, reduceIte, Int.reduceEq, Int.reduceLT, Int.reduceLE, Nat.reduceAdd, Nat.reduceLT, Nat.reduceLeDiff, Int.reduceToNat, Int.reduceSub, Int.reduceAdd, Int.reduceNeg]
      generalize plainF (vals.getD j []) = pl at *
      generalize UInt8.ofNat (97 + j) = cj at *
      refine ⟨by unfold feetR; rw [show (XO.pcall (Opd.c (IV.fn (Fn.func 18) [] [])) [Opd.c (IV.str (vals.getD j []))]).rd cev (L ++ [Blk.cells 1 [[IV.int .u8 (IntKind.u8.wrap (IntKind.i64.wrap (97 + (j : Int))))]]]) = [] from rfl]; simp [newS, ninP], by rw [List.length_append, List.length_append, List.length_append]; simp only [List.length_cons, List.length_nil]; omega, by rw [List.length_append, List.length_append, List.length_append, List.length_append]; simp only [List.length_cons, List.length_nil]; omega, 5 - (j + 1), by omega, j + 1, by omega, rfl, ?_, rfl⟩
      rw [hfs]
      simp [hdrL]
    rintro e ρ' L' ⟨rfl, j, hj, h0', h7, h8⟩
    clear h0 h1 h2
    have hfl := flatH_len vals j
    have hln : ((metL false ++ lineL) ++ [13, 10] ++ flatH (hsL j vals)).length ≤ 400 := by simp [metL, lineL]; omega
    have hdl : (Lib.decDigits body.length).length ≤ 7 := dec_small (by omega)
    simp only [h0', h7, h8, go_sem, Nat.reduceEqDiff, reduceIte, Int.reduceEq, Int.reduceLT, Int.reduceLE, Nat.reduceAdd, Nat.reduceLT, Nat.reduceLeDiff, Int.reduceToNat, Int.reduceSub, Int.reduceAdd, Int.reduceNeg]
    first | refine ⟨by omega, ?_⟩ | skip
    refine xcall_pure (args' := [.int .i64 ((body.length : Nat) : Int)]) rfl (digits_pure (E := E.noPan) hP body.length (by omega) (by omega)) rfl ?_
    have hS : (metL false ++ lineL) ++ [13, 10] ++ flatH (hsL j vals) ++ [67, 79, 78, 84, 69, 78, 84, 45, 108, 101, 110, 103, 116, 104, 58, 32] ++ Lib.decDigits body.length ++ [13, 10, 13, 10] ++ body = (metL false ++ lineL) ++ [13, 10] ++ (hsL j vals).flatMap (· ++ [13, 10]) ++ clLine body.length ++ (endL ++ body) := by
      simp [flatH, clLine, nameL, endL]
    have hwr := whole_read false (hsL j vals) (hsL_ok vals j hj) body (by omega) hv (by
      have : (hsL j vals).flatMap (· ++ [13, 10]) = flatH (hsL j vals) := rfl
      rw [this, List.length_append]
      have hcl : (clLine body.length).length ≤ 30 := by simp [clLine, nameL]; omega
      omega)
    rw [← hS] at hwr
    simp only [h0', h7, h8, go_sem, Nat.reduceEqDiff, reduceIte, Int.reduceEq, Int.reduceLT, Int.reduceLE, Nat.reduceAdd, Nat.reduceLT, Nat.reduceLeDiff, Int.reduceToNat, Int.reduceSub, Int.reduceAdd, Int.reduceNeg]
    refine ⟨by simp only [List.length_append, List.length_cons, List.length_nil] at hln ⊢; omega, by simp only [List.length_append, List.length_cons, List.length_nil] at hln ⊢; omega, by simp only [List.length_append, List.length_cons, List.length_nil] at hln ⊢; omega, ?_⟩
    have hSl : ((metL false ++ lineL) ++ [13, 10] ++ flatH (hsL j vals) ++ [67, 79, 78, 84, 69, 78, 84, 45, 108, 101, 110, 103, 116, 104, 58, 32] ++ Lib.decDigits body.length ++ [13, 10, 13, 10] ++ body).length ≤ 100000 := by simp only [List.length_append, List.length_cons, List.length_nil] at hln ⊢; omega
    generalize (metL false ++ lineL) ++ [13, 10] ++ flatH (hsL j vals) ++ [67, 79, 78, 84, 69, 78, 84, 45, 108, 101, 110, 103, 116, 104, 58, 32] ++ Lib.decDigits body.length ++ [13, 10, 13, 10] ++ body = S at *
    have hrd := read_pure (E := E.noPan) hP hm Lib.validD (fun s hs => valid_pure (E := E.noPan) hP ht s (by omega)) S hSl
    rw [hwr] at hrd
    refine xcall_lend (args' := [.isl (bytesRows S)]) (conv_bytesT (ty := 5) rfl (by rw [List.getElem?_append_right (Nat.le_refl _)]; simp)) hrd rfl rfl ?_
    unfold Req.iv
    have hpe : (pathL = [47, 112, 47, 97, 63, 98, 61, 99]) = True := eq_true rfl
    simp only [h0', h7, h8, hpe, eq_self, decide_true, go_sem, Nat.reduceEqDiff, reduceIte, Int.reduceEq, Int.reduceLT, Int.reduceLE, Nat.reduceAdd, Nat.reduceLT, Nat.reduceLeDiff, Int.reduceToNat, Int.reduceSub, Int.reduceAdd, Int.reduceNeg]
    refine xcall_pure (args' := []) rfl (wakes_pure (E := E.noPan) hP hm ht) rfl ?_
    simp only [h0', h7, h8, go_sem, Nat.reduceEqDiff, reduceIte, Int.reduceEq, Int.reduceLT, Int.reduceLE, Nat.reduceAdd, Nat.reduceLT, Nat.reduceLeDiff, Int.reduceToNat, Int.reduceSub, Int.reduceAdd, Int.reduceNeg]
    rfl
end
end Go.X.TryzW
end
