/- Parts of the proof: Xflimits, Xfref3, Xfref5, Xfref6, Xfhdr, Xfref4, Xffread. -/
import Derived.Test.YtepkimlnaoaboaaGreatDoorXP22
import Derived.Lib.ValidLaws
set_option linter.unusedVariables false
set_option linter.unusedSimpArgs false
set_option linter.unusedSectionVars false
section
open Go Go.X Go.Proofs
set_option maxRecDepth 100000
set_option maxHeartbeats 4000000
set_option linter.unusedSimpArgs false
set_option linter.unusedVariables false
namespace Go.X.TryzW
/- "tiller/tillerlaw13.FrontLimits" params { toList := [3, 4] } results { toList := [Go.ResultVar.tmp 4] } -/
def y4 : XC :=
 (.seq
  (.ops [
    ⟨(some 4), (.mov (.c (.bool false))), none⟩])
  (.seq
   (.ops [
     ⟨(some 21), (.mov (.t 0)), none⟩,
     ⟨(some 22), (.call (.f 15) [(.t 21), (.c (.int .i64 5))]), none⟩,
     ⟨(some 23), (.bin .sub (.t 22) (.c (.int .i64 2))), none⟩,
     ⟨(some 5), (.mov (.t 23)), none⟩])
   (.seq
    (.seq
     (.ops [
       ⟨(some 24), (.mov (.t 1)), none⟩])
     (.cond (.t 24)
      (.seq
       (.ops [
         ⟨(some 25), (.mov (.t 5)), none⟩,
         ⟨(some 26), (.bin .add (.c (.int .i64 4096)) (.t 25)), none⟩,
         ⟨(some 6), (.mov (.t 26)), none⟩])
       (.seq
        (.ops [
          ⟨(some 27), (.mov (.t 6)), none⟩,
          ⟨(some 28), (.call (.f 16) [(.t 27)]), none⟩,
          ⟨(some 29), (.bin .add (.c (.str [80, 79, 83, 84, 32, 47, 32, 72, 84, 84, 80, 47, 49, 46, 49, 13, 10, 67, 111, 110, 116, 101, 110, 116, 45, 76, 101, 110, 103, 116, 104, 58, 32])) (.t 28)), none⟩,
          ⟨(some 30), (.bin .add (.t 29) (.c (.str [13, 10, 13, 10]))), none⟩,
          ⟨(some 31), (.ex (.strB 5) [(.t 30)]), none⟩,
          ⟨(some 7), (.mov (.t 31)), none⟩])
        (.seq
         (.seq
          (.ops [
            ⟨(some 8), (.mov (.c (.int .i64 0))), none⟩])
          (.block 0
           (.loop
            (.seq
             (.seq
              (.ops [
                ⟨(some 32), (.mov (.t 8)), none⟩,
                ⟨(some 33), (.mov (.t 6)), none⟩,
                ⟨(some 34), (.bin .lss (.t 32) (.t 33)), none⟩])
              (.cond (.t 34)
               .skip
               (.exit 0)))
             (.seq
              (.block 1
               (.ops [
                 ⟨(some 37), (.mov (.t 7)), none⟩,
                 ⟨(some 38), (.bslice 1 [(.int .u8 0)] 1 [(0, (.c (.int .u8 120)))]), none⟩,
                 ⟨(some 39), (.ex (.appT 5 1) [(.t 37), (.t 38)]), none⟩,
                 ⟨(some 7), (.mov (.t 39)), none⟩]))
              (.ops [
                ⟨(some 35), (.mov (.t 8)), none⟩,
                ⟨(some 36), (.bin .add (.t 35) (.c (.int .i64 1))), none⟩,
                ⟨(some 8), (.mov (.t 36)), none⟩]))))))
         (.seq
          (.ops [
            ⟨(some 41), (.mov (.t 7)), none⟩,
            ⟨(some 42), (.call (.f 11) [(.t 41)]), none⟩,
            ⟨(some 40), (.mov (.t 42)), none⟩,
            ⟨(some 43), (.ext (.t 40) 0), none⟩,
            ⟨(some 44), (.ext (.t 40) 1), none⟩,
            ⟨(some 45), (.ext (.t 40) 2), none⟩,
            ⟨(some 46), (.ext (.t 40) 3), none⟩,
            ⟨(some 9), (.mov (.t 43)), none⟩,
            ⟨(some 10), (.mov (.t 44)), none⟩,
            ⟨(some 11), (.mov (.t 45)), none⟩,
            ⟨(some 12), (.mov (.t 46)), none⟩])
          (.seq
           (.ops [
             ⟨(some 47), (.mov (.t 6)), none⟩,
             ⟨(some 48), (.bin .leq (.t 47) (.c (.int .i64 4096))), none⟩,
             ⟨(some 49), (.mov (.t 48)), none⟩,
             ⟨(some 50), (.mov (.t 12)), (some (49, true))⟩,
             ⟨(some 51), (.bin .eql (.t 50) (.c (.int .i64 200))), (some (49, true))⟩,
             ⟨(some 52), (.pick (.t 49) (.t 51) (.c (.bool false))), none⟩,
             ⟨(some 53), (.mov (.t 52)), none⟩,
             ⟨(some 54), (.mov (.t 11)), (some (53, true))⟩,
             ⟨(some 55), (.lenS (.t 54)), (some (53, true))⟩,
             ⟨(some 56), (.mov (.t 6)), (some (53, true))⟩,
             ⟨(some 57), (.bin .eql (.t 55) (.t 56)), (some (53, true))⟩,
             ⟨(some 58), (.pick (.t 53) (.t 57) (.c (.bool false))), none⟩,
             ⟨(some 59), (.mov (.t 58)), none⟩,
             ⟨(some 60), (.mov (.t 6)), (some (59, false))⟩,
             ⟨(some 61), (.bin .gtr (.t 60) (.c (.int .i64 4096))), (some (59, false))⟩,
             ⟨(some 62), (.mov (.t 61)), (some (59, false))⟩,
             ⟨(some 63), (.mov (.t 12)), (some (62, true))⟩,
             ⟨(some 64), (.bin .eql (.t 63) (.c (.int .i64 413))), (some (62, true))⟩,
             ⟨(some 65), (.pick (.t 62) (.t 64) (.c (.bool false))), (some (59, false))⟩,
             ⟨(some 66), (.mov (.t 65)), (some (59, false))⟩,
             ⟨(some 67), (.mov (.t 11)), (some (66, true))⟩,
             ⟨(some 68), (.bin .eql (.t 67) (.c (.str []))), (some (66, true))⟩,
             ⟨(some 69), (.pick (.t 66) (.t 68) (.c (.bool false))), (some (59, false))⟩,
             ⟨(some 70), (.pick (.t 59) (.c (.bool true)) (.t 69)), none⟩,
             ⟨(some 71), (.mov (.t 70)), none⟩,
             ⟨(some 72), (.call (.f 14) []), (some (71, true))⟩,
             ⟨(some 73), (.pick (.t 71) (.t 72) (.c (.bool false))), none⟩,
             ⟨(some 4), (.mov (.t 73)), none⟩])
           .ret)))))
      .skip))
    (.seq
     (.ops [
       ⟨(some 13), (.mov (.c (.str [32, 72, 84, 84, 80, 47, 49, 46, 49, 13, 10, 13, 10]))), none⟩])
     (.seq
      (.ops [
        ⟨(some 74), (.mov (.t 5)), none⟩,
        ⟨(some 75), (.bin .add (.c (.int .i64 4096)) (.t 74)), none⟩,
        ⟨(some 76), (.bin .sub (.t 75) (.c (.int .i64 5))), none⟩,
        ⟨(some 77), (.mov (.t 13)), none⟩,
        ⟨(some 78), (.lenS (.t 77)), none⟩,
        ⟨(some 79), (.bin .sub (.t 76) (.t 78)), none⟩,
        ⟨(some 14), (.mov (.t 79)), none⟩])
      (.seq
       (.ops [
         ⟨(some 80), (.bslice 1 [(.int .u8 0)] 5 [(0, (.c (.int .u8 71))), (1, (.c (.int .u8 69))), (2, (.c (.int .u8 84))), (3, (.c (.int .u8 32))), (4, (.c (.int .u8 47)))]), none⟩,
         ⟨(some 81), (.ex .slId [(.t 80)]), none⟩,
         ⟨(some 15), (.mov (.t 81)), none⟩])
       (.seq
        (.seq
         (.ops [
           ⟨(some 16), (.mov (.c (.int .i64 0))), none⟩])
         (.block 2
          (.loop
           (.seq
            (.seq
             (.ops [
               ⟨(some 82), (.mov (.t 16)), none⟩,
               ⟨(some 83), (.mov (.t 14)), none⟩,
               ⟨(some 84), (.bin .lss (.t 82) (.t 83)), none⟩])
             (.cond (.t 84)
              .skip
              (.exit 2)))
            (.seq
             (.block 3
              (.ops [
                ⟨(some 87), (.mov (.t 15)), none⟩,
                ⟨(some 88), (.bslice 1 [(.int .u8 0)] 1 [(0, (.c (.int .u8 120)))]), none⟩,
                ⟨(some 89), (.ex (.appT 5 1) [(.t 87), (.t 88)]), none⟩,
                ⟨(some 15), (.mov (.t 89)), none⟩]))
             (.ops [
               ⟨(some 85), (.mov (.t 16)), none⟩,
               ⟨(some 86), (.bin .add (.t 85) (.c (.int .i64 1))), none⟩,
               ⟨(some 16), (.mov (.t 86)), none⟩]))))))
        (.seq
         (.ops [
           ⟨(some 90), (.mov (.t 15)), none⟩,
           ⟨(some 91), (.mov (.t 13)), none⟩,
           ⟨(some 92), (.ex (.appT 5 1) [(.t 90), (.t 91)]), none⟩,
           ⟨(some 15), (.mov (.t 92)), none⟩])
         (.seq
          (.ops [
            ⟨(some 94), (.mov (.t 15)), none⟩,
            ⟨(some 95), (.call (.f 11) [(.t 94)]), none⟩,
            ⟨(some 93), (.mov (.t 95)), none⟩,
            ⟨(some 96), (.ext (.t 93) 0), none⟩,
            ⟨(some 97), (.ext (.t 93) 1), none⟩,
            ⟨(some 98), (.ext (.t 93) 2), none⟩,
            ⟨(some 99), (.ext (.t 93) 3), none⟩,
            ⟨(some 17), (.mov (.t 96)), none⟩,
            ⟨(some 18), (.mov (.t 97)), none⟩,
            ⟨(some 19), (.mov (.t 98)), none⟩,
            ⟨(some 20), (.mov (.t 99)), none⟩])
          (.seq
           (.ops [
             ⟨(some 100), (.mov (.t 15)), none⟩,
             ⟨(some 101), (.len (.t 100)), none⟩,
             ⟨(some 102), (.bin .leq (.t 101) (.c (.int .i64 4096))), none⟩,
             ⟨(some 103), (.mov (.t 102)), none⟩,
             ⟨(some 104), (.mov (.t 20)), (some (103, true))⟩,
             ⟨(some 105), (.bin .eql (.t 104) (.c (.int .i64 200))), (some (103, true))⟩,
             ⟨(some 106), (.pick (.t 103) (.t 105) (.c (.bool false))), none⟩,
             ⟨(some 107), (.mov (.t 106)), none⟩,
             ⟨(some 108), (.mov (.t 18)), (some (107, true))⟩,
             ⟨(some 109), (.lenS (.t 108)), (some (107, true))⟩,
             ⟨(some 110), (.mov (.t 14)), (some (107, true))⟩,
             ⟨(some 111), (.bin .add (.t 110) (.c (.int .i64 1))), (some (107, true))⟩,
             ⟨(some 112), (.bin .eql (.t 109) (.t 111)), (some (107, true))⟩,
             ⟨(some 113), (.pick (.t 107) (.t 112) (.c (.bool false))), none⟩,
             ⟨(some 114), (.mov (.t 113)), none⟩,
             ⟨(some 115), (.mov (.t 15)), (some (114, false))⟩,
             ⟨(some 116), (.len (.t 115)), (some (114, false))⟩,
             ⟨(some 117), (.bin .gtr (.t 116) (.c (.int .i64 4096))), (some (114, false))⟩,
             ⟨(some 118), (.mov (.t 117)), (some (114, false))⟩,
             ⟨(some 119), (.mov (.t 20)), (some (118, true))⟩,
             ⟨(some 120), (.bin .eql (.t 119) (.c (.int .i64 431))), (some (118, true))⟩,
             ⟨(some 121), (.pick (.t 118) (.t 120) (.c (.bool false))), (some (114, false))⟩,
             ⟨(some 122), (.mov (.t 121)), (some (114, false))⟩,
             ⟨(some 123), (.mov (.t 18)), (some (122, true))⟩,
             ⟨(some 124), (.bin .eql (.t 123) (.c (.str []))), (some (122, true))⟩,
             ⟨(some 125), (.pick (.t 122) (.t 124) (.c (.bool false))), (some (114, false))⟩,
             ⟨(some 126), (.pick (.t 114) (.c (.bool true)) (.t 125)), none⟩,
             ⟨(some 127), (.mov (.t 126)), none⟩,
             ⟨(some 128), (.call (.f 14) []), (some (127, true))⟩,
             ⟨(some 129), (.pick (.t 127) (.t 128) (.c (.bool false))), none⟩,
             ⟨(some 4), (.mov (.t 129)), none⟩])
           .ret))))))))))

section
variable {E : Env} {L : List Blk} {K : IV → List Blk → Prop}
def getL : List UInt8 := [71, 69, 84, 32, 47]
/-- Bytes behind bytes whose type is not known. -/
theorem appG_cells {ty g t n : Nat} {bs x : List UInt8} {xv : IV} (hn : n = bs.length) (hL : L[t]? = some (.cells 1 (bytesRows bs))) (hx : rowsOf L xv = some (bytesRows x)) (hg : g = L.length) (hne : x ≠ []) (hb : bs.length + x.length ≤ 70368744177664)
    (h : K (.sl g 0 (bs.length + x.length) (bs.length + x.length)) (L.set t .dead ++ [.cells 1 (bytesRows (bs ++ x))])) : xappT ty 1 (.sl t 0 n n) xv g L K := by
  subst hn
  have hxl : 1 ≤ x.length := by cases x with
    | nil => exact absurd rfl hne
    | cons => simp
  unfold xappT
  rw [hx]
  refine ⟨bytesRows_rowsC x, rfl, rfl, ?_⟩
  rw [hL]
  show xappendR 1 1 (.sl t 0 bs.length bs.length) xv g _ L K
  unfold xappendR
  rw [hx]
  refine ⟨bytesRows_rowsC x, ?_⟩
  simp only [hL]
  refine ⟨trivial, by rw [bytesRows_len]; omega, ?_⟩
  rw [if_neg (by rw [bytesRows_len]; omega), bytesRows_len, Nat.mul_one, List.drop_zero, List.take_of_length_le (by rw [bytesRows_len]; exact Nat.le_refl _), ← bytesRows_app]
  refine ⟨hb, ?_⟩
  unfold layAt
  rw [if_pos (by rw [List.length_set]; exact hg)]
  exact h
end
end Go.X.TryzW
end
section
open Go Go.X Go.Proofs
set_option maxRecDepth 100000
set_option maxHeartbeats 4000000
set_option linter.unusedSimpArgs false
set_option linter.unusedVariables false
namespace Go.X.TryzW

theorem cutL_none {s p : List UInt8} (h : Lib.index s p = -1) : Lib.cut s p = (s, [], false) := by
  unfold Lib.cut
  rw [h]; rfl
theorem cutL_some {s p : List UInt8} {i : Nat} (h : Lib.index s p = i) : Lib.cut s p = (s.take i, s.drop (i + p.length), true) := by
  unfold Lib.cut
  rw [h, if_pos (by omega), Int.toNat_natCast]
theorem index_or (s p : List UInt8) : Lib.index s p = -1 ∨ ∃ i : Nat, Lib.index s p = i ∧ i + p.length ≤ s.length := by
  rcases Lib.index_spec s p with ⟨h, _⟩ | ⟨i, h, _⟩
  · exact .inl h
  · have := Lib.index_room s p (by rw [h]; omega)
    rw [h] at this
    exact .inr ⟨i, h, by omega⟩
def httpL : List UInt8 := [72, 84, 84, 80, 47, 49, 46, 49]
theorem splitL_pos (sep s : List UInt8) (h1 : 1 ≤ sep.length) : 1 ≤ (splitL sep s).length := (splitL_bound sep s h1).1
theorem first_cases (l0 : List UInt8) : ((splitL [32] l0).length ≠ 3 ∧ firstOk l0 = false) ∨ ∃ a p v, splitL [32] l0 = [a, p, v] ∧ (cut1 l0).1 = a ∧ (cut1 (cut1 l0).2.1).1 = p ∧ firstOk l0 = (((decide (v = httpL) && Lib.hasPrefix p [47]) && madeF seenF p) && madeF upF a) := by
  rcases index_or l0 [32] with h | ⟨i, h, _⟩
  · refine .inl ⟨by rw [splitL_none h]; simp, ?_⟩
    have hc : cut1 l0 = (l0, [], false) := cutL_none h
    unfold firstOk
    rw [hc]; rfl
  have hc : cut1 l0 = (l0.take i, l0.drop (i + 1), true) := cutL_some h
  rcases index_or (l0.drop (i + 1)) [32] with h' | ⟨k, h', _⟩
  · refine .inl ⟨by rw [splitL_some (by decide) h]; show (_ :: splitL [32] (l0.drop (i + 1))).length ≠ 3; rw [splitL_none h']; simp, ?_⟩
    have hc' : cut1 (l0.drop (i + 1)) = (l0.drop (i + 1), [], false) := cutL_none h'
    unfold firstOk
    rw [hc]
    simp only [hc']; rfl
  have hc' : cut1 (l0.drop (i + 1)) = ((l0.drop (i + 1)).take k, (l0.drop (i + 1)).drop (k + 1), true) := cutL_some h'
  have hs : splitL [32] l0 = l0.take i :: (l0.drop (i + 1)).take k :: splitL [32] ((l0.drop (i + 1)).drop (k + 1)) := by
    rw [splitL_some (by decide) h]
    show _ :: splitL [32] (l0.drop (i + 1)) = _
    rw [splitL_some (by decide) h']; rfl
  rcases index_or ((l0.drop (i + 1)).drop (k + 1)) [32] with h2 | ⟨j, h2, _⟩
  · refine .inr ⟨l0.take i, (l0.drop (i + 1)).take k, (l0.drop (i + 1)).drop (k + 1), by rw [hs, splitL_none h2], by rw [hc], by rw [hc]; simp only [hc'], ?_⟩
    unfold firstOk
    rw [hc]
    simp only [hc']
    rfl
  · refine .inl ⟨?_, ?_⟩
    · have := splitL_pos [32] (((l0.drop (i + 1)).drop (k + 1)).drop (j + 1)) (by decide)
      rw [hs, splitL_some (by decide) h2]
      show (splitL [32] (((l0.drop (i + 1)).drop (k + 1)).drop (j + 1))).length + 1 + 1 + 1 ≠ 3
      omega
    · have hne : ((l0.drop (i + 1)).drop (k + 1)) ≠ httpL := by
        intro he; rw [he] at h2
        have : Lib.index httpL [32] = -1 := by decide
        rw [this] at h2; omega
      unfold firstOk
      rw [hc]
      simp only [hc']
      have : decide ((l0.drop (i + 1)).drop (k + 1) = [72, 84, 84, 80, 47, 49, 46, 49]) = false := decide_eq_false hne
      rw [this]; rfl
theorem fold_low (x y : UInt8) (hy : ¬ (65 ≤ y.toNat ∧ y.toNat ≤ 90)) : Lib.foldEq x y = decide (low1 x = y) := by
  have hx := x.toNat_lt
  unfold Lib.foldEq low1
  congr 1
  apply propext
  by_cases h : (65 : Int) ≤ (x.toNat : Int) ∧ (x.toNat : Int) ≤ 90
  · rw [if_pos h]
    have e : (x + 32).toNat = x.toNat + 32 := by
      rw [UInt8.toNat_add]
      have : (32 : UInt8).toNat = 32 := rfl
      omega
    constructor
    · intro hh
      apply UInt8.toNat_inj.1
      rw [e]
      omega
    · intro hh
      have := congrArg UInt8.toNat hh
      rw [e] at this
      omega
  · rw [if_neg h]
    constructor
    · intro hh
      apply UInt8.toNat_inj.1
      omega
    · intro hh
      subst hh
      exact .inl rfl
theorem equalFold_low : ∀ (s t : List UInt8), (∀ y ∈ t, ¬ (65 ≤ y.toNat ∧ y.toNat ≤ 90)) → Lib.equalFold s t = decide (s.map low1 = t)
  | [], [], _ => rfl
  | [], y :: t, _ => by simp [Lib.equalFold]
  | x :: s, [], _ => by simp [Lib.equalFold]
  | x :: s, y :: t, h => by
    unfold Lib.equalFold
    rw [fold_low x y (h y (by simp)), equalFold_low s t (fun z hz => h z (by simp [hz]))]
    rw [Bool.eq_iff_iff, Bool.and_eq_true, decide_eq_true_eq, decide_eq_true_eq, decide_eq_true_eq, List.map_cons]
    exact ⟨fun hh => by rw [hh.1, hh.2], fun hh => ⟨(List.cons.inj hh).1, (List.cons.inj hh).2⟩⟩
theorem value_in : inB 32 126 = valueF := by
  funext b
  show (!(decide ((b.toNat : Int) < 32) || decide ((126 : Int) < (b.toNat : Int)))) = (decide ((b.toNat : Int) = 32) || (decide (33 ≤ (b.toNat : Int)) && decide ((b.toNat : Int) ≤ 126)))
  rw [Bool.eq_iff_iff]
  simp only [Bool.not_eq_true', Bool.or_eq_false_iff, Bool.or_eq_true, Bool.and_eq_true, decide_eq_true_eq, decide_eq_false_iff_not]
  omega
theorem seen_in : inB 33 126 = seenF := by
  funext b
  show (!(decide ((b.toNat : Int) < 33) || decide ((126 : Int) < (b.toNat : Int)))) = (decide (33 ≤ (b.toNat : Int)) && decide ((b.toNat : Int) ≤ 126))
  rw [Bool.eq_iff_iff]
  simp only [Bool.not_eq_true', Bool.or_eq_false_iff, Bool.or_eq_true, Bool.and_eq_true, decide_eq_true_eq, decide_eq_false_iff_not]
  omega
theorem up_in : inB 65 90 = upF := by
  funext b
  show (!(decide ((b.toNat : Int) < 65) || decide ((90 : Int) < (b.toNat : Int)))) = (decide (65 ≤ (b.toNat : Int)) && decide ((b.toNat : Int) ≤ 90))
  rw [Bool.eq_iff_iff]
  simp only [Bool.not_eq_true', Bool.or_eq_false_iff, Bool.or_eq_true, Bool.and_eq_true, decide_eq_true_eq, decide_eq_false_iff_not]
  omega
theorem bad_none {l : List UInt8} (h : Lib.index l [58] = -1) : headBad l = true := by
  unfold headBad
  rw [cutL_none h]; rfl
theorem bad_some {l : List UInt8} {k : Nat} (h : Lib.index l [58] = k) : headBad l = (!madeF nameF (l.take k) || !(l.drop (k + 1)).all (inB 32 126)) := by
  unfold headBad
  rw [cutL_some h, value_in]
  show ((!true || !madeF nameF (l.take k)) || (!decide (l.drop (k + 1) = []) && !madeF valueF (l.drop (k + 1)))) = _
  unfold madeF
  cases hd : l.drop (k + 1) with
  | nil => simp
  | cons a t => simp
theorem hv_some {l : List UInt8} {k : Nat} (h : Lib.index l [58] = k) : headVal l = Lib.trimB (l.drop (k + 1)) 32 := by
  unfold headVal
  rw [cutL_some h]; rfl
theorem cut_name {l : List UInt8} {k : Nat} (h : Lib.index l [58] = k) : (Lib.cut l [58]).1 = l.take k := by rw [cutL_some h]
theorem cl_low (s : List UInt8) : Lib.equalFold s clL = decide (s.map low1 = clL) := equalFold_low s clL (by decide)
end Go.X.TryzW
end
section
open Go Go.X Go.Proofs
set_option maxRecDepth 100000
set_option maxHeartbeats 4000000
set_option linter.unusedSimpArgs false
set_option linter.unusedVariables false
namespace Go.X.TryzW
def z37 : XC :=
 (.seq (.ops [ ⟨(some 9), (.mov (.c (.int .i64 1))), none⟩]) (.block 1 (.loop (.seq (.seq (.ops [ ⟨(some 52), (.mov (.t 9)), none⟩, ⟨(some 53), (.mov (.t 6)), none⟩, ⟨(some 54), (.bin .lss (.t 52) (.t 53)), none⟩]) (.cond (.t 54) .skip (.exit 1))) (.seq (.block 2 (.seq (.ops [ ⟨(some 57), (.mov (.t 0)), none⟩, ⟨(some 58), (.mov (.t 1)), none⟩, ⟨(some 59), (.mov (.t 9)), none⟩, ⟨(some 60), (.bin .add (.t 58) (.t 59)), none⟩, ⟨(some 61), (.idx (.t 57) (.t 60)), none⟩, ⟨(some 62), (.cvInt .i64 (.t 61)), none⟩, ⟨(some 10), (.mov (.t 62)), none⟩]) (.seq (.seq (.ops [ ⟨(some 63), (.mov (.t 10)), none⟩, ⟨(some 64), (.bin .lss (.t 63) (.c (.int .i64 128))), none⟩, ⟨(some 65), (.mov (.t 64)), none⟩, ⟨(some 66), (.mov (.t 10)), (some (65, false))⟩, ⟨(some 67), (.bin .geq (.t 66) (.c (.int .i64 192))), (some (65, false))⟩, ⟨(some 68), (.pick (.t 65) (.c (.bool true)) (.t 67)), none⟩]) (.cond (.t 68) (.seq (.ops [ ⟨(some 4), (.mov (.c (.int .i64 0))), none⟩]) .ret) .skip)) (.ops [ ⟨(some 69), (.mov (.t 7)), none⟩, ⟨(some 70), (.bin .mul (.c (.int .i64 64)) (.t 69)), none⟩, ⟨(some 71), (.mov (.t 10)), none⟩, ⟨(some 72), (.bin .add (.t 70) (.t 71)), none⟩, ⟨(some 73), (.bin .sub (.t 72) (.c (.int .i64 128))), none⟩, ⟨(some 7), (.mov (.t 73)), none⟩])))) (.ops [ ⟨(some 55), (.mov (.t 9)), none⟩, ⟨(some 56), (.bin .add (.t 55) (.c (.int .i64 1))), none⟩, ⟨(some 9), (.mov (.t 56)), none⟩]))))))
/- "tiller/tillerref13.UTF8" params { toList := [9, 3] } results { toList := [Go.ResultVar.tmp 4] } -/
def y37 : XC :=
 (.seq (.ops [ ⟨(some 4), (.mov (.c (.int .i64 0))), none⟩]) (.seq (.ops [ ⟨(some 11), (.mov (.t 0)), none⟩, ⟨(some 12), (.mov (.t 1)), none⟩, ⟨(some 13), (.idx (.t 11) (.t 12)), none⟩, ⟨(some 14), (.cvInt .i64 (.t 13)), none⟩, ⟨(some 5), (.mov (.t 14)), none⟩]) (.seq (.ops [ ⟨(some 15), (.mov (.t 5)), none⟩, ⟨(some 6), (.mov (.c (.int .i64 1))), none⟩, ⟨(some 7), (.mov (.t 15)), none⟩, ⟨(some 8), (.mov (.c (.int .i64 0))), none⟩]) (.seq (.block 0 (.seq (.ops [ ⟨(some 17), (.mov (.t 5)), none⟩, ⟨(some 18), (.bin .geq (.t 17) (.c (.int .i64 240))), none⟩, ⟨(some 19), (.mov (.t 18)), none⟩, ⟨(some 20), (.mov (.t 5)), (some (19, true))⟩, ⟨(some 21), (.bin .lss (.t 20) (.c (.int .i64 248))), (some (19, true))⟩, ⟨(some 22), (.pick (.t 19) (.t 21) (.c (.bool false))), none⟩, ⟨(some 16), (.mov (.t 22)), none⟩]) (.cond (.t 16) (.ops [ ⟨(some 23), (.mov (.t 5)), none⟩, ⟨(some 24), (.bin .sub (.t 23) (.c (.int .i64 240))), none⟩, ⟨(some 6), (.mov (.c (.int .i64 4))), none⟩, ⟨(some 7), (.mov (.t 24)), none⟩, ⟨(some 8), (.mov (.c (.int .i64 65536))), none⟩]) (.seq (.ops [ ⟨(some 26), (.mov (.t 5)), none⟩, ⟨(some 27), (.bin .geq (.t 26) (.c (.int .i64 224))), none⟩, ⟨(some 28), (.mov (.t 27)), none⟩, ⟨(some 29), (.mov (.t 5)), (some (28, true))⟩, ⟨(some 30), (.bin .lss (.t 29) (.c (.int .i64 240))), (some (28, true))⟩, ⟨(some 31), (.pick (.t 28) (.t 30) (.c (.bool false))), none⟩, ⟨(some 25), (.mov (.t 31)), none⟩]) (.cond (.t 25) (.ops [ ⟨(some 32), (.mov (.t 5)), none⟩, ⟨(some 33), (.bin .sub (.t 32) (.c (.int .i64 224))), none⟩, ⟨(some 6), (.mov (.c (.int .i64 3))), none⟩, ⟨(some 7), (.mov (.t 33)), none⟩, ⟨(some 8), (.mov (.c (.int .i64 2048))), none⟩]) (.seq (.ops [ ⟨(some 35), (.mov (.t 5)), none⟩, ⟨(some 36), (.bin .geq (.t 35) (.c (.int .i64 192))), none⟩, ⟨(some 37), (.mov (.t 36)), none⟩, ⟨(some 38), (.mov (.t 5)), (some (37, true))⟩, ⟨(some 39), (.bin .lss (.t 38) (.c (.int .i64 224))), (some (37, true))⟩, ⟨(some 40), (.pick (.t 37) (.t 39) (.c (.bool false))), none⟩, ⟨(some 34), (.mov (.t 40)), none⟩]) (.cond (.t 34) (.ops [ ⟨(some 41), (.mov (.t 5)), none⟩, ⟨(some 42), (.bin .sub (.t 41) (.c (.int .i64 192))), none⟩, ⟨(some 6), (.mov (.c (.int .i64 2))), none⟩, ⟨(some 7), (.mov (.t 42)), none⟩, ⟨(some 8), (.mov (.c (.int .i64 128))), none⟩]) (.seq (.ops [ ⟨(some 44), (.mov (.t 5)), none⟩, ⟨(some 45), (.bin .geq (.t 44) (.c (.int .i64 128))), none⟩, ⟨(some 43), (.mov (.t 45)), none⟩]) (.cond (.t 43) (.seq (.ops [ ⟨(some 4), (.mov (.c (.int .i64 0))), none⟩]) .ret) .skip))))))))) (.seq (.seq (.ops [ ⟨(some 46), (.mov (.t 1)), none⟩, ⟨(some 47), (.mov (.t 6)), none⟩, ⟨(some 48), (.bin .add (.t 46) (.t 47)), none⟩, ⟨(some 49), (.mov (.t 0)), none⟩, ⟨(some 50), (.lenS (.t 49)), none⟩, ⟨(some 51), (.bin .gtr (.t 48) (.t 50)), none⟩]) (.cond (.t 51) (.seq (.ops [ ⟨(some 4), (.mov (.c (.int .i64 0))), none⟩]) .ret) .skip)) (.seq z37 (.seq (.seq (.ops [ ⟨(some 74), (.mov (.t 7)), none⟩, ⟨(some 75), (.mov (.t 8)), none⟩, ⟨(some 76), (.bin .lss (.t 74) (.t 75)), none⟩, ⟨(some 77), (.mov (.t 76)), none⟩, ⟨(some 78), (.mov (.t 7)), (some (77, false))⟩, ⟨(some 79), (.bin .gtr (.t 78) (.c (.int .i64 1114111))), (some (77, false))⟩, ⟨(some 80), (.pick (.t 77) (.c (.bool true)) (.t 79)), none⟩, ⟨(some 81), (.mov (.t 80)), none⟩, ⟨(some 82), (.mov (.t 7)), (some (81, false))⟩, ⟨(some 83), (.bin .geq (.t 82) (.c (.int .i64 55296))), (some (81, false))⟩, ⟨(some 84), (.mov (.t 83)), (some (81, false))⟩, ⟨(some 85), (.mov (.t 7)), (some (84, true))⟩, ⟨(some 86), (.bin .leq (.t 85) (.c (.int .i64 57343))), (some (84, true))⟩, ⟨(some 87), (.pick (.t 84) (.t 86) (.c (.bool false))), (some (81, false))⟩, ⟨(some 88), (.pick (.t 81) (.c (.bool true)) (.t 87)), none⟩]) (.cond (.t 88) (.seq (.ops [ ⟨(some 4), (.mov (.c (.int .i64 0))), none⟩]) .ret) .skip)) (.seq (.ops [ ⟨(some 89), (.mov (.t 6)), none⟩, ⟨(some 4), (.mov (.t 89)), none⟩]) .ret))))))))
/- "tiller/tillerref13.Valid" params { toList := [9] } results { toList := [Go.ResultVar.tmp 2] } -/
def y17 : XC :=
 (.seq
  (.ops [
    ⟨(some 2), (.mov (.c (.bool false))), none⟩])
  (.seq
   (.seq
    (.ops [
      ⟨(some 3), (.mov (.c (.int .i64 0))), none⟩])
    (.block 0
     (.loop
      (.seq
       (.seq
        (.ops [
          ⟨(some 5), (.mov (.t 3)), none⟩,
          ⟨(some 6), (.mov (.t 0)), none⟩,
          ⟨(some 7), (.lenS (.t 6)), none⟩,
          ⟨(some 8), (.bin .lss (.t 5) (.t 7)), none⟩])
        (.cond (.t 8)
         .skip
         (.exit 0)))
       (.block 1
        (.seq
         (.ops [
           ⟨(some 9), (.mov (.t 0)), none⟩,
           ⟨(some 10), (.mov (.t 3)), none⟩,
           ⟨(some 11), (.call (.f 37) [(.t 9), (.t 10)]), none⟩,
           ⟨(some 4), (.mov (.t 11)), none⟩])
         (.seq
          (.seq
           (.ops [
             ⟨(some 12), (.mov (.t 4)), none⟩,
             ⟨(some 13), (.bin .eql (.t 12) (.c (.int .i64 0))), none⟩])
           (.cond (.t 13)
            (.seq
             (.ops [
               ⟨(some 2), (.mov (.c (.bool false))), none⟩])
             .ret)
            .skip))
          (.ops [
            ⟨(some 14), (.mov (.t 3)), none⟩,
            ⟨(some 15), (.mov (.t 4)), none⟩,
            ⟨(some 16), (.bin .add (.t 14) (.t 15)), none⟩,
            ⟨(some 3), (.mov (.t 16)), none⟩]))))))))
   (.seq
    (.ops [
      ⟨(some 2), (.mov (.c (.bool true))), none⟩])
    .ret)))

section
variable {E : Env} {L : List Blk} {K : IV → List Blk → Prop}
def goodC (b : UInt8) : Bool := decide (128 ≤ b.toNat ∧ b.toNat < 192)
def gC (s : List UInt8) (i : Nat) : Nat → Bool
  | 0 => true
  | k + 1 => gC s i k && goodC (s.getD (i + (k + 1)) 0)
def cC (c0 : Int) (s : List UInt8) (i : Nat) : Nat → Int
  | 0 => c0
  | k + 1 => 64 * cC c0 s i k + ((s.getD (i + (k + 1)) 0).toNat : Int) - 128
theorem gC_mono (s : List UInt8) (i : Nat) : ∀ (n k : Nat), k ≤ n → gC s i n = true → gC s i k = true
  | 0, k, hk, h => by
    have : k = 0 := by omega
    subst this; exact h
  | n + 1, k, hk, h => by
    by_cases hkn : k = n + 1
    · subst hkn; exact h
    · unfold gC at h
      rw [Bool.and_eq_true] at h
      exact gC_mono s i n k (by omega) h.1
theorem cC_bnd (c0 : Int) (s : List UInt8) (i : Nat) (h0 : 0 ≤ c0) (h1 : c0 < 128) : ∀ k, gC s i k = true → 0 ≤ cC c0 s i k ∧ cC c0 s i k < 128 * 64 ^ k
  | 0, _ => by simp [cC]; omega
  | k + 1, h => by
    unfold gC at h
    rw [Bool.and_eq_true] at h
    obtain ⟨q1, q2⟩ := cC_bnd c0 s i h0 h1 k h.1
    have q3 := h.2
    unfold goodC at q3
    rw [decide_eq_true_eq] at q3
    unfold cC
    rw [Int.pow_succ]
    omega
theorem utf_cont (s : List UInt8) (i n : Nat) (c0 : Int) (x : IV) (hn : 1 ≤ n) (hn4 : n ≤ 4) (hin : i + n ≤ s.length) (hs : s.length ≤ 1000000) (hc0 : 0 ≤ c0) (hc1 : c0 < 128) {ρ : Rho}
    (h0 : ρ 0 = .str s) (h1 : ρ 1 = .int .i64 i) (h6 : ρ 6 = .int .i64 n) (h7 : ρ 7 = .int .i64 c0) (h8 : ρ 8 = x) :
    xrun E.noPan z37 ρ [] (fun e ρ' L' => L' = [] ∧ ((e = .ret ∧ ρ' 4 = .int .i64 0 ∧ gC s i (n - 1) = false) ∨
      (e = .normal ∧ gC s i (n - 1) = true ∧ ρ' 6 = .int .i64 n ∧ ρ' 7 = .int .i64 (cC c0 s i (n - 1)) ∧ ρ' 8 = x))) := by
  unfold z37
  simp only [h0, h1, h6, h7, h8, go_sem, Nat.reduceEqDiff, reduceIte, Int.reduceEq, Int.reduceLT, Int.reduceLE, Nat.reduceAdd, Nat.reduceLT, Nat.reduceLeDiff, Int.reduceToNat, Int.reduceSub, Int.reduceAdd, Int.reduceNeg]
  refine s_loop (fun c ρ L => ∃ j : Nat, j + 1 ≤ n ∧ c = n - 1 - j ∧ L = [] ∧ ρ 0 = .str s ∧ ρ 1 = .int .i64 i ∧ ρ 6 = .int .i64 n ∧ ρ 7 = .int .i64 (cC c0 s i j) ∧ ρ 8 = x ∧ ρ 9 = .int .i64 ((j + 1 : Nat) : Int) ∧ gC s i j = true) (n := n - 1)
    ⟨0, hn, rfl, rfl, by simp only [h0, go_sem, Nat.reduceEqDiff, reduceIte, Int.reduceEq, Int.reduceLT, Int.reduceLE, Nat.reduceAdd, Nat.reduceLT, Nat.reduceLeDiff, Int.reduceToNat, Int.reduceSub, Int.reduceAdd, Int.reduceNeg], by simp only [h1, go_sem, Nat.reduceEqDiff, reduceIte, Int.reduceEq, Int.reduceLT, Int.reduceLE, Nat.reduceAdd, Nat.reduceLT, Nat.reduceLeDiff, Int.reduceToNat, Int.reduceSub, Int.reduceAdd, Int.reduceNeg], by simp only [h6, go_sem, Nat.reduceEqDiff, reduceIte, Int.reduceEq, Int.reduceLT, Int.reduceLE, Nat.reduceAdd, Nat.reduceLT, Nat.reduceLeDiff, Int.reduceToNat, Int.reduceSub, Int.reduceAdd, Int.reduceNeg], by simp only [h7, go_sem, Nat.reduceEqDiff, reduceIte, Int.reduceEq, Int.reduceLT, Int.reduceLE, Nat.reduceAdd, Nat.reduceLT, Nat.reduceLeDiff, Int.reduceToNat, Int.reduceSub, Int.reduceAdd, Int.reduceNeg]; try rfl, by simp only [h8, go_sem, Nat.reduceEqDiff, reduceIte, Int.reduceEq, Int.reduceLT, Int.reduceLE, Nat.reduceAdd, Nat.reduceLT, Nat.reduceLeDiff, Int.reduceToNat, Int.reduceSub, Int.reduceAdd, Int.reduceNeg], by simp only [go_sem, Nat.reduceEqDiff, reduceIte, Int.reduceEq, Int.reduceLT, Int.reduceLE, Nat.reduceAdd, Nat.reduceLT, Nat.reduceLeDiff, Int.reduceToNat, Int.reduceSub, Int.reduceAdd, Int.reduceNeg]; try rfl, rfl⟩ ?_
  clear h0 h1 h6 h7 h8 ρ
  rintro c ρ L ⟨j, hj, rfl, rfl, h0, h1, h6, h7, h8, h9, hg⟩
  have hb := cC_bnd c0 s i hc0 hc1 j hg
  have hpow : (128 : Int) * 64 ^ j ≤ 128 * 64 ^ 3 := by
    have : j = 0 ∨ j = 1 ∨ j = 2 ∨ j = 3 := by omega
    rcases this with rfl | rfl | rfl | rfl <;> decide
  have hpow2 : (128 : Int) * 64 ^ 3 = 33554432 := by decide
  by_cases hjn : j + 1 < n
  · have e1 : (((j + 1 : Nat) : Int) < (n : Int)) = True := eq_true (by omega)
    have hwj : IntKind.i64.wrap ((i : Int) + ((j + 1 : Nat) : Int)) = ((i + (j + 1) : Nat) : Int) := by rw [wrap64 (by omega) (by omega)]; omega
    have hw1 : IntKind.i64.wrap (((j + 1 : Nat) : Int) + 1) = ((j + 1 + 1 : Nat) : Int) := by rw [wrap64 (by omega) (by omega)]; omega
    have e2 : (((i + (j + 1) : Nat) : Int) < (s.length : Int)) = True := eq_true (by omega)
    have hbl := (s.getD (i + (j + 1)) 0).toNat_lt
    have hcv : IntKind.i64.wrap (((s.getD (i + (j + 1)) 0).toNat : Nat) : Int) = (((s.getD (i + (j + 1)) 0).toNat : Nat) : Int) := wrap64 (by omega) (by omega)
    have hcs : cC c0 s i (j + 1) = 64 * cC c0 s i j + ((s.getD (i + (j + 1)) 0).toNat : Int) - 128 := rfl
    have hgs : gC s i (j + 1) = (gC s i j && goodC (s.getD (i + (j + 1)) 0)) := rfl
    have hbad : goodC (s.getD (i + (j + 1)) 0) = false → gC s i (n - 1) = false := fun h => by
      cases hq : gC s i (n - 1) with
      | false => rfl
      | true =>
        have := gC_mono s i (n - 1) (j + 1) (by omega) hq
        rw [hgs, h, Bool.and_false] at this
        cases this
    have hgood : goodC (s.getD (i + (j + 1)) 0) = decide (128 ≤ (s.getD (i + (j + 1)) 0).toNat ∧ (s.getD (i + (j + 1)) 0).toNat < 192) := rfl
    generalize hbe : s.getD (i + (j + 1)) 0 = b at *
    by_cases q1 : b.toNat < 128
    · have k1 : ((b.toNat : Int) < 128) = True := eq_true (by omega)
      simp only [h0, h1, h6, h7, h8, h9, e1, hwj, e2, hbe, k1, hcv, go_sem, Nat.reduceEqDiff, reduceIte, Int.reduceEq, Int.reduceLT, Int.reduceLE, Nat.reduceAdd, Nat.reduceLT, Nat.reduceLeDiff, Int.reduceToNat, Int.reduceSub, Int.reduceAdd, Int.reduceNeg]
      repeat (refine ⟨by omega, ?_⟩)
      have := hbad (by rw [hgood, decide_eq_false (by omega)])
      simp [this]
    have k1 : ((b.toNat : Int) < 128) = False := eq_false (by omega)
    by_cases q2 : 192 ≤ b.toNat
    · have k2 : ((192 : Int) ≤ (b.toNat : Int)) = True := eq_true (by omega)
      simp only [h0, h1, h6, h7, h8, h9, e1, hwj, e2, hbe, k1, k2, hcv, go_sem, Nat.reduceEqDiff, reduceIte, Int.reduceEq, Int.reduceLT, Int.reduceLE, Nat.reduceAdd, Nat.reduceLT, Nat.reduceLeDiff, Int.reduceToNat, Int.reduceSub, Int.reduceAdd, Int.reduceNeg]
      repeat (refine ⟨by omega, ?_⟩)
      have := hbad (by rw [hgood, decide_eq_false (by omega)])
      simp [this]
    have k2 : ((192 : Int) ≤ (b.toNat : Int)) = False := eq_false (by omega)
    have hm1 : IntKind.i64.wrap (64 * cC c0 s i j) = 64 * cC c0 s i j := wrap64 (by omega) (by omega)
    have hm2 : IntKind.i64.wrap (64 * cC c0 s i j + (b.toNat : Int)) = 64 * cC c0 s i j + (b.toNat : Int) := wrap64 (by omega) (by omega)
    have hm3 : IntKind.i64.wrap (64 * cC c0 s i j + (b.toNat : Int) - 128) = cC c0 s i (j + 1) := by rw [hcs, wrap64 (by omega) (by omega)]
    simp only [h0, h1, h6, h7, h8, h9, e1, hwj, e2, hbe, k1, k2, hcv, hm1, hm2, hm3, go_sem, Nat.reduceEqDiff, reduceIte, Int.reduceEq, Int.reduceLT, Int.reduceLE, Nat.reduceAdd, Nat.reduceLT, Nat.reduceLeDiff, Int.reduceToNat, Int.reduceSub, Int.reduceAdd, Int.reduceNeg]
    trace_state
    exact ⟨n - 1 - (j + 1), by omega, j + 1, by omega, rfl, rfl, by rw [hw1], by rw [hgs, hg, hgood, decide_eq_true (by omega)]; rfl⟩
  · have e1 : (((j + 1 : Nat) : Int) < (n : Int)) = False := eq_false (by omega)
    have hjn' : n - 1 = j := by omega
    rw [hjn']
    simp only [h0, h1, h6, h7, h8, h9, e1, go_sem, Nat.reduceEqDiff, reduceIte, Int.reduceEq, Int.reduceLT, Int.reduceLE, Nat.reduceAdd, Nat.reduceLT, Nat.reduceLeDiff, Int.reduceToNat, Int.reduceSub, Int.reduceAdd, Int.reduceNeg]
    simp [hg]
def finU (s : List UInt8) (i n : Nat) (c0 least : Int) : Nat :=
  if s.length < i + n then 0 else if gC s i (n - 1) = false then 0 else if cC c0 s i (n - 1) < least ∨ 1114111 < cC c0 s i (n - 1) ∨ (55296 ≤ cC c0 s i (n - 1) ∧ cC c0 s i (n - 1) ≤ 57343) then 0 else n
def utfR (s : List UInt8) (i : Nat) : Nat :=
  if 240 ≤ (s.getD i 0).toNat ∧ (s.getD i 0).toNat < 248 then finU s i 4 (((s.getD i 0).toNat : Int) - 240) 65536
  else if 224 ≤ (s.getD i 0).toNat ∧ (s.getD i 0).toNat < 240 then finU s i 3 (((s.getD i 0).toNat : Int) - 224) 2048
  else if 192 ≤ (s.getD i 0).toNat ∧ (s.getD i 0).toNat < 224 then finU s i 2 (((s.getD i 0).toNat : Int) - 192) 128
  else if 128 ≤ (s.getD i 0).toNat then 0
  else finU s i 1 ((s.getD i 0).toNat : Int) 0
theorem utf8_pure (hP : E.P = Tryz.prog) (s : List UInt8) (i : Nat) (hi : i < s.length) (hs : s.length ≤ 1000000) : XPure E 37 [.str s, .int .i64 i] (.int .i64 (utfR s i)) := by
  refine xpure1 (n := Tryz.f37.ntmps) (c := y37) (t := 4) (by rw [hP]; rfl) (by rw [hP]; kernel_rfl) (by decide) (Nat.le_of_ble_eq_true rfl) ?_
  generalize hρ : entry _ = ρ
  have h0 : ρ 0 = .str s := by rw [← hρ]; rfl
  have h1 : ρ 1 = .int .i64 i := by rw [← hρ]; rfl
  clear hρ
  unfold y37
  have e0 : ((0 : Int) ≤ (i : Int)) = True := eq_true (by omega)
  have e1 : ((i : Int) < (s.length : Int)) = True := eq_true (by omega)
  have hbl := (s.getD i 0).toNat_lt
  have hcv : IntKind.i64.wrap (((s.getD i 0).toNat : Nat) : Int) = (((s.getD i 0).toNat : Nat) : Int) := wrap64 (by omega) (by omega)
  unfold utfR
  generalize hbe : (s.getD i 0).toNat = b at *
  by_cases a1 : 240 ≤ b
  · have f1 : ((240 : Int) ≤ (b : Int)) = True := eq_true (by omega)
    by_cases a2 : b < 248
    · have f2 : ((b : Int) < 248) = True := eq_true (by omega)
      have hw : IntKind.i64.wrap ((b : Int) - 240) = (b : Int) - 240 := wrap64 (by omega) (by omega)
      rw [if_pos ⟨a1, a2⟩]
      by_cases hlen : i + 4 ≤ s.length
      case neg =>
        have k1 : ((s.length : Int) < ((i + 4 : Nat) : Int)) = True := eq_true (by omega)
        have hwn : IntKind.i64.wrap ((i : Int) + 4) = ((i + 4 : Nat) : Int) := by rw [wrap64 (by omega) (by omega)]; rfl
        simp only [h0, h1, e0, e1, hcv, hbe, f1, f2, hw, k1, hwn, go_sem, Nat.reduceEqDiff, reduceIte, Int.reduceEq, Int.reduceLT, Int.reduceLE, Nat.reduceAdd, Nat.reduceLT, Nat.reduceLeDiff, Int.reduceToNat, Int.reduceSub, Int.reduceAdd, Int.reduceNeg]
        repeat (refine ⟨by omega, ?_⟩)
        unfold finU
        rw [if_pos (by omega)]
        rfl
      have k1 : ((s.length : Int) < ((i + 4 : Nat) : Int)) = False := eq_false (by omega)
      have hwn : IntKind.i64.wrap ((i : Int) + 4) = ((i + 4 : Nat) : Int) := by rw [wrap64 (by omega) (by omega)]; rfl
      simp only [h0, h1, e0, e1, hcv, hbe, f1, f2, hw, k1, hwn, go_sem, Nat.reduceEqDiff, reduceIte, Int.reduceEq, Int.reduceLT, Int.reduceLE, Nat.reduceAdd, Nat.reduceLT, Nat.reduceLeDiff, Int.reduceToNat, Int.reduceSub, Int.reduceAdd, Int.reduceNeg]
      refine xrun_cut _ (utf_cont s i 4 ((b : Int) - 240) (.int .i64 65536) (by omega) (by omega) hlen hs (by omega) (by omega) (by simp only [h0, h1, e0, e1, hcv, hbe, go_sem, Nat.reduceEqDiff, reduceIte, Int.reduceEq, Int.reduceLT, Int.reduceLE, Nat.reduceAdd, Nat.reduceLT, Nat.reduceLeDiff, Int.reduceToNat, Int.reduceSub, Int.reduceAdd, Int.reduceNeg]) (by simp only [h0, h1, e0, e1, hcv, hbe, go_sem, Nat.reduceEqDiff, reduceIte, Int.reduceEq, Int.reduceLT, Int.reduceLE, Nat.reduceAdd, Nat.reduceLT, Nat.reduceLeDiff, Int.reduceToNat, Int.reduceSub, Int.reduceAdd, Int.reduceNeg]) (by simp only [h0, h1, e0, e1, hcv, hbe, go_sem, Nat.reduceEqDiff, reduceIte, Int.reduceEq, Int.reduceLT, Int.reduceLE, Nat.reduceAdd, Nat.reduceLT, Nat.reduceLeDiff, Int.reduceToNat, Int.reduceSub, Int.reduceAdd, Int.reduceNeg]; try rfl) (by simp only [h0, h1, e0, e1, hcv, hbe, go_sem, Nat.reduceEqDiff, reduceIte, Int.reduceEq, Int.reduceLT, Int.reduceLE, Nat.reduceAdd, Nat.reduceLT, Nat.reduceLeDiff, Int.reduceToNat, Int.reduceSub, Int.reduceAdd, Int.reduceNeg]; try rfl) (by simp only [h0, h1, e0, e1, hcv, hbe, go_sem, Nat.reduceEqDiff, reduceIte, Int.reduceEq, Int.reduceLT, Int.reduceLE, Nat.reduceAdd, Nat.reduceLT, Nat.reduceLeDiff, Int.reduceToNat, Int.reduceSub, Int.reduceAdd, Int.reduceNeg]; try rfl)) ?_
      clear h0 h1 ρ
      rintro e ρ L ⟨rfl, ⟨rfl, h4, hg⟩ | ⟨rfl, hg, h6, h7, h8⟩⟩
      · simp only [h4, go_sem, Nat.reduceEqDiff, reduceIte, Int.reduceEq, Int.reduceLT, Int.reduceLE, Nat.reduceAdd, Nat.reduceLT, Nat.reduceLeDiff, Int.reduceToNat, Int.reduceSub, Int.reduceAdd, Int.reduceNeg]
        unfold finU
        rw [if_neg (by omega), if_pos hg]
        rfl
      unfold finU
      rw [if_neg (by omega), if_neg (by rw [hg]; decide)]
      generalize cC ((b : Int) - 240) s i (4 - 1) = c at *
      by_cases r1 : c < 65536
      · have m1 : (c < 65536) = True := eq_true r1
        rw [if_pos (.inl r1)]
        simp only [h6, h7, h8, m1, go_sem, Nat.reduceEqDiff, reduceIte, Int.reduceEq, Int.reduceLT, Int.reduceLE, Nat.reduceAdd, Nat.reduceLT, Nat.reduceLeDiff, Int.reduceToNat, Int.reduceSub, Int.reduceAdd, Int.reduceNeg]
        rfl
      have m1 : (c < 65536) = False := eq_false r1
      by_cases r2 : 1114111 < c
      · have m2 : ((1114111 : Int) < c) = True := eq_true r2
        rw [if_pos (.inr (.inl r2))]
        simp only [h6, h7, h8, m1, m2, go_sem, Nat.reduceEqDiff, reduceIte, Int.reduceEq, Int.reduceLT, Int.reduceLE, Nat.reduceAdd, Nat.reduceLT, Nat.reduceLeDiff, Int.reduceToNat, Int.reduceSub, Int.reduceAdd, Int.reduceNeg]
        rfl
      have m2 : ((1114111 : Int) < c) = False := eq_false r2
      by_cases r3 : 55296 ≤ c
      case neg =>
        have m3 : ((55296 : Int) ≤ c) = False := eq_false r3
        rw [if_neg (by omega)]
        simp only [h6, h7, h8, m1, m2, m3, go_sem, Nat.reduceEqDiff, reduceIte, Int.reduceEq, Int.reduceLT, Int.reduceLE, Nat.reduceAdd, Nat.reduceLT, Nat.reduceLeDiff, Int.reduceToNat, Int.reduceSub, Int.reduceAdd, Int.reduceNeg]
        rfl
      have m3 : ((55296 : Int) ≤ c) = True := eq_true r3
      by_cases r4 : c ≤ 57343
      · have m4 : (c ≤ (57343 : Int)) = True := eq_true r4
        rw [if_pos (.inr (.inr ⟨r3, r4⟩))]
        simp only [h6, h7, h8, m1, m2, m3, m4, go_sem, Nat.reduceEqDiff, reduceIte, Int.reduceEq, Int.reduceLT, Int.reduceLE, Nat.reduceAdd, Nat.reduceLT, Nat.reduceLeDiff, Int.reduceToNat, Int.reduceSub, Int.reduceAdd, Int.reduceNeg]
        rfl
      have m4 : (c ≤ (57343 : Int)) = False := eq_false r4
      rw [if_neg (by omega)]
      simp only [h6, h7, h8, m1, m2, m3, m4, go_sem, Nat.reduceEqDiff, reduceIte, Int.reduceEq, Int.reduceLT, Int.reduceLE, Nat.reduceAdd, Nat.reduceLT, Nat.reduceLeDiff, Int.reduceToNat, Int.reduceSub, Int.reduceAdd, Int.reduceNeg]
      rfl
    have f2 : ((b : Int) < 248) = False := eq_false (by omega)
    have f3 : ((224 : Int) ≤ (b : Int)) = True := eq_true (by omega)
    have f4 : ((b : Int) < 240) = False := eq_false (by omega)
    have f5 : ((192 : Int) ≤ (b : Int)) = True := eq_true (by omega)
    have f6 : ((b : Int) < 224) = False := eq_false (by omega)
    have f7 : ((128 : Int) ≤ (b : Int)) = True := eq_true (by omega)
    rw [if_neg (by omega), if_neg (by omega), if_neg (by omega), if_pos (by omega)]
    simp only [h0, h1, e0, e1, hcv, hbe, f1, f2, f3, f4, f5, f6, f7, go_sem, Nat.reduceEqDiff, reduceIte, Int.reduceEq, Int.reduceLT, Int.reduceLE, Nat.reduceAdd, Nat.reduceLT, Nat.reduceLeDiff, Int.reduceToNat, Int.reduceSub, Int.reduceAdd, Int.reduceNeg]
    repeat (refine ⟨by omega, ?_⟩)
    rfl
  have f1 : ((240 : Int) ≤ (b : Int)) = False := eq_false (by omega)
  rw [if_neg (by omega)]
  by_cases a3 : 224 ≤ b
  · have f3 : ((224 : Int) ≤ (b : Int)) = True := eq_true (by omega)
    have f4 : ((b : Int) < 240) = True := eq_true (by omega)
    have hw : IntKind.i64.wrap ((b : Int) - 224) = (b : Int) - 224 := wrap64 (by omega) (by omega)
    rw [if_pos (by omega)]
    by_cases hlen : i + 3 ≤ s.length
    case neg =>
      have k1 : ((s.length : Int) < ((i + 3 : Nat) : Int)) = True := eq_true (by omega)
      have hwn : IntKind.i64.wrap ((i : Int) + 3) = ((i + 3 : Nat) : Int) := by rw [wrap64 (by omega) (by omega)]; rfl
      simp only [h0, h1, e0, e1, hcv, hbe, f1, f3, f4, hw, k1, hwn, go_sem, Nat.reduceEqDiff, reduceIte, Int.reduceEq, Int.reduceLT, Int.reduceLE, Nat.reduceAdd, Nat.reduceLT, Nat.reduceLeDiff, Int.reduceToNat, Int.reduceSub, Int.reduceAdd, Int.reduceNeg]
      repeat (refine ⟨by omega, ?_⟩)
      unfold finU
      rw [if_pos (by omega)]
      rfl
    have k1 : ((s.length : Int) < ((i + 3 : Nat) : Int)) = False := eq_false (by omega)
    have hwn : IntKind.i64.wrap ((i : Int) + 3) = ((i + 3 : Nat) : Int) := by rw [wrap64 (by omega) (by omega)]; rfl
    simp only [h0, h1, e0, e1, hcv, hbe, f1, f3, f4, hw, k1, hwn, go_sem, Nat.reduceEqDiff, reduceIte, Int.reduceEq, Int.reduceLT, Int.reduceLE, Nat.reduceAdd, Nat.reduceLT, Nat.reduceLeDiff, Int.reduceToNat, Int.reduceSub, Int.reduceAdd, Int.reduceNeg]
    refine xrun_cut _ (utf_cont s i 3 ((b : Int) - 224) (.int .i64 2048) (by omega) (by omega) hlen hs (by omega) (by omega) (by simp only [h0, h1, e0, e1, hcv, hbe, go_sem, Nat.reduceEqDiff, reduceIte, Int.reduceEq, Int.reduceLT, Int.reduceLE, Nat.reduceAdd, Nat.reduceLT, Nat.reduceLeDiff, Int.reduceToNat, Int.reduceSub, Int.reduceAdd, Int.reduceNeg]) (by simp only [h0, h1, e0, e1, hcv, hbe, go_sem, Nat.reduceEqDiff, reduceIte, Int.reduceEq, Int.reduceLT, Int.reduceLE, Nat.reduceAdd, Nat.reduceLT, Nat.reduceLeDiff, Int.reduceToNat, Int.reduceSub, Int.reduceAdd, Int.reduceNeg]) (by simp only [h0, h1, e0, e1, hcv, hbe, go_sem, Nat.reduceEqDiff, reduceIte, Int.reduceEq, Int.reduceLT, Int.reduceLE, Nat.reduceAdd, Nat.reduceLT, Nat.reduceLeDiff, Int.reduceToNat, Int.reduceSub, Int.reduceAdd, Int.reduceNeg]; try rfl) (by simp only [h0, h1, e0, e1, hcv, hbe, go_sem, Nat.reduceEqDiff, reduceIte, Int.reduceEq, Int.reduceLT, Int.reduceLE, Nat.reduceAdd, Nat.reduceLT, Nat.reduceLeDiff, Int.reduceToNat, Int.reduceSub, Int.reduceAdd, Int.reduceNeg]; try rfl) (by simp only [h0, h1, e0, e1, hcv, hbe, go_sem, Nat.reduceEqDiff, reduceIte, Int.reduceEq, Int.reduceLT, Int.reduceLE, Nat.reduceAdd, Nat.reduceLT, Nat.reduceLeDiff, Int.reduceToNat, Int.reduceSub, Int.reduceAdd, Int.reduceNeg]; try rfl)) ?_
    clear h0 h1 ρ
    rintro e ρ L ⟨rfl, ⟨rfl, h4, hg⟩ | ⟨rfl, hg, h6, h7, h8⟩⟩
    · simp only [h4, go_sem, Nat.reduceEqDiff, reduceIte, Int.reduceEq, Int.reduceLT, Int.reduceLE, Nat.reduceAdd, Nat.reduceLT, Nat.reduceLeDiff, Int.reduceToNat, Int.reduceSub, Int.reduceAdd, Int.reduceNeg]
      unfold finU
      rw [if_neg (by omega), if_pos hg]
      rfl
    unfold finU
    rw [if_neg (by omega), if_neg (by rw [hg]; decide)]
    generalize cC ((b : Int) - 224) s i (3 - 1) = c at *
    by_cases r1 : c < 2048
    · have m1 : (c < 2048) = True := eq_true r1
      rw [if_pos (.inl r1)]
      simp only [h6, h7, h8, m1, go_sem, Nat.reduceEqDiff, reduceIte, Int.reduceEq, Int.reduceLT, Int.reduceLE, Nat.reduceAdd, Nat.reduceLT, Nat.reduceLeDiff, Int.reduceToNat, Int.reduceSub, Int.reduceAdd, Int.reduceNeg]
      rfl
    have m1 : (c < 2048) = False := eq_false r1
    by_cases r2 : 1114111 < c
    · have m2 : ((1114111 : Int) < c) = True := eq_true r2
      rw [if_pos (.inr (.inl r2))]
      simp only [h6, h7, h8, m1, m2, go_sem, Nat.reduceEqDiff, reduceIte, Int.reduceEq, Int.reduceLT, Int.reduceLE, Nat.reduceAdd, Nat.reduceLT, Nat.reduceLeDiff, Int.reduceToNat, Int.reduceSub, Int.reduceAdd, Int.reduceNeg]
      rfl
    have m2 : ((1114111 : Int) < c) = False := eq_false r2
    by_cases r3 : 55296 ≤ c
    case neg =>
      have m3 : ((55296 : Int) ≤ c) = False := eq_false r3
      rw [if_neg (by omega)]
      simp only [h6, h7, h8, m1, m2, m3, go_sem, Nat.reduceEqDiff, reduceIte, Int.reduceEq, Int.reduceLT, Int.reduceLE, Nat.reduceAdd, Nat.reduceLT, Nat.reduceLeDiff, Int.reduceToNat, Int.reduceSub, Int.reduceAdd, Int.reduceNeg]
      rfl
    have m3 : ((55296 : Int) ≤ c) = True := eq_true r3
    by_cases r4 : c ≤ 57343
    · have m4 : (c ≤ (57343 : Int)) = True := eq_true r4
      rw [if_pos (.inr (.inr ⟨r3, r4⟩))]
      simp only [h6, h7, h8, m1, m2, m3, m4, go_sem, Nat.reduceEqDiff, reduceIte, Int.reduceEq, Int.reduceLT, Int.reduceLE, Nat.reduceAdd, Nat.reduceLT, Nat.reduceLeDiff, Int.reduceToNat, Int.reduceSub, Int.reduceAdd, Int.reduceNeg]
      rfl
    have m4 : (c ≤ (57343 : Int)) = False := eq_false r4
    rw [if_neg (by omega)]
    simp only [h6, h7, h8, m1, m2, m3, m4, go_sem, Nat.reduceEqDiff, reduceIte, Int.reduceEq, Int.reduceLT, Int.reduceLE, Nat.reduceAdd, Nat.reduceLT, Nat.reduceLeDiff, Int.reduceToNat, Int.reduceSub, Int.reduceAdd, Int.reduceNeg]
    rfl
  have f3 : ((224 : Int) ≤ (b : Int)) = False := eq_false (by omega)
  rw [if_neg (by omega)]
  by_cases a4 : 192 ≤ b
  · have f5 : ((192 : Int) ≤ (b : Int)) = True := eq_true (by omega)
    have f6 : ((b : Int) < 224) = True := eq_true (by omega)
    have hw : IntKind.i64.wrap ((b : Int) - 192) = (b : Int) - 192 := wrap64 (by omega) (by omega)
    rw [if_pos (by omega)]
    by_cases hlen : i + 2 ≤ s.length
    case neg =>
      have k1 : ((s.length : Int) < ((i + 2 : Nat) : Int)) = True := eq_true (by omega)
      have hwn : IntKind.i64.wrap ((i : Int) + 2) = ((i + 2 : Nat) : Int) := by rw [wrap64 (by omega) (by omega)]; rfl
      simp only [h0, h1, e0, e1, hcv, hbe, f1, f3, f5, f6, hw, k1, hwn, go_sem, Nat.reduceEqDiff, reduceIte, Int.reduceEq, Int.reduceLT, Int.reduceLE, Nat.reduceAdd, Nat.reduceLT, Nat.reduceLeDiff, Int.reduceToNat, Int.reduceSub, Int.reduceAdd, Int.reduceNeg]
      repeat (refine ⟨by omega, ?_⟩)
      unfold finU
      rw [if_pos (by omega)]
      rfl
    have k1 : ((s.length : Int) < ((i + 2 : Nat) : Int)) = False := eq_false (by omega)
    have hwn : IntKind.i64.wrap ((i : Int) + 2) = ((i + 2 : Nat) : Int) := by rw [wrap64 (by omega) (by omega)]; rfl
    simp only [h0, h1, e0, e1, hcv, hbe, f1, f3, f5, f6, hw, k1, hwn, go_sem, Nat.reduceEqDiff, reduceIte, Int.reduceEq, Int.reduceLT, Int.reduceLE, Nat.reduceAdd, Nat.reduceLT, Nat.reduceLeDiff, Int.reduceToNat, Int.reduceSub, Int.reduceAdd, Int.reduceNeg]
    refine xrun_cut _ (utf_cont s i 2 ((b : Int) - 192) (.int .i64 128) (by omega) (by omega) hlen hs (by omega) (by omega) (by simp only [h0, h1, e0, e1, hcv, hbe, go_sem, Nat.reduceEqDiff, reduceIte, Int.reduceEq, Int.reduceLT, Int.reduceLE, Nat.reduceAdd, Nat.reduceLT, Nat.reduceLeDiff, Int.reduceToNat, Int.reduceSub, Int.reduceAdd, Int.reduceNeg]) (by simp only [h0, h1, e0, e1, hcv, hbe, go_sem, Nat.reduceEqDiff, reduceIte, Int.reduceEq, Int.reduceLT, Int.reduceLE, Nat.reduceAdd, Nat.reduceLT, Nat.reduceLeDiff, Int.reduceToNat, Int.reduceSub, Int.reduceAdd, Int.reduceNeg]) (by simp only [h0, h1, e0, e1, hcv, hbe, go_sem, Nat.reduceEqDiff, reduceIte, Int.reduceEq, Int.reduceLT, Int.reduceLE, Nat.reduceAdd, Nat.reduceLT, Nat.reduceLeDiff, Int.reduceToNat, Int.reduceSub, Int.reduceAdd, Int.reduceNeg]; try rfl) (by simp only [h0, h1, e0, e1, hcv, hbe, go_sem, Nat.reduceEqDiff, reduceIte, Int.reduceEq, Int.reduceLT, Int.reduceLE, Nat.reduceAdd, Nat.reduceLT, Nat.reduceLeDiff, Int.reduceToNat, Int.reduceSub, Int.reduceAdd, Int.reduceNeg]; try rfl) (by simp only [h0, h1, e0, e1, hcv, hbe, go_sem, Nat.reduceEqDiff, reduceIte, Int.reduceEq, Int.reduceLT, Int.reduceLE, Nat.reduceAdd, Nat.reduceLT, Nat.reduceLeDiff, Int.reduceToNat, Int.reduceSub, Int.reduceAdd, Int.reduceNeg]; try rfl)) ?_
    clear h0 h1 ρ
    rintro e ρ L ⟨rfl, ⟨rfl, h4, hg⟩ | ⟨rfl, hg, h6, h7, h8⟩⟩
    · simp only [h4, go_sem, Nat.reduceEqDiff, reduceIte, Int.reduceEq, Int.reduceLT, Int.reduceLE, Nat.reduceAdd, Nat.reduceLT, Nat.reduceLeDiff, Int.reduceToNat, Int.reduceSub, Int.reduceAdd, Int.reduceNeg]
      unfold finU
      rw [if_neg (by omega), if_pos hg]
      rfl
    unfold finU
    rw [if_neg (by omega), if_neg (by rw [hg]; decide)]
    generalize cC ((b : Int) - 192) s i (2 - 1) = c at *
    by_cases r1 : c < 128
    · have m1 : (c < 128) = True := eq_true r1
      rw [if_pos (.inl r1)]
      simp only [h6, h7, h8, m1, go_sem, Nat.reduceEqDiff, reduceIte, Int.reduceEq, Int.reduceLT, Int.reduceLE, Nat.reduceAdd, Nat.reduceLT, Nat.reduceLeDiff, Int.reduceToNat, Int.reduceSub, Int.reduceAdd, Int.reduceNeg]
      rfl
    have m1 : (c < 128) = False := eq_false r1
    by_cases r2 : 1114111 < c
    · have m2 : ((1114111 : Int) < c) = True := eq_true r2
      rw [if_pos (.inr (.inl r2))]
      simp only [h6, h7, h8, m1, m2, go_sem, Nat.reduceEqDiff, reduceIte, Int.reduceEq, Int.reduceLT, Int.reduceLE, Nat.reduceAdd, Nat.reduceLT, Nat.reduceLeDiff, Int.reduceToNat, Int.reduceSub, Int.reduceAdd, Int.reduceNeg]
      rfl
    have m2 : ((1114111 : Int) < c) = False := eq_false r2
    by_cases r3 : 55296 ≤ c
    case neg =>
      have m3 : ((55296 : Int) ≤ c) = False := eq_false r3
      rw [if_neg (by omega)]
      simp only [h6, h7, h8, m1, m2, m3, go_sem, Nat.reduceEqDiff, reduceIte, Int.reduceEq, Int.reduceLT, Int.reduceLE, Nat.reduceAdd, Nat.reduceLT, Nat.reduceLeDiff, Int.reduceToNat, Int.reduceSub, Int.reduceAdd, Int.reduceNeg]
      rfl
    have m3 : ((55296 : Int) ≤ c) = True := eq_true r3
    by_cases r4 : c ≤ 57343
    · have m4 : (c ≤ (57343 : Int)) = True := eq_true r4
      rw [if_pos (.inr (.inr ⟨r3, r4⟩))]
      simp only [h6, h7, h8, m1, m2, m3, m4, go_sem, Nat.reduceEqDiff, reduceIte, Int.reduceEq, Int.reduceLT, Int.reduceLE, Nat.reduceAdd, Nat.reduceLT, Nat.reduceLeDiff, Int.reduceToNat, Int.reduceSub, Int.reduceAdd, Int.reduceNeg]
      rfl
    have m4 : (c ≤ (57343 : Int)) = False := eq_false r4
    rw [if_neg (by omega)]
    simp only [h6, h7, h8, m1, m2, m3, m4, go_sem, Nat.reduceEqDiff, reduceIte, Int.reduceEq, Int.reduceLT, Int.reduceLE, Nat.reduceAdd, Nat.reduceLT, Nat.reduceLeDiff, Int.reduceToNat, Int.reduceSub, Int.reduceAdd, Int.reduceNeg]
    rfl
  have f5 : ((192 : Int) ≤ (b : Int)) = False := eq_false (by omega)
  rw [if_neg (by omega)]
  by_cases a5 : 128 ≤ b
  · have f7 : ((128 : Int) ≤ (b : Int)) = True := eq_true (by omega)
    rw [if_pos a5]
    simp only [h0, h1, e0, e1, hcv, hbe, f1, f3, f5, f7, go_sem, Nat.reduceEqDiff, reduceIte, Int.reduceEq, Int.reduceLT, Int.reduceLE, Nat.reduceAdd, Nat.reduceLT, Nat.reduceLeDiff, Int.reduceToNat, Int.reduceSub, Int.reduceAdd, Int.reduceNeg]
    repeat (refine ⟨by omega, ?_⟩)
    rfl
  have f7 : ((128 : Int) ≤ (b : Int)) = False := eq_false (by omega)
  rw [if_neg a5]
  by_cases hlen : i + 1 ≤ s.length
  case neg =>
    have k1 : ((s.length : Int) < ((i + 1 : Nat) : Int)) = True := eq_true (by omega)
    have hwn : IntKind.i64.wrap ((i : Int) + 1) = ((i + 1 : Nat) : Int) := by rw [wrap64 (by omega) (by omega)]; rfl
    simp only [h0, h1, e0, e1, hcv, hbe, f1, f3, f5, f7, k1, hwn, go_sem, Nat.reduceEqDiff, reduceIte, Int.reduceEq, Int.reduceLT, Int.reduceLE, Nat.reduceAdd, Nat.reduceLT, Nat.reduceLeDiff, Int.reduceToNat, Int.reduceSub, Int.reduceAdd, Int.reduceNeg]
    repeat (refine ⟨by omega, ?_⟩)
    unfold finU
    rw [if_pos (by omega)]
    rfl
  have k1 : ((s.length : Int) < ((i + 1 : Nat) : Int)) = False := eq_false (by omega)
  have hwn : IntKind.i64.wrap ((i : Int) + 1) = ((i + 1 : Nat) : Int) := by rw [wrap64 (by omega) (by omega)]; rfl
  simp only [h0, h1, e0, e1, hcv, hbe, f1, f3, f5, f7, k1, hwn, go_sem, Nat.reduceEqDiff, reduceIte, Int.reduceEq, Int.reduceLT, Int.reduceLE, Nat.reduceAdd, Nat.reduceLT, Nat.reduceLeDiff, Int.reduceToNat, Int.reduceSub, Int.reduceAdd, Int.reduceNeg]
  refine xrun_cut _ (utf_cont s i 1 ((b : Int)) (.int .i64 0) (by omega) (by omega) hlen hs (by omega) (by omega) (by simp only [h0, h1, e0, e1, hcv, hbe, go_sem, Nat.reduceEqDiff, reduceIte, Int.reduceEq, Int.reduceLT, Int.reduceLE, Nat.reduceAdd, Nat.reduceLT, Nat.reduceLeDiff, Int.reduceToNat, Int.reduceSub, Int.reduceAdd, Int.reduceNeg]) (by simp only [h0, h1, e0, e1, hcv, hbe, go_sem, Nat.reduceEqDiff, reduceIte, Int.reduceEq, Int.reduceLT, Int.reduceLE, Nat.reduceAdd, Nat.reduceLT, Nat.reduceLeDiff, Int.reduceToNat, Int.reduceSub, Int.reduceAdd, Int.reduceNeg]) (by simp only [h0, h1, e0, e1, hcv, hbe, go_sem, Nat.reduceEqDiff, reduceIte, Int.reduceEq, Int.reduceLT, Int.reduceLE, Nat.reduceAdd, Nat.reduceLT, Nat.reduceLeDiff, Int.reduceToNat, Int.reduceSub, Int.reduceAdd, Int.reduceNeg]; try rfl) (by simp only [h0, h1, e0, e1, hcv, hbe, go_sem, Nat.reduceEqDiff, reduceIte, Int.reduceEq, Int.reduceLT, Int.reduceLE, Nat.reduceAdd, Nat.reduceLT, Nat.reduceLeDiff, Int.reduceToNat, Int.reduceSub, Int.reduceAdd, Int.reduceNeg]; try rfl) (by simp only [h0, h1, e0, e1, hcv, hbe, go_sem, Nat.reduceEqDiff, reduceIte, Int.reduceEq, Int.reduceLT, Int.reduceLE, Nat.reduceAdd, Nat.reduceLT, Nat.reduceLeDiff, Int.reduceToNat, Int.reduceSub, Int.reduceAdd, Int.reduceNeg]; try rfl)) ?_
  clear h0 h1 ρ
  rintro e ρ L ⟨rfl, ⟨rfl, h4, hg⟩ | ⟨rfl, hg, h6, h7, h8⟩⟩
  · simp only [h4, go_sem, Nat.reduceEqDiff, reduceIte, Int.reduceEq, Int.reduceLT, Int.reduceLE, Nat.reduceAdd, Nat.reduceLT, Nat.reduceLeDiff, Int.reduceToNat, Int.reduceSub, Int.reduceAdd, Int.reduceNeg]
    unfold finU
    rw [if_neg (by omega), if_pos hg]
    rfl
  unfold finU
  rw [if_neg (by omega), if_neg (by rw [hg]; decide)]
  generalize cC ((b : Int)) s i (1 - 1) = c at *
  by_cases r1 : c < 0
  · have m1 : (c < 0) = True := eq_true r1
    rw [if_pos (.inl r1)]
    simp only [h6, h7, h8, m1, go_sem, Nat.reduceEqDiff, reduceIte, Int.reduceEq, Int.reduceLT, Int.reduceLE, Nat.reduceAdd, Nat.reduceLT, Nat.reduceLeDiff, Int.reduceToNat, Int.reduceSub, Int.reduceAdd, Int.reduceNeg]
    rfl
  have m1 : (c < 0) = False := eq_false r1
  by_cases r2 : 1114111 < c
  · have m2 : ((1114111 : Int) < c) = True := eq_true r2
    rw [if_pos (.inr (.inl r2))]
    simp only [h6, h7, h8, m1, m2, go_sem, Nat.reduceEqDiff, reduceIte, Int.reduceEq, Int.reduceLT, Int.reduceLE, Nat.reduceAdd, Nat.reduceLT, Nat.reduceLeDiff, Int.reduceToNat, Int.reduceSub, Int.reduceAdd, Int.reduceNeg]
    rfl
  have m2 : ((1114111 : Int) < c) = False := eq_false r2
  by_cases r3 : 55296 ≤ c
  case neg =>
    have m3 : ((55296 : Int) ≤ c) = False := eq_false r3
    rw [if_neg (by omega)]
    simp only [h6, h7, h8, m1, m2, m3, go_sem, Nat.reduceEqDiff, reduceIte, Int.reduceEq, Int.reduceLT, Int.reduceLE, Nat.reduceAdd, Nat.reduceLT, Nat.reduceLeDiff, Int.reduceToNat, Int.reduceSub, Int.reduceAdd, Int.reduceNeg]
    rfl
  have m3 : ((55296 : Int) ≤ c) = True := eq_true r3
  by_cases r4 : c ≤ 57343
  · have m4 : (c ≤ (57343 : Int)) = True := eq_true r4
    rw [if_pos (.inr (.inr ⟨r3, r4⟩))]
    simp only [h6, h7, h8, m1, m2, m3, m4, go_sem, Nat.reduceEqDiff, reduceIte, Int.reduceEq, Int.reduceLT, Int.reduceLE, Nat.reduceAdd, Nat.reduceLT, Nat.reduceLeDiff, Int.reduceToNat, Int.reduceSub, Int.reduceAdd, Int.reduceNeg]
    rfl
  have m4 : (c ≤ (57343 : Int)) = False := eq_false r4
  rw [if_neg (by omega)]
  simp only [h6, h7, h8, m1, m2, m3, m4, go_sem, Nat.reduceEqDiff, reduceIte, Int.reduceEq, Int.reduceLT, Int.reduceLE, Nat.reduceAdd, Nat.reduceLT, Nat.reduceLeDiff, Int.reduceToNat, Int.reduceSub, Int.reduceAdd, Int.reduceNeg]
  rfl
end
end Go.X.TryzW
end
section
open Go Go.X Go.Proofs
set_option maxRecDepth 100000
set_option maxHeartbeats 4000000
set_option linter.unusedSimpArgs false
set_option linter.unusedVariables false
namespace Go.X.TryzW
section
variable {E : Env} {L : List Blk} {K : IV → List Blk → Prop}
theorem get_ba (l : List UInt8) (k : Nat) : (⟨l.toArray⟩ : ByteArray).get! k = l.getD k 0 := by
  show (l.toArray)[k]! = _
  rw [List.getD_eq_getElem?_getD]
  by_cases h : k < l.length
  · rw [getElem!_pos l.toArray k (by simpa using h), List.getElem?_eq_getElem h]; simp
  · rw [getElem!_neg l.toArray k (by simpa using h), List.getElem?_eq_none (by omega)]; rfl
theorem decodeL_eq (s : List UInt8) (i : Nat) : Lib.decodeL (s.drop i) = Lib.decodeN (s.length - i) (s.getD i 0).toNat (s.getD (i + 1) 0).toNat (s.getD (i + 2) 0).toNat (s.getD (i + 3) 0).toNat := by
  unfold Lib.decodeL
  rw [Lib.decode_at]
  simp only [get_ba]
  have e : ∀ k, (s.drop i).getD k 0 = s.getD (i + k) 0 := fun k => by rw [List.getD_eq_getElem?_getD, List.getD_eq_getElem?_getD, List.getElem?_drop]
  simp only [e]
  rw [show (⟨(s.drop i).toArray⟩ : ByteArray).size - 0 = s.length - i by simp [ByteArray.size]]
  simp
theorem gC0 (s : List UInt8) (i : Nat) : (gC s i 0 = false) = False := by simp [gC]
theorem gC1 (s : List UInt8) (i : Nat) : (gC s i 1 = false) = ¬ (128 ≤ (s.getD (i + 1) 0).toNat ∧ (s.getD (i + 1) 0).toNat < 192) := by
  unfold gC gC goodC
  rw [Bool.true_and, decide_eq_false_iff_not]
theorem gC2 (s : List UInt8) (i : Nat) : (gC s i 2 = false) = ¬ ((128 ≤ (s.getD (i + 1) 0).toNat ∧ (s.getD (i + 1) 0).toNat < 192) ∧ (128 ≤ (s.getD (i + 2) 0).toNat ∧ (s.getD (i + 2) 0).toNat < 192)) := by
  unfold gC gC gC goodC
  rw [Bool.true_and, ← Bool.decide_and, decide_eq_false_iff_not]
theorem gC3 (s : List UInt8) (i : Nat) : (gC s i 3 = false) = ¬ (((128 ≤ (s.getD (i + 1) 0).toNat ∧ (s.getD (i + 1) 0).toNat < 192) ∧ (128 ≤ (s.getD (i + 2) 0).toNat ∧ (s.getD (i + 2) 0).toNat < 192)) ∧ (128 ≤ (s.getD (i + 3) 0).toNat ∧ (s.getD (i + 3) 0).toNat < 192)) := by
  unfold gC gC gC gC goodC
  rw [Bool.true_and, ← Bool.decide_and, ← Bool.decide_and, decide_eq_false_iff_not]
theorem rhs_bad : (if ((65533, 1) : Nat × Nat).1 = 65533 ∧ ((65533, 1) : Nat × Nat).2 = 1 then 0 else ((65533, 1) : Nat × Nat).2) = 0 := if_pos ⟨rfl, rfl⟩
theorem rhs_ok (c n : Nat) (hn : n ≠ 1) : (if ((c, n) : Nat × Nat).1 = 65533 ∧ ((c, n) : Nat × Nat).2 = 1 then 0 else ((c, n) : Nat × Nat).2) = n := if_neg (fun h => hn h.2)
theorem utf_dec (s : List UInt8) (i : Nat) (hi : i < s.length) : utfR s i = if (Lib.decodeL (s.drop i)).1 = 65533 ∧ (Lib.decodeL (s.drop i)).2 = 1 then 0 else (Lib.decodeL (s.drop i)).2 := by
  rw [decodeL_eq]
  have c1 : cC (((s.getD i 0).toNat : Int) - 192) s i 1 = 64 * (((s.getD i 0).toNat : Int) - 192) + ((s.getD (i + 1) 0).toNat : Int) - 128 := rfl
  have c2 : cC (((s.getD i 0).toNat : Int) - 224) s i 2 = 64 * (64 * (((s.getD i 0).toNat : Int) - 224) + ((s.getD (i + 1) 0).toNat : Int) - 128) + ((s.getD (i + 2) 0).toNat : Int) - 128 := rfl
  have c3 : cC (((s.getD i 0).toNat : Int) - 240) s i 3 = 64 * (64 * (64 * (((s.getD i 0).toNat : Int) - 240) + ((s.getD (i + 1) 0).toNat : Int) - 128) + ((s.getD (i + 2) 0).toNat : Int) - 128) + ((s.getD (i + 3) 0).toNat : Int) - 128 := rfl
  have c0 : cC ((s.getD i 0).toNat : Int) s i 0 = ((s.getD i 0).toNat : Int) := rfl
  have g0 := gC0 s i
  have g1 := gC1 s i
  have g2 := gC2 s i
  have g3 := gC3 s i
  have l0 := (s.getD i 0).toNat_lt
  have l1 := (s.getD (i + 1) 0).toNat_lt
  have l2 := (s.getD (i + 2) 0).toNat_lt
  have l3 := (s.getD (i + 3) 0).toNat_lt
  unfold utfR finU
  simp only [Nat.reduceSub, c0, c1, c2, c3, g0, g1, g2, g3, Nat.sub_self]
  clear c0 c1 c2 c3 g0 g1 g2 g3
  generalize (s.getD i 0).toNat = b0 at *
  generalize (s.getD (i + 1) 0).toNat = b1 at *
  generalize (s.getD (i + 2) 0).toNat = b2 at *
  generalize (s.getD (i + 3) 0).toNat = b3 at *
  obtain ⟨m, hm⟩ : ∃ m, s.length = i + m := ⟨s.length - i, by omega⟩
  have hm0 : 0 < m := by omega
  rw [hm, show i + m - i = m by omega]
  simp only [Nat.add_lt_add_iff_left]
  clear hm hi
  by_cases a1 : b0 < 128
  · have hd : Lib.decodeN m b0 b1 b2 b3 = (b0, 1) := by unfold Lib.decodeN; rw [if_pos a1]
    rw [hd, if_neg (by omega), if_neg (by omega), if_neg (by omega), if_neg (by omega)]
    rw [if_neg (by omega), if_neg (fun h => h), if_neg (by omega), if_neg (by simp; omega)]
  by_cases a2 : b0 < 192
  · have hd : Lib.decodeN m b0 b1 b2 b3 = (65533, 1) := by
      unfold Lib.decodeN
      rw [if_neg a1, if_neg (by omega), if_neg (by omega), if_neg (by omega)]
    rw [hd, if_neg (by omega), if_neg (by omega), if_neg (by omega), if_pos (by omega), if_pos ⟨rfl, rfl⟩]
  by_cases a3 : b0 < 224
  · have hd : Lib.decodeN m b0 b1 b2 b3 = if (1 < m ∧ b1 / 64 = 2) ∧ b0 % 32 * 64 + b1 % 64 ≥ 128 then (b0 % 32 * 64 + b1 % 64, 2) else (65533, 1) := by
      unfold Lib.decodeN
      rw [if_neg a1]
      by_cases q : 1 < m ∧ b1 / 64 = 2
      · rw [if_pos ⟨by omega, q⟩]
        by_cases q2 : b0 % 32 * 64 + b1 % 64 ≥ 128
        · rw [if_pos q2, if_pos ⟨q, q2⟩]
        · rw [if_neg q2, if_neg (fun h => q2 h.2)]
      · rw [if_neg (fun h => q h.2), if_neg (by omega), if_neg (by omega), if_neg (fun h => q h.1)]
    by_cases q : (1 < m ∧ b1 / 64 = 2) ∧ b0 % 32 * 64 + b1 % 64 ≥ 128
    · rw [hd, if_pos q, rhs_ok _ _ (by decide)]
      rw [if_neg (by omega), if_neg (by omega), if_pos (by omega)]
      rw [if_neg (by omega), if_neg (fun h => h (by omega)), if_neg (by omega)]
    · rw [hd, if_neg q, rhs_bad]
      rw [if_neg (by omega), if_neg (by omega), if_pos (by omega)]
      split
      · rfl
      split
      · rfl
      split
      · rfl
      exfalso
      rename_i h1 h2 h3
      have h2' := Decidable.of_not_not h2
      omega
  by_cases a4 : b0 < 240
  · have hd : Lib.decodeN m b0 b1 b2 b3 = if ((1 < m ∧ b1 / 64 = 2) ∧ (2 < m ∧ b2 / 64 = 2)) ∧ (b0 % 16 * 4096 + b1 % 64 * 64 + b2 % 64 ≥ 2048 ∧ (b0 % 16 * 4096 + b1 % 64 * 64 + b2 % 64 < 55296 ∨ (57344 ≤ b0 % 16 * 4096 + b1 % 64 * 64 + b2 % 64 ∧ b0 % 16 * 4096 + b1 % 64 * 64 + b2 % 64 ≤ 1114111))) then (b0 % 16 * 4096 + b1 % 64 * 64 + b2 % 64, 3) else (65533, 1) := by
      unfold Lib.decodeN
      rw [if_neg a1, if_neg (by omega)]
      by_cases q : (1 < m ∧ b1 / 64 = 2) ∧ (2 < m ∧ b2 / 64 = 2)
      · rw [if_pos ⟨by omega, q.1, q.2⟩]
        by_cases q2 : b0 % 16 * 4096 + b1 % 64 * 64 + b2 % 64 ≥ 2048 ∧ (b0 % 16 * 4096 + b1 % 64 * 64 + b2 % 64 < 55296 ∨ (57344 ≤ b0 % 16 * 4096 + b1 % 64 * 64 + b2 % 64 ∧ b0 % 16 * 4096 + b1 % 64 * 64 + b2 % 64 ≤ 1114111))
        · rw [if_pos q2, if_pos ⟨q, q2⟩]
        · rw [if_neg q2, if_neg (fun h => q2 h.2)]
      · rw [if_neg (fun h => q ⟨h.2.1, h.2.2⟩), if_neg (by omega), if_neg (fun h => q h.1)]
    by_cases q : ((1 < m ∧ b1 / 64 = 2) ∧ (2 < m ∧ b2 / 64 = 2)) ∧ (b0 % 16 * 4096 + b1 % 64 * 64 + b2 % 64 ≥ 2048 ∧ (b0 % 16 * 4096 + b1 % 64 * 64 + b2 % 64 < 55296 ∨ (57344 ≤ b0 % 16 * 4096 + b1 % 64 * 64 + b2 % 64 ∧ b0 % 16 * 4096 + b1 % 64 * 64 + b2 % 64 ≤ 1114111)))
    · rw [hd, if_pos q, rhs_ok _ _ (by decide)]
      rw [if_neg (by omega), if_pos (by omega)]
      rw [if_neg (by omega), if_neg (fun h => h (by omega)), if_neg (by omega)]
    · rw [hd, if_neg q, rhs_bad]
      rw [if_neg (by omega), if_pos (by omega)]
      split
      · rfl
      split
      · rfl
      split
      · rfl
      exfalso
      rename_i h1 h2 h3
      have h2' := Decidable.of_not_not h2
      omega
  by_cases a5 : b0 < 248
  · have hd : Lib.decodeN m b0 b1 b2 b3 = if ((1 < m ∧ b1 / 64 = 2) ∧ (2 < m ∧ b2 / 64 = 2) ∧ (3 < m ∧ b3 / 64 = 2)) ∧ (b0 % 8 * 262144 + b1 % 64 * 4096 + b2 % 64 * 64 + b3 % 64 ≥ 65536 ∧ (b0 % 8 * 262144 + b1 % 64 * 4096 + b2 % 64 * 64 + b3 % 64 < 55296 ∨ (57344 ≤ b0 % 8 * 262144 + b1 % 64 * 4096 + b2 % 64 * 64 + b3 % 64 ∧ b0 % 8 * 262144 + b1 % 64 * 4096 + b2 % 64 * 64 + b3 % 64 ≤ 1114111))) then (b0 % 8 * 262144 + b1 % 64 * 4096 + b2 % 64 * 64 + b3 % 64, 4) else (65533, 1) := by
      unfold Lib.decodeN
      rw [if_neg a1, if_neg (by omega), if_neg (by omega)]
      by_cases q : (1 < m ∧ b1 / 64 = 2) ∧ (2 < m ∧ b2 / 64 = 2) ∧ (3 < m ∧ b3 / 64 = 2)
      · rw [if_pos ⟨by omega, q⟩]
        by_cases q2 : (b0 % 8 * 262144 + b1 % 64 * 4096 + b2 % 64 * 64 + b3 % 64 ≥ 65536 ∧ (b0 % 8 * 262144 + b1 % 64 * 4096 + b2 % 64 * 64 + b3 % 64 < 55296 ∨ (57344 ≤ b0 % 8 * 262144 + b1 % 64 * 4096 + b2 % 64 * 64 + b3 % 64 ∧ b0 % 8 * 262144 + b1 % 64 * 4096 + b2 % 64 * 64 + b3 % 64 ≤ 1114111)))
        · rw [if_pos q2, if_pos ⟨q, q2⟩]
        · rw [if_neg q2, if_neg (fun h => q2 h.2)]
      · rw [if_neg (fun h => q h.2), if_neg (fun h => q h.1)]
    by_cases q : ((1 < m ∧ b1 / 64 = 2) ∧ (2 < m ∧ b2 / 64 = 2) ∧ (3 < m ∧ b3 / 64 = 2)) ∧ (b0 % 8 * 262144 + b1 % 64 * 4096 + b2 % 64 * 64 + b3 % 64 ≥ 65536 ∧ (b0 % 8 * 262144 + b1 % 64 * 4096 + b2 % 64 * 64 + b3 % 64 < 55296 ∨ (57344 ≤ b0 % 8 * 262144 + b1 % 64 * 4096 + b2 % 64 * 64 + b3 % 64 ∧ b0 % 8 * 262144 + b1 % 64 * 4096 + b2 % 64 * 64 + b3 % 64 ≤ 1114111)))
    · rw [hd, if_pos q, rhs_ok _ _ (by decide)]
      rw [if_pos (by omega)]
      rw [if_neg (by omega), if_neg (fun h => h (by omega)), if_neg (by omega)]
    · rw [hd, if_neg q, rhs_bad]
      rw [if_pos (by omega)]
      split
      · rfl
      split
      · rfl
      split
      · rfl
      exfalso
      rename_i h1 h2 h3
      have h2' := Decidable.of_not_not h2
      omega
  · have hd : Lib.decodeN m b0 b1 b2 b3 = (65533, 1) := by
      unfold Lib.decodeN
      rw [if_neg a1, if_neg (by omega), if_neg (by omega), if_neg (by omega)]
    rw [hd, rhs_bad, if_neg (by omega), if_neg (by omega), if_neg (by omega), if_pos (by omega)]
theorem utf_le (s : List UInt8) (i : Nat) : utfR s i ≤ 4 ∧ i + utfR s i ≤ max s.length i := by
  unfold utfR
  repeat' split
  all_goals first | (simp; done) | (unfold finU; repeat' split) | skip
  all_goals omega
theorem rvalid_pure (hP : E.P = Tryz.prog) (s : List UInt8) (hs : s.length ≤ 1000000) : XPure E 17 [.str s] (.bool (Lib.validD s)) := by
  refine xpure1 (n := Tryz.f17.ntmps) (c := y17) (t := 2) (by rw [hP]; rfl) (by rw [hP]; kernel_rfl) (by decide) (Nat.le_of_ble_eq_true rfl) ?_
  generalize hρ : entry _ = ρ
  have h0 : ρ 0 = .str s := by rw [← hρ]; rfl
  clear hρ
  unfold y17
  simp only [h0, go_sem, Nat.reduceEqDiff, reduceIte, Int.reduceEq, Int.reduceLT, Int.reduceLE, Nat.reduceAdd, Nat.reduceLT, Nat.reduceLeDiff, Int.reduceToNat, Int.reduceSub, Int.reduceAdd, Int.reduceNeg]
  refine s_loop (fun n ρ L => ∃ j : Nat, j ≤ s.length ∧ n = s.length - j ∧ L = [] ∧ ρ 0 = .str s ∧ ρ 3 = .int .i64 j ∧ Lib.validD s = Lib.validD (s.drop j))
    ⟨0, Nat.zero_le _, rfl, rfl, by simp only [h0, go_sem, Nat.reduceEqDiff, reduceIte, Int.reduceEq, Int.reduceLT, Int.reduceLE, Nat.reduceAdd, Nat.reduceLT, Nat.reduceLeDiff, Int.reduceToNat, Int.reduceSub, Int.reduceAdd, Int.reduceNeg], by simp only [go_sem, Nat.reduceEqDiff, reduceIte, Int.reduceEq, Int.reduceLT, Int.reduceLE, Nat.reduceAdd, Nat.reduceLT, Nat.reduceLeDiff, Int.reduceToNat, Int.reduceSub, Int.reduceAdd, Int.reduceNeg]; try rfl, rfl⟩ ?_
  clear h0 ρ
  rintro n ρ L ⟨j, hj, rfl, rfl, h0, h3, hv⟩
  by_cases hjl : j < s.length
  · have e1 : ((j : Int) < (s.length : Int)) = True := eq_true (by omega)
    simp only [h0, h3, e1, go_sem, Nat.reduceEqDiff, reduceIte, Int.reduceEq, Int.reduceLT, Int.reduceLE, Nat.reduceAdd, Nat.reduceLT, Nat.reduceLeDiff, Int.reduceToNat, Int.reduceSub, Int.reduceAdd, Int.reduceNeg]
    refine xcall_pure (args' := [.str s, .int .i64 j]) rfl (utf8_pure (E := E.noPan) hP s j hjl hs) rfl ?_
    have hne : s.drop j ≠ [] := by
      intro h
      have := congrArg List.length h
      rw [List.length_drop] at this
      simp at this; omega
    rw [Lib.validD_step _ hne] at hv
    have hu := utf_dec s j hjl
    have hle := utf_le s j
    by_cases hb : (Lib.decodeL (s.drop j)).1 = 65533 ∧ (Lib.decodeL (s.drop j)).2 = 1
    · rw [if_pos hb] at hv hu
      rw [hu, hv]
      simp only [h0, h3, e1, go_sem, Nat.reduceEqDiff, reduceIte, Int.reduceEq, Int.reduceLT, Int.reduceLE, Nat.reduceAdd, Nat.reduceLT, Nat.reduceLeDiff, Int.reduceToNat, Int.reduceSub, Int.reduceAdd, Int.reduceNeg]
      rfl
    · rw [if_neg hb] at hv hu
      rw [List.drop_drop, ← hu] at hv
      have hz : utfR s j ≠ 0 := by
        intro hz
        rw [hz] at hu
        have := Lib.decodeL_width (s.drop j)
        omega
      generalize utfR s j = u at *
      have k1 : ((u : Int) = 0) = False := eq_false (by omega)
      have hw : IntKind.i64.wrap ((j : Int) + (u : Int)) = ((j + u : Nat) : Int) := by rw [wrap64 (by omega) (by omega)]; omega
      simp only [h0, h3, e1, k1, hw, go_sem, Nat.reduceEqDiff, reduceIte, Int.reduceEq, Int.reduceLT, Int.reduceLE, Nat.reduceAdd, Nat.reduceLT, Nat.reduceLeDiff, Int.reduceToNat, Int.reduceSub, Int.reduceAdd, Int.reduceNeg]
      exact ⟨s.length - (j + u), by omega, j + u, by omega, rfl, rfl, hv⟩
  · have e1 : ((j : Int) < (s.length : Int)) = False := eq_false (by omega)
    rw [List.drop_eq_nil_of_le (by omega)] at hv
    rw [hv]
    simp only [h0, h3, e1, go_sem, Nat.reduceEqDiff, reduceIte, Int.reduceEq, Int.reduceLT, Int.reduceLE, Nat.reduceAdd, Nat.reduceLT, Nat.reduceLeDiff, Int.reduceToNat, Int.reduceSub, Int.reduceAdd, Int.reduceNeg]
    rfl
end
end Go.X.TryzW
end
section
open Go Go.X Go.Proofs
set_option maxRecDepth 100000
set_option maxHeartbeats 4000000
set_option linter.unusedSimpArgs false
set_option linter.unusedVariables false
namespace Go.X.TryzW
def z12 : XC :=
 (.seq (.ops [ ⟨(some 12), (.mov (.c (.int .i64 1))), none⟩]) (.block 0 (.loop (.seq (.seq (.ops [ ⟨(some 85), (.mov (.t 12)), none⟩, ⟨(some 86), (.mov (.t 8)), none⟩, ⟨(some 87), (.len (.t 86)), none⟩, ⟨(some 88), (.bin .lss (.t 85) (.t 87)), none⟩]) (.cond (.t 88) .skip (.exit 0))) (.seq (.block 1 (.seq (.ops [ ⟨(some 91), (.mov (.t 8)), none⟩, ⟨(some 92), (.mov (.t 12)), none⟩, ⟨(some 93), (.idxS 1 (.t 91) (.t 92)), none⟩, ⟨(some 94), (.load1 (.t 93)), none⟩, ⟨(some 95), (.call (.f 30) [(.t 94), (.c (.str [58]))]), none⟩, ⟨(some 13), (.mov (.t 95)), none⟩]) (.seq (.seq (.ops [ ⟨(some 96), (.mov (.t 13)), none⟩, ⟨(some 97), (.bin .lss (.t 96) (.c (.int .i64 0))), none⟩, ⟨(some 98), (.mov (.t 97)), none⟩, ⟨(some 99), (.mov (.t 8)), (some (98, false))⟩, ⟨(some 100), (.mov (.t 12)), (some (98, false))⟩, ⟨(some 101), (.idxS 1 (.t 99) (.t 100)), (some (98, false))⟩, ⟨(some 102), (.load1 (.t 101)), (some (98, false))⟩, ⟨(some 103), (.mov (.t 13)), (some (98, false))⟩, ⟨(some 104), (.sliceS (.t 102) none (some (.t 103))), (some (98, false))⟩, ⟨(some 105), (.call (.f 33) [(.t 104)]), (some (98, false))⟩, ⟨(some 106), (.un .not (.t 105)), (some (98, false))⟩, ⟨(some 107), (.pick (.t 98) (.c (.bool true)) (.t 106)), none⟩, ⟨(some 108), (.mov (.t 107)), none⟩, ⟨(some 109), (.mov (.t 8)), (some (108, false))⟩, ⟨(some 110), (.mov (.t 12)), (some (108, false))⟩, ⟨(some 111), (.idxS 1 (.t 109) (.t 110)), (some (108, false))⟩, ⟨(some 112), (.load1 (.t 111)), (some (108, false))⟩, ⟨(some 113), (.mov (.t 13)), (some (108, false))⟩, ⟨(some 114), (.bin .add (.t 113) (.c (.int .i64 1))), (some (108, false))⟩, ⟨(some 115), (.sliceS (.t 112) (some (.t 114)) none), (some (108, false))⟩, ⟨(some 116), (.call (.f 32) [(.t 115), (.c (.int .u8 32)), (.c (.int .u8 126))]), (some (108, false))⟩, ⟨(some 117), (.un .not (.t 116)), (some (108, false))⟩, ⟨(some 118), (.pick (.t 108) (.c (.bool true)) (.t 117)), none⟩]) (.cond (.t 118) (.seq (.ops [ ⟨(some 2), (.mov (.c (.str []))), none⟩, ⟨(some 3), (.mov (.c (.str []))), none⟩, ⟨(some 4), (.mov (.c (.str []))), none⟩, ⟨(some 5), (.mov (.c (.int .i64 400))), none⟩]) .ret) .skip)) (.seq (.seq (.ops [ ⟨(some 119), (.mov (.t 8)), none⟩, ⟨(some 120), (.mov (.t 12)), none⟩, ⟨(some 121), (.idxS 1 (.t 119) (.t 120)), none⟩, ⟨(some 122), (.load1 (.t 121)), none⟩, ⟨(some 123), (.mov (.t 13)), none⟩, ⟨(some 124), (.sliceS (.t 122) none (some (.t 123))), none⟩, ⟨(some 125), (.call (.f 34) [(.t 124)]), none⟩, ⟨(some 126), (.bin .neq (.t 125) (.c (.str [99, 111, 110, 116, 101, 110, 116, 45, 108, 101, 110, 103, 116, 104]))), none⟩]) (.cond (.t 126) (.exit 1) .skip)) (.seq (.ops [ ⟨(some 128), (.mov (.t 8)), none⟩, ⟨(some 129), (.mov (.t 12)), none⟩, ⟨(some 130), (.idxS 1 (.t 128) (.t 129)), none⟩, ⟨(some 131), (.load1 (.t 130)), none⟩, ⟨(some 132), (.mov (.t 13)), none⟩, ⟨(some 133), (.bin .add (.t 132) (.c (.int .i64 1))), none⟩, ⟨(some 134), (.sliceS (.t 131) (some (.t 133)) none), none⟩, ⟨(some 135), (.call (.f 36) [(.t 134)]), none⟩, ⟨(some 136), (.call (.f 35) [(.t 135)]), none⟩, ⟨(some 127), (.mov (.t 136)), none⟩, ⟨(some 137), (.ext (.t 127) 0), none⟩, ⟨(some 138), (.ext (.t 127) 1), none⟩, ⟨(some 14), (.mov (.t 137)), none⟩, ⟨(some 15), (.mov (.t 138)), none⟩]) (.seq (.seq (.ops [ ⟨(some 139), (.mov (.t 15)), none⟩, ⟨(some 140), (.un .not (.t 139)), none⟩, ⟨(some 141), (.mov (.t 140)), none⟩, ⟨(some 142), (.mov (.t 11)), (some (141, false))⟩, ⟨(some 143), (.pick (.t 141) (.c (.bool true)) (.t 142)), none⟩]) (.cond (.t 143) (.seq (.ops [ ⟨(some 2), (.mov (.c (.str []))), none⟩, ⟨(some 3), (.mov (.c (.str []))), none⟩, ⟨(some 4), (.mov (.c (.str []))), none⟩, ⟨(some 5), (.mov (.c (.int .i64 400))), none⟩]) .ret) .skip)) (.ops [ ⟨(some 144), (.mov (.t 14)), none⟩, ⟨(some 10), (.mov (.t 144)), none⟩, ⟨(some 11), (.mov (.c (.bool true))), none⟩]))))))) (.ops [ ⟨(some 89), (.mov (.t 12)), none⟩, ⟨(some 90), (.bin .add (.t 89) (.c (.int .i64 1))), none⟩, ⟨(some 12), (.mov (.t 90)), none⟩]))))))
/- "tiller/tillerref13.Read" params { toList := [23] } results { toList := [Go.ResultVar.tmp 2, Go.ResultVar.tmp 3, Go.ResultVar.tmp 4, Go.ResultVar.tmp 5] } -/
def y12 : XC :=
 (.seq (.ops [ ⟨(some 2), (.mov (.c (.str []))), none⟩, ⟨(some 3), (.mov (.c (.str []))), none⟩, ⟨(some 4), (.mov (.c (.str []))), none⟩, ⟨(some 5), (.mov (.c (.int .i64 0))), none⟩]) (.seq (.ops [ ⟨(some 17), (.mov (.t 0)), none⟩, ⟨(some 18), (.ex .bStr [(.t 17)]), none⟩, ⟨(some 6), (.mov (.t 18)), none⟩]) (.seq (.ops [ ⟨(some 19), (.mov (.t 6)), none⟩, ⟨(some 20), (.call (.f 30) [(.t 19), (.c (.str [13, 10, 13, 10]))]), none⟩, ⟨(some 7), (.mov (.t 20)), none⟩]) (.seq (.seq (.ops [ ⟨(some 21), (.mov (.t 7)), none⟩, ⟨(some 22), (.bin .lss (.t 21) (.c (.int .i64 0))), none⟩, ⟨(some 23), (.mov (.t 22)), none⟩, ⟨(some 24), (.mov (.t 7)), (some (23, false))⟩, ⟨(some 25), (.bin .add (.t 24) (.c (.int .i64 4))), (some (23, false))⟩, ⟨(some 26), (.bin .gtr (.t 25) (.c (.int .i64 4096))), (some (23, false))⟩, ⟨(some 27), (.pick (.t 23) (.c (.bool true)) (.t 26)), none⟩, ⟨(some 28), (.mov (.t 27)), none⟩, ⟨(some 29), (.mov (.t 6)), (some (28, true))⟩, ⟨(some 30), (.lenS (.t 29)), (some (28, true))⟩, ⟨(some 31), (.bin .geq (.t 30) (.c (.int .i64 4096))), (some (28, true))⟩, ⟨(some 32), (.pick (.t 28) (.t 31) (.c (.bool false))), none⟩]) (.cond (.t 32) (.seq (.ops [ ⟨(some 2), (.mov (.c (.str []))), none⟩, ⟨(some 3), (.mov (.c (.str []))), none⟩, ⟨(some 4), (.mov (.c (.str []))), none⟩, ⟨(some 5), (.mov (.c (.int .i64 431))), none⟩]) .ret) .skip)) (.seq (.seq (.ops [ ⟨(some 33), (.mov (.t 7)), none⟩, ⟨(some 34), (.bin .lss (.t 33) (.c (.int .i64 0))), none⟩]) (.cond (.t 34) (.seq (.ops [ ⟨(some 2), (.mov (.c (.str []))), none⟩, ⟨(some 3), (.mov (.c (.str []))), none⟩, ⟨(some 4), (.mov (.c (.str []))), none⟩, ⟨(some 5), (.mov (.c (.int .i64 400))), none⟩]) .ret) .skip)) (.seq (.ops [ ⟨(some 35), (.mov (.t 6)), none⟩, ⟨(some 36), (.mov (.t 7)), none⟩, ⟨(some 37), (.sliceS (.t 35) none (some (.t 36))), none⟩, ⟨(some 38), (.call (.f 31) [(.t 37), (.c (.str [13, 10]))]), none⟩, ⟨(some 8), (.mov (.t 38)), none⟩]) (.seq (.ops [ ⟨(some 39), (.mov (.t 8)), none⟩, ⟨(some 40), (.idxS 1 (.t 39) (.c (.int .i64 0))), none⟩, ⟨(some 41), (.load1 (.t 40)), none⟩, ⟨(some 42), (.call (.f 31) [(.t 41), (.c (.str [32]))]), none⟩, ⟨(some 9), (.mov (.t 42)), none⟩]) (.seq (.seq (.ops [ ⟨(some 43), (.mov (.t 9)), none⟩, ⟨(some 44), (.len (.t 43)), none⟩, ⟨(some 45), (.bin .neq (.t 44) (.c (.int .i64 3))), none⟩, ⟨(some 46), (.mov (.t 45)), none⟩, ⟨(some 47), (.mov (.t 9)), (some (46, false))⟩, ⟨(some 48), (.idxS 1 (.t 47) (.c (.int .i64 0))), (some (46, false))⟩, ⟨(some 49), (.load1 (.t 48)), (some (46, false))⟩, ⟨(some 50), (.bin .eql (.t 49) (.c (.str []))), (some (46, false))⟩, ⟨(some 51), (.pick (.t 46) (.c (.bool true)) (.t 50)), none⟩, ⟨(some 52), (.mov (.t 51)), none⟩, ⟨(some 53), (.mov (.t 9)), (some (52, false))⟩, ⟨(some 54), (.idxS 1 (.t 53) (.c (.int .i64 0))), (some (52, false))⟩, ⟨(some 55), (.load1 (.t 54)), (some (52, false))⟩, ⟨(some 56), (.call (.f 32) [(.t 55), (.c (.int .u8 65)), (.c (.int .u8 90))]), (some (52, false))⟩, ⟨(some 57), (.un .not (.t 56)), (some (52, false))⟩, ⟨(some 58), (.pick (.t 52) (.c (.bool true)) (.t 57)), none⟩, ⟨(some 59), (.mov (.t 58)), none⟩, ⟨(some 60), (.mov (.t 9)), (some (59, false))⟩, ⟨(some 61), (.idxS 1 (.t 60) (.c (.int .i64 1))), (some (59, false))⟩, ⟨(some 62), (.load1 (.t 61)), (some (59, false))⟩, ⟨(some 63), (.bin .eql (.t 62) (.c (.str []))), (some (59, false))⟩, ⟨(some 64), (.pick (.t 59) (.c (.bool true)) (.t 63)), none⟩, ⟨(some 65), (.mov (.t 64)), none⟩, ⟨(some 66), (.mov (.t 9)), (some (65, false))⟩, ⟨(some 67), (.idxS 1 (.t 66) (.c (.int .i64 1))), (some (65, false))⟩, ⟨(some 68), (.load1 (.t 67)), (some (65, false))⟩, ⟨(some 69), (.idx (.t 68) (.c (.int .i64 0))), (some (65, false))⟩, ⟨(some 70), (.bin .neq (.t 69) (.c (.int .u8 47))), (some (65, false))⟩, ⟨(some 71), (.pick (.t 65) (.c (.bool true)) (.t 70)), none⟩, ⟨(some 72), (.mov (.t 71)), none⟩, ⟨(some 73), (.mov (.t 9)), (some (72, false))⟩, ⟨(some 74), (.idxS 1 (.t 73) (.c (.int .i64 1))), (some (72, false))⟩, ⟨(some 75), (.load1 (.t 74)), (some (72, false))⟩, ⟨(some 76), (.call (.f 32) [(.t 75), (.c (.int .u8 33)), (.c (.int .u8 126))]), (some (72, false))⟩, ⟨(some 77), (.un .not (.t 76)), (some (72, false))⟩, ⟨(some 78), (.pick (.t 72) (.c (.bool true)) (.t 77)), none⟩, ⟨(some 79), (.mov (.t 78)), none⟩, ⟨(some 80), (.mov (.t 9)), (some (79, false))⟩, ⟨(some 81), (.idxS 1 (.t 80) (.c (.int .i64 2))), (some (79, false))⟩, ⟨(some 82), (.load1 (.t 81)), (some (79, false))⟩, ⟨(some 83), (.bin .neq (.t 82) (.c (.str [72, 84, 84, 80, 47, 49, 46, 49]))), (some (79, false))⟩, ⟨(some 84), (.pick (.t 79) (.c (.bool true)) (.t 83)), none⟩]) (.cond (.t 84) (.seq (.ops [ ⟨(some 2), (.mov (.c (.str []))), none⟩, ⟨(some 3), (.mov (.c (.str []))), none⟩, ⟨(some 4), (.mov (.c (.str []))), none⟩, ⟨(some 5), (.mov (.c (.int .i64 400))), none⟩]) .ret) .skip)) (.seq (.ops [ ⟨(some 10), (.mov (.c (.int .i64 0))), none⟩, ⟨(some 11), (.mov (.c (.bool false))), none⟩]) (.seq z12 (.seq (.ops [ ⟨(some 145), (.mov (.t 6)), none⟩, ⟨(some 146), (.mov (.t 7)), none⟩, ⟨(some 147), (.bin .add (.t 146) (.c (.int .i64 4))), none⟩, ⟨(some 148), (.sliceS (.t 145) (some (.t 147)) none), none⟩, ⟨(some 16), (.mov (.t 148)), none⟩]) (.seq (.block 2 (.seq (.ops [ ⟨(some 150), (.mov (.t 9)), none⟩, ⟨(some 151), (.idxS 1 (.t 150) (.c (.int .i64 0))), none⟩, ⟨(some 152), (.load1 (.t 151)), none⟩, ⟨(some 153), (.bin .neq (.t 152) (.c (.str [71, 69, 84]))), none⟩, ⟨(some 154), (.mov (.t 153)), none⟩, ⟨(some 155), (.mov (.t 9)), (some (154, true))⟩, ⟨(some 156), (.idxS 1 (.t 155) (.c (.int .i64 0))), (some (154, true))⟩, ⟨(some 157), (.load1 (.t 156)), (some (154, true))⟩, ⟨(some 158), (.bin .neq (.t 157) (.c (.str [80, 79, 83, 84]))), (some (154, true))⟩, ⟨(some 159), (.pick (.t 154) (.t 158) (.c (.bool false))), none⟩, ⟨(some 149), (.mov (.t 159)), none⟩]) (.cond (.t 149) (.seq (.ops [ ⟨(some 2), (.mov (.c (.str []))), none⟩, ⟨(some 3), (.mov (.c (.str []))), none⟩, ⟨(some 4), (.mov (.c (.str []))), none⟩, ⟨(some 5), (.mov (.c (.int .i64 405))), none⟩]) .ret) (.seq (.ops [ ⟨(some 161), (.mov (.t 10)), none⟩, ⟨(some 162), (.bin .gtr (.t 161) (.c (.int .i64 4096))), none⟩, ⟨(some 160), (.mov (.t 162)), none⟩]) (.cond (.t 160) (.seq (.ops [ ⟨(some 2), (.mov (.c (.str []))), none⟩, ⟨(some 3), (.mov (.c (.str []))), none⟩, ⟨(some 4), (.mov (.c (.str []))), none⟩, ⟨(some 5), (.mov (.c (.int .i64 413))), none⟩]) .ret) (.seq (.ops [ ⟨(some 164), (.mov (.t 16)), none⟩, ⟨(some 165), (.lenS (.t 164)), none⟩, ⟨(some 166), (.mov (.t 10)), none⟩, ⟨(some 167), (.bin .neq (.t 165) (.t 166)), none⟩, ⟨(some 168), (.mov (.t 167)), none⟩, ⟨(some 169), (.mov (.t 16)), (some (168, false))⟩, ⟨(some 170), (.call (.f 17) [(.t 169)]), (some (168, false))⟩, ⟨(some 171), (.un .not (.t 170)), (some (168, false))⟩, ⟨(some 172), (.pick (.t 168) (.c (.bool true)) (.t 171)), none⟩, ⟨(some 163), (.mov (.t 172)), none⟩]) (.cond (.t 163) (.seq (.ops [ ⟨(some 2), (.mov (.c (.str []))), none⟩, ⟨(some 3), (.mov (.c (.str []))), none⟩, ⟨(some 4), (.mov (.c (.str []))), none⟩, ⟨(some 5), (.mov (.c (.int .i64 400))), none⟩]) .ret) .skip))))))) (.seq (.draw [ ⟨(some 173), (.mov (.t 9)), none⟩, ⟨(some 174), (.idxS 1 (.t 173) (.c (.int .i64 0))), none⟩, ⟨(some 175), (.load1 (.t 174)), none⟩, ⟨(some 176), (.mov (.t 9)), none⟩, ⟨(some 177), (.idxS 1 (.t 176) (.c (.int .i64 1))), none⟩, ⟨(some 178), (.load1 (.t 177)), none⟩, ⟨(some 179), (.mov (.t 16)), none⟩, ⟨(some 2), (.mov (.t 175)), none⟩, ⟨(some 3), (.mov (.t 178)), none⟩, ⟨(some 4), (.mov (.t 179)), none⟩, ⟨(some 5), (.mov (.c (.int .i64 200))), none⟩]) .ret)))))))))))))
section
variable {E : Env} {L : List Blk} {K : IV → List Blk → Prop}
theorem hdr_run (hP : E.P = Tryz.prog) (ls : List (List UInt8)) (hls1 : 1 ≤ ls.length) (hls2 : ls.length ≤ 200000) (hls3 : ∀ l ∈ ls, l.length ≤ 200000) (raw : List UInt8) (i : Nat) (w : IV) {ρ : Rho}
    (h6 : ρ 6 = .str raw) (h7 : ρ 7 = .int .i64 i) (h8 : ρ 8 = .isl (sRows ls)) (h9 : ρ 9 = w) (h10 : ρ 10 = .int .i64 0) (h11 : ρ 11 = .bool false) :
    xrun E.noPan z12 ρ [] (fun e ρ' L' => L' = [] ∧ ((e = .ret ∧ (lengthGo (ls.drop 1) 0 false).2 = false ∧ ρ' 2 = .str [] ∧ ρ' 3 = .str [] ∧ ρ' 4 = .str [] ∧ ρ' 5 = .int .i64 400) ∨
      (e = .normal ∧ (lengthGo (ls.drop 1) 0 false).2 = true ∧ ρ' 6 = .str raw ∧ ρ' 7 = .int .i64 i ∧ ρ' 9 = w ∧ ρ' 10 = .int .i64 (lengthGo (ls.drop 1) 0 false).1))) := by
  generalize hg : lengthGo (ls.drop 1) 0 false = g
  unfold z12
  simp only [h6, h7, h8, h9, h10, h11, go_sem, Nat.reduceEqDiff, reduceIte, Int.reduceEq, Int.reduceLT, Int.reduceLE, Nat.reduceAdd, Nat.reduceLT, Nat.reduceLeDiff, Int.reduceToNat, Int.reduceSub, Int.reduceAdd, Int.reduceNeg]
  refine s_loop (fun c ρ L => ∃ (j : Nat) (n : Int) (said : Bool), j ≤ ls.length ∧ c = ls.length - j ∧ L = [] ∧ ρ 6 = .str raw ∧ ρ 7 = .int .i64 i ∧ ρ 8 = .isl (sRows ls) ∧ ρ 9 = w ∧ ρ 10 = .int .i64 n ∧ ρ 11 = .bool said ∧ ρ 12 = .int .i64 j ∧ lengthGo (ls.drop j) n said = g) (n := ls.length - 1)
    ⟨1, 0, false, hls1, rfl, rfl, by simp only [h6, go_sem, Nat.reduceEqDiff, reduceIte, Int.reduceEq, Int.reduceLT, Int.reduceLE, Nat.reduceAdd, Nat.reduceLT, Nat.reduceLeDiff, Int.reduceToNat, Int.reduceSub, Int.reduceAdd, Int.reduceNeg], by simp only [h7, go_sem, Nat.reduceEqDiff, reduceIte, Int.reduceEq, Int.reduceLT, Int.reduceLE, Nat.reduceAdd, Nat.reduceLT, Nat.reduceLeDiff, Int.reduceToNat, Int.reduceSub, Int.reduceAdd, Int.reduceNeg], by simp only [h8, go_sem, Nat.reduceEqDiff, reduceIte, Int.reduceEq, Int.reduceLT, Int.reduceLE, Nat.reduceAdd, Nat.reduceLT, Nat.reduceLeDiff, Int.reduceToNat, Int.reduceSub, Int.reduceAdd, Int.reduceNeg], by simp only [h9, go_sem, Nat.reduceEqDiff, reduceIte, Int.reduceEq, Int.reduceLT, Int.reduceLE, Nat.reduceAdd, Nat.reduceLT, Nat.reduceLeDiff, Int.reduceToNat, Int.reduceSub, Int.reduceAdd, Int.reduceNeg], by simp only [h10, go_sem, Nat.reduceEqDiff, reduceIte, Int.reduceEq, Int.reduceLT, Int.reduceLE, Nat.reduceAdd, Nat.reduceLT, Nat.reduceLeDiff, Int.reduceToNat, Int.reduceSub, Int.reduceAdd, Int.reduceNeg], by simp only [h11, go_sem, Nat.reduceEqDiff, reduceIte, Int.reduceEq, Int.reduceLT, Int.reduceLE, Nat.reduceAdd, Nat.reduceLT, Nat.reduceLeDiff, Int.reduceToNat, Int.reduceSub, Int.reduceAdd, Int.reduceNeg], by simp only [go_sem, Nat.reduceEqDiff, reduceIte, Int.reduceEq, Int.reduceLT, Int.reduceLE, Nat.reduceAdd, Nat.reduceLT, Nat.reduceLeDiff, Int.reduceToNat, Int.reduceSub, Int.reduceAdd, Int.reduceNeg]; try rfl, hg⟩ ?_
  clear h6 h7 h8 h9 h10 h11 hg ρ
  rintro c ρ L ⟨j, n, said, hj, rfl, rfl, h6, h7, h8, h9, h10, h11, h12, hgo⟩
  by_cases hjl : j < ls.length
  · have e1 : ((j : Int) < (ls.length : Int)) = True := eq_true (by omega)
    have e0 : ((0 : Int) ≤ (j : Int)) = True := eq_true (by omega)
    have hsr := sRows_get hjl
    have hlj : (ls.getD j []).length ≤ 200000 := hls3 _ (by rw [List.getD_eq_getElem?_getD, List.getElem?_eq_getElem hjl]; exact List.getElem_mem _)
    have hdr : ls.drop j = ls.getD j [] :: ls.drop (j + 1) := by
      rw [List.drop_eq_getElem_cons hjl, List.getD_eq_getElem?_getD, List.getElem?_eq_getElem hjl]; rfl
    have hwj : IntKind.i64.wrap ((j : Int) + 1) = ((j + 1 : Nat) : Int) := by rw [wrap64 (by omega) (by omega)]; rfl
    rw [hdr] at hgo
    unfold lengthGo at hgo
    generalize ls.getD j [] = lj at *
    simp only [h6, h7, h8, h9, h10, h11, h12, sRows_len, rows_s, e0, e1, hsr, go_sem, Nat.reduceEqDiff, reduceIte, Int.reduceEq, Int.reduceLT, Int.reduceLE, Nat.reduceAdd, Nat.reduceLT, Nat.reduceLeDiff, Int.reduceToNat, Int.reduceSub, Int.reduceAdd, Int.reduceNeg]
    repeat (refine ⟨by omega, ?_⟩)
    refine xcall_pure (args' := [.str lj, .str [58]]) rfl (rindex_pure (E := E.noPan) hP lj [58] (by omega) (by decide) (by decide)) rfl ?_
    rcases index_or lj [58] with hi | ⟨k, hi, hk⟩
    · rw [bad_none hi] at hgo
      rw [hi]
      simp only [h6, h7, h8, h9, h10, h11, h12, sRows_len, rows_s, e0, e1, hsr, go_sem, Nat.reduceEqDiff, reduceIte, Int.reduceEq, Int.reduceLT, Int.reduceLE, Nat.reduceAdd, Nat.reduceLT, Nat.reduceLeDiff, Int.reduceToNat, Int.reduceSub, Int.reduceAdd, Int.reduceNeg]
      subst hgo
      simp
    have hk' : k + 1 ≤ lj.length := hk
    rw [bad_some hi, hv_some hi, cut_name hi, cl_low] at hgo
    rw [hi]
    have f0 : ((k : Int) < 0) = False := eq_false (by omega)
    have hwk : IntKind.i64.wrap ((k : Int) + 1) = ((k + 1 : Nat) : Int) := by rw [wrap64 (by omega) (by omega)]; rfl
    simp only [h6, h7, h8, h9, h10, h11, h12, sRows_len, rows_s, e0, e1, hsr, f0, hwk, go_sem, Nat.reduceEqDiff, reduceIte, Int.reduceEq, Int.reduceLT, Int.reduceLE, Nat.reduceAdd, Nat.reduceLT, Nat.reduceLeDiff, Int.reduceToNat, Int.reduceSub, Int.reduceAdd, Int.reduceNeg]
    repeat (refine ⟨by omega, ?_⟩)
    refine xcall_pure (args' := [.str (lj.take k)]) rfl (rname_pure (E := E.noPan) hP (lj.take k) (by rw [List.length_take]; omega)) rfl ?_
    cases hnm : madeF nameF (lj.take k) with
    | false =>
      rw [hnm] at hgo
      simp only [h6, h7, h8, h9, h10, h11, h12, sRows_len, rows_s, e0, e1, hsr, f0, hwk, go_sem, Nat.reduceEqDiff, reduceIte, Int.reduceEq, Int.reduceLT, Int.reduceLE, Nat.reduceAdd, Nat.reduceLT, Nat.reduceLeDiff, Int.reduceToNat, Int.reduceSub, Int.reduceAdd, Int.reduceNeg]
      have : g = (0, false) := by rw [← hgo]; rfl
      subst this
      simp
    | true =>
    rw [hnm] at hgo
    simp only [h6, h7, h8, h9, h10, h11, h12, sRows_len, rows_s, e0, e1, hsr, f0, hwk, go_sem, Nat.reduceEqDiff, reduceIte, Int.reduceEq, Int.reduceLT, Int.reduceLE, Nat.reduceAdd, Nat.reduceLT, Nat.reduceLeDiff, Int.reduceToNat, Int.reduceSub, Int.reduceAdd, Int.reduceNeg]
    repeat (refine ⟨by omega, ?_⟩)
    refine xcall_pure (args' := [.str (lj.drop (k + 1)), .int .u8 32, .int .u8 126]) rfl (rwithin_pure (E := E.noPan) hP (lj.drop (k + 1)) 32 126 (by rw [List.length_drop]; omega)) rfl ?_
    cases hvl : (lj.drop (k + 1)).all (inB 32 126) with
    | false =>
      rw [hvl] at hgo
      simp only [h6, h7, h8, h9, h10, h11, h12, sRows_len, rows_s, e0, e1, hsr, f0, hwk, go_sem, Nat.reduceEqDiff, reduceIte, Int.reduceEq, Int.reduceLT, Int.reduceLE, Nat.reduceAdd, Nat.reduceLT, Nat.reduceLeDiff, Int.reduceToNat, Int.reduceSub, Int.reduceAdd, Int.reduceNeg]
      have : g = (0, false) := by rw [← hgo]; rfl
      subst this
      simp
    | true =>
    rw [hvl] at hgo
    simp only [h6, h7, h8, h9, h10, h11, h12, sRows_len, rows_s, e0, e1, hsr, f0, hwk, go_sem, Nat.reduceEqDiff, reduceIte, Int.reduceEq, Int.reduceLT, Int.reduceLE, Nat.reduceAdd, Nat.reduceLT, Nat.reduceLeDiff, Int.reduceToNat, Int.reduceSub, Int.reduceAdd, Int.reduceNeg]
    repeat (refine ⟨by omega, ?_⟩)
    refine xcall_pure (args' := [.str (lj.take k)]) rfl (rlower_pure (E := E.noPan) hP (lj.take k) (by rw [List.length_take]; omega)) rfl ?_
    by_cases hcl : (lj.take k).map low1 = clL
    · have f1 : ((lj.take k).map low1 = [99, 111, 110, 116, 101, 110, 116, 45, 108, 101, 110, 103, 116, 104]) = True := eq_true hcl
      rw [decide_eq_true hcl] at hgo
      simp only [h6, h7, h8, h9, h10, h11, h12, sRows_len, rows_s, e0, e1, hsr, f0, f1, hwk, go_sem, Nat.reduceEqDiff, reduceIte, Int.reduceEq, Int.reduceLT, Int.reduceLE, Nat.reduceAdd, Nat.reduceLT, Nat.reduceLeDiff, Int.reduceToNat, Int.reduceSub, Int.reduceAdd, Int.reduceNeg]
      repeat (refine ⟨by omega, ?_⟩)
      refine xcall_pure (args' := [.str (lj.drop (k + 1))]) rfl (rtrim_pure (E := E.noPan) hP (lj.drop (k + 1)) (by rw [List.length_drop]; omega)) rfl ?_
      simp only [h6, h7, h8, h9, h10, h11, h12, sRows_len, rows_s, e0, e1, hsr, f0, f1, hwk, go_sem, Nat.reduceEqDiff, reduceIte, Int.reduceEq, Int.reduceLT, Int.reduceLE, Nat.reduceAdd, Nat.reduceLT, Nat.reduceLeDiff, Int.reduceToNat, Int.reduceSub, Int.reduceAdd, Int.reduceNeg]
      have htl := trimB_len (lj.drop (k + 1)) 32
      rw [List.length_drop] at htl
      generalize Lib.trimB (lj.drop (k + 1)) 32 = tv at *
      refine xcall_pure (args' := [.str tv]) rfl (rlength_pure (E := E.noPan) hP tv (by omega)) rfl ?_
      cases hwf : wholeF tv 9 with
      | false =>
        rw [hwf] at hgo
        simp only [h6, h7, h8, h9, h10, h11, h12, sRows_len, rows_s, e0, e1, hsr, f0, f1, hwk, go_sem, Nat.reduceEqDiff, reduceIte, Int.reduceEq, Int.reduceLT, Int.reduceLE, Nat.reduceAdd, Nat.reduceLT, Nat.reduceLeDiff, Int.reduceToNat, Int.reduceSub, Int.reduceAdd, Int.reduceNeg]
        have : g = (0, false) := by rw [← hgo]; cases said <;> rfl
        subst this
        simp
      | true =>
      rw [hwf] at hgo
      cases said with
      | true =>
        simp only [h6, h7, h8, h9, h10, h11, h12, sRows_len, rows_s, e0, e1, hsr, f0, f1, hwk, go_sem, Nat.reduceEqDiff, reduceIte, Int.reduceEq, Int.reduceLT, Int.reduceLE, Nat.reduceAdd, Nat.reduceLT, Nat.reduceLeDiff, Int.reduceToNat, Int.reduceSub, Int.reduceAdd, Int.reduceNeg]
        have : g = (0, false) := by rw [← hgo]; rfl
        subst this
        simp
      | false =>
        simp only [h6, h7, h8, h9, h10, h11, h12, sRows_len, rows_s, e0, e1, hsr, f0, f1, hwk, go_sem, Nat.reduceEqDiff, reduceIte, Int.reduceEq, Int.reduceLT, Int.reduceLE, Nat.reduceAdd, Nat.reduceLT, Nat.reduceLeDiff, Int.reduceToNat, Int.reduceSub, Int.reduceAdd, Int.reduceNeg]
        exact ⟨ls.length - (j + 1), by omega, j + 1, lenV tv, true, by omega, rfl, rfl, rfl, by rw [hwj], by rw [← hgo]; rfl⟩
    · have f1 : ((lj.take k).map low1 = [99, 111, 110, 116, 101, 110, 116, 45, 108, 101, 110, 103, 116, 104]) = False := eq_false hcl
      rw [decide_eq_false hcl] at hgo
      simp only [h6, h7, h8, h9, h10, h11, h12, sRows_len, rows_s, e0, e1, hsr, f0, f1, hwk, go_sem, Nat.reduceEqDiff, reduceIte, Int.reduceEq, Int.reduceLT, Int.reduceLE, Nat.reduceAdd, Nat.reduceLT, Nat.reduceLeDiff, Int.reduceToNat, Int.reduceSub, Int.reduceAdd, Int.reduceNeg]
      exact ⟨ls.length - (j + 1), by omega, j + 1, n, said, by omega, rfl, rfl, rfl, by rw [hwj], by rw [← hgo]; rfl⟩
  · have e1 : ((j : Int) < (ls.length : Int)) = False := eq_false (by omega)
    have hd : ls.drop j = [] := List.drop_eq_nil_of_le (by omega)
    rw [hd] at hgo
    unfold lengthGo at hgo
    subst hgo
    simp only [h6, h7, h8, h9, h10, h11, h12, sRows_len, rows_s, e1, go_sem, Nat.reduceEqDiff, reduceIte, Int.reduceEq, Int.reduceLT, Int.reduceLE, Nat.reduceAdd, Nat.reduceLT, Nat.reduceLeDiff, Int.reduceToNat, Int.reduceSub, Int.reduceAdd, Int.reduceNeg]
    simp
end
end Go.X.TryzW
end
section
open Go Go.X Go.Proofs
set_option maxRecDepth 100000
set_option maxHeartbeats 4000000
set_option linter.unusedSimpArgs false
set_option linter.unusedVariables false
namespace Go.X.TryzW
section
variable {E : Env} {L : List Blk} {K : IV → List Blk → Prop}
theorem rf_431 {valid : List UInt8 → Bool} {raw : List UInt8} (h : ((!(Lib.cut raw endL).2.2 || decide (4096 < ((Lib.cut raw endL).1.length : Int) + 4)) && decide (4096 ≤ (raw.length : Int))) = true) : readF valid raw = ⟨[], [], [], 431⟩ := by
  unfold readF
  simp only [h, if_true]
theorem rf_400 {valid : List UInt8 → Bool} {raw : List UInt8} (h : ((!(Lib.cut raw endL).2.2 || decide (4096 < ((Lib.cut raw endL).1.length : Int) + 4)) && decide (4096 ≤ (raw.length : Int))) = false)
    (h2 : ((!(Lib.cut raw endL).2.2 || !firstOk ((splitL [13, 10] (Lib.cut raw endL).1).getD 0 [])) || !(lengthGo ((splitL [13, 10] (Lib.cut raw endL).1).drop 1) 0 false).2) = true) : readF valid raw = ⟨[], [], [], 400⟩ := by
  unfold readF
  simp only [h, h2, if_true, Bool.false_eq_true, if_false]
theorem rread_pure (hP : E.P = Tryz.prog) (valid : List UInt8 → Bool) (hv : ∀ s : List UInt8, s.length ≤ 1000000 → XPure E.noPan 17 [.str s] (.bool (valid s))) (raw : List UInt8) (hr : raw.length ≤ 100000) :
    XPure E 12 [.isl (bytesRows raw)] (readF valid raw).iv := by
  refine xpure_t4 (n := Tryz.f12.ntmps) (c := y12) (t := 2) (t' := 3) (t'' := 4) (t4 := 5) (by rw [hP]; rfl) (by rw [hP]; kernel_rfl) (by decide) (Nat.le_of_ble_eq_true rfl) ?_
  generalize hρ : entry _ = ρ
  have h0 : ρ 0 = .isl (bytesRows raw) := by rw [← hρ]; rfl
  clear hρ
  unfold y12
  simp only [h0, go_sem, Nat.reduceEqDiff, reduceIte, Int.reduceEq, Int.reduceLT, Int.reduceLE, Nat.reduceAdd, Nat.reduceLT, Nat.reduceLeDiff, Int.reduceToNat, Int.reduceSub, Int.reduceAdd, Int.reduceNeg]
  have hbs : (rowsSl [] (IV.isl (bytesRows raw))).bind (mapO byteOf) = some raw := bytesRows_of raw
  rw [hbs]
  simp only [h0, go_sem, Nat.reduceEqDiff, reduceIte, Int.reduceEq, Int.reduceLT, Int.reduceLE, Nat.reduceAdd, Nat.reduceLT, Nat.reduceLeDiff, Int.reduceToNat, Int.reduceSub, Int.reduceAdd, Int.reduceNeg]
  refine xcall_pure (args' := [.str raw, .str endL]) rfl (rindex_pure (E := E.noPan) hP raw endL (by omega) (by decide) (by decide)) rfl ?_
  rcases index_or raw endL with hi | ⟨i, hi, hil⟩
  · rw [hi]
    have hcut := cutL_none hi
    by_cases hlen : 4096 ≤ raw.length
    · have f1 : ((4096 : Int) ≤ (raw.length : Int)) = True := eq_true (by omega)
      rw [rf_431 (by rw [hcut, decide_eq_true (show (4096 : Int) ≤ (raw.length : Int) by omega)]; rfl)]
      simp only [h0, f1, go_sem, Nat.reduceEqDiff, reduceIte, Int.reduceEq, Int.reduceLT, Int.reduceLE, Nat.reduceAdd, Nat.reduceLT, Nat.reduceLeDiff, Int.reduceToNat, Int.reduceSub, Int.reduceAdd, Int.reduceNeg]
      rfl
    · have f1 : ((4096 : Int) ≤ (raw.length : Int)) = False := eq_false (by omega)
      rw [rf_400 (by rw [hcut, decide_eq_false (show ¬ (4096 : Int) ≤ (raw.length : Int) by omega), Bool.and_false]) (by rw [hcut]; rfl)]
      simp only [h0, f1, go_sem, Nat.reduceEqDiff, reduceIte, Int.reduceEq, Int.reduceLT, Int.reduceLE, Nat.reduceAdd, Nat.reduceLT, Nat.reduceLeDiff, Int.reduceToNat, Int.reduceSub, Int.reduceAdd, Int.reduceNeg]
      rfl
  rw [hi]
  have hcut := cutL_some hi
  have hil' : i + 4 ≤ raw.length := hil
  have hcl : (raw.take i).length = i := by rw [List.length_take]; omega
  have f0 : ((i : Int) < 0) = False := eq_false (by omega)
  have hw4 : IntKind.i64.wrap ((i : Int) + 4) = ((i + 4 : Nat) : Int) := by rw [wrap64 (by omega) (by omega)]; rfl
  simp only [h0, f0, hw4, go_sem, Nat.reduceEqDiff, reduceIte, Int.reduceEq, Int.reduceLT, Int.reduceLE, Nat.reduceAdd, Nat.reduceLT, Nat.reduceLeDiff, Int.reduceToNat, Int.reduceSub, Int.reduceAdd, Int.reduceNeg]
  refine s_mg (by simp only [h0, f0, hw4, go_sem, Nat.reduceEqDiff, reduceIte, Int.reduceEq, Int.reduceLT, Int.reduceLE, Nat.reduceAdd, Nat.reduceLT, Nat.reduceLeDiff, Int.reduceToNat, Int.reduceSub, Int.reduceAdd, Int.reduceNeg]; try rfl) ?_; simp only [cut_g, cut_t, cut_none, cut_out, memN_cons, memN_nil, Nat.reduceEqDiff, reduceIte, List.nil_append, List.cons_append, not_false_eq_true]; refine ex_merge rfl (by simp only [h0, f0, hw4, go_sem, Nat.reduceEqDiff, reduceIte, Int.reduceEq, Int.reduceLT, Int.reduceLE, Nat.reduceAdd, Nat.reduceLT, Nat.reduceLeDiff, Int.reduceToNat, Int.reduceSub, Int.reduceAdd, Int.reduceNeg]) (by intro hb; simp only [hb, h0, f0, hw4, go_sem, Nat.reduceEqDiff, reduceIte, Int.reduceEq, Int.reduceLT, Int.reduceLE, Nat.reduceAdd, Nat.reduceLT, Nat.reduceLeDiff, Int.reduceToNat, Int.reduceSub, Int.reduceAdd, Int.reduceNeg]; first | exact rfl | exact ⟨rfl, rfl⟩) (fun vs => ?_); simp only [h0, f0, hw4, go_sem, Nat.reduceEqDiff, reduceIte, Int.reduceEq, Int.reduceLT, Int.reduceLE, Nat.reduceAdd, Nat.reduceLT, Nat.reduceLeDiff, Int.reduceToNat, Int.reduceSub, Int.reduceAdd, Int.reduceNeg]
  have hc431 : ((!(Lib.cut raw endL).2.2 || decide (4096 < ((Lib.cut raw endL).1.length : Int) + 4)) && decide (4096 ≤ (raw.length : Int))) = (decide ((4096 : Int) < ((i + 4 : Nat) : Int)) && decide ((4096 : Int) ≤ (raw.length : Int))) := by
    rw [hcut]
    show ((!true || decide (4096 < ((raw.take i).length : Int) + 4)) && _) = _
    rw [hcl]; rfl
  refine s_cond (b := decide ((4096 : Int) < ((i + 4 : Nat) : Int)) && decide ((4096 : Int) ≤ (raw.length : Int))) (by simp only [h0, go_sem, Nat.reduceEqDiff, reduceIte, Int.reduceEq, Int.reduceLT, Int.reduceLE, Nat.reduceAdd, Nat.reduceLT, Nat.reduceLeDiff, Int.reduceToNat, Int.reduceSub, Int.reduceAdd, Int.reduceNeg]; try rfl) ?_ ?_ <;> intro hc <;> rw [hc] at hc431 <;> simp only [hc, h0, f0, hw4, go_sem, Nat.reduceEqDiff, reduceIte, Int.reduceEq, Int.reduceLT, Int.reduceLE, Nat.reduceAdd, Nat.reduceLT, Nat.reduceLeDiff, Int.reduceToNat, Int.reduceSub, Int.reduceAdd, Int.reduceNeg]
  · rw [rf_431 hc431]
    rfl
  refine ⟨by omega, ?_⟩
  refine xcall_pure (args' := [.str (raw.take i), .str [13, 10]]) rfl (rsplit_pure (E := E.noPan) hP (raw.take i) [13, 10] (by omega) (by decide) (by decide)) rfl ?_
  have hbad := rf_400 (valid := valid) hc431
  have hgood : (readF valid raw) = (if (!firstOk ((splitL [13, 10] (raw.take i)).getD 0 []) || !(lengthGo ((splitL [13, 10] (raw.take i)).drop 1) 0 false).2) then ⟨[], [], [], 400⟩
      else if !decide ((cut1 ((splitL [13, 10] (raw.take i)).getD 0 [])).1 = [71, 69, 84]) && !decide ((cut1 ((splitL [13, 10] (raw.take i)).getD 0 [])).1 = [80, 79, 83, 84]) then ⟨[], [], [], 405⟩
      else if 4096 < (lengthGo ((splitL [13, 10] (raw.take i)).drop 1) 0 false).1 then ⟨[], [], [], 413⟩
      else if !decide ((lengthGo ((splitL [13, 10] (raw.take i)).drop 1) 0 false).1 = ((raw.drop (i + 4)).length : Int)) || !valid (raw.drop (i + 4)) then ⟨[], [], [], 400⟩
      else ⟨(cut1 ((splitL [13, 10] (raw.take i)).getD 0 [])).1, (cut1 (cut1 ((splitL [13, 10] (raw.take i)).getD 0 [])).2.1).1, raw.drop (i + 4), 200⟩) := by
    unfold readF
    simp only [hc431, Bool.false_eq_true, if_false]
    rw [hcut]
    rfl
  rw [hgood]
  clear hgood hbad hc431
  obtain ⟨hls1, hls2, hls3⟩ : 1 ≤ (splitL [13, 10] (raw.take i)).length ∧ (splitL [13, 10] (raw.take i)).length ≤ 200000 ∧ ∀ l ∈ splitL [13, 10] (raw.take i), l.length ≤ 200000 := by
    obtain ⟨q1, q2, q3⟩ := splitL_bound [13, 10] (raw.take i) (by decide)
    exact ⟨q1, by omega, fun l hl => by have := q3 l hl; omega⟩
  generalize splitL [13, 10] (raw.take i) = ls at *
  have hsr := sRows_get (l := ls) (i := 0) (by omega)
  have hm0 : (ls.getD 0 []).length ≤ 200000 := hls3 _ (by rw [List.getD_eq_getElem?_getD, List.getElem?_eq_getElem (by omega)]; exact List.getElem_mem _)
  simp only [h0, sRows_len, rows_s, hsr, go_sem, Nat.reduceEqDiff, reduceIte, Int.reduceEq, Int.reduceLT, Int.reduceLE, Nat.reduceAdd, Nat.reduceLT, Nat.reduceLeDiff, Int.reduceToNat, Int.reduceSub, Int.reduceAdd, Int.reduceNeg]
  refine ⟨by omega, by omega, ?_⟩
  generalize ls.getD 0 [] = l0 at *
  refine xcall_pure (args' := [.str l0, .str [32]]) rfl (rsplit_pure (E := E.noPan) hP l0 [32] (by omega) (by decide) (by decide)) rfl ?_
  rcases first_cases l0 with ⟨hn3, hf⟩ | ⟨a, p, v, hw, ha, hp, hf⟩
  · have f3 : (((splitL [32] l0).length : Int) = 3) = False := eq_false (by omega)
    simp only [h0, sRows_len, f3, go_sem, Nat.reduceEqDiff, reduceIte, Int.reduceEq, Int.reduceLT, Int.reduceLE, Nat.reduceAdd, Nat.reduceLT, Nat.reduceLeDiff, Int.reduceToNat, Int.reduceSub, Int.reduceAdd, Int.reduceNeg]
    rw [hf]
    rfl
  have hbnd := splitL_bound [32] l0 (by decide)
  rw [hw] at hbnd ⊢
  rw [ha, hp]
  have hal : a.length ≤ 1000000 := by have := hbnd.2.2 a (by simp); omega
  have hpl : p.length ≤ 1000000 := by have := hbnd.2.2 p (by simp); omega
  clear hbnd hw ha hp
  have w0 : (sRows [a, p, v]).getD 0 [] = [.str a] := rfl
  have w1 : (sRows [a, p, v]).getD 1 [] = [.str p] := rfl
  have w2 : (sRows [a, p, v]).getD 2 [] = [.str v] := rfl
  have wl : (sRows [a, p, v]).length = 3 := rfl
  have hbd : firstOk l0 = false → (if (!firstOk l0 || !(lengthGo (List.drop 1 ls) 0 false).snd) = true then (⟨[], [], [], 400⟩ : Req) else
      if (!decide (a = [71, 69, 84]) && !decide (a = [80, 79, 83, 84])) = true then ⟨[], [], [], 405⟩ else
      if 4096 < (lengthGo (List.drop 1 ls) 0 false).fst then ⟨[], [], [], 413⟩ else
      if (!decide ((lengthGo (List.drop 1 ls) 0 false).fst = ((List.drop (i + 4) raw).length : Int)) || !valid (List.drop (i + 4) raw)) = true then ⟨[], [], [], 400⟩ else ⟨a, p, List.drop (i + 4) raw, 200⟩) = ⟨[], [], [], 400⟩ := fun h => by rw [h]; rfl
  by_cases ca : a = []
  · have g1 : (a = []) = True := eq_true ca
    simp only [h0, w0, w1, w2, wl, rows_s, g1, go_sem, Nat.reduceEqDiff, reduceIte, Int.reduceEq, Int.reduceLT, Int.reduceLE, Nat.reduceAdd, Nat.reduceLT, Nat.reduceLeDiff, Int.reduceToNat, Int.reduceSub, Int.reduceAdd, Int.reduceNeg]
    rw [hbd (by rw [hf, ca]; simp [madeF])]
    rfl
  have g1 : (a = []) = False := eq_false ca
  simp only [h0, w0, w1, w2, wl, rows_s, g1, go_sem, Nat.reduceEqDiff, reduceIte, Int.reduceEq, Int.reduceLT, Int.reduceLE, Nat.reduceAdd, Nat.reduceLT, Nat.reduceLeDiff, Int.reduceToNat, Int.reduceSub, Int.reduceAdd, Int.reduceNeg]
  refine xcall_pure (args' := [.str a, .int .u8 65, .int .u8 90]) rfl (rwithin_pure (E := E.noPan) hP a 65 90 hal) rfl ?_
  rw [up_in]
  cases cu : a.all upF with
  | false =>
    simp only [h0, w0, w1, w2, wl, rows_s, g1, go_sem, Nat.reduceEqDiff, reduceIte, Int.reduceEq, Int.reduceLT, Int.reduceLE, Nat.reduceAdd, Nat.reduceLT, Nat.reduceLeDiff, Int.reduceToNat, Int.reduceSub, Int.reduceAdd, Int.reduceNeg]
    rw [hbd (by rw [hf]; unfold madeF; rw [cu]; simp)]
    rfl
  | true =>
  simp only [h0, w0, w1, w2, wl, rows_s, g1, go_sem, Nat.reduceEqDiff, reduceIte, Int.reduceEq, Int.reduceLT, Int.reduceLE, Nat.reduceAdd, Nat.reduceLT, Nat.reduceLeDiff, Int.reduceToNat, Int.reduceSub, Int.reduceAdd, Int.reduceNeg]
  by_cases cp : p = []
  · have g2 : (p = []) = True := eq_true cp
    simp only [h0, w0, w1, w2, wl, rows_s, g1, g2, go_sem, Nat.reduceEqDiff, reduceIte, Int.reduceEq, Int.reduceLT, Int.reduceLE, Nat.reduceAdd, Nat.reduceLT, Nat.reduceLeDiff, Int.reduceToNat, Int.reduceSub, Int.reduceAdd, Int.reduceNeg]
    rw [hbd (by rw [hf, cp]; simp [madeF])]
    rfl
  have g2 : (p = []) = False := eq_false cp
  have hp0 : 0 < p.length := List.length_pos_iff.2 cp
  have hpre : Lib.hasPrefix p [47] = decide (p.getD 0 0 = 47) := by
    cases p with
    | nil => exact absurd rfl cp
    | cons x t =>
      unfold Lib.hasPrefix
      show ((47 == x) && List.isPrefixOf [] t) = decide (x = 47)
      rw [show List.isPrefixOf [] t = true from by cases t <;> rfl, Bool.and_true]
      by_cases h : x = 47
      · subst h; rfl
      · rw [decide_eq_false h, beq_eq_false_iff_ne]; exact fun hh => h hh.symm
  by_cases c47 : p.getD 0 0 = 47
  case neg =>
    have g3 : (((p.getD 0 0).toNat : Int) = 47) = False := eq_false (fun h => c47 ((u8_is (p.getD 0 0) 47).mp h))
    simp only [h0, w0, w1, w2, wl, rows_s, g1, g2, g3, go_sem, Nat.reduceEqDiff, reduceIte, Int.reduceEq, Int.reduceLT, Int.reduceLE, Nat.reduceAdd, Nat.reduceLT, Nat.reduceLeDiff, Int.reduceToNat, Int.reduceSub, Int.reduceAdd, Int.reduceNeg]
    refine ⟨by omega, ?_⟩
    rw [hbd (by rw [hf, hpre, decide_eq_false c47, Bool.and_false]; rfl)]
    rfl
  have g3 : (((p.getD 0 0).toNat : Int) = 47) = True := eq_true (by rw [c47]; rfl)
  simp only [h0, w0, w1, w2, wl, rows_s, g1, g2, g3, go_sem, Nat.reduceEqDiff, reduceIte, Int.reduceEq, Int.reduceLT, Int.reduceLE, Nat.reduceAdd, Nat.reduceLT, Nat.reduceLeDiff, Int.reduceToNat, Int.reduceSub, Int.reduceAdd, Int.reduceNeg]
  refine ⟨by omega, ?_⟩
  refine xcall_pure (args' := [.str p, .int .u8 33, .int .u8 126]) rfl (rwithin_pure (E := E.noPan) hP p 33 126 hpl) rfl ?_
  rw [seen_in]
  cases cs : p.all seenF with
  | false =>
    simp only [h0, w0, w1, w2, wl, rows_s, g1, g2, g3, go_sem, Nat.reduceEqDiff, reduceIte, Int.reduceEq, Int.reduceLT, Int.reduceLE, Nat.reduceAdd, Nat.reduceLT, Nat.reduceLeDiff, Int.reduceToNat, Int.reduceSub, Int.reduceAdd, Int.reduceNeg]
    rw [hbd (by rw [hf]; unfold madeF; rw [cs]; simp)]
    rfl
  | true =>
  simp only [h0, w0, w1, w2, wl, rows_s, g1, g2, g3, go_sem, Nat.reduceEqDiff, reduceIte, Int.reduceEq, Int.reduceLT, Int.reduceLE, Nat.reduceAdd, Nat.reduceLT, Nat.reduceLeDiff, Int.reduceToNat, Int.reduceSub, Int.reduceAdd, Int.reduceNeg]
  by_cases ch : v = httpL
  case neg =>
    have g4 : (v = [72, 84, 84, 80, 47, 49, 46, 49]) = False := eq_false ch
    simp only [h0, w0, w1, w2, wl, rows_s, g1, g2, g3, g4, go_sem, Nat.reduceEqDiff, reduceIte, Int.reduceEq, Int.reduceLT, Int.reduceLE, Nat.reduceAdd, Nat.reduceLT, Nat.reduceLeDiff, Int.reduceToNat, Int.reduceSub, Int.reduceAdd, Int.reduceNeg]
    rw [hbd (by rw [hf, decide_eq_false ch]; rfl)]
    rfl
  have g4 : (v = [72, 84, 84, 80, 47, 49, 46, 49]) = True := eq_true ch
  have hok : firstOk l0 = true := by
    rw [hf, decide_eq_true ch, hpre, decide_eq_true c47]
    unfold madeF
    rw [cs, cu, decide_eq_false cp, decide_eq_false ca]; rfl
  rw [hok]
  clear hbd hf
  simp only [h0, w0, w1, w2, wl, rows_s, g1, g2, g3, g4, go_sem, Nat.reduceEqDiff, reduceIte, Int.reduceEq, Int.reduceLT, Int.reduceLE, Nat.reduceAdd, Nat.reduceLT, Nat.reduceLeDiff, Int.reduceToNat, Int.reduceSub, Int.reduceAdd, Int.reduceNeg]
  refine xrun_cut _ (hdr_run hP ls hls1 hls2 hls3 raw i (.isl (sRows [a, p, v])) (by simp only [h0, go_sem, Nat.reduceEqDiff, reduceIte, Int.reduceEq, Int.reduceLT, Int.reduceLE, Nat.reduceAdd, Nat.reduceLT, Nat.reduceLeDiff, Int.reduceToNat, Int.reduceSub, Int.reduceAdd, Int.reduceNeg]) (by simp only [h0, go_sem, Nat.reduceEqDiff, reduceIte, Int.reduceEq, Int.reduceLT, Int.reduceLE, Nat.reduceAdd, Nat.reduceLT, Nat.reduceLeDiff, Int.reduceToNat, Int.reduceSub, Int.reduceAdd, Int.reduceNeg]) (by simp only [h0, go_sem, Nat.reduceEqDiff, reduceIte, Int.reduceEq, Int.reduceLT, Int.reduceLE, Nat.reduceAdd, Nat.reduceLT, Nat.reduceLeDiff, Int.reduceToNat, Int.reduceSub, Int.reduceAdd, Int.reduceNeg]) (by simp only [h0, go_sem, Nat.reduceEqDiff, reduceIte, Int.reduceEq, Int.reduceLT, Int.reduceLE, Nat.reduceAdd, Nat.reduceLT, Nat.reduceLeDiff, Int.reduceToNat, Int.reduceSub, Int.reduceAdd, Int.reduceNeg]) (by simp only [h0, go_sem, Nat.reduceEqDiff, reduceIte, Int.reduceEq, Int.reduceLT, Int.reduceLE, Nat.reduceAdd, Nat.reduceLT, Nat.reduceLeDiff, Int.reduceToNat, Int.reduceSub, Int.reduceAdd, Int.reduceNeg]; try rfl) (by simp only [h0, go_sem, Nat.reduceEqDiff, reduceIte, Int.reduceEq, Int.reduceLT, Int.reduceLE, Nat.reduceAdd, Nat.reduceLT, Nat.reduceLeDiff, Int.reduceToNat, Int.reduceSub, Int.reduceAdd, Int.reduceNeg]; try rfl)) ?_
  clear h0 hsr ρ
  rintro e ρ L ⟨rfl, ⟨rfl, hg, h2, h3, h4, h5⟩ | ⟨rfl, hg, h6, h7, h9, h10⟩⟩
  · rw [hg]
    simp only [h2, h3, h4, h5, go_sem, Nat.reduceEqDiff, reduceIte, Int.reduceEq, Int.reduceLT, Int.reduceLE, Nat.reduceAdd, Nat.reduceLT, Nat.reduceLeDiff, Int.reduceToNat, Int.reduceSub, Int.reduceAdd, Int.reduceNeg]
    rfl
  rw [hg]
  generalize (lengthGo (List.drop 1 ls) 0 false).1 = gn at *
  have hw4' : IntKind.i64.wrap ((i : Int) + 4) = ((i + 4 : Nat) : Int) := by rw [wrap64 (by omega) (by omega)]; rfl
  simp only [h6, h7, h9, h10, hw4', w0, w1, w2, wl, rows_s, go_sem, Nat.reduceEqDiff, reduceIte, Int.reduceEq, Int.reduceLT, Int.reduceLE, Nat.reduceAdd, Nat.reduceLT, Nat.reduceLeDiff, Int.reduceToNat, Int.reduceSub, Int.reduceAdd, Int.reduceNeg]
  refine ⟨by omega, ?_⟩
  have hdl : (raw.drop (i + 4)).length ≤ 1000000 := by rw [List.length_drop]; omega
  have hvv := hv (raw.drop (i + 4)) hdl
  generalize raw.drop (i + 4) = bd at *
  have hfin : (if (!true || !true) = true then (⟨[], [], [], 400⟩ : Req) else
      if (!decide (a = [71, 69, 84]) && !decide (a = [80, 79, 83, 84])) = true then ⟨[], [], [], 405⟩ else
      if 4096 < gn then ⟨[], [], [], 413⟩ else
      if (!decide (gn = (bd.length : Int)) || !valid bd) = true then ⟨[], [], [], 400⟩ else ⟨a, p, bd, 200⟩) = (if (!decide (a = [71, 69, 84]) && !decide (a = [80, 79, 83, 84])) = true then ⟨[], [], [], 405⟩ else
      if 4096 < gn then ⟨[], [], [], 413⟩ else
      if (!decide (gn = (bd.length : Int)) || !valid bd) = true then ⟨[], [], [], 400⟩ else ⟨a, p, bd, 200⟩) := rfl
  rw [hfin]
  clear hfin
  by_cases q1' : a = [71, 69, 84]
  · have q1 : (a = [71, 69, 84]) = True := eq_true q1'
    rw [show (!decide (a = [71, 69, 84]) && !decide (a = [80, 79, 83, 84])) = false by rw [decide_eq_true q1']; rfl]
    simp only [Bool.false_eq_true, if_false]
    simp only [h6, h7, h9, h10, hw4', w0, w1, w2, wl, rows_s, q1, go_sem, Nat.reduceEqDiff, reduceIte, Int.reduceEq, Int.reduceLT, Int.reduceLE, Nat.reduceAdd, Nat.reduceLT, Nat.reduceLeDiff, Int.reduceToNat, Int.reduceSub, Int.reduceAdd, Int.reduceNeg]
    by_cases c413 : 4096 < gn
    · have k1 : ((4096 : Int) < gn) = True := eq_true c413
      simp only [h6, h7, h9, h10, hw4', w0, w1, w2, wl, rows_s, q1, k1, go_sem, Nat.reduceEqDiff, reduceIte, Int.reduceEq, Int.reduceLT, Int.reduceLE, Nat.reduceAdd, Nat.reduceLT, Nat.reduceLeDiff, Int.reduceToNat, Int.reduceSub, Int.reduceAdd, Int.reduceNeg]
      rfl
    have k1 : ((4096 : Int) < gn) = False := eq_false c413
    rw [if_neg c413]
    by_cases cl : (bd.length : Int) = gn
    case neg =>
      have k2 : ((bd.length : Int) = gn) = False := eq_false cl
      rw [decide_eq_false (show ¬ gn = (bd.length : Int) from fun h => cl h.symm)]
      simp only [h6, h7, h9, h10, hw4', w0, w1, w2, wl, rows_s, q1, k1, k2, go_sem, Nat.reduceEqDiff, reduceIte, Int.reduceEq, Int.reduceLT, Int.reduceLE, Nat.reduceAdd, Nat.reduceLT, Nat.reduceLeDiff, Int.reduceToNat, Int.reduceSub, Int.reduceAdd, Int.reduceNeg]
      rfl
    have k2 : ((bd.length : Int) = gn) = True := eq_true cl
    rw [decide_eq_true cl.symm]
    simp only [h6, h7, h9, h10, hw4', w0, w1, w2, wl, rows_s, q1, k1, k2, go_sem, Nat.reduceEqDiff, reduceIte, Int.reduceEq, Int.reduceLT, Int.reduceLE, Nat.reduceAdd, Nat.reduceLT, Nat.reduceLeDiff, Int.reduceToNat, Int.reduceSub, Int.reduceAdd, Int.reduceNeg]
    refine xcall_pure (args' := [.str bd]) rfl hvv rfl ?_
    cases hvd : valid bd with
    | false =>
      simp only [h6, h7, h9, h10, hw4', w0, w1, w2, wl, rows_s, q1, k1, k2, go_sem, Nat.reduceEqDiff, reduceIte, Int.reduceEq, Int.reduceLT, Int.reduceLE, Nat.reduceAdd, Nat.reduceLT, Nat.reduceLeDiff, Int.reduceToNat, Int.reduceSub, Int.reduceAdd, Int.reduceNeg]
      rfl
    | true =>
      simp only [h6, h7, h9, h10, hw4', w0, w1, w2, wl, rows_s, q1, k1, k2, go_sem, Nat.reduceEqDiff, reduceIte, Int.reduceEq, Int.reduceLT, Int.reduceLE, Nat.reduceAdd, Nat.reduceLT, Nat.reduceLeDiff, Int.reduceToNat, Int.reduceSub, Int.reduceAdd, Int.reduceNeg]
      first | rfl | exact ⟨by rfl, rfl⟩ | (refine ⟨by rfl, ?_⟩; simp only [h6, h7, h9, h10, hw4', w0, w1, w2, wl, rows_s, q1, k1, k2, go_sem, Nat.reduceEqDiff, reduceIte, Int.reduceEq, Int.reduceLT, Int.reduceLE, Nat.reduceAdd, Nat.reduceLT, Nat.reduceLeDiff, Int.reduceToNat, Int.reduceSub, Int.reduceAdd, Int.reduceNeg]; rfl)
  have q1 : (a = [71, 69, 84]) = False := eq_false q1'
  by_cases q2' : a = [80, 79, 83, 84]
  · have q2 : (a = [80, 79, 83, 84]) = True := eq_true q2'
    rw [show (!decide (a = [71, 69, 84]) && !decide (a = [80, 79, 83, 84])) = false by rw [decide_eq_true q2', Bool.not_true, Bool.and_false]]
    simp only [Bool.false_eq_true, if_false]
    simp only [h6, h7, h9, h10, hw4', w0, w1, w2, wl, rows_s, q1, q2, go_sem, Nat.reduceEqDiff, reduceIte, Int.reduceEq, Int.reduceLT, Int.reduceLE, Nat.reduceAdd, Nat.reduceLT, Nat.reduceLeDiff, Int.reduceToNat, Int.reduceSub, Int.reduceAdd, Int.reduceNeg]
    by_cases c413 : 4096 < gn
    · have k1 : ((4096 : Int) < gn) = True := eq_true c413
      simp only [h6, h7, h9, h10, hw4', w0, w1, w2, wl, rows_s, q1, q2, k1, go_sem, Nat.reduceEqDiff, reduceIte, Int.reduceEq, Int.reduceLT, Int.reduceLE, Nat.reduceAdd, Nat.reduceLT, Nat.reduceLeDiff, Int.reduceToNat, Int.reduceSub, Int.reduceAdd, Int.reduceNeg]
      rfl
    have k1 : ((4096 : Int) < gn) = False := eq_false c413
    rw [if_neg c413]
    by_cases cl : (bd.length : Int) = gn
    case neg =>
      have k2 : ((bd.length : Int) = gn) = False := eq_false cl
      rw [decide_eq_false (show ¬ gn = (bd.length : Int) from fun h => cl h.symm)]
      simp only [h6, h7, h9, h10, hw4', w0, w1, w2, wl, rows_s, q1, q2, k1, k2, go_sem, Nat.reduceEqDiff, reduceIte, Int.reduceEq, Int.reduceLT, Int.reduceLE, Nat.reduceAdd, Nat.reduceLT, Nat.reduceLeDiff, Int.reduceToNat, Int.reduceSub, Int.reduceAdd, Int.reduceNeg]
      rfl
    have k2 : ((bd.length : Int) = gn) = True := eq_true cl
    rw [decide_eq_true cl.symm]
    simp only [h6, h7, h9, h10, hw4', w0, w1, w2, wl, rows_s, q1, q2, k1, k2, go_sem, Nat.reduceEqDiff, reduceIte, Int.reduceEq, Int.reduceLT, Int.reduceLE, Nat.reduceAdd, Nat.reduceLT, Nat.reduceLeDiff, Int.reduceToNat, Int.reduceSub, Int.reduceAdd, Int.reduceNeg]
    refine xcall_pure (args' := [.str bd]) rfl hvv rfl ?_
    cases hvd : valid bd with
    | false =>
      simp only [h6, h7, h9, h10, hw4', w0, w1, w2, wl, rows_s, q1, q2, k1, k2, go_sem, Nat.reduceEqDiff, reduceIte, Int.reduceEq, Int.reduceLT, Int.reduceLE, Nat.reduceAdd, Nat.reduceLT, Nat.reduceLeDiff, Int.reduceToNat, Int.reduceSub, Int.reduceAdd, Int.reduceNeg]
      rfl
    | true =>
      simp only [h6, h7, h9, h10, hw4', w0, w1, w2, wl, rows_s, q1, q2, k1, k2, go_sem, Nat.reduceEqDiff, reduceIte, Int.reduceEq, Int.reduceLT, Int.reduceLE, Nat.reduceAdd, Nat.reduceLT, Nat.reduceLeDiff, Int.reduceToNat, Int.reduceSub, Int.reduceAdd, Int.reduceNeg]
      first | rfl | exact ⟨by rfl, rfl⟩ | (refine ⟨by rfl, ?_⟩; simp only [h6, h7, h9, h10, hw4', w0, w1, w2, wl, rows_s, q1, q2, k1, k2, go_sem, Nat.reduceEqDiff, reduceIte, Int.reduceEq, Int.reduceLT, Int.reduceLE, Nat.reduceAdd, Nat.reduceLT, Nat.reduceLeDiff, Int.reduceToNat, Int.reduceSub, Int.reduceAdd, Int.reduceNeg]; rfl)
  have q2 : (a = [80, 79, 83, 84]) = False := eq_false q2'
  rw [show (!decide (a = [71, 69, 84]) && !decide (a = [80, 79, 83, 84])) = true by rw [decide_eq_false q1', decide_eq_false q2']; rfl]
  simp only [if_true]
  simp only [h6, h7, h9, h10, hw4', w0, w1, w2, wl, rows_s, q1, q2, go_sem, Nat.reduceEqDiff, reduceIte, Int.reduceEq, Int.reduceLT, Int.reduceLE, Nat.reduceAdd, Nat.reduceLT, Nat.reduceLeDiff, Int.reduceToNat, Int.reduceSub, Int.reduceAdd, Int.reduceNeg]
  rfl
end
end Go.X.TryzW
end
section
open Go Go.X Go.Proofs
set_option maxRecDepth 100000
set_option maxHeartbeats 4000000
set_option linter.unusedSimpArgs false
set_option linter.unusedVariables false
namespace Go.X.TryzW
/- "tiller/tillerlaw13.clip" params { toList := [23] } results { toList := [Go.ResultVar.tmp 2] } -/
def y9 : XC :=
 (.seq
  (.ops [
    ⟨(some 2), (.mov (.c .nsl)), none⟩])
  (.seq
   (.seq
    (.ops [
      ⟨(some 3), (.mov (.t 0)), none⟩,
      ⟨(some 4), (.len (.t 3)), none⟩,
      ⟨(some 5), (.bin .gtr (.t 4) (.c (.int .i64 9000))), none⟩])
    (.cond (.t 5)
     (.seq
      (.ops [
        ⟨(some 6), (.mov (.t 0)), none⟩,
        ⟨(some 7), (.slice 1 (.t 6) none (some (.c (.int .i64 9000)))), none⟩,
        ⟨(some 2), (.mov (.t 7)), none⟩])
      .ret)
     .skip))
   (.seq
    (.ops [
      ⟨(some 8), (.mov (.t 0)), none⟩,
      ⟨(some 2), (.mov (.t 8)), none⟩])
    .ret)))

/- "tiller/tillerkeep.Lend" params { toList := [23] } results { toList := [Go.ResultVar.tmp 2] } -/
def y10 : XC :=
 (.seq
  (.ops [
    ⟨(some 2), (.mov (.c .nsl)), none⟩])
  (.seq
   (.ops [
     ⟨(some 4), (.bslice 1 [(.int .u8 0)] 0 []), none⟩,
     ⟨(some 5), (.mov (.t 0)), none⟩,
     ⟨(some 6), (.ex (.appT 5 1) [(.t 4), (.t 5)]), none⟩,
     ⟨(some 7), (.bslice 1 [(.int .u8 0)] 4 [(0, (.c (.int .u8 201))), (1, (.c (.int .u8 202))), (2, (.c (.int .u8 203))), (3, (.c (.int .u8 204)))]), none⟩,
     ⟨(some 8), (.ex (.appT 5 1) [(.t 6), (.t 7)]), none⟩,
     ⟨(some 3), (.mov (.t 8)), none⟩])
   (.seq
    (.ops [
      ⟨(some 9), (.mov (.t 3)), none⟩,
      ⟨(some 10), (.mov (.t 0)), none⟩,
      ⟨(some 11), (.len (.t 10)), none⟩,
      ⟨(some 12), (.slice 1 (.t 9) none (some (.t 11))), none⟩,
      ⟨(some 2), (.mov (.t 12)), none⟩])
    .ret)))

/- "tiller/tillerkeep.Intact" params { toList := [23, 23] } results { toList := [Go.ResultVar.tmp 4] } -/
def y13 : XC :=
 (.seq
  (.ops [
    ⟨(some 4), (.mov (.c (.bool false))), none⟩])
  (.seq
   (.ops [
     ⟨(some 8), (.mov (.t 0)), none⟩,
     ⟨(some 9), (.mov (.t 1)), none⟩,
     ⟨(some 10), (.len (.t 9)), none⟩,
     ⟨(some 11), (.bin .add (.t 10) (.c (.int .i64 4))), none⟩,
     ⟨(some 12), (.slice 1 (.t 8) none (some (.t 11))), none⟩,
     ⟨(some 5), (.mov (.t 12)), none⟩])
   (.seq
    (.ops [
      ⟨(some 13), (.mov (.t 5)), none⟩,
      ⟨(some 14), (.ex .bStr [(.t 13)]), none⟩,
      ⟨(some 15), (.mov (.t 1)), none⟩,
      ⟨(some 16), (.ex .bStr [(.t 15)]), none⟩,
      ⟨(some 17), (.bin .add (.t 16) (.c (.str [201, 202, 203, 204]))), none⟩,
      ⟨(some 18), (.bin .eql (.t 14) (.t 17)), none⟩,
      ⟨(some 6), (.mov (.t 18)), none⟩])
    (.seq
     (.seq
      (.ops [
        ⟨(some 7), (.mov (.c (.int .i64 0))), none⟩])
      (.block 0
       (.loop
        (.seq
         (.seq
          (.ops [
            ⟨(some 19), (.mov (.t 7)), none⟩,
            ⟨(some 20), (.mov (.t 5)), none⟩,
            ⟨(some 21), (.len (.t 20)), none⟩,
            ⟨(some 22), (.bin .lss (.t 19) (.t 21)), none⟩])
          (.cond (.t 22)
           .skip
           (.exit 0)))
         (.seq
          (.block 1
           (.ops [
             ⟨(some 25), (.mov (.t 5)), none⟩,
             ⟨(some 26), (.mov (.t 7)), none⟩,
             ⟨(some 27), (.idxS 1 (.t 25) (.t 26)), none⟩,
             ⟨none, (.store 1 (.t 27) (.c (.int .u8 85))), none⟩]))
          (.ops [
            ⟨(some 23), (.mov (.t 7)), none⟩,
            ⟨(some 24), (.bin .add (.t 23) (.c (.int .i64 1))), none⟩,
            ⟨(some 7), (.mov (.t 24)), none⟩]))))))
     (.seq
      (.ops [
        ⟨(some 28), (.mov (.t 6)), none⟩,
        ⟨(some 4), (.mov (.t 28)), none⟩])
      .ret)))))

/- "tiller/tillerlaw13.FrontRead" params { toList := [22] } results { toList := [Go.ResultVar.tmp 2] } -/
def y3 : XC :=
 (.seq
  (.ops [
    ⟨(some 2), (.mov (.c (.bool false))), none⟩])
  (.seq
   (.seq
    (.ops [
      ⟨(some 3), (.mov (.c (.int .i64 0))), none⟩])
    (.block 0
     (.loop
      (.seq
       (.seq
        (.ops [
          ⟨(some 14), (.mov (.t 3)), none⟩,
          ⟨(some 15), (.mov (.t 0)), none⟩,
          ⟨(some 16), (.len (.t 15)), none⟩,
          ⟨(some 17), (.bin .lss (.t 14) (.t 16)), none⟩,
          ⟨(some 18), (.mov (.t 17)), none⟩,
          ⟨(some 19), (.mov (.t 3)), (some (18, true))⟩,
          ⟨(some 20), (.bin .lss (.t 19) (.c (.int .i64 12))), (some (18, true))⟩,
          ⟨(some 21), (.pick (.t 18) (.t 20) (.c (.bool false))), none⟩])
        (.cond (.t 21)
         .skip
         (.exit 0)))
       (.seq
        (.block 1
         (.seq
          (.ops [
            ⟨(some 24), (.mov (.t 0)), none⟩,
            ⟨(some 25), (.mov (.t 3)), none⟩,
            ⟨(some 26), (.idxS 1 (.t 24) (.t 25)), none⟩,
            ⟨(some 27), (.load1 (.t 26)), none⟩,
            ⟨(some 28), (.call (.f 9) [(.t 27)]), none⟩,
            ⟨(some 4), (.mov (.t 28)), none⟩])
          (.seq
           (.ops [
             ⟨(some 29), (.mov (.t 4)), none⟩,
             ⟨(some 30), (.call (.f 10) [(.t 29)]), none⟩,
             ⟨(some 5), (.mov (.t 30)), none⟩])
           (.seq
            (.ops [
              ⟨(some 32), (.mov (.t 5)), none⟩,
              ⟨(some 33), (.call (.f 11) [(.t 32)]), none⟩,
              ⟨(some 31), (.mov (.t 33)), none⟩,
              ⟨(some 34), (.ext (.t 31) 0), none⟩,
              ⟨(some 35), (.ext (.t 31) 1), none⟩,
              ⟨(some 36), (.ext (.t 31) 2), none⟩,
              ⟨(some 37), (.ext (.t 31) 3), none⟩,
              ⟨(some 6), (.mov (.t 34)), none⟩,
              ⟨(some 7), (.mov (.t 35)), none⟩,
              ⟨(some 8), (.mov (.t 36)), none⟩,
              ⟨(some 9), (.mov (.t 37)), none⟩])
            (.seq
             (.ops [
               ⟨(some 39), (.mov (.t 4)), none⟩,
               ⟨(some 40), (.call (.f 12) [(.t 39)]), none⟩,
               ⟨(some 38), (.mov (.t 40)), none⟩,
               ⟨(some 41), (.ext (.t 38) 0), none⟩,
               ⟨(some 42), (.ext (.t 38) 1), none⟩,
               ⟨(some 43), (.ext (.t 38) 2), none⟩,
               ⟨(some 44), (.ext (.t 38) 3), none⟩,
               ⟨(some 10), (.mov (.t 41)), none⟩,
               ⟨(some 11), (.mov (.t 42)), none⟩,
               ⟨(some 12), (.mov (.t 43)), none⟩,
               ⟨(some 13), (.mov (.t 44)), none⟩])
             (.seq
              (.ops [
                ⟨(some 45), (.mov (.t 5)), none⟩,
                ⟨(some 46), (.mov (.t 4)), none⟩,
                ⟨(some 47), (.call (.f 13) [(.t 45), (.t 46)]), none⟩,
                ⟨(some 48), (.un .not (.t 47)), none⟩,
                ⟨(some 49), (.mov (.t 48)), none⟩,
                ⟨(some 50), (.mov (.t 6)), (some (49, false))⟩,
                ⟨(some 51), (.mov (.t 10)), (some (49, false))⟩,
                ⟨(some 52), (.bin .neq (.t 50) (.t 51)), (some (49, false))⟩,
                ⟨(some 53), (.pick (.t 49) (.c (.bool true)) (.t 52)), none⟩,
                ⟨(some 54), (.mov (.t 53)), none⟩,
                ⟨(some 55), (.mov (.t 7)), (some (54, false))⟩,
                ⟨(some 56), (.mov (.t 11)), (some (54, false))⟩,
                ⟨(some 57), (.bin .neq (.t 55) (.t 56)), (some (54, false))⟩,
                ⟨(some 58), (.pick (.t 54) (.c (.bool true)) (.t 57)), none⟩,
                ⟨(some 59), (.mov (.t 58)), none⟩,
                ⟨(some 60), (.mov (.t 8)), (some (59, false))⟩,
                ⟨(some 61), (.mov (.t 12)), (some (59, false))⟩,
                ⟨(some 62), (.bin .neq (.t 60) (.t 61)), (some (59, false))⟩,
                ⟨(some 63), (.pick (.t 59) (.c (.bool true)) (.t 62)), none⟩,
                ⟨(some 64), (.mov (.t 63)), none⟩,
                ⟨(some 65), (.mov (.t 9)), (some (64, false))⟩,
                ⟨(some 66), (.mov (.t 13)), (some (64, false))⟩,
                ⟨(some 67), (.bin .neq (.t 65) (.t 66)), (some (64, false))⟩,
                ⟨(some 68), (.pick (.t 64) (.c (.bool true)) (.t 67)), none⟩])
              (.cond (.t 68)
               (.seq
                (.ops [
                  ⟨(some 2), (.mov (.c (.bool false))), none⟩])
                .ret)
               .skip)))))))
        (.ops [
          ⟨(some 22), (.mov (.t 3)), none⟩,
          ⟨(some 23), (.bin .add (.t 22) (.c (.int .i64 1))), none⟩,
          ⟨(some 3), (.mov (.t 23)), none⟩]))))))
   (.seq
    (.ops [
      ⟨(some 69), (.call (.f 14) []), none⟩,
      ⟨(some 2), (.mov (.t 69)), none⟩])
    .ret)))

section
variable {E : Env} {L : List Blk} {K : IV → List Blk → Prop}
theorem rows_bytes (b : List UInt8) : Rows 1 (bytesRows b) := by
  intro row hr
  unfold bytesRows at hr
  obtain ⟨x, _, rfl⟩ := List.mem_map.1 hr
  rfl
theorem conv_isl (L : List Blk) (m : Ren) (b : List UInt8) : conv L fuel m (.isl (bytesRows b)) = some (.isl (bytesRows b)) := by
  show Go.X.conv L 12 m _ = _
  simp only [Go.X.conv, mapO_bytes, Option.map_some]
theorem convC_bytes (L : List Blk) (m : Ren) (bs : List UInt8) : convB L 12 m (.cells 1 (bytesRows bs)) = some (.cells 1 (bytesRows bs)) := by
  show (mapO (mapO (conv L 12 m)) (bytesRows bs)).map _ = _
  rw [mapO_bytes]; rfl
theorem convF_bytes (L : List Blk) (m : Ren) (bs : List UInt8) : convB L fuel m (.cells 1 (bytesRows bs)) = some (.cells 1 (bytesRows bs)) := convC_bytes L m bs
def clipL (b : List UInt8) : List UInt8 := if 9000 < b.length then b.take 9000 else b
theorem clipL_len (b : List UInt8) : (clipL b).length ≤ 9000 := by
  unfold clipL
  split
  · rw [List.length_take]; omega
  · omega
theorem clip_pure (hP : E.P = Tryz.prog) (b : List UInt8) (hb : b.length ≤ 9223372036854775807) : XPure E 9 [.isl (bytesRows b)] (.isl (bytesRows (clipL b))) := by
  refine xpure1 (n := Tryz.f9.ntmps) (c := y9) (t := 2) (by rw [hP]; rfl) (by rw [hP]; kernel_rfl) (by decide) (Nat.le_of_ble_eq_true rfl) ?_
  generalize hρ : entry _ = ρ
  have h0 : ρ 0 = .isl (bytesRows b) := by rw [← hρ]; rfl
  clear hρ
  unfold y9
  unfold clipL
  by_cases hl : 9000 < b.length
  · have f1 : ((9000 : Int) < (b.length : Int)) = True := eq_true (by omega)
    rw [if_pos hl]
    simp only [h0, bytesRows_len, f1, go_sem, Nat.reduceEqDiff, reduceIte, Int.reduceEq, Int.reduceLT, Int.reduceLE, Nat.reduceAdd, Nat.reduceLT, Nat.reduceLeDiff, Int.reduceToNat, Int.reduceSub, Int.reduceAdd, Int.reduceNeg]
    exact ⟨rows_bytes b, by omega, by rw [bytesRows_take]; exact conv_isl _ _ _⟩
  · have f1 : ((9000 : Int) < (b.length : Int)) = False := eq_false (by omega)
    rw [if_neg hl]
    simp only [h0, bytesRows_len, f1, go_sem, Nat.reduceEqDiff, reduceIte, Int.reduceEq, Int.reduceLT, Int.reduceLE, Nat.reduceAdd, Nat.reduceLT, Nat.reduceLeDiff, Int.reduceToNat, Int.reduceSub, Int.reduceAdd, Int.reduceNeg]
    exact conv_isl _ _ _
def marks : List UInt8 := [201, 202, 203, 204]
theorem sl_cut {s n cap h m : Nat} (hsz : szOf L s = some m) (hh : h ≤ cap) (hk : K (.sl s 0 h cap) L) : xop E (.slice m (.c (.sl s 0 n cap)) none (some (.c (.int .i64 (h : Int))))) cev L K := by
  show szOf L s = some m ∧ (0 ≤ (h : Int) ∧ (0 ≤ (h : Int).toNat ∧ (h : Int).toNat ≤ cap ∧ K (.sl s (0 + 0) ((h : Int).toNat - 0) (cap - 0)) L))
  rw [Int.toNat_natCast, Nat.sub_zero, Nat.sub_zero]
  exact ⟨hsz, by omega, Nat.zero_le _, hh, hk⟩
theorem appG_none {ty g t : Nat} {xv : IV} (hL : L[t]? = some (.cells 1 [])) (hx : rowsOf L xv = some []) (h : K (.sl t 0 0 0) (L.set t (.cells 1 []))) : xappT ty 1 (.sl t 0 0 0) xv g L K := by
  unfold xappT
  rw [hx]
  refine ⟨by intro row hr; simp at hr, rfl, rfl, ?_⟩
  rw [hL]
  show xappendR 1 1 (.sl t 0 0 0) xv g _ L K
  unfold xappendR
  rw [hx]
  refine ⟨by intro row hr; simp at hr, ?_⟩
  simp only [hL]
  refine ⟨trivial, by simp, ?_⟩
  rw [if_pos (by simp)]
  exact h
theorem lend_t (hP : E.P = Tryz.prog) (b : List UInt8) (hb : b.length ≤ 1000000) : XT E 10 [.isl (bytesRows b)] [] fun v L1 => v = .sl 0 0 b.length (b.length + 4) ∧ L1 = [.cells 1 (bytesRows (b ++ marks))] := by
  refine xt_of_fun (F := ⟨Tryz.f10.ntmps, [.tmp 2], y10⟩) (by rw [hP]; rfl) (by rw [hP]; kernel_rfl) (by decide) (Nat.le_of_ble_eq_true rfl) (xfun1 ?_)
  generalize hρ : entry _ = ρ
  have h0 : ρ 0 = .isl (bytesRows b) := by rw [← hρ]; rfl
  clear hρ
  unfold y10
  simp only [h0, bytesRows_len, go_sem, Nat.reduceEqDiff, reduceIte, Int.reduceEq, Int.reduceLT, Int.reduceLE, Nat.reduceAdd, Nat.reduceLT, Nat.reduceLeDiff, Int.reduceToNat, Int.reduceSub, Int.reduceAdd, Int.reduceNeg]
  by_cases hbn : b = []
  · subst hbn
    refine appG_none rfl rfl ?_
    refine appG_cells (bs := []) (x := marks) rfl rfl (by kernel_rfl) rfl (by simp [marks]) (by simp [marks]) ?_
    refine sl_cut (h := 0) ?_ (by simp) ?_
    · rfl
    simp only [h0, bytesRows_len, go_sem, Nat.reduceEqDiff, reduceIte, Int.reduceEq, Int.reduceLT, Int.reduceLE, Nat.reduceAdd, Nat.reduceLT, Nat.reduceLeDiff, Int.reduceToNat, Int.reduceSub, Int.reduceAdd, Int.reduceNeg]
    refine leave_all (keep := [2]) (r' := .sl 0 0 0 4) (L'' := [.cells 1 (bytesRows ([] ++ marks))]) (by simp) (by simp) rfl ?_ ⟨rfl, rfl⟩
    show mapO (convB _ 12 _) [.cells 1 (bytesRows ([] ++ marks))] = _
    simp only [mapO, convC_bytes]
  · refine appG_cells (bs := []) (x := b) rfl rfl rfl rfl hbn (by simp; omega) ?_
    refine appG_cells (bs := b) (x := marks) (by simp) rfl (by kernel_rfl) rfl (by simp [marks]) (by simp [marks]; omega) ?_
    refine sl_cut (h := b.length) ?_ (by simp [marks]) ?_
    · rfl
    simp only [h0, bytesRows_len, go_sem, Nat.reduceEqDiff, reduceIte, Int.reduceEq, Int.reduceLT, Int.reduceLE, Nat.reduceAdd, Nat.reduceLT, Nat.reduceLeDiff, Int.reduceToNat, Int.reduceSub, Int.reduceAdd, Int.reduceNeg]
    refine leave_all (keep := [3]) (r' := .sl 0 0 b.length (b.length + 4)) (L'' := [.cells 1 (bytesRows (b ++ marks))]) (by simp) (by simp) rfl ?_ ⟨rfl, rfl⟩
    show mapO (convB _ 12 _) [.cells 1 (bytesRows (b ++ marks))] = _
    simp only [mapO, convC_bytes]
def spoilt (n : Nat) : List UInt8 := List.replicate n 85
theorem spoil_set (m : List UInt8) (j : Nat) (hj : j < m.length) : (bytesRows (spoilt j ++ m.drop j)).set j [.int .u8 85] = bytesRows (spoilt (j + 1) ++ m.drop (j + 1)) := by
  apply List.ext_getElem?
  intro i
  have hl : (spoilt j).length = j := List.length_replicate ..
  have hl2 : (spoilt (j + 1)).length = j + 1 := List.length_replicate ..
  rw [List.getElem?_set]
  unfold bytesRows
  rw [List.getElem?_map, List.getElem?_map]
  by_cases hij : j = i
  · subst hij
    rw [if_pos rfl, if_pos (by simp only [List.length_map, List.length_append, List.length_drop, hl]; omega), List.getElem?_append_left (by omega)]
    unfold spoilt
    rw [List.getElem?_replicate, if_pos (by omega)]; rfl
  · rw [if_neg hij]
    rcases Nat.lt_or_ge i j with h | h
    · rw [List.getElem?_append_left (by omega), List.getElem?_append_left (by omega)]
      unfold spoilt
      rw [List.getElem?_replicate, List.getElem?_replicate, if_pos h, if_pos (by omega)]
    · rw [List.getElem?_append_right (by omega), List.getElem?_append_right (by omega), hl, hl2, List.getElem?_drop, List.getElem?_drop]
      rw [show j + (i - j) = i by omega, show j + 1 + (i - (j + 1)) = i by omega]
theorem intact_t (hP : E.P = Tryz.prog) (b : List UInt8) (hb : b.length ≤ 1000000) : XT E 13 [.sl 0 0 b.length (b.length + 4), .isl (bytesRows b)] [.cells 1 (bytesRows (b ++ marks))] fun v L1 => v = .bool true ∧ L1 = [.cells 1 (bytesRows (spoilt (b.length + 4)))] := by
  refine xt_of_fun (F := ⟨Tryz.f13.ntmps, [.tmp 4], y13⟩) (by rw [hP]; rfl) (by rw [hP]; kernel_rfl) (by decide) (Nat.le_of_ble_eq_true rfl) (xfun1 ?_)
  generalize hρ : entry _ = ρ
  have h0 : ρ 0 = .sl 0 0 b.length (b.length + 4) := by rw [← hρ]; rfl
  have h1 : ρ 1 = .isl (bytesRows b) := by rw [← hρ]; rfl
  clear hρ
  unfold y13
  have hml : (b ++ marks).length = b.length + 4 := by rw [List.length_append]; rfl
  have hw4 : IntKind.i64.wrap ((b.length : Int) + 4) = ((b.length + 4 : Nat) : Int) := by rw [wrap64 (by omega) (by omega)]; rfl
  simp only [h0, h1, bytesRows_len, hw4, go_sem, Nat.reduceEqDiff, reduceIte, Int.reduceEq, Int.reduceLT, Int.reduceLE, Nat.reduceAdd, Nat.reduceLT, Nat.reduceLeDiff, Int.reduceToNat, Int.reduceSub, Int.reduceAdd, Int.reduceNeg]
  refine sl_cut (h := b.length + 4) ?_ (Nat.le_refl _) ?_
  · rfl
  simp only [h0, h1, bytesRows_len, go_sem, Nat.reduceEqDiff, reduceIte, Int.reduceEq, Int.reduceLT, Int.reduceLE, Nat.reduceAdd, Nat.reduceLT, Nat.reduceLeDiff, Int.reduceToNat, Int.reduceSub, Int.reduceAdd, Int.reduceNeg]
  have hb1 := sl_bytesC (L := [.cells 1 (bytesRows (b ++ marks))]) (k := 0) (n := b.length + 4) (cap := b.length + 4) (bs := b ++ marks) rfl (by omega)
  have hb2 : (rowsSl [.cells 1 (bytesRows (b ++ marks))] (IV.isl (bytesRows b))).bind (mapO byteOf) = some b := bytesRows_of b
  rw [List.take_of_length_le (by omega)] at hb1
  rw [hb1]
  simp only [h0, h1, go_sem, Nat.reduceEqDiff, reduceIte, Int.reduceEq, Int.reduceLT, Int.reduceLE, Nat.reduceAdd, Nat.reduceLT, Nat.reduceLeDiff, Int.reduceToNat, Int.reduceSub, Int.reduceAdd, Int.reduceNeg]
  rw [hb2]
  have heq : (b ++ marks = b ++ [201, 202, 203, 204]) = True := eq_self _
  simp only [h0, h1, heq, go_sem, Nat.reduceEqDiff, reduceIte, Int.reduceEq, Int.reduceLT, Int.reduceLE, Nat.reduceAdd, Nat.reduceLT, Nat.reduceLeDiff, Int.reduceToNat, Int.reduceSub, Int.reduceAdd, Int.reduceNeg]
  refine ⟨by omega, ?_⟩
  simp only [h0, h1, heq, go_sem, Nat.reduceEqDiff, reduceIte, Int.reduceEq, Int.reduceLT, Int.reduceLE, Nat.reduceAdd, Nat.reduceLT, Nat.reduceLeDiff, Int.reduceToNat, Int.reduceSub, Int.reduceAdd, Int.reduceNeg]
  generalize b ++ marks = M at *
  refine s_loop (fun c ρ L => ∃ j : Nat, j ≤ M.length ∧ c = M.length - j ∧ L = [.cells 1 (bytesRows (spoilt j ++ M.drop j))] ∧ ρ 5 = .sl 0 0 M.length M.length ∧ ρ 6 = .bool true ∧ ρ 7 = .int .i64 j) (n := M.length)
    ⟨0, Nat.zero_le _, rfl, rfl, by simp only [h0, hml, go_sem, Nat.reduceEqDiff, reduceIte, Int.reduceEq, Int.reduceLT, Int.reduceLE, Nat.reduceAdd, Nat.reduceLT, Nat.reduceLeDiff, Int.reduceToNat, Int.reduceSub, Int.reduceAdd, Int.reduceNeg], by simp only [h0, go_sem, Nat.reduceEqDiff, reduceIte, Int.reduceEq, Int.reduceLT, Int.reduceLE, Nat.reduceAdd, Nat.reduceLT, Nat.reduceLeDiff, Int.reduceToNat, Int.reduceSub, Int.reduceAdd, Int.reduceNeg]; try rfl, by simp only [h0, go_sem, Nat.reduceEqDiff, reduceIte, Int.reduceEq, Int.reduceLT, Int.reduceLE, Nat.reduceAdd, Nat.reduceLT, Nat.reduceLeDiff, Int.reduceToNat, Int.reduceSub, Int.reduceAdd, Int.reduceNeg]; try rfl⟩ ?_
  clear h0 h1 ρ
  rintro c ρ L ⟨j, hj, rfl, rfl, h5, h6, h7⟩
  by_cases hjl : j < M.length
  · have e1 : ((j : Int) < (M.length : Int)) = True := eq_true (by omega)
    have hsl : (spoilt j).length = j := List.length_replicate ..
    have hRl : (bytesRows (spoilt j ++ M.drop j)).length = M.length := by rw [bytesRows_len, List.length_append, hsl, List.length_drop]; omega
    have hset := spoil_set M j hjl
    have hRg : ((bytesRows (spoilt j ++ M.drop j)).getD j []).length = 1 := by
      refine rows_bytes (spoilt j ++ M.drop j) _ ?_
      rw [List.getD_eq_getElem?_getD, List.getElem?_eq_getElem (by rw [hRl]; exact hjl)]
      exact List.getElem_mem _
    generalize bytesRows (spoilt j ++ M.drop j) = R at *
    have hwj : IntKind.i64.wrap ((j : Int) + 1) = ((j + 1 : Nat) : Int) := by rw [wrap64 (by omega) (by omega)]; rfl
    obtain ⟨cell, hcell⟩ : ∃ cell, R.getD j [] = [cell] := by
      cases hq : R.getD j [] with
      | nil => rw [hq] at hRg; simp at hRg
      | cons a t =>
        rw [hq] at hRg
        cases t with
        | nil => exact ⟨a, rfl⟩
        | cons => simp at hRg
    simp only [h5, h6, h7, e1, hRl, hwj, hcell, hset, go_sem, Nat.reduceEqDiff, reduceIte, Int.reduceEq, Int.reduceLT, Int.reduceLE, Nat.reduceAdd, Nat.reduceLT, Nat.reduceLeDiff, Int.reduceToNat, Int.reduceSub, Int.reduceAdd, Int.reduceNeg]
    exact ⟨hjl, M.length - (j + 1), by omega, j + 1, by omega, rfl, rfl, rfl⟩
  · have e1 : ((j : Int) < (M.length : Int)) = False := eq_false (by omega)
    have hjM : j = M.length := by omega
    subst hjM
    simp only [h5, h6, h7, e1, go_sem, Nat.reduceEqDiff, reduceIte, Int.reduceEq, Int.reduceLT, Int.reduceLE, Nat.reduceAdd, Nat.reduceLT, Nat.reduceLeDiff, Int.reduceToNat, Int.reduceSub, Int.reduceAdd, Int.reduceNeg]
    rw [List.drop_length, List.append_nil, hml]
    refine leave_all (keep := []) (r' := .bool true) (L'' := [.cells 1 (bytesRows (spoilt (b.length + 4)))]) (by simp) (by simp) rfl ?_ ⟨rfl, rfl⟩
    show mapO (convB _ 12 _) [.cells 1 (bytesRows (spoilt (b.length + 4)))] = _
    simp only [mapO, convC_bytes]
theorem xcall_lendO {f : FuncId} {args args' : List IV} {R : IV → List Blk → Prop} (hc : mapO (conv L fuel renFreeze) args = some args') (h : XT E f args' [] R)
    (hk : ∀ r L1, R r L1 → noTree r = true ∧ L1.all noTreeB = true ∧ ∃ r' L1', conv L1 fuel (renShift L.length) r = some r' ∧ mapO (convB L1 fuel (renShift L.length)) L1 = some L1' ∧ K r' (L ++ L1')) : xcall E f args L K :=
  .inl ⟨true, args', hc, h.mono fun r L1 hr => ⟨fun _ => ⟨(hk r L1 hr).1, (hk r L1 hr).2.1⟩, (hk r L1 hr).2.2⟩⟩
theorem bytes_noTree (b : List UInt8) : noTreeB (.cells 1 (bytesRows b)) = true := by
  simp only [noTreeB, List.all_eq_true, bytesRows, List.mem_map]
  rintro row ⟨n, _, rfl⟩
  rfl
theorem conv_lent {k n : Nat} {b : List UInt8} (hn : n = b.length) (hL : L[k]? = some (.cells 1 (bytesRows (b ++ marks)))) : mapO (conv L fuel renFreeze) [.sl k 0 n (n + 4)] = some [.isl (bytesRows b)] := by
  subst hn
  have : Go.X.conv L 12 renFreeze (.sl k 0 b.length (b.length + 4)) = some (.isl (bytesRows b)) := by
    simp only [Go.X.conv, renFreeze, hL]
    rw [if_pos (by rw [bytesRows_len, List.length_append]; omega), List.drop_zero, bytesRows_take, List.take_left, mapO_bytes]
    rfl
  show mapO (conv L 12 renFreeze) _ = _
  simp only [mapO, this]
def bRows (l : List (List UInt8)) : List (List IV) := l.map fun b => [.isl (bytesRows b)]
theorem bRows_len (l : List (List UInt8)) : (bRows l).length = l.length := List.length_map ..
theorem rows_bb (l : List (List UInt8)) : Rows 1 (bRows l) := by
  intro row hr
  unfold bRows at hr
  obtain ⟨x, _, rfl⟩ := List.mem_map.1 hr
  rfl
theorem bRows_get {l : List (List UInt8)} {i : Nat} (h : i < l.length) : (bRows l).getD i [] = [.isl (bytesRows (l.getD i []))] := by
  simp [bRows, List.getD, h]
theorem fread_pure (hP : E.P = Tryz.prog) {m : Int} (hm : E.gl 2 = some [.int .i64 m]) (ht : ∀ w, E.G w → Lib.Utf8Tabs 0 1 w) (l : List (List UInt8)) (hl : l.length ≤ 9223372036854775807) (hb : ∀ b ∈ l, b.length ≤ 9223372036854775807) : XPure E 3 [.isl (bRows l)] (.bool true) := by
  refine xpure1 (n := Tryz.f3.ntmps) (c := y3) (t := 2) (by rw [hP]; rfl) (by rw [hP]; kernel_rfl) (by decide) (Nat.le_of_ble_eq_true rfl) ?_
  generalize hρ : entry _ = ρ
  have h0 : ρ 0 = .isl (bRows l) := by rw [← hρ]; rfl
  clear hρ
  unfold y3
  simp only [h0, go_sem, Nat.reduceEqDiff, reduceIte, Int.reduceEq, Int.reduceLT, Int.reduceLE, Nat.reduceAdd, Nat.reduceLT, Nat.reduceLeDiff, Int.reduceToNat, Int.reduceSub, Int.reduceAdd, Int.reduceNeg]
  refine s_loop (fun n ρ L => ∃ i : Nat, n = 12 - i ∧ ρ 0 = .isl (bRows l) ∧ ρ 3 = .int .i64 i) (n := 12) ⟨0, rfl, by simp only [h0, go_sem, Nat.reduceEqDiff, reduceIte, Int.reduceEq, Int.reduceLT, Int.reduceLE, Nat.reduceAdd, Nat.reduceLT, Nat.reduceLeDiff, Int.reduceToNat, Int.reduceSub, Int.reduceAdd, Int.reduceNeg], by simp only [go_sem, Nat.reduceEqDiff, reduceIte, Int.reduceEq, Int.reduceLT, Int.reduceLE, Nat.reduceAdd, Nat.reduceLT, Nat.reduceLeDiff, Int.reduceToNat, Int.reduceSub, Int.reduceAdd, Int.reduceNeg]; try rfl⟩ ?_
  clear h0 ρ
  rintro n ρ L ⟨i, rfl, h0, h3⟩
  have hlen := bRows_len l
  by_cases hi : i < l.length ∧ i < 12
  case neg =>
    by_cases hi1 : i < l.length
    · have f1 : ((i : Int) < ((bRows l).length : Int)) = True := eq_true (by omega)
      have f2 : ((i : Int) < 12) = False := eq_false (by omega)
      simp only [h0, h3, f1, f2, go_sem, Nat.reduceEqDiff, reduceIte, Int.reduceEq, Int.reduceLT, Int.reduceLE, Nat.reduceAdd, Nat.reduceLT, Nat.reduceLeDiff, Int.reduceToNat, Int.reduceSub, Int.reduceAdd, Int.reduceNeg]
      refine xcall_pure (args' := []) rfl (wakes_pure (E := E.noPan) hP hm ht) rfl ?_
      simp only [h0, h3, go_sem, Nat.reduceEqDiff, reduceIte, Int.reduceEq, Int.reduceLT, Int.reduceLE, Nat.reduceAdd, Nat.reduceLT, Nat.reduceLeDiff, Int.reduceToNat, Int.reduceSub, Int.reduceAdd, Int.reduceNeg]
      rfl
    · have f1 : ((i : Int) < ((bRows l).length : Int)) = False := eq_false (by omega)
      simp only [h0, h3, f1, go_sem, Nat.reduceEqDiff, reduceIte, Int.reduceEq, Int.reduceLT, Int.reduceLE, Nat.reduceAdd, Nat.reduceLT, Nat.reduceLeDiff, Int.reduceToNat, Int.reduceSub, Int.reduceAdd, Int.reduceNeg]
      refine xcall_pure (args' := []) rfl (wakes_pure (E := E.noPan) hP hm ht) rfl ?_
      simp only [h0, h3, go_sem, Nat.reduceEqDiff, reduceIte, Int.reduceEq, Int.reduceLT, Int.reduceLE, Nat.reduceAdd, Nat.reduceLT, Nat.reduceLeDiff, Int.reduceToNat, Int.reduceSub, Int.reduceAdd, Int.reduceNeg]
      rfl
  obtain ⟨hi1, hi2⟩ := hi
  have f1 : ((i : Int) < ((bRows l).length : Int)) = True := eq_true (by omega)
  have f2 : ((i : Int) < 12) = True := eq_true (by omega)
  have e0 : ((0 : Int) ≤ (i : Int)) = True := eq_true (by omega)
  have hg := bRows_get hi1
  have hrw := rows_bb l
  simp only [h0, h3, f1, f2, e0, hg, go_sem, Nat.reduceEqDiff, reduceIte, Int.reduceEq, Int.reduceLT, Int.reduceLE, Nat.reduceAdd, Nat.reduceLT, Nat.reduceLeDiff, Int.reduceToNat, Int.reduceSub, Int.reduceAdd, Int.reduceNeg]
  refine ⟨hrw, by omega, ?_⟩
  have hbl : (l.getD i []).length ≤ 9223372036854775807 := hb _ (by rw [List.getD_eq_getElem?_getD, List.getElem?_eq_getElem hi1]; exact List.getElem_mem _)
  generalize l.getD i [] = b at *
  refine xcall_pure (args' := [.isl (bytesRows b)]) rfl (clip_pure (E := E.noPan) hP b hbl) rfl ?_
  have hcl := clipL_len b
  generalize clipL b = c at *
  simp only [h0, h3, go_sem, Nat.reduceEqDiff, reduceIte, Int.reduceEq, Int.reduceLT, Int.reduceLE, Nat.reduceAdd, Nat.reduceLT, Nat.reduceLeDiff, Int.reduceToNat, Int.reduceSub, Int.reduceAdd, Int.reduceNeg]
  refine xcall_lendO (args' := [.isl (bytesRows c)]) (by simp only [mapO, conv_isl]) (lend_t (E := E.noPan) hP c (by omega)) ?_
  rintro r L1 ⟨rfl, rfl⟩
  refine ⟨rfl, by simp [bytes_noTree], .sl L.length 0 c.length (c.length + 4), [.cells 1 (bytesRows (c ++ marks))], ?_, by simp only [mapO, convF_bytes], ?_⟩
  · show Go.X.conv _ 12 _ _ = _
    simp [Go.X.conv, renShift]
  have hL2 : (L ++ [Blk.cells 1 (bytesRows (c ++ marks))])[L.length]? = some (.cells 1 (bytesRows (c ++ marks))) := by rw [List.getElem?_append_right (Nat.le_refl _)]; simp
  generalize L ++ [Blk.cells 1 (bytesRows (c ++ marks))] = L2 at *
  generalize L.length = k at *
  simp only [h0, h3, go_sem, Nat.reduceEqDiff, reduceIte, Int.reduceEq, Int.reduceLT, Int.reduceLE, Nat.reduceAdd, Nat.reduceLT, Nat.reduceLeDiff, Int.reduceToNat, Int.reduceSub, Int.reduceAdd, Int.reduceNeg]
  have hrd := read_pure (E := E.noPan) hP hm Lib.validD (fun s hs => valid_pure (E := E.noPan) hP ht s (by omega)) c (by omega)
  have hrr := rread_pure (E := E.noPan) hP Lib.validD (fun s hs => rvalid_pure (E := E.noPan) hP s hs) c (by omega)
  generalize readF Lib.validD c = q at *
  refine xcall_lend (args' := [.isl (bytesRows c)]) (conv_lent rfl hL2) hrd rfl rfl ?_
  unfold Req.iv
  simp only [h0, h3, go_sem, Nat.reduceEqDiff, reduceIte, Int.reduceEq, Int.reduceLT, Int.reduceLE, Nat.reduceAdd, Nat.reduceLT, Nat.reduceLeDiff, Int.reduceToNat, Int.reduceSub, Int.reduceAdd, Int.reduceNeg]
  refine xcall_pure (args' := [.isl (bytesRows c)]) rfl hrr rfl ?_
  unfold Req.iv
  simp only [h0, h3, go_sem, Nat.reduceEqDiff, reduceIte, Int.reduceEq, Int.reduceLT, Int.reduceLE, Nat.reduceAdd, Nat.reduceLT, Nat.reduceLeDiff, Int.reduceToNat, Int.reduceSub, Int.reduceAdd, Int.reduceNeg]
  have hgd : L2.getD k .dead = .cells 1 (bytesRows (c ++ marks)) := by rw [List.getD_eq_getElem?_getD, hL2]; rfl
  refine xcall_sel [k] (by simp) (fun s hs => by rw [List.mem_singleton] at hs; subst hs; exact ⟨_, hL2, rfl⟩) (args' := [.sl 0 0 c.length (c.length + 4), .isl (bytesRows c)]) ?_ (L0 := [.cells 1 (bytesRows (c ++ marks))]) (by simp only [List.map_cons, List.map_nil, mapO, hgd, convF_bytes]) (intact_t (E := E.noPan) hP c (by omega)) ?_
  · have h1 : conv L2 fuel (renSel [k] [] false) (.sl k 0 c.length (c.length + 4)) = some (.sl 0 0 c.length (c.length + 4)) := by
      show Go.X.conv _ 12 _ _ = _
      simp [Go.X.conv, renSel, pos]
    simp only [mapO, h1, conv_isl]
  rintro r L1 ⟨rfl, rfl⟩
  refine ⟨.bool true, [.cells 1 (bytesRows (spoilt (c.length + 4)))], rfl, by simp only [mapO, convF_bytes], ?_⟩
  generalize putL [k] _ L2 ++ _ = L3
  have hwi : IntKind.i64.wrap ((i : Int) + 1) = ((i + 1 : Nat) : Int) := by rw [wrap64 (by omega) (by omega)]; rfl
  simp only [h0, h3, eq_self, decide_true, Bool.not_true, hwi, go_sem, Nat.reduceEqDiff, reduceIte, Int.reduceEq, Int.reduceLT, Int.reduceLE, Nat.reduceAdd, Nat.reduceLT, Nat.reduceLeDiff, Int.reduceToNat, Int.reduceSub, Int.reduceAdd, Int.reduceNeg]
  exact ⟨12 - (i + 1), by omega, i + 1, rfl, rfl⟩
end
end Go.X.TryzW
end
