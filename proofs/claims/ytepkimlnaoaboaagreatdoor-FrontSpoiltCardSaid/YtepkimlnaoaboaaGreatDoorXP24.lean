/- Parts of the proof: Xfsp3, Xfsp4, Xfsp5, Xfsp6, Xfsp7, Xfsp8. -/
import Derived.Test.YtepkimlnaoaboaaGreatDoorXP23
set_option linter.unusedVariables false
set_option linter.unusedSimpArgs false
set_option linter.unusedSectionVars false
section
open Go Go.X Go.Proofs
set_option maxRecDepth 100000
set_option maxHeartbeats 4000000
set_option linter.unusedSimpArgs false
set_option linter.unusedVariables false
namespace Go.X.TryzW
/- "(*tiller/tillerref13.reader).escape" params { toList := [68] } results { toList := [Go.ResultVar.tmp 2] } -/
def y74 : XC :=
 (.seq
  (.ops [
    ⟨(some 2), (.mov (.c .nsl)), none⟩])
  (.seq
   (.ops [
     ⟨(some 8), (.mov (.t 0)), none⟩,
     ⟨(some 9), (.nilck (.t 8)), none⟩,
     ⟨(some 10), (.fldA 1 (.t 9)), none⟩,
     ⟨(some 11), (.load1 (.t 10)), none⟩,
     ⟨(some 3), (.mov (.t 11)), none⟩])
   (.seq
    (.ops [
      ⟨(some 12), (.mov (.t 0)), none⟩,
      ⟨(some 13), (.nilck (.t 12)), none⟩,
      ⟨(some 14), (.fldA 1 (.t 13)), none⟩,
      ⟨(some 15), (.load1 (.t 14)), none⟩,
      ⟨(some 16), (.bin .add (.t 15) (.c (.int .i64 1))), none⟩,
      ⟨(some 17), (.nilck (.t 12)), none⟩,
      ⟨(some 18), (.fldA 1 (.t 17)), none⟩,
      ⟨none, (.store 1 (.t 18) (.t 16)), none⟩])
    (.seq
     (.seq
      (.draw [
        ⟨(some 19), (.mov (.t 0)), none⟩,
        ⟨(some 20), (.nilck (.t 19)), none⟩,
        ⟨(some 21), (.fldA 1 (.t 20)), none⟩,
        ⟨(some 22), (.load1 (.t 21)), none⟩,
        ⟨(some 23), (.mov (.t 0)), none⟩,
        ⟨(some 24), (.nilck (.t 23)), none⟩,
        ⟨(some 25), (.fldA 0 (.t 24)), none⟩,
        ⟨(some 26), (.load1 (.t 25)), none⟩,
        ⟨(some 27), (.lenS (.t 26)), none⟩,
        ⟨(some 28), (.bin .geq (.t 22) (.t 27)), none⟩])
      (.cond (.t 28)
       (.seq
        (.ops [
          ⟨(some 29), (.mov (.t 0)), none⟩,
          ⟨(some 30), (.mov (.t 0)), none⟩,
          ⟨(some 31), (.nilck (.t 30)), none⟩,
          ⟨(some 32), (.fldA 0 (.t 31)), none⟩,
          ⟨(some 33), (.load1 (.t 32)), none⟩,
          ⟨(some 34), (.lenS (.t 33)), none⟩,
          ⟨(some 35), (.call (.f 46) [(.t 29), (.t 34), (.c (.int .i64 2))]), none⟩])
        (.seq
         (.ops [
           ⟨(some 2), (.mov (.c .nsl)), none⟩])
         .ret))
       .skip))
     (.seq
      (.draw [
        ⟨(some 36), (.mov (.t 0)), none⟩,
        ⟨(some 37), (.nilck (.t 36)), none⟩,
        ⟨(some 38), (.fldA 0 (.t 37)), none⟩,
        ⟨(some 39), (.load1 (.t 38)), none⟩,
        ⟨(some 40), (.mov (.t 0)), none⟩,
        ⟨(some 41), (.nilck (.t 40)), none⟩,
        ⟨(some 42), (.fldA 1 (.t 41)), none⟩,
        ⟨(some 43), (.load1 (.t 42)), none⟩,
        ⟨(some 44), (.idx (.t 39) (.t 43)), none⟩,
        ⟨(some 4), (.mov (.t 44)), none⟩])
      (.seq
       (.ops [
         ⟨(some 45), (.mov (.t 0)), none⟩,
         ⟨(some 46), (.nilck (.t 45)), none⟩,
         ⟨(some 47), (.fldA 1 (.t 46)), none⟩,
         ⟨(some 48), (.load1 (.t 47)), none⟩,
         ⟨(some 49), (.bin .add (.t 48) (.c (.int .i64 1))), none⟩,
         ⟨(some 50), (.nilck (.t 45)), none⟩,
         ⟨(some 51), (.fldA 1 (.t 50)), none⟩,
         ⟨none, (.store 1 (.t 51) (.t 49)), none⟩])
       (.seq
        (.seq
         (.ops [
           ⟨(some 52), (.mov (.t 4)), none⟩])
         (.block 0
          (.seq
           (.seq
            (.ops [
              ⟨(some 54), (.bin .eql (.t 52) (.c (.int .u8 34))), none⟩,
              ⟨(some 53), (.mov (.t 54)), none⟩])
            (.cond (.t 53)
             .skip
             (.seq
              (.ops [
                ⟨(some 55), (.bin .eql (.t 52) (.c (.int .u8 92))), none⟩,
                ⟨(some 53), (.mov (.t 55)), none⟩])
              (.cond (.t 53)
               .skip
               (.ops [
                 ⟨(some 56), (.bin .eql (.t 52) (.c (.int .u8 47))), none⟩,
                 ⟨(some 53), (.mov (.t 56)), none⟩])))))
           (.cond (.t 53)
            (.seq
             (.ops [
               ⟨(some 57), (.mov (.t 4)), none⟩,
               ⟨(some 58), (.bslice 1 [(.int .u8 0)] 1 [(0, (.t 57))]), none⟩,
               ⟨(some 2), (.mov (.t 58)), none⟩])
             .ret)
            (.seq
             (.ops [
               ⟨(some 60), (.bin .eql (.t 52) (.c (.int .u8 98))), none⟩,
               ⟨(some 59), (.mov (.t 60)), none⟩])
             (.cond (.t 59)
              (.seq
               (.ops [
                 ⟨(some 61), (.bslice 1 [(.int .u8 0)] 1 [(0, (.c (.int .u8 8)))]), none⟩,
                 ⟨(some 2), (.mov (.t 61)), none⟩])
               .ret)
              (.seq
               (.ops [
                 ⟨(some 63), (.bin .eql (.t 52) (.c (.int .u8 102))), none⟩,
                 ⟨(some 62), (.mov (.t 63)), none⟩])
               (.cond (.t 62)
                (.seq
                 (.ops [
                   ⟨(some 64), (.bslice 1 [(.int .u8 0)] 1 [(0, (.c (.int .u8 12)))]), none⟩,
                   ⟨(some 2), (.mov (.t 64)), none⟩])
                 .ret)
                (.seq
                 (.ops [
                   ⟨(some 66), (.bin .eql (.t 52) (.c (.int .u8 110))), none⟩,
                   ⟨(some 65), (.mov (.t 66)), none⟩])
                 (.cond (.t 65)
                  (.seq
                   (.ops [
                     ⟨(some 67), (.bslice 1 [(.int .u8 0)] 1 [(0, (.c (.int .u8 10)))]), none⟩,
                     ⟨(some 2), (.mov (.t 67)), none⟩])
                   .ret)
                  (.seq
                   (.ops [
                     ⟨(some 69), (.bin .eql (.t 52) (.c (.int .u8 114))), none⟩,
                     ⟨(some 68), (.mov (.t 69)), none⟩])
                   (.cond (.t 68)
                    (.seq
                     (.ops [
                       ⟨(some 70), (.bslice 1 [(.int .u8 0)] 1 [(0, (.c (.int .u8 13)))]), none⟩,
                       ⟨(some 2), (.mov (.t 70)), none⟩])
                     .ret)
                    (.seq
                     (.ops [
                       ⟨(some 72), (.bin .eql (.t 52) (.c (.int .u8 116))), none⟩,
                       ⟨(some 71), (.mov (.t 72)), none⟩])
                     (.cond (.t 71)
                      (.seq
                       (.ops [
                         ⟨(some 73), (.bslice 1 [(.int .u8 0)] 1 [(0, (.c (.int .u8 9)))]), none⟩,
                         ⟨(some 2), (.mov (.t 73)), none⟩])
                       .ret)
                      (.seq
                       (.ops [
                         ⟨(some 75), (.bin .eql (.t 52) (.c (.int .u8 117))), none⟩,
                         ⟨(some 74), (.mov (.t 75)), none⟩])
                       (.cond (.t 74)
                        (.seq
                         (.ops [
                           ⟨(some 5), (.mov (.c (.int .i64 0))), none⟩])
                         (.seq
                          (.seq
                           (.ops [
                             ⟨(some 6), (.mov (.c (.int .i64 0))), none⟩])
                           (.block 1
                            (.loop
                             (.seq
                              (.seq
                               (.ops [
                                 ⟨(some 76), (.mov (.t 6)), none⟩,
                                 ⟨(some 77), (.bin .lss (.t 76) (.c (.int .i64 4))), none⟩])
                               (.cond (.t 77)
                                .skip
                                (.exit 1)))
                              (.seq
                               (.block 2
                                (.seq
                                 (.seq
                                  (.draw [
                                    ⟨(some 80), (.mov (.t 0)), none⟩,
                                    ⟨(some 81), (.nilck (.t 80)), none⟩,
                                    ⟨(some 82), (.fldA 1 (.t 81)), none⟩,
                                    ⟨(some 83), (.load1 (.t 82)), none⟩,
                                    ⟨(some 84), (.mov (.t 0)), none⟩,
                                    ⟨(some 85), (.nilck (.t 84)), none⟩,
                                    ⟨(some 86), (.fldA 0 (.t 85)), none⟩,
                                    ⟨(some 87), (.load1 (.t 86)), none⟩,
                                    ⟨(some 88), (.lenS (.t 87)), none⟩,
                                    ⟨(some 89), (.bin .geq (.t 83) (.t 88)), none⟩])
                                  (.cond (.t 89)
                                   (.seq
                                    (.ops [
                                      ⟨(some 90), (.mov (.t 0)), none⟩,
                                      ⟨(some 91), (.mov (.t 0)), none⟩,
                                      ⟨(some 92), (.nilck (.t 91)), none⟩,
                                      ⟨(some 93), (.fldA 0 (.t 92)), none⟩,
                                      ⟨(some 94), (.load1 (.t 93)), none⟩,
                                      ⟨(some 95), (.lenS (.t 94)), none⟩,
                                      ⟨(some 96), (.call (.f 46) [(.t 90), (.t 95), (.c (.int .i64 2))]), none⟩])
                                    (.seq
                                     (.ops [
                                       ⟨(some 2), (.mov (.c .nsl)), none⟩])
                                     .ret))
                                   .skip))
                                 (.seq
                                  (.drawE [
                                    ⟨(some 97), (.mov (.t 0)), none⟩,
                                    ⟨(some 98), (.nilck (.t 97)), none⟩,
                                    ⟨(some 99), (.fldA 0 (.t 98)), none⟩,
                                    ⟨(some 100), (.load1 (.t 99)), none⟩,
                                    ⟨(some 101), (.mov (.t 0)), none⟩,
                                    ⟨(some 102), (.nilck (.t 101)), none⟩,
                                    ⟨(some 103), (.fldA 1 (.t 102)), none⟩,
                                    ⟨(some 104), (.load1 (.t 103)), none⟩,
                                    ⟨(some 105), (.idx (.t 100) (.t 104)), none⟩,
                                    ⟨(some 106), (.pcall (.f 99) [(.t 105)]), none⟩,
                                    ⟨(some 7), (.mov (.t 106)), none⟩])
                                  (.seq
                                   (.seq
                                    (.ops [
                                      ⟨(some 107), (.mov (.t 7)), none⟩,
                                      ⟨(some 108), (.bin .lss (.t 107) (.c (.int .i64 0))), none⟩])
                                    (.cond (.t 108)
                                     (.seq
                                      (.ops [
                                        ⟨(some 109), (.mov (.t 0)), none⟩,
                                        ⟨(some 110), (.mov (.t 3)), none⟩,
                                        ⟨(some 111), (.call (.f 46) [(.t 109), (.t 110), (.c (.int .i64 2))]), none⟩])
                                      (.seq
                                       (.ops [
                                         ⟨(some 2), (.mov (.c .nsl)), none⟩])
                                       .ret))
                                     .skip))
                                   (.seq
                                    (.ops [
                                      ⟨(some 112), (.mov (.t 5)), none⟩,
                                      ⟨(some 113), (.bin .mul (.c (.int .i64 16)) (.t 112)), none⟩,
                                      ⟨(some 114), (.mov (.t 7)), none⟩,
                                      ⟨(some 115), (.bin .add (.t 113) (.t 114)), none⟩,
                                      ⟨(some 5), (.mov (.t 115)), none⟩])
                                    (.ops [
                                      ⟨(some 116), (.mov (.t 0)), none⟩,
                                      ⟨(some 117), (.nilck (.t 116)), none⟩,
                                      ⟨(some 118), (.fldA 1 (.t 117)), none⟩,
                                      ⟨(some 119), (.load1 (.t 118)), none⟩,
                                      ⟨(some 120), (.bin .add (.t 119) (.c (.int .i64 1))), none⟩,
                                      ⟨(some 121), (.nilck (.t 116)), none⟩,
                                      ⟨(some 122), (.fldA 1 (.t 121)), none⟩,
                                      ⟨none, (.store 1 (.t 122) (.t 120)), none⟩]))))))
                               (.ops [
                                 ⟨(some 78), (.mov (.t 6)), none⟩,
                                 ⟨(some 79), (.bin .add (.t 78) (.c (.int .i64 1))), none⟩,
                                 ⟨(some 6), (.mov (.t 79)), none⟩]))))))
                          (.seq
                           (.ops [
                             ⟨(some 123), (.mov (.t 5)), none⟩,
                             ⟨(some 124), (.bin .lss (.t 123) (.c (.int .i64 55296))), none⟩,
                             ⟨(some 125), (.mov (.t 124)), none⟩,
                             ⟨(some 126), (.mov (.t 5)), (some (125, false))⟩,
                             ⟨(some 127), (.bin .gtr (.t 126) (.c (.int .i64 57343))), (some (125, false))⟩,
                             ⟨(some 128), (.pick (.t 125) (.c (.bool true)) (.t 127)), none⟩])
                           (.cond (.t 128)
                            (.seq
                             (.ops [
                               ⟨(some 129), (.mov (.t 5)), none⟩,
                               ⟨(some 130), (.call (.f 100) [(.t 129)]), none⟩,
                               ⟨(some 2), (.mov (.t 130)), none⟩])
                             .ret)
                            .skip))))
                        .skip))))))))))))))))
        (.seq
         (.ops [
           ⟨(some 131), (.mov (.t 0)), none⟩,
           ⟨(some 132), (.mov (.t 3)), none⟩,
           ⟨(some 133), (.call (.f 46) [(.t 131), (.t 132), (.c (.int .i64 2))]), none⟩])
         (.seq
          (.ops [
            ⟨(some 2), (.mov (.c .nsl)), none⟩])
          .ret)))))))))

section
variable {E : Env} {L : List Blk} {K : IV → List Blk → Prop}
def EscR (s : List UInt8) (o : Nat) (r : IV) (L1 : List Blk) : Prop := match Fr.escape s o with
  | .ok (c, j) => r = .isl (bytesRows (Lib.encodeRune (c : Int))) ∧ L1 = [rrB s j none]
  | .error (p, w) => r = .isl [] ∧ ∃ a, L1 = [rrB s a (some (p, w))]
theorem leave_esc {s : List UInt8} {j : Nat} {q : Option (Nat × Int)} {r r' : IV} {R : IV → List Blk → Prop} (hL : L[0]? = some (rrB s j q)) (hr : conv L fuel (renLeave 1 []) r = some r') (h : R r' [rrB s j q]) : Leave 1 r L R := by
  refine leave_all (keep := []) .nil (by simp) hr ?_ h
  have : L.take 1 = [rrB s j q] := by
    cases L with
    | nil => simp at hL
    | cons a l => simp at hL; subst hL; rfl
  rw [this]; rfl
theorem hex4_step (s : List UInt8) (o f i c : Nat) (hi : i < s.length) : (hexF (s.getD i 0) = -1 ∧ Fr.hex4 s o (f + 1) i c = .error (o, Fr.form)) ∨ ∃ k : Nat, k < 16 ∧ hexF (s.getD i 0) = k ∧ Fr.hex4 s o (f + 1) i c = Fr.hex4 s o f (i + 1) (c * 16 + k) := by
  rw [Fr.hex4, if_neg (by omega)]
  unfold hexF
  cases hp : Fr.place Fr.hexD (s.getD i 0 ||| 32) with
  | none => exact .inl ⟨rfl, rfl⟩
  | some k =>
    have hk := place_lt hp
    dsimp only
    by_cases h : s.getD i 0 < 48
    · rw [if_pos h, if_pos h]; exact .inl ⟨rfl, rfl⟩
    · rw [if_neg h, if_neg h]; exact .inr ⟨k, hk, rfl, rfl⟩
theorem resc_t (hP : E.P = Tryz.prog) (s : List UInt8) (o : Nat) (hs : s.length ≤ 1000000) (ho : o < s.length) : XT E 74 [.ptr 0 0 0] [rrB s o none] (EscR s o) := by
  refine xt_of_fun (F := ⟨Tryz.f74.ntmps, [.tmp 2], y74⟩) (by rw [hP]; rfl) (by rw [hP]; kernel_rfl) (by decide) (Nat.le_of_ble_eq_true rfl) (xfun1 ?_)
  generalize hρ : entry _ = ρ
  have h0 : ρ 0 = .ptr 0 0 0 := by rw [← hρ]; rfl
  clear hρ
  unfold y74
  have hw : IntKind.i64.wrap ((o : Int) + 1) = ((o + 1 : Nat) : Int) := by rw [wrap64 (by omega) (by omega)]; rfl
  by_cases hl : o + 1 < s.length
  case neg =>
    have e1 : ((s.length : Int) ≤ ((o + 1 : Nat) : Int)) = True := eq_true (by omega)
    have he : Fr.escape s o = .error (o + 1, 2) := by unfold Fr.escape; rw [if_pos (by omega)]; rfl
    have hlo : s.length = o + 1 := by omega
    simp only [h0, rrB, hw, e1, go_sem, Nat.reduceEqDiff, reduceIte, Int.reduceEq, Int.reduceLT, Int.reduceLE, Nat.reduceAdd, Nat.reduceLT, Nat.reduceLeDiff, Int.reduceToNat, Int.reduceSub, Int.reduceAdd, Int.reduceNeg]
    refine ⟨by rfl, ?_⟩
    rw [← hlo] at he
    refine rno_call (E := E.noPan) hP (s := s) (i := o + 1) (q := none) (p := s.length) (w := 2) rfl ?_
    show xops _ _ _ [rrB s (o + 1) (some (s.length, 2))] _
    simp only [h0, go_sem, Nat.reduceEqDiff, reduceIte, Int.reduceEq, Int.reduceLT, Int.reduceLE, Nat.reduceAdd, Nat.reduceLT, Nat.reduceLeDiff, Int.reduceToNat, Int.reduceSub, Int.reduceAdd, Int.reduceNeg]
    exact leave_esc (s := s) (j := o + 1) (q := some (s.length, 2)) (r' := .isl []) rfl rfl (by unfold EscR; rw [he]; exact ⟨rfl, _, rfl⟩)
  have e1 : ((s.length : Int) ≤ ((o + 1 : Nat) : Int)) = False := eq_false (by omega)
  have e2 : (((o + 1 : Nat) : Int) < (s.length : Int)) = True := eq_true (by omega)
  have e0 : ((0 : Int) ≤ ((o + 1 : Nat) : Int)) = True := eq_true (by omega)
  have hw2 : IntKind.i64.wrap (((o + 1 : Nat) : Int) + 1) = ((o + 2 : Nat) : Int) := by rw [wrap64 (by omega) (by omega)]; omega
  simp only [h0, rrB, hw, e0, e1, e2, hw2, go_sem, Nat.reduceEqDiff, reduceIte, Int.reduceEq, Int.reduceLT, Int.reduceLE, Nat.reduceAdd, Nat.reduceLT, Nat.reduceLeDiff, Int.reduceToNat, Int.reduceSub, Int.reduceAdd, Int.reduceNeg]
  refine ⟨by rfl, by rfl, ?_⟩
  have hsel : ∀ k : Nat, Fr.place Fr.escL (s.getD (o + 1) 0) = some k → Fr.escape s o = .ok ((Fr.escR.getD k 0).toNat, o + 2) := fun k hk => by unfold Fr.escape; rw [if_neg (by omega), hk]
  generalize hbv : s.getD (o + 1) 0 = b at *
  by_cases k34 : (b.toNat : Int) = 34
  · have e34 := eq_true k34
    have hb : b = 34 := by apply UInt8.toNat_inj.1; show b.toNat = 34; omega
    have he : Fr.escape s o = .ok (34, o + 2) := by rw [hsel 0 (by rw [hb]; decide +kernel)]; rfl
    simp only [h0, rrB, e34, go_sem, Nat.reduceEqDiff, reduceIte, Int.reduceEq, Int.reduceLT, Int.reduceLE, Nat.reduceAdd, Nat.reduceLT, Nat.reduceLeDiff, Int.reduceToNat, Int.reduceSub, Int.reduceAdd, Int.reduceNeg]
    exact leave_esc (s := s) (j := o + 2) (q := none) (r' := .isl [[.int .u8 (b.toNat : Int)]]) rfl rfl (by unfold EscR; rw [he]; exact ⟨by rw [show bytesRows (Lib.encodeRune ((34 : Nat) : Int)) = [[.int .u8 34]] from by kernel_rfl]; rw [k34], rfl⟩)
  have e34 := eq_false k34
  by_cases k92 : (b.toNat : Int) = 92
  · have e92 := eq_true k92
    have hb : b = 92 := by apply UInt8.toNat_inj.1; show b.toNat = 92; omega
    have he : Fr.escape s o = .ok (92, o + 2) := by rw [hsel 1 (by rw [hb]; decide +kernel)]; rfl
    simp only [h0, rrB, e34, e92, go_sem, Nat.reduceEqDiff, reduceIte, Int.reduceEq, Int.reduceLT, Int.reduceLE, Nat.reduceAdd, Nat.reduceLT, Nat.reduceLeDiff, Int.reduceToNat, Int.reduceSub, Int.reduceAdd, Int.reduceNeg]
    exact leave_esc (s := s) (j := o + 2) (q := none) (r' := .isl [[.int .u8 (b.toNat : Int)]]) rfl rfl (by unfold EscR; rw [he]; exact ⟨by rw [show bytesRows (Lib.encodeRune ((92 : Nat) : Int)) = [[.int .u8 92]] from by kernel_rfl]; rw [k92], rfl⟩)
  have e92 := eq_false k92
  by_cases k47 : (b.toNat : Int) = 47
  · have e47 := eq_true k47
    have hb : b = 47 := by apply UInt8.toNat_inj.1; show b.toNat = 47; omega
    have he : Fr.escape s o = .ok (47, o + 2) := by rw [hsel 2 (by rw [hb]; decide +kernel)]; rfl
    simp only [h0, rrB, e34, e92, e47, go_sem, Nat.reduceEqDiff, reduceIte, Int.reduceEq, Int.reduceLT, Int.reduceLE, Nat.reduceAdd, Nat.reduceLT, Nat.reduceLeDiff, Int.reduceToNat, Int.reduceSub, Int.reduceAdd, Int.reduceNeg]
    exact leave_esc (s := s) (j := o + 2) (q := none) (r' := .isl [[.int .u8 (b.toNat : Int)]]) rfl rfl (by unfold EscR; rw [he]; exact ⟨by rw [show bytesRows (Lib.encodeRune ((47 : Nat) : Int)) = [[.int .u8 47]] from by kernel_rfl]; rw [k47], rfl⟩)
  have e47 := eq_false k47
  by_cases k98 : (b.toNat : Int) = 98
  · have e98 := eq_true k98
    have hb : b = 98 := by apply UInt8.toNat_inj.1; show b.toNat = 98; omega
    have he : Fr.escape s o = .ok (8, o + 2) := by rw [hsel 3 (by rw [hb]; decide +kernel)]; rfl
    simp only [h0, rrB, e34, e92, e47, e98, go_sem, Nat.reduceEqDiff, reduceIte, Int.reduceEq, Int.reduceLT, Int.reduceLE, Nat.reduceAdd, Nat.reduceLT, Nat.reduceLeDiff, Int.reduceToNat, Int.reduceSub, Int.reduceAdd, Int.reduceNeg]
    exact leave_esc (s := s) (j := o + 2) (q := none) (r' := .isl [[.int .u8 8]]) rfl rfl (by unfold EscR; rw [he]; exact ⟨by rw [show bytesRows (Lib.encodeRune ((8 : Nat) : Int)) = [[.int .u8 8]] from by kernel_rfl], rfl⟩)
  have e98 := eq_false k98
  by_cases k102 : (b.toNat : Int) = 102
  · have e102 := eq_true k102
    have hb : b = 102 := by apply UInt8.toNat_inj.1; show b.toNat = 102; omega
    have he : Fr.escape s o = .ok (12, o + 2) := by rw [hsel 4 (by rw [hb]; decide +kernel)]; rfl
    simp only [h0, rrB, e34, e92, e47, e98, e102, go_sem, Nat.reduceEqDiff, reduceIte, Int.reduceEq, Int.reduceLT, Int.reduceLE, Nat.reduceAdd, Nat.reduceLT, Nat.reduceLeDiff, Int.reduceToNat, Int.reduceSub, Int.reduceAdd, Int.reduceNeg]
    exact leave_esc (s := s) (j := o + 2) (q := none) (r' := .isl [[.int .u8 12]]) rfl rfl (by unfold EscR; rw [he]; exact ⟨by rw [show bytesRows (Lib.encodeRune ((12 : Nat) : Int)) = [[.int .u8 12]] from by kernel_rfl], rfl⟩)
  have e102 := eq_false k102
  by_cases k110 : (b.toNat : Int) = 110
  · have e110 := eq_true k110
    have hb : b = 110 := by apply UInt8.toNat_inj.1; show b.toNat = 110; omega
    have he : Fr.escape s o = .ok (10, o + 2) := by rw [hsel 5 (by rw [hb]; decide +kernel)]; rfl
    simp only [h0, rrB, e34, e92, e47, e98, e102, e110, go_sem, Nat.reduceEqDiff, reduceIte, Int.reduceEq, Int.reduceLT, Int.reduceLE, Nat.reduceAdd, Nat.reduceLT, Nat.reduceLeDiff, Int.reduceToNat, Int.reduceSub, Int.reduceAdd, Int.reduceNeg]
    exact leave_esc (s := s) (j := o + 2) (q := none) (r' := .isl [[.int .u8 10]]) rfl rfl (by unfold EscR; rw [he]; exact ⟨by rw [show bytesRows (Lib.encodeRune ((10 : Nat) : Int)) = [[.int .u8 10]] from by kernel_rfl], rfl⟩)
  have e110 := eq_false k110
  by_cases k114 : (b.toNat : Int) = 114
  · have e114 := eq_true k114
    have hb : b = 114 := by apply UInt8.toNat_inj.1; show b.toNat = 114; omega
    have he : Fr.escape s o = .ok (13, o + 2) := by rw [hsel 6 (by rw [hb]; decide +kernel)]; rfl
    simp only [h0, rrB, e34, e92, e47, e98, e102, e110, e114, go_sem, Nat.reduceEqDiff, reduceIte, Int.reduceEq, Int.reduceLT, Int.reduceLE, Nat.reduceAdd, Nat.reduceLT, Nat.reduceLeDiff, Int.reduceToNat, Int.reduceSub, Int.reduceAdd, Int.reduceNeg]
    exact leave_esc (s := s) (j := o + 2) (q := none) (r' := .isl [[.int .u8 13]]) rfl rfl (by unfold EscR; rw [he]; exact ⟨by rw [show bytesRows (Lib.encodeRune ((13 : Nat) : Int)) = [[.int .u8 13]] from by kernel_rfl], rfl⟩)
  have e114 := eq_false k114
  by_cases k116 : (b.toNat : Int) = 116
  · have e116 := eq_true k116
    have hb : b = 116 := by apply UInt8.toNat_inj.1; show b.toNat = 116; omega
    have he : Fr.escape s o = .ok (9, o + 2) := by rw [hsel 7 (by rw [hb]; decide +kernel)]; rfl
    simp only [h0, rrB, e34, e92, e47, e98, e102, e110, e114, e116, go_sem, Nat.reduceEqDiff, reduceIte, Int.reduceEq, Int.reduceLT, Int.reduceLE, Nat.reduceAdd, Nat.reduceLT, Nat.reduceLeDiff, Int.reduceToNat, Int.reduceSub, Int.reduceAdd, Int.reduceNeg]
    exact leave_esc (s := s) (j := o + 2) (q := none) (r' := .isl [[.int .u8 9]]) rfl rfl (by unfold EscR; rw [he]; exact ⟨by rw [show bytesRows (Lib.encodeRune ((9 : Nat) : Int)) = [[.int .u8 9]] from by kernel_rfl], rfl⟩)
  have e116 := eq_false k116
  have hnp : Fr.place Fr.escL b = none := by
    unfold Fr.place
    rw [List.findIdx?_eq_none_iff]
    intro x hx
    rw [decide_eq_false_iff_not]
    unfold Fr.escL at hx
    simp only [List.mem_cons, List.not_mem_nil, or_false] at hx
    rcases hx with rfl | rfl | rfl | rfl | rfl | rfl | rfl | rfl
    all_goals intro he
    all_goals subst he
    all_goals first | exact k34 rfl | exact k92 rfl | exact k47 rfl | exact k98 rfl | exact k102 rfl | exact k110 rfl | exact k114 rfl | exact k116 rfl
  by_cases k117 : (b.toNat : Int) = 117
  case neg =>
    have e117 := eq_false k117
    have hb : b ≠ 117 := fun h => by subst h; exact k117 rfl
    have he : Fr.escape s o = .error (o, 2) := by unfold Fr.escape; rw [if_neg (by omega), hbv, hnp]; dsimp only; rw [if_neg hb]; rfl
    simp only [h0, rrB, e34, e92, e47, e98, e102, e110, e114, e116, e117, go_sem, Nat.reduceEqDiff, reduceIte, Int.reduceEq, Int.reduceLT, Int.reduceLE, Nat.reduceAdd, Nat.reduceLT, Nat.reduceLeDiff, Int.reduceToNat, Int.reduceSub, Int.reduceAdd, Int.reduceNeg]
    refine rno_call (E := E.noPan) hP (s := s) (i := o + 2) (q := none) (p := o) (w := 2) rfl ?_
    show xops _ _ _ [rrB s (o + 2) (some (o, 2))] _
    simp only [h0, go_sem, Nat.reduceEqDiff, reduceIte, Int.reduceEq, Int.reduceLT, Int.reduceLE, Nat.reduceAdd, Nat.reduceLT, Nat.reduceLeDiff, Int.reduceToNat, Int.reduceSub, Int.reduceAdd, Int.reduceNeg]
    exact leave_esc (s := s) (j := o + 2) (q := some (o, 2)) (r' := .isl []) rfl rfl (by unfold EscR; rw [he]; exact ⟨rfl, _, rfl⟩)
  have e117 := eq_true k117
  have hb : b = 117 := by apply UInt8.toNat_inj.1; show b.toNat = 117; omega
  have hesc : Fr.escape s o = (match Fr.hex4 s o 4 (o + 2) 0 with | .error e => .error e | .ok (c, i) => if 55296 ≤ c ∧ c ≤ 57343 then .error (o, Fr.form) else .ok (c, i)) := by
    unfold Fr.escape; rw [if_neg (by omega), hbv, hnp]; dsimp only; rw [if_pos hb]; rfl
  simp only [h0, rrB, e34, e92, e47, e98, e102, e110, e114, e116, e117, go_sem, Nat.reduceEqDiff, reduceIte, Int.reduceEq, Int.reduceLT, Int.reduceLE, Nat.reduceAdd, Nat.reduceLT, Nat.reduceLeDiff, Int.reduceToNat, Int.reduceSub, Int.reduceAdd, Int.reduceNeg]
  refine s_loop (fun n ρ L => ∃ (k c : Nat), k ≤ 4 ∧ n = 4 - k ∧ c < 16 ^ k ∧ o + 2 + k ≤ s.length ∧ ρ 0 = .ptr 0 0 0 ∧ ρ 3 = .int .i64 o ∧ ρ 5 = .int .i64 c ∧ ρ 6 = .int .i64 k ∧ L = [rrB s (o + 2 + k) none] ∧ Fr.hex4 s o (4 - k) (o + 2 + k) c = Fr.hex4 s o 4 (o + 2) 0) (n := 4)
    ⟨0, 0, by omega, rfl, by decide, by omega, by simp only [h0, go_sem, Nat.reduceEqDiff, reduceIte, Int.reduceEq, Int.reduceLT, Int.reduceLE, Nat.reduceAdd, Nat.reduceLT, Nat.reduceLeDiff, Int.reduceToNat, Int.reduceSub, Int.reduceAdd, Int.reduceNeg], by simp only [h0, go_sem, Nat.reduceEqDiff, reduceIte, Int.reduceEq, Int.reduceLT, Int.reduceLE, Nat.reduceAdd, Nat.reduceLT, Nat.reduceLeDiff, Int.reduceToNat, Int.reduceSub, Int.reduceAdd, Int.reduceNeg]; try rfl, by simp only [go_sem, Nat.reduceEqDiff, reduceIte, Int.reduceEq, Int.reduceLT, Int.reduceLE, Nat.reduceAdd, Nat.reduceLT, Nat.reduceLeDiff, Int.reduceToNat, Int.reduceSub, Int.reduceAdd, Int.reduceNeg]; try rfl, by simp only [go_sem, Nat.reduceEqDiff, reduceIte, Int.reduceEq, Int.reduceLT, Int.reduceLE, Nat.reduceAdd, Nat.reduceLT, Nat.reduceLeDiff, Int.reduceToNat, Int.reduceSub, Int.reduceAdd, Int.reduceNeg]; try rfl, rfl, rfl⟩ ?_
  clear h0 ρ hsel
  rintro n ρ L ⟨k, c, hk, rfl, hc, hkl, h0, h3, h5, h6, rfl, hx⟩
  by_cases hk4 : k < 4
  case neg =>
    obtain rfl : k = 4 := by omega
    rw [show 4 - 4 = 0 from rfl, Fr.hex4] at hx
    have f1 : (((4 : Nat) : Int) < 4) = False := eq_false (by omega)
    have hc16 : c < 65536 := by simpa using hc
    rw [← hx] at hesc
    dsimp only at hesc
    by_cases hlo : c < 55296
    · have f2 : ((c : Int) < 55296) = True := eq_true (by omega)
      have he : Fr.escape s o = .ok (c, o + 2 + 4) := by rw [hesc, if_neg (by omega)]
      simp only [h0, h3, h5, h6, f1, f2, go_sem, Nat.reduceEqDiff, reduceIte, Int.reduceEq, Int.reduceLT, Int.reduceLE, Nat.reduceAdd, Nat.reduceLT, Nat.reduceLeDiff, Int.reduceToNat, Int.reduceSub, Int.reduceAdd, Int.reduceNeg]
      refine xcall_pure (args' := [.int .i64 c]) rfl (rchar_pure (E := E.noPan) hP c hc16 (by omega)) rfl ?_
      simp only [h0, go_sem, Nat.reduceEqDiff, reduceIte, Int.reduceEq, Int.reduceLT, Int.reduceLE, Nat.reduceAdd, Nat.reduceLT, Nat.reduceLeDiff, Int.reduceToNat, Int.reduceSub, Int.reduceAdd, Int.reduceNeg]
      exact leave_esc (s := s) (j := o + 2 + 4) (q := none) (r' := .isl (bytesRows (Lib.encodeRune (c : Int)))) rfl rfl (by unfold EscR; rw [he]; exact ⟨rfl, rfl⟩)
    have f2 : ((c : Int) < 55296) = False := eq_false (by omega)
    by_cases hhi : 57343 < c
    · have f3 : ((57343 : Int) < (c : Int)) = True := eq_true (by omega)
      have he : Fr.escape s o = .ok (c, o + 2 + 4) := by rw [hesc, if_neg (by omega)]
      simp only [h0, h3, h5, h6, f1, f2, f3, go_sem, Nat.reduceEqDiff, reduceIte, Int.reduceEq, Int.reduceLT, Int.reduceLE, Nat.reduceAdd, Nat.reduceLT, Nat.reduceLeDiff, Int.reduceToNat, Int.reduceSub, Int.reduceAdd, Int.reduceNeg]
      refine xcall_pure (args' := [.int .i64 c]) rfl (rchar_pure (E := E.noPan) hP c hc16 (by omega)) rfl ?_
      simp only [h0, go_sem, Nat.reduceEqDiff, reduceIte, Int.reduceEq, Int.reduceLT, Int.reduceLE, Nat.reduceAdd, Nat.reduceLT, Nat.reduceLeDiff, Int.reduceToNat, Int.reduceSub, Int.reduceAdd, Int.reduceNeg]
      exact leave_esc (s := s) (j := o + 2 + 4) (q := none) (r' := .isl (bytesRows (Lib.encodeRune (c : Int)))) rfl rfl (by unfold EscR; rw [he]; exact ⟨rfl, rfl⟩)
    have f3 : ((57343 : Int) < (c : Int)) = False := eq_false (by omega)
    have he : Fr.escape s o = .error (o, 2) := by rw [hesc, if_pos (by omega)]; rfl
    simp only [h0, h3, h5, h6, f1, f2, f3, go_sem, Nat.reduceEqDiff, reduceIte, Int.reduceEq, Int.reduceLT, Int.reduceLE, Nat.reduceAdd, Nat.reduceLT, Nat.reduceLeDiff, Int.reduceToNat, Int.reduceSub, Int.reduceAdd, Int.reduceNeg]
    refine rno_call (E := E.noPan) hP (s := s) (i := o + 2 + 4) (q := none) (p := o) (w := 2) rfl ?_
    show xops _ _ _ [rrB s (o + 2 + 4) (some (o, 2))] _
    simp only [h0, go_sem, Nat.reduceEqDiff, reduceIte, Int.reduceEq, Int.reduceLT, Int.reduceLE, Nat.reduceAdd, Nat.reduceLT, Nat.reduceLeDiff, Int.reduceToNat, Int.reduceSub, Int.reduceAdd, Int.reduceNeg]
    exact leave_esc (s := s) (j := o + 2 + 4) (q := some (o, 2)) (r' := .isl []) rfl rfl (by unfold EscR; rw [he]; exact ⟨rfl, _, rfl⟩)
  have f1 : ((k : Int) < 4) = True := eq_true (by omega)
  by_cases hil : o + 2 + k < s.length
  case neg =>
    have e3 : ((s.length : Int) ≤ ((o + 2 + k : Nat) : Int)) = True := eq_true (by omega)
    have hlo : s.length = o + 2 + k := by omega
    have he : Fr.escape s o = .error (s.length, 2) := by
      rw [hesc, ← hx, show 4 - k = (3 - k) + 1 by omega, Fr.hex4, if_pos (by omega), ← hlo]; rfl
    simp only [h0, h3, h5, h6, f1, rrB, e3, go_sem, Nat.reduceEqDiff, reduceIte, Int.reduceEq, Int.reduceLT, Int.reduceLE, Nat.reduceAdd, Nat.reduceLT, Nat.reduceLeDiff, Int.reduceToNat, Int.reduceSub, Int.reduceAdd, Int.reduceNeg]
    refine ⟨by rfl, ?_⟩
    refine rno_call (E := E.noPan) hP (s := s) (i := o + 2 + k) (q := none) (p := s.length) (w := 2) rfl ?_
    show xops _ _ _ [rrB s (o + 2 + k) (some (s.length, 2))] _
    simp only [h0, go_sem, Nat.reduceEqDiff, reduceIte, Int.reduceEq, Int.reduceLT, Int.reduceLE, Nat.reduceAdd, Nat.reduceLT, Nat.reduceLeDiff, Int.reduceToNat, Int.reduceSub, Int.reduceAdd, Int.reduceNeg]
    exact leave_esc (s := s) (j := o + 2 + k) (q := some (s.length, 2)) (r' := .isl []) rfl rfl (by unfold EscR; rw [he]; exact ⟨rfl, _, rfl⟩)
  have e3 : ((s.length : Int) ≤ ((o + 2 + k : Nat) : Int)) = False := eq_false (by omega)
  have e4 : (((o + 2 + k : Nat) : Int) < (s.length : Int)) = True := eq_true (by omega)
  have e5 : ((0 : Int) ≤ ((o + 2 + k : Nat) : Int)) = True := eq_true (by omega)
  simp only [h0, h3, h5, h6, f1, rrB, e3, e4, e5, go_sem, Nat.reduceEqDiff, reduceIte, Int.reduceEq, Int.reduceLT, Int.reduceLE, Nat.reduceAdd, Nat.reduceLT, Nat.reduceLeDiff, Int.reduceToNat, Int.reduceSub, Int.reduceAdd, Int.reduceNeg]
  refine ⟨by rfl, ?_⟩
  refine o_pcall (args' := [.int .u8 (s.getD (o + 2 + k) 0).toNat]) rfl (rhex_pure (E := E.noPan) hP _) (fun m => rfl) ?_
  rw [show 4 - k = (3 - k) + 1 by omega] at hx
  rcases hex4_step s o (3 - k) (o + 2 + k) c hil with ⟨g1, g2⟩ | ⟨d, hd, g1, g2⟩
  · have f4 : ((-1 : Int) < 0) = True := eq_true (by decide)
    have he : Fr.escape s o = .error (o, 2) := by rw [hesc, ← hx, g2]; rfl
    simp only [h0, h3, h5, h6, g1, f4, go_sem, Nat.reduceEqDiff, reduceIte, Int.reduceEq, Int.reduceLT, Int.reduceLE, Nat.reduceAdd, Nat.reduceLT, Nat.reduceLeDiff, Int.reduceToNat, Int.reduceSub, Int.reduceAdd, Int.reduceNeg]
    refine rno_call (E := E.noPan) hP (s := s) (i := o + 2 + k) (q := none) (p := o) (w := 2) rfl ?_
    show xops _ _ _ [rrB s (o + 2 + k) (some (o, 2))] _
    simp only [h0, go_sem, Nat.reduceEqDiff, reduceIte, Int.reduceEq, Int.reduceLT, Int.reduceLE, Nat.reduceAdd, Nat.reduceLT, Nat.reduceLeDiff, Int.reduceToNat, Int.reduceSub, Int.reduceAdd, Int.reduceNeg]
    exact leave_esc (s := s) (j := o + 2 + k) (q := some (o, 2)) (r' := .isl []) rfl rfl (by unfold EscR; rw [he]; exact ⟨rfl, _, rfl⟩)
  · have f4 : ((d : Int) < 0) = False := eq_false (by omega)
    have hc16 : c < 4096 := by
      have : (16 : Nat) ^ k ≤ 16 ^ 3 := Nat.pow_le_pow_right (by omega) (by omega)
      omega
    have w1 : IntKind.i64.wrap (16 * (c : Int)) = 16 * (c : Int) := wrap64 (by omega) (by omega)
    have w2 : IntKind.i64.wrap (16 * (c : Int) + (d : Int)) = ((c * 16 + d : Nat) : Int) := by rw [wrap64 (by omega) (by omega)]; omega
    have w3 : IntKind.i64.wrap (((o + 2 + k : Nat) : Int) + 1) = ((o + 2 + (k + 1) : Nat) : Int) := by rw [wrap64 (by omega) (by omega)]; omega
    have w4 : IntKind.i64.wrap ((k : Int) + 1) = ((k + 1 : Nat) : Int) := by rw [wrap64 (by omega) (by omega)]; rfl
    simp only [h0, h3, h5, h6, g1, f4, w1, w2, w3, w4, go_sem, Nat.reduceEqDiff, reduceIte, Int.reduceEq, Int.reduceLT, Int.reduceLE, Nat.reduceAdd, Nat.reduceLT, Nat.reduceLeDiff, Int.reduceToNat, Int.reduceSub, Int.reduceAdd, Int.reduceNeg]
    refine ⟨4 - (k + 1), by omega, k + 1, c * 16 + d, by omega, rfl, ?_, by omega, rfl, rfl, rfl, ?_⟩
    · rw [Nat.pow_succ]; omega
    · rw [← hx, g2, show 4 - (k + 1) = 3 - k by omega]; rfl
end
end Go.X.TryzW
end
section
open Go Go.X Go.Proofs
set_option maxRecDepth 100000
set_option maxHeartbeats 4000000
set_option linter.unusedSimpArgs false
set_option linter.unusedVariables false
namespace Go.X.TryzW
def z75e : XC :=
 (.seq (.seq (.ops [ ⟨(some 123), (.mov (.t 0)), none⟩, ⟨(some 124), (.nilck (.t 123)), none⟩, ⟨(some 125), (.fldA 1 (.t 124)), none⟩, ⟨(some 126), (.load1 (.t 125)), none⟩, ⟨(some 127), (.mov (.t 4)), none⟩, ⟨(some 128), (.bin .eql (.t 126) (.t 127)), none⟩]) (.cond (.t 128) (.ops [ ⟨(some 129), (.mov (.t 0)), none⟩, ⟨(some 130), (.mov (.t 0)), none⟩, ⟨(some 131), (.nilck (.t 130)), none⟩, ⟨(some 132), (.fldA 1 (.t 131)), none⟩, ⟨(some 133), (.load1 (.t 132)), none⟩, ⟨(some 134), (.call (.f 46) [(.t 129), (.t 133), (.c (.int .i64 2))]), none⟩]) .skip)) (.seq (.draw [ ⟨(some 135), (.mov (.t 0)), none⟩, ⟨(some 136), (.nilck (.t 135)), none⟩, ⟨(some 137), (.fldA 0 (.t 136)), none⟩, ⟨(some 138), (.load1 (.t 137)), none⟩, ⟨(some 139), (.mov (.t 3)), none⟩, ⟨(some 140), (.mov (.t 0)), none⟩, ⟨(some 141), (.nilck (.t 140)), none⟩, ⟨(some 142), (.fldA 1 (.t 141)), none⟩, ⟨(some 143), (.load1 (.t 142)), none⟩, ⟨(some 144), (.sliceS (.t 138) (some (.t 139)) (some (.t 143))), none⟩, ⟨(some 2), (.mov (.t 144)), none⟩]) .ret))
def z75t : XC :=
 (.seq (.ops [ ⟨(some 26), (.mov (.t 0)), none⟩, ⟨(some 27), (.nilck (.t 26)), none⟩, ⟨(some 28), (.fldA 1 (.t 27)), none⟩, ⟨(some 29), (.load1 (.t 28)), none⟩, ⟨(some 4), (.mov (.t 29)), none⟩]) (.seq (.block 0 (.loop (.seq (.seq (.draw [ ⟨(some 30), (.mov (.t 0)), none⟩, ⟨(some 31), (.nilck (.t 30)), none⟩, ⟨(some 32), (.fldA 1 (.t 31)), none⟩, ⟨(some 33), (.load1 (.t 32)), none⟩, ⟨(some 34), (.mov (.t 0)), none⟩, ⟨(some 35), (.nilck (.t 34)), none⟩, ⟨(some 36), (.fldA 0 (.t 35)), none⟩, ⟨(some 37), (.load1 (.t 36)), none⟩, ⟨(some 38), (.lenS (.t 37)), none⟩, ⟨(some 39), (.bin .lss (.t 33) (.t 38)), none⟩, ⟨(some 40), (.mov (.t 39)), none⟩, ⟨(some 41), (.mov (.t 0)), (some (40, true))⟩, ⟨(some 42), (.nilck (.t 41)), (some (40, true))⟩, ⟨(some 43), (.fldA 0 (.t 42)), (some (40, true))⟩, ⟨(some 44), (.load1 (.t 43)), (some (40, true))⟩, ⟨(some 45), (.mov (.t 0)), (some (40, true))⟩, ⟨(some 46), (.nilck (.t 45)), (some (40, true))⟩, ⟨(some 47), (.fldA 1 (.t 46)), (some (40, true))⟩, ⟨(some 48), (.load1 (.t 47)), (some (40, true))⟩, ⟨(some 49), (.idx (.t 44) (.t 48)), (some (40, true))⟩, ⟨(some 50), (.bin .geq (.t 49) (.c (.int .u8 48))), (some (40, true))⟩, ⟨(some 51), (.pick (.t 40) (.t 50) (.c (.bool false))), none⟩, ⟨(some 52), (.mov (.t 51)), none⟩, ⟨(some 53), (.mov (.t 0)), (some (52, true))⟩, ⟨(some 54), (.nilck (.t 53)), (some (52, true))⟩, ⟨(some 55), (.fldA 0 (.t 54)), (some (52, true))⟩, ⟨(some 56), (.load1 (.t 55)), (some (52, true))⟩, ⟨(some 57), (.mov (.t 0)), (some (52, true))⟩, ⟨(some 58), (.nilck (.t 57)), (some (52, true))⟩, ⟨(some 59), (.fldA 1 (.t 58)), (some (52, true))⟩, ⟨(some 60), (.load1 (.t 59)), (some (52, true))⟩, ⟨(some 61), (.idx (.t 56) (.t 60)), (some (52, true))⟩, ⟨(some 62), (.bin .leq (.t 61) (.c (.int .u8 57))), (some (52, true))⟩, ⟨(some 63), (.pick (.t 52) (.t 62) (.c (.bool false))), none⟩]) (.cond (.t 63) .skip (.exit 0))) (.block 1 (.seq (.seq (.ops [ ⟨(some 64), (.mov (.t 0)), none⟩, ⟨(some 65), (.nilck (.t 64)), none⟩, ⟨(some 66), (.fldA 1 (.t 65)), none⟩, ⟨(some 67), (.load1 (.t 66)), none⟩, ⟨(some 68), (.mov (.t 4)), none⟩, ⟨(some 69), (.bin .gtr (.t 67) (.t 68)), none⟩, ⟨(some 70), (.mov (.t 69)), none⟩, ⟨(some 71), (.mov (.t 0)), (some (70, true))⟩, ⟨(some 72), (.nilck (.t 71)), (some (70, true))⟩, ⟨(some 73), (.fldA 0 (.t 72)), (some (70, true))⟩, ⟨(some 74), (.load1 (.t 73)), (some (70, true))⟩, ⟨(some 75), (.mov (.t 4)), (some (70, true))⟩, ⟨(some 76), (.idx (.t 74) (.t 75)), (some (70, true))⟩, ⟨(some 77), (.bin .eql (.t 76) (.c (.int .u8 48))), (some (70, true))⟩, ⟨(some 78), (.pick (.t 70) (.t 77) (.c (.bool false))), none⟩, ⟨(some 79), (.mov (.t 78)), none⟩, ⟨(some 80), (.mov (.t 0)), (some (79, false))⟩, ⟨(some 81), (.nilck (.t 80)), (some (79, false))⟩, ⟨(some 82), (.fldA 1 (.t 81)), (some (79, false))⟩, ⟨(some 83), (.load1 (.t 82)), (some (79, false))⟩, ⟨(some 84), (.mov (.t 4)), (some (79, false))⟩, ⟨(some 85), (.bin .eql (.t 83) (.t 84)), (some (79, false))⟩, ⟨(some 86), (.mov (.t 85)), (some (79, false))⟩, ⟨(some 87), (.mov (.t 4)), (some (86, true))⟩, ⟨(some 88), (.mov (.t 3)), (some (86, true))⟩, ⟨(some 89), (.bin .gtr (.t 87) (.t 88)), (some (86, true))⟩, ⟨(some 90), (.pick (.t 86) (.t 89) (.c (.bool false))), (some (79, false))⟩, ⟨(some 91), (.mov (.t 90)), (some (79, false))⟩, ⟨(some 92), (.mov (.t 0)), (some (91, true))⟩, ⟨(some 93), (.nilck (.t 92)), (some (91, true))⟩, ⟨(some 94), (.fldA 0 (.t 93)), (some (91, true))⟩, ⟨(some 95), (.load1 (.t 94)), (some (91, true))⟩, ⟨(some 96), (.mov (.t 4)), (some (91, true))⟩, ⟨(some 97), (.idx (.t 95) (.t 96)), (some (91, true))⟩, ⟨(some 98), (.bin .eql (.t 97) (.c (.int .u8 48))), (some (91, true))⟩, ⟨(some 99), (.pick (.t 91) (.t 98) (.c (.bool false))), (some (79, false))⟩, ⟨(some 100), (.pick (.t 79) (.c (.bool true)) (.t 99)), none⟩, ⟨(some 101), (.mov (.t 100)), none⟩, ⟨(some 102), (.mov (.t 0)), (some (101, false))⟩, ⟨(some 103), (.nilck (.t 102)), (some (101, false))⟩, ⟨(some 104), (.fldA 1 (.t 103)), (some (101, false))⟩, ⟨(some 105), (.load1 (.t 104)), (some (101, false))⟩, ⟨(some 106), (.mov (.t 4)), (some (101, false))⟩, ⟨(some 107), (.bin .sub (.t 105) (.t 106)), (some (101, false))⟩, ⟨(some 108), (.bin .geq (.t 107) (.c (.int .i64 15))), (some (101, false))⟩, ⟨(some 109), (.pick (.t 101) (.c (.bool true)) (.t 108)), none⟩]) (.cond (.t 109) (.seq (.ops [ ⟨(some 110), (.mov (.t 0)), none⟩, ⟨(some 111), (.mov (.t 0)), none⟩, ⟨(some 112), (.nilck (.t 111)), none⟩, ⟨(some 113), (.fldA 1 (.t 112)), none⟩, ⟨(some 114), (.load1 (.t 113)), none⟩, ⟨(some 115), (.call (.f 46) [(.t 110), (.t 114), (.c (.int .i64 2))]), none⟩]) (.seq (.ops [ ⟨(some 2), (.mov (.c (.str []))), none⟩]) .ret)) .skip)) (.ops [ ⟨(some 116), (.mov (.t 0)), none⟩, ⟨(some 117), (.nilck (.t 116)), none⟩, ⟨(some 118), (.fldA 1 (.t 117)), none⟩, ⟨(some 119), (.load1 (.t 118)), none⟩, ⟨(some 120), (.bin .add (.t 119) (.c (.int .i64 1))), none⟩, ⟨(some 121), (.nilck (.t 116)), none⟩, ⟨(some 122), (.fldA 1 (.t 121)), none⟩, ⟨none, (.store 1 (.t 122) (.t 120)), none⟩])))))) z75e))
/- "(*tiller/tillerref13.reader).number" params { toList := [68] } results { toList := [Go.ResultVar.tmp 2] } -/
def y75 : XC :=
 (.seq (.ops [ ⟨(some 2), (.mov (.c (.str []))), none⟩]) (.seq (.ops [ ⟨(some 5), (.mov (.t 0)), none⟩, ⟨(some 6), (.nilck (.t 5)), none⟩, ⟨(some 7), (.fldA 1 (.t 6)), none⟩, ⟨(some 8), (.load1 (.t 7)), none⟩, ⟨(some 3), (.mov (.t 8)), none⟩]) (.seq (.seq (.draw [ ⟨(some 9), (.mov (.t 0)), none⟩, ⟨(some 10), (.nilck (.t 9)), none⟩, ⟨(some 11), (.fldA 0 (.t 10)), none⟩, ⟨(some 12), (.load1 (.t 11)), none⟩, ⟨(some 13), (.mov (.t 0)), none⟩, ⟨(some 14), (.nilck (.t 13)), none⟩, ⟨(some 15), (.fldA 1 (.t 14)), none⟩, ⟨(some 16), (.load1 (.t 15)), none⟩, ⟨(some 17), (.idx (.t 12) (.t 16)), none⟩, ⟨(some 18), (.bin .eql (.t 17) (.c (.int .u8 45))), none⟩]) (.cond (.t 18) (.ops [ ⟨(some 19), (.mov (.t 0)), none⟩, ⟨(some 20), (.nilck (.t 19)), none⟩, ⟨(some 21), (.fldA 1 (.t 20)), none⟩, ⟨(some 22), (.load1 (.t 21)), none⟩, ⟨(some 23), (.bin .add (.t 22) (.c (.int .i64 1))), none⟩, ⟨(some 24), (.nilck (.t 19)), none⟩, ⟨(some 25), (.fldA 1 (.t 24)), none⟩, ⟨none, (.store 1 (.t 25) (.t 23)), none⟩]) .skip)) z75t)))
section
variable {E : Env} {L : List Blk} {K : IV → List Blk → Prop}
def numR (s : List UInt8) (o : Nat) : Except Fr.Bad (List UInt8 × Nat) :=
  let fst := if Fr.isAt s o 45 then o + 1 else o
  let i := Fr.numGo s o fst (s.length - fst) fst
  if i < s.length ∧ Fr.digB (s.getD i 0) = true then .error (i, 2) else if i = fst then .error (i, 2) else .ok ((s.take i).drop o, i)
def NumR (s : List UInt8) (o : Nat) (r : IV) (L1 : List Blk) : Prop := match numR s o with
  | .ok (v, j) => r = .str v ∧ L1 = [rrB s j none]
  | .error (p, w) => ∃ (v : List UInt8) (a : Nat), r = .str v ∧ L1 = [rrB s a (some (p, w))]
/-- It stops where it is. -/
theorem numGo_halt (s : List UInt8) (o fst f i : Nat) (h : (decide (i < s.length) && Fr.digB (s.getD i 0) && decide (i < fst + 15)) = false ∨ (s.getD fst 0 = 48 ∧ (fst < i ∨ o < fst))) : Fr.numGo s o fst f i = i := by
  cases f with
  | zero => rfl
  | succ f =>
    rw [Fr.numGo]
    rcases h with h | ⟨h1, h2⟩
    · rw [h]; rfl
    · split
      · rw [decide_eq_true h1]
        rw [if_pos]
        rcases h2 with h2 | h2
        · rw [decide_eq_true h2]; rfl
        · rw [decide_eq_true h2]; simp
      · rfl
theorem numGo_more (s : List UInt8) (o fst i : Nat) (hi : i < s.length) (hd : Fr.digB (s.getD i 0) = true) (h15 : i < fst + 15) (h : ¬ (s.getD fst 0 = 48 ∧ (fst < i ∨ o < fst))) : Fr.numGo s o fst (s.length - i) i = Fr.numGo s o fst (s.length - (i + 1)) (i + 1) := by
  obtain ⟨f, hf⟩ : ∃ k, s.length - i = k + 1 := ⟨s.length - i - 1, by omega⟩
  rw [hf, Fr.numGo, if_pos (by rw [decide_eq_true hi, hd, decide_eq_true h15]; rfl), if_neg, show s.length - (i + 1) = f by omega]
  rw [Bool.and_eq_true, Bool.or_eq_true, decide_eq_true_eq, decide_eq_true_eq, decide_eq_true_eq]
  exact h
theorem rnum_t (hP : E.P = Tryz.prog) (s : List UInt8) (o : Nat) (hs : s.length ≤ 1000000) (ho : o < s.length) : XT E 75 [.ptr 0 0 0] [rrB s o none] (NumR s o) := by
  refine xt_of_fun (F := ⟨Tryz.f75.ntmps, [.tmp 2], y75⟩) (by rw [hP]; rfl) (by rw [hP]; kernel_rfl) (by decide) (Nat.le_of_ble_eq_true rfl) (xfun1 ?_)
  generalize hρ : entry _ = ρ
  have h0 : ρ 0 = .ptr 0 0 0 := by rw [← hρ]; rfl
  clear hρ
  unfold y75
  have e0 : ((0 : Int) ≤ (o : Int)) = True := eq_true (by omega)
  have e1 : ((o : Int) < (s.length : Int)) = True := eq_true (by omega)
  have key : ∀ (fst : Nat) (ρ : Rho), (fst = if Fr.isAt s o 45 then o + 1 else o) → o ≤ fst → fst ≤ s.length → ρ 0 = .ptr 0 0 0 → ρ 3 = .int .i64 o →
      xrun E.noPan z75t ρ [rrB s fst none] (doneK fun ρ L' => Leave 1 (ρ 2) L' (NumR s o)) := by
    clear h0 ρ
    intro fst ρ hf hof hfl h0 h3
    unfold z75t
    simp only [h0, h3, rrB, go_sem, Nat.reduceEqDiff, reduceIte, Int.reduceEq, Int.reduceLT, Int.reduceLE, Nat.reduceAdd, Nat.reduceLT, Nat.reduceLeDiff, Int.reduceToNat, Int.reduceSub, Int.reduceAdd, Int.reduceNeg]
    refine s_loop (fun n ρ L => ∃ i : Nat, fst ≤ i ∧ i ≤ s.length ∧ n = s.length - i ∧ Fr.numGo s o fst (s.length - i) i = Fr.numGo s o fst (s.length - fst) fst ∧ ρ 0 = .ptr 0 0 0 ∧ ρ 3 = .int .i64 o ∧ ρ 4 = .int .i64 fst ∧ L = [rrB s i none]) (n := s.length - fst)
      ⟨fst, Nat.le_refl _, hfl, rfl, rfl, by simp only [h0, go_sem, Nat.reduceEqDiff, reduceIte, Int.reduceEq, Int.reduceLT, Int.reduceLE, Nat.reduceAdd, Nat.reduceLT, Nat.reduceLeDiff, Int.reduceToNat, Int.reduceSub, Int.reduceAdd, Int.reduceNeg], by simp only [h3, go_sem, Nat.reduceEqDiff, reduceIte, Int.reduceEq, Int.reduceLT, Int.reduceLE, Nat.reduceAdd, Nat.reduceLT, Nat.reduceLeDiff, Int.reduceToNat, Int.reduceSub, Int.reduceAdd, Int.reduceNeg], by simp only [go_sem, Nat.reduceEqDiff, reduceIte, Int.reduceEq, Int.reduceLT, Int.reduceLE, Nat.reduceAdd, Nat.reduceLT, Nat.reduceLeDiff, Int.reduceToNat, Int.reduceSub, Int.reduceAdd, Int.reduceNeg]; try rfl, rfl⟩ ?_
    clear h0 h3 ρ
    rintro n ρ L ⟨i, hfi, hil, rfl, hgo, h0, h3, h4, rfl⟩
    have hnum : ∀ (hstop : Fr.numGo s o fst (s.length - i) i = i), numR s o = if i < s.length ∧ Fr.digB (s.getD i 0) = true then .error (i, 2) else if i = fst then .error (i, 2) else .ok ((s.take i).drop o, i) := fun hstop => by
      unfold numR
      rw [← hf]
      dsimp only
      rw [← hgo, hstop]
    by_cases hd : i < s.length ∧ Fr.digB (s.getD i 0) = true
    case neg =>
      have hst := hnum (numGo_halt s o fst _ i (.inl (by
        by_cases h1 : i < s.length
        · rw [decide_eq_true h1, Bool.eq_false_iff.2 (fun h => hd ⟨h1, h⟩)]; rfl
        · rw [decide_eq_false h1]; rfl)))
      rw [if_neg hd] at hst
      have hend : ∀ (ρ' : Rho), ρ' 0 = .ptr 0 0 0 → ρ' 3 = .int .i64 o → ρ' 4 = .int .i64 fst → xrun E.noPan z75e ρ' [rrB s i none] (doneK fun ρ L' => Leave 1 (ρ 2) L' (NumR s o)) := by
        clear h0 h3 h4 ρ
        intro ρ h0 h3 h4
        unfold z75e
        have o0 : ((0 : Int) ≤ (o : Int)) = True := eq_true (by omega)
        have i0 : ((0 : Int) ≤ (i : Int)) = True := eq_true (by omega)
        by_cases hif : i = fst
        · have f1 : ((i : Int) = (fst : Int)) = True := eq_true (by omega)
          rw [if_pos hif] at hst
          simp only [h0, h3, h4, rrB, f1, go_sem, Nat.reduceEqDiff, reduceIte, Int.reduceEq, Int.reduceLT, Int.reduceLE, Nat.reduceAdd, Nat.reduceLT, Nat.reduceLeDiff, Int.reduceToNat, Int.reduceSub, Int.reduceAdd, Int.reduceNeg]
          refine rno_call (E := E.noPan) hP (s := s) (i := i) (q := none) (p := i) (w := 2) rfl ?_
          show xops _ _ _ [rrB s (i) (some (i, 2))] _
          simp only [h0, h3, h4, rrB, o0, i0, go_sem, Nat.reduceEqDiff, reduceIte, Int.reduceEq, Int.reduceLT, Int.reduceLE, Nat.reduceAdd, Nat.reduceLT, Nat.reduceLeDiff, Int.reduceToNat, Int.reduceSub, Int.reduceAdd, Int.reduceNeg]
          refine ⟨by rfl, by omega, by omega, ?_⟩
          exact leave_rr (s := s) (j := i) (q := some (i, 2)) rfl rfl (by unfold NumR; rw [hst]; exact ⟨_, _, rfl, rfl⟩)
        · have f1 : ((i : Int) = (fst : Int)) = False := eq_false (by omega)
          rw [if_neg hif] at hst
          simp only [h0, h3, h4, rrB, f1, o0, i0, go_sem, Nat.reduceEqDiff, reduceIte, Int.reduceEq, Int.reduceLT, Int.reduceLE, Nat.reduceAdd, Nat.reduceLT, Nat.reduceLeDiff, Int.reduceToNat, Int.reduceSub, Int.reduceAdd, Int.reduceNeg]
          refine ⟨by rfl, by omega, by omega, ?_⟩
          exact leave_rr (s := s) (j := i) (q := none) rfl rfl (by unfold NumR; rw [hst]; exact ⟨rfl, rfl⟩)
      by_cases h1 : i < s.length
      · have e1 : ((i : Int) < (s.length : Int)) = True := eq_true (by omega)
        have e0 : ((0 : Int) ≤ (i : Int)) = True := eq_true (by omega)
        have hdd : ¬ (48 ≤ (s.getD i 0).toNat ∧ (s.getD i 0).toNat ≤ 57) := fun h => hd ⟨h1, by unfold Fr.digB; rw [decide_eq_true h.1, decide_eq_true h.2]; rfl⟩
        by_cases h48 : 48 ≤ (s.getD i 0).toNat
        · have f1 : ((48 : Int) ≤ ((s.getD i 0).toNat : Int)) = True := eq_true (by omega)
          have f2 : (((s.getD i 0).toNat : Int) ≤ 57) = False := eq_false (by omega)
          simp only [h0, h3, h4, rrB, e0, e1, f1, f2, go_sem, Nat.reduceEqDiff, reduceIte, Int.reduceEq, Int.reduceLT, Int.reduceLE, Nat.reduceAdd, Nat.reduceLT, Nat.reduceLeDiff, Int.reduceToNat, Int.reduceSub, Int.reduceAdd, Int.reduceNeg]
          exact ⟨by rfl, hend _ (by simp only [h0, go_sem, Nat.reduceEqDiff, reduceIte, Int.reduceEq, Int.reduceLT, Int.reduceLE, Nat.reduceAdd, Nat.reduceLT, Nat.reduceLeDiff, Int.reduceToNat, Int.reduceSub, Int.reduceAdd, Int.reduceNeg]) (by simp only [h3, go_sem, Nat.reduceEqDiff, reduceIte, Int.reduceEq, Int.reduceLT, Int.reduceLE, Nat.reduceAdd, Nat.reduceLT, Nat.reduceLeDiff, Int.reduceToNat, Int.reduceSub, Int.reduceAdd, Int.reduceNeg]) (by simp only [h4, go_sem, Nat.reduceEqDiff, reduceIte, Int.reduceEq, Int.reduceLT, Int.reduceLE, Nat.reduceAdd, Nat.reduceLT, Nat.reduceLeDiff, Int.reduceToNat, Int.reduceSub, Int.reduceAdd, Int.reduceNeg])⟩
        · have f1 : ((48 : Int) ≤ ((s.getD i 0).toNat : Int)) = False := eq_false (by omega)
          simp only [h0, h3, h4, rrB, e0, e1, f1, go_sem, Nat.reduceEqDiff, reduceIte, Int.reduceEq, Int.reduceLT, Int.reduceLE, Nat.reduceAdd, Nat.reduceLT, Nat.reduceLeDiff, Int.reduceToNat, Int.reduceSub, Int.reduceAdd, Int.reduceNeg]
          exact ⟨by rfl, hend _ (by simp only [h0, go_sem, Nat.reduceEqDiff, reduceIte, Int.reduceEq, Int.reduceLT, Int.reduceLE, Nat.reduceAdd, Nat.reduceLT, Nat.reduceLeDiff, Int.reduceToNat, Int.reduceSub, Int.reduceAdd, Int.reduceNeg]) (by simp only [h3, go_sem, Nat.reduceEqDiff, reduceIte, Int.reduceEq, Int.reduceLT, Int.reduceLE, Nat.reduceAdd, Nat.reduceLT, Nat.reduceLeDiff, Int.reduceToNat, Int.reduceSub, Int.reduceAdd, Int.reduceNeg]) (by simp only [h4, go_sem, Nat.reduceEqDiff, reduceIte, Int.reduceEq, Int.reduceLT, Int.reduceLE, Nat.reduceAdd, Nat.reduceLT, Nat.reduceLeDiff, Int.reduceToNat, Int.reduceSub, Int.reduceAdd, Int.reduceNeg])⟩
      · have e1 : ((i : Int) < (s.length : Int)) = False := eq_false (by omega)
        simp only [h0, h3, h4, rrB, e1, go_sem, Nat.reduceEqDiff, reduceIte, Int.reduceEq, Int.reduceLT, Int.reduceLE, Nat.reduceAdd, Nat.reduceLT, Nat.reduceLeDiff, Int.reduceToNat, Int.reduceSub, Int.reduceAdd, Int.reduceNeg]
        exact ⟨by rfl, hend _ (by simp only [h0, go_sem, Nat.reduceEqDiff, reduceIte, Int.reduceEq, Int.reduceLT, Int.reduceLE, Nat.reduceAdd, Nat.reduceLT, Nat.reduceLeDiff, Int.reduceToNat, Int.reduceSub, Int.reduceAdd, Int.reduceNeg]) (by simp only [h3, go_sem, Nat.reduceEqDiff, reduceIte, Int.reduceEq, Int.reduceLT, Int.reduceLE, Nat.reduceAdd, Nat.reduceLT, Nat.reduceLeDiff, Int.reduceToNat, Int.reduceSub, Int.reduceAdd, Int.reduceNeg]) (by simp only [h4, go_sem, Nat.reduceEqDiff, reduceIte, Int.reduceEq, Int.reduceLT, Int.reduceLE, Nat.reduceAdd, Nat.reduceLT, Nat.reduceLeDiff, Int.reduceToNat, Int.reduceSub, Int.reduceAdd, Int.reduceNeg])⟩
    obtain ⟨h1, hdig⟩ := hd
    have hdd : 48 ≤ (s.getD i 0).toNat ∧ (s.getD i 0).toNat ≤ 57 := by
      unfold Fr.digB at hdig
      rw [Bool.and_eq_true, decide_eq_true_eq, decide_eq_true_eq] at hdig
      exact hdig
    have e1 : ((i : Int) < (s.length : Int)) = True := eq_true (by omega)
    have e0 : ((0 : Int) ≤ (i : Int)) = True := eq_true (by omega)
    have f1 : ((48 : Int) ≤ ((s.getD i 0).toNat : Int)) = True := eq_true (by omega)
    have f2 : (((s.getD i 0).toNat : Int) ≤ 57) = True := eq_true (by omega)
    have p0 : ((0 : Int) ≤ (fst : Int)) = True := eq_true (by omega)
    have p1 : ((fst : Int) < (s.length : Int)) = True := eq_true (by omega)
    have w15 : IntKind.i64.wrap ((i : Int) - (fst : Int)) = ((i - fst : Nat) : Int) := by rw [wrap64 (by omega) (by omega)]; omega
    have hw : IntKind.i64.wrap ((i : Int) + 1) = ((i + 1 : Nat) : Int) := by rw [wrap64 (by omega) (by omega)]; rfl
    have u48 : (((s.getD fst 0).toNat : Int) = 48) = (s.getD fst 0 = 48) := propext ⟨fun h => UInt8.toNat_inj.1 (by show (s.getD fst 0).toNat = 48; omega), fun h => by rw [h]; rfl⟩
    by_cases hz : s.getD fst 0 = 48
    · have z1 : (s.getD fst 0 = 48) = True := eq_true hz
      by_cases hg : fst < i
      · have g1 : ((fst : Int) < (i : Int)) = True := eq_true (by omega)
        simp only [h0, h3, h4, rrB, e0, e1, f1, f2, p0, p1, u48, z1, g1, go_sem, Nat.reduceEqDiff, reduceIte, Int.reduceEq, Int.reduceLT, Int.reduceLE, Nat.reduceAdd, Nat.reduceLT, Nat.reduceLeDiff, Int.reduceToNat, Int.reduceSub, Int.reduceAdd, Int.reduceNeg]
        refine ⟨by rfl, ?_⟩
        refine rno_call (E := E.noPan) hP (s := s) (i := i) (q := none) (p := i) (w := 2) rfl ?_
        show xops _ _ _ [rrB s (i) (some (i, 2))] _
        simp only [h0, h3, h4, go_sem, Nat.reduceEqDiff, reduceIte, Int.reduceEq, Int.reduceLT, Int.reduceLE, Nat.reduceAdd, Nat.reduceLT, Nat.reduceLeDiff, Int.reduceToNat, Int.reduceSub, Int.reduceAdd, Int.reduceNeg]
        exact leave_rr (s := s) (j := i) (q := some (i, 2)) rfl rfl (by unfold NumR; rw [hnum (numGo_halt s o fst _ i (.inr ⟨hz, .inl hg⟩)), if_pos ⟨h1, hdig⟩]; exact ⟨_, _, rfl, rfl⟩)
      have g1 : ((fst : Int) < (i : Int)) = False := eq_false (by omega)
      have g2 : ((i : Int) = (fst : Int)) = True := eq_true (by omega)
      by_cases hof2 : o < fst
      · have g3 : ((o : Int) < (fst : Int)) = True := eq_true (by omega)
        simp only [h0, h3, h4, rrB, e0, e1, f1, f2, p0, p1, u48, z1, g1, g2, g3, go_sem, Nat.reduceEqDiff, reduceIte, Int.reduceEq, Int.reduceLT, Int.reduceLE, Nat.reduceAdd, Nat.reduceLT, Nat.reduceLeDiff, Int.reduceToNat, Int.reduceSub, Int.reduceAdd, Int.reduceNeg]
        refine ⟨by rfl, ?_⟩
        refine rno_call (E := E.noPan) hP (s := s) (i := i) (q := none) (p := i) (w := 2) rfl ?_
        show xops _ _ _ [rrB s (i) (some (i, 2))] _
        simp only [h0, h3, h4, go_sem, Nat.reduceEqDiff, reduceIte, Int.reduceEq, Int.reduceLT, Int.reduceLE, Nat.reduceAdd, Nat.reduceLT, Nat.reduceLeDiff, Int.reduceToNat, Int.reduceSub, Int.reduceAdd, Int.reduceNeg]
        exact leave_rr (s := s) (j := i) (q := some (i, 2)) rfl rfl (by unfold NumR; rw [hnum (numGo_halt s o fst _ i (.inr ⟨hz, .inr hof2⟩)), if_pos ⟨h1, hdig⟩]; exact ⟨_, _, rfl, rfl⟩)
      have g3 : ((o : Int) < (fst : Int)) = False := eq_false (by omega)
      have g4 : ((15 : Int) ≤ ((i - fst : Nat) : Int)) = False := eq_false (by omega)
      simp only [h0, h3, h4, rrB, e0, e1, f1, f2, p0, p1, u48, w15, hw, z1, g1, g2, g3, g4, go_sem, Nat.reduceEqDiff, reduceIte, Int.reduceEq, Int.reduceLT, Int.reduceLE, Nat.reduceAdd, Nat.reduceLT, Nat.reduceLeDiff, Int.reduceToNat, Int.reduceSub, Int.reduceAdd, Int.reduceNeg]
      refine ⟨by rfl, ?_⟩
      exact ⟨s.length - (i + 1), by omega, i + 1, by omega, by omega, rfl, by rw [← hgo, numGo_more s o fst i h1 hdig (by omega) (fun h => by omega)], rfl⟩

    have z1 : (s.getD fst 0 = 48) = False := eq_false hz
    by_cases h15 : i < fst + 15
    · have g4 : ((15 : Int) ≤ ((i - fst : Nat) : Int)) = False := eq_false (by omega)
      by_cases hg : fst < i
      · have g1 : ((fst : Int) < (i : Int)) = True := eq_true (by omega)
        have g2 : ((i : Int) = (fst : Int)) = False := eq_false (by omega)
        simp only [h0, h3, h4, rrB, e0, e1, f1, f2, p0, p1, u48, w15, hw, z1, g1, g2, g4, go_sem, Nat.reduceEqDiff, reduceIte, Int.reduceEq, Int.reduceLT, Int.reduceLE, Nat.reduceAdd, Nat.reduceLT, Nat.reduceLeDiff, Int.reduceToNat, Int.reduceSub, Int.reduceAdd, Int.reduceNeg]
        refine ⟨by rfl, ?_⟩
        exact ⟨s.length - (i + 1), by omega, i + 1, by omega, by omega, rfl, by rw [← hgo, numGo_more s o fst i h1 hdig (by omega) (fun h => hz h.1)], rfl⟩

      have g1 : ((fst : Int) < (i : Int)) = False := eq_false (by omega)
      have g2 : ((i : Int) = (fst : Int)) = True := eq_true (by omega)
      by_cases hof2 : o < fst
      · have g3 : ((o : Int) < (fst : Int)) = True := eq_true (by omega)
        simp only [h0, h3, h4, rrB, e0, e1, f1, f2, p0, p1, u48, w15, hw, z1, g1, g2, g3, g4, go_sem, Nat.reduceEqDiff, reduceIte, Int.reduceEq, Int.reduceLT, Int.reduceLE, Nat.reduceAdd, Nat.reduceLT, Nat.reduceLeDiff, Int.reduceToNat, Int.reduceSub, Int.reduceAdd, Int.reduceNeg]
        refine ⟨by rfl, ?_⟩
        exact ⟨s.length - (i + 1), by omega, i + 1, by omega, by omega, rfl, by rw [← hgo, numGo_more s o fst i h1 hdig (by omega) (fun h => hz h.1)], rfl⟩

      have g3 : ((o : Int) < (fst : Int)) = False := eq_false (by omega)
      simp only [h0, h3, h4, rrB, e0, e1, f1, f2, p0, p1, u48, w15, hw, z1, g1, g2, g3, g4, go_sem, Nat.reduceEqDiff, reduceIte, Int.reduceEq, Int.reduceLT, Int.reduceLE, Nat.reduceAdd, Nat.reduceLT, Nat.reduceLeDiff, Int.reduceToNat, Int.reduceSub, Int.reduceAdd, Int.reduceNeg]
      refine ⟨by rfl, ?_⟩
      exact ⟨s.length - (i + 1), by omega, i + 1, by omega, by omega, rfl, by rw [← hgo, numGo_more s o fst i h1 hdig (by omega) (fun h => hz h.1)], rfl⟩

    have g4 : ((15 : Int) ≤ ((i - fst : Nat) : Int)) = True := eq_true (by omega)
    have g1 : ((fst : Int) < (i : Int)) = True := eq_true (by omega)
    have g2 : ((i : Int) = (fst : Int)) = False := eq_false (by omega)
    simp only [h0, h3, h4, rrB, e0, e1, f1, f2, p0, p1, u48, z1, g1, g2, g4, w15, go_sem, Nat.reduceEqDiff, reduceIte, Int.reduceEq, Int.reduceLT, Int.reduceLE, Nat.reduceAdd, Nat.reduceLT, Nat.reduceLeDiff, Int.reduceToNat, Int.reduceSub, Int.reduceAdd, Int.reduceNeg]
    refine ⟨by rfl, ?_⟩
    refine rno_call (E := E.noPan) hP (s := s) (i := i) (q := none) (p := i) (w := 2) rfl ?_
    show xops _ _ _ [rrB s (i) (some (i, 2))] _
    simp only [h0, h3, h4, go_sem, Nat.reduceEqDiff, reduceIte, Int.reduceEq, Int.reduceLT, Int.reduceLE, Nat.reduceAdd, Nat.reduceLT, Nat.reduceLeDiff, Int.reduceToNat, Int.reduceSub, Int.reduceAdd, Int.reduceNeg]
    exact leave_rr (s := s) (j := i) (q := some (i, 2)) rfl rfl (by unfold NumR; rw [hnum (numGo_halt s o fst _ i (.inl (by rw [decide_eq_false h15, Bool.and_false]))), if_pos ⟨h1, hdig⟩]; exact ⟨_, _, rfl, rfl⟩)
  have u45 : (((s.getD o 0).toNat : Int) = 45) = (s.getD o 0 = 45) := propext ⟨fun h => UInt8.toNat_inj.1 (by show (s.getD o 0).toNat = 45; omega), fun h => by rw [h]; rfl⟩
  have hat : Fr.isAt s o 45 = decide (s.getD o 0 = 45) := by unfold Fr.isAt; rw [decide_eq_true ho, Bool.true_and]
  have hw : IntKind.i64.wrap ((o : Int) + 1) = ((o + 1 : Nat) : Int) := by rw [wrap64 (by omega) (by omega)]; rfl
  by_cases hm : s.getD o 0 = 45
  · have m1 := u45.trans (eq_true hm)
    simp only [h0, rrB, e0, e1, m1, hw, go_sem, Nat.reduceEqDiff, reduceIte, Int.reduceEq, Int.reduceLT, Int.reduceLE, Nat.reduceAdd, Nat.reduceLT, Nat.reduceLeDiff, Int.reduceToNat, Int.reduceSub, Int.reduceAdd, Int.reduceNeg]
    refine ⟨by rfl, ?_⟩
    exact key (o + 1) _ (by rw [hat, decide_eq_true hm]; rfl) (by omega) (by omega) (by simp only [h0, go_sem, Nat.reduceEqDiff, reduceIte, Int.reduceEq, Int.reduceLT, Int.reduceLE, Nat.reduceAdd, Nat.reduceLT, Nat.reduceLeDiff, Int.reduceToNat, Int.reduceSub, Int.reduceAdd, Int.reduceNeg]) (by simp only [go_sem, Nat.reduceEqDiff, reduceIte, Int.reduceEq, Int.reduceLT, Int.reduceLE, Nat.reduceAdd, Nat.reduceLT, Nat.reduceLeDiff, Int.reduceToNat, Int.reduceSub, Int.reduceAdd, Int.reduceNeg]; try rfl)
  · have m1 := u45.trans (eq_false hm)
    simp only [h0, rrB, e0, e1, m1, go_sem, Nat.reduceEqDiff, reduceIte, Int.reduceEq, Int.reduceLT, Int.reduceLE, Nat.reduceAdd, Nat.reduceLT, Nat.reduceLeDiff, Int.reduceToNat, Int.reduceSub, Int.reduceAdd, Int.reduceNeg]
    refine ⟨by rfl, ?_⟩
    exact key o _ (by rw [hat, decide_eq_false hm]; rfl) (by omega) (by omega) (by simp only [h0, go_sem, Nat.reduceEqDiff, reduceIte, Int.reduceEq, Int.reduceLT, Int.reduceLE, Nat.reduceAdd, Nat.reduceLT, Nat.reduceLeDiff, Int.reduceToNat, Int.reduceSub, Int.reduceAdd, Int.reduceNeg]) (by simp only [go_sem, Nat.reduceEqDiff, reduceIte, Int.reduceEq, Int.reduceLT, Int.reduceLE, Nat.reduceAdd, Nat.reduceLT, Nat.reduceLeDiff, Int.reduceToNat, Int.reduceSub, Int.reduceAdd, Int.reduceNeg]; try rfl)
end
end Go.X.TryzW
end
section
open Go Go.X Go.Proofs
set_option maxRecDepth 100000
set_option maxHeartbeats 4000000
set_option linter.unusedSimpArgs false
set_option linter.unusedVariables false
namespace Go.X.TryzW
/- "(*tiller/tillerref13.reader).text" params { toList := [68] } results { toList := [Go.ResultVar.tmp 2] } -/
def y45 : XC :=
 (.seq
  (.ops [
    ⟨(some 2), (.mov (.c (.str []))), none⟩])
  (.seq
   (.ops [
     ⟨(some 6), (.mov (.t 0)), none⟩,
     ⟨(some 7), (.call (.f 42) [(.t 6), (.c (.int .u8 34))]), none⟩])
   (.seq
    (.ops [
      ⟨(some 3), (.mov (.c .nsl)), none⟩])
    (.seq
     (.block 0
      (.loop
       (.seq
        (.seq
         (.ops [
           ⟨(some 8), (.mov (.t 0)), none⟩,
           ⟨(some 9), (.nilck (.t 8)), none⟩,
           ⟨(some 10), (.fldA 2 (.t 9)), none⟩,
           ⟨(some 11), (.load1 (.t 10)), none⟩,
           ⟨(some 12), (.bin .lss (.t 11) (.c (.int .i64 0))), none⟩])
         (.cond (.t 12)
          .skip
          (.exit 0)))
        (.block 1
         (.seq
          (.seq
           (.draw [
             ⟨(some 13), (.mov (.t 0)), none⟩,
             ⟨(some 14), (.nilck (.t 13)), none⟩,
             ⟨(some 15), (.fldA 1 (.t 14)), none⟩,
             ⟨(some 16), (.load1 (.t 15)), none⟩,
             ⟨(some 17), (.mov (.t 0)), none⟩,
             ⟨(some 18), (.nilck (.t 17)), none⟩,
             ⟨(some 19), (.fldA 0 (.t 18)), none⟩,
             ⟨(some 20), (.load1 (.t 19)), none⟩,
             ⟨(some 21), (.lenS (.t 20)), none⟩,
             ⟨(some 22), (.bin .geq (.t 16) (.t 21)), none⟩])
           (.cond (.t 22)
            (.seq
             (.ops [
               ⟨(some 23), (.mov (.t 0)), none⟩,
               ⟨(some 24), (.mov (.t 0)), none⟩,
               ⟨(some 25), (.nilck (.t 24)), none⟩,
               ⟨(some 26), (.fldA 0 (.t 25)), none⟩,
               ⟨(some 27), (.load1 (.t 26)), none⟩,
               ⟨(some 28), (.lenS (.t 27)), none⟩,
               ⟨(some 29), (.call (.f 46) [(.t 23), (.t 28), (.c (.int .i64 2))]), none⟩])
             (.exit 0))
            .skip))
          (.seq
           (.draw [
             ⟨(some 30), (.mov (.t 0)), none⟩,
             ⟨(some 31), (.nilck (.t 30)), none⟩,
             ⟨(some 32), (.fldA 0 (.t 31)), none⟩,
             ⟨(some 33), (.load1 (.t 32)), none⟩,
             ⟨(some 34), (.mov (.t 0)), none⟩,
             ⟨(some 35), (.nilck (.t 34)), none⟩,
             ⟨(some 36), (.fldA 1 (.t 35)), none⟩,
             ⟨(some 37), (.load1 (.t 36)), none⟩,
             ⟨(some 38), (.idx (.t 33) (.t 37)), none⟩,
             ⟨(some 4), (.mov (.t 38)), none⟩])
           (.block 2
            (.seq
             (.ops [
               ⟨(some 83), (.mov (.t 4)), none⟩,
               ⟨(some 84), (.bin .eql (.t 83) (.c (.int .u8 34))), none⟩,
               ⟨(some 82), (.mov (.t 84)), none⟩])
             (.cond (.t 82)
              (.seq
               (.ops [
                 ⟨(some 85), (.mov (.t 0)), none⟩,
                 ⟨(some 86), (.nilck (.t 85)), none⟩,
                 ⟨(some 87), (.fldA 1 (.t 86)), none⟩,
                 ⟨(some 88), (.load1 (.t 87)), none⟩,
                 ⟨(some 89), (.bin .add (.t 88) (.c (.int .i64 1))), none⟩,
                 ⟨(some 90), (.nilck (.t 85)), none⟩,
                 ⟨(some 91), (.fldA 1 (.t 90)), none⟩,
                 ⟨none, (.store 1 (.t 91) (.t 89)), none⟩])
               (.seq
                (.ops [
                  ⟨(some 92), (.mov (.t 3)), none⟩,
                  ⟨(some 93), (.ex .bStr [(.t 92)]), none⟩,
                  ⟨(some 2), (.mov (.t 93)), none⟩])
                .ret))
              (.seq
               (.ops [
                 ⟨(some 95), (.mov (.t 4)), none⟩,
                 ⟨(some 96), (.bin .lss (.t 95) (.c (.int .u8 32))), none⟩,
                 ⟨(some 94), (.mov (.t 96)), none⟩])
               (.cond (.t 94)
                (.ops [
                  ⟨(some 97), (.mov (.t 0)), none⟩,
                  ⟨(some 98), (.mov (.t 0)), none⟩,
                  ⟨(some 99), (.nilck (.t 98)), none⟩,
                  ⟨(some 100), (.fldA 1 (.t 99)), none⟩,
                  ⟨(some 101), (.load1 (.t 100)), none⟩,
                  ⟨(some 102), (.call (.f 46) [(.t 97), (.t 101), (.c (.int .i64 2))]), none⟩])
                (.seq
                 (.ops [
                   ⟨(some 104), (.mov (.t 4)), none⟩,
                   ⟨(some 105), (.bin .eql (.t 104) (.c (.int .u8 92))), none⟩,
                   ⟨(some 103), (.mov (.t 105)), none⟩])
                 (.cond (.t 103)
                  (.ops [
                    ⟨(some 106), (.mov (.t 3)), none⟩,
                    ⟨(some 107), (.mov (.t 0)), none⟩,
                    ⟨(some 108), (.call (.f 74) [(.t 107)]), none⟩,
                    ⟨(some 109), (.ex (.appT 5 1) [(.t 106), (.t 108)]), none⟩,
                    ⟨(some 3), (.mov (.t 109)), none⟩])
                  (.seq
                   (.drawE [
                     ⟨(some 39), (.mov (.t 0)), none⟩,
                     ⟨(some 40), (.nilck (.t 39)), none⟩,
                     ⟨(some 41), (.fldA 0 (.t 40)), none⟩,
                     ⟨(some 42), (.load1 (.t 41)), none⟩,
                     ⟨(some 43), (.mov (.t 0)), none⟩,
                     ⟨(some 44), (.nilck (.t 43)), none⟩,
                     ⟨(some 45), (.fldA 1 (.t 44)), none⟩,
                     ⟨(some 46), (.load1 (.t 45)), none⟩,
                     ⟨(some 47), (.pcall (.f 37) [(.t 42), (.t 46)]), none⟩,
                     ⟨(some 5), (.mov (.t 47)), none⟩])
                   (.seq
                    (.seq
                     (.ops [
                       ⟨(some 48), (.mov (.t 5)), none⟩,
                       ⟨(some 49), (.bin .eql (.t 48) (.c (.int .i64 0))), none⟩])
                     (.cond (.t 49)
                      (.seq
                       (.ops [
                         ⟨(some 50), (.mov (.t 0)), none⟩,
                         ⟨(some 51), (.mov (.t 0)), none⟩,
                         ⟨(some 52), (.nilck (.t 51)), none⟩,
                         ⟨(some 53), (.fldA 1 (.t 52)), none⟩,
                         ⟨(some 54), (.load1 (.t 53)), none⟩,
                         ⟨(some 55), (.call (.f 46) [(.t 50), (.t 54), (.c (.int .i64 2))]), none⟩])
                       (.exit 2))
                      .skip))
                    (.seq
                     (.drawE [
                       ⟨(some 56), (.mov (.t 3)), none⟩,
                       ⟨(some 57), (.mov (.t 0)), none⟩,
                       ⟨(some 58), (.nilck (.t 57)), none⟩,
                       ⟨(some 59), (.fldA 0 (.t 58)), none⟩,
                       ⟨(some 60), (.load1 (.t 59)), none⟩,
                       ⟨(some 61), (.mov (.t 0)), none⟩,
                       ⟨(some 62), (.nilck (.t 61)), none⟩,
                       ⟨(some 63), (.fldA 1 (.t 62)), none⟩,
                       ⟨(some 64), (.load1 (.t 63)), none⟩,
                       ⟨(some 65), (.mov (.t 0)), none⟩,
                       ⟨(some 66), (.nilck (.t 65)), none⟩,
                       ⟨(some 67), (.fldA 1 (.t 66)), none⟩,
                       ⟨(some 68), (.load1 (.t 67)), none⟩,
                       ⟨(some 69), (.mov (.t 5)), none⟩,
                       ⟨(some 70), (.bin .add (.t 68) (.t 69)), none⟩,
                       ⟨(some 71), (.sliceS (.t 60) (some (.t 64)) (some (.t 70))), none⟩,
                       ⟨(some 72), (.ex (.appT 5 1) [(.t 56), (.t 71)]), none⟩,
                       ⟨(some 3), (.mov (.t 72)), none⟩])
                     (.ops [
                       ⟨(some 73), (.mov (.t 0)), none⟩,
                       ⟨(some 74), (.mov (.t 0)), none⟩,
                       ⟨(some 75), (.nilck (.t 74)), none⟩,
                       ⟨(some 76), (.fldA 1 (.t 75)), none⟩,
                       ⟨(some 77), (.load1 (.t 76)), none⟩,
                       ⟨(some 78), (.mov (.t 5)), none⟩,
                       ⟨(some 79), (.bin .add (.t 77) (.t 78)), none⟩,
                       ⟨(some 80), (.nilck (.t 73)), none⟩,
                       ⟨(some 81), (.fldA 1 (.t 80)), none⟩,
                       ⟨none, (.store 1 (.t 81) (.t 79)), none⟩])))))))))))))))))
     (.seq
      (.ops [
        ⟨(some 2), (.mov (.c (.str []))), none⟩])
      .ret)))))

section
variable {E : Env} {L : List Blk} {K : IV → List Blk → Prop}
def OutN (L : List Blk) (sv : IV) (bs : List UInt8) : Prop := (bs = [] ∧ sv = .nsl) ∨ (bs ≠ [] ∧ ∃ k, 0 < k ∧ sv = .sl k 0 bs.length bs.length ∧ L[k]? = some (.tcells 5 1 (bytesRows bs)))
theorem OutN.set0 {sv : IV} {bs : List UInt8} {b : Blk} (h : OutN L sv bs) : OutN (L.set 0 b) sv bs := by
  rcases h with h | ⟨h1, k, h2, h3, h4⟩
  · exact .inl h
  · exact .inr ⟨h1, k, h2, h3, by rw [List.getElem?_set_ne (by omega)]; exact h4⟩
theorem outN_bytes {sv : IV} {bs : List UInt8} (h : OutN L sv bs) : (rowsSl L sv).bind (mapO byteOf) = some bs := by
  rcases h with ⟨rfl, rfl⟩ | ⟨h1, k, h2, rfl, h4⟩
  · rfl
  · have : rowsSl L (.sl k 0 bs.length bs.length) = some (bytesRows bs) := by
      unfold rowsSl rowsOf
      simp only [h4]
      rw [if_pos (by rw [bytesRows_len]; omega), List.drop_zero, List.take_of_length_le (by rw [bytesRows_len]; exact Nat.le_refl _)]
    rw [this]
    exact bytesRows_of bs
theorem app_outN {sv xv : IV} {bs x : List UInt8} {g : Nat} (h : OutN L sv bs) (hx : rowsOf L xv = some (bytesRows x)) (hg : g = L.length) (h0 : 0 < L.length) (hb : bs.length + x.length ≤ 70368744177664)
    (hk : ∀ L' sv', OutN L' sv' (bs ++ x) → L'[0]? = L[0]? → K sv' L') : xappT 5 1 sv xv g L K := by
  have hxe : bytesRows x = [] → x = [] := fun h => List.eq_nil_of_length_eq_zero (by rw [← bytesRows_len x, h]; rfl)
  rcases h with ⟨rfl, rfl⟩ | ⟨h1, k, h2, rfl, h4⟩
  · unfold xappT
    rw [hx]
    refine ⟨bytesRows_rowsC x, fun he => ?_, fun hne => ?_⟩
    · exact hk _ _ (.inl ⟨by rw [hxe he]; rfl, rfl⟩) rfl
    · have hxn : x ≠ [] := fun h => hne (by rw [h]; rfl)
      rw [bytesRows_len]
      refine ⟨by omega, ?_⟩
      unfold layAt
      rw [if_pos hg]
      refine hk _ _ (.inr ⟨by simpa using hxn, g, by omega, by simp, ?_⟩) ?_
      · rw [hg, List.getElem?_append_right (Nat.le_refl _), Nat.sub_self]; rfl
      · rw [List.getElem?_append_left h0]
  · unfold xappT
    rw [hx]
    refine ⟨bytesRows_rowsC x, rfl, rfl, ?_⟩
    simp only [h4]
    refine ⟨trivial, trivial, by rw [bytesRows_len], fun he => ?_, fun hne => ?_⟩
    · rw [hxe he] at hk
      simp only [List.append_nil] at hk
      exact hk _ _ (.inr ⟨h1, k, h2, rfl, h4⟩) rfl
    · rw [bytesRows_len]
      refine ⟨by omega, ?_⟩
      unfold layAt
      rw [if_pos (by rw [List.length_set]; exact hg), ← bytesRows_app]
      refine hk _ _ (.inr ⟨by simp [h1], g, by omega, by rw [List.length_append], ?_⟩) ?_
      · rw [hg, List.getElem?_append_right (by rw [List.length_set]; exact Nat.le_refl _), List.length_set, Nat.sub_self]; rfl
      · rw [List.getElem?_append_left (by rw [List.length_set]; exact h0), List.getElem?_set_ne (by omega)]
theorem resc_call (hP : E.P = Tryz.prog) {s : List UInt8} {o : Nat} (hs : s.length ≤ 1000000) (ho : o < s.length) (hL : L[0]? = some (rrB s o none))
    (h1 : ∀ c j, Fr.escape s o = .ok (c, j) → K (.isl (bytesRows (Lib.encodeRune (c : Int)))) (L.set 0 (rrB s j none))) (h2 : ∀ p w a, Fr.escape s o = .error (p, w) → K (.isl (bytesRows [])) (L.set 0 (rrB s a (some (p, w))))) : xcall E 74 [.ptr 0 0 0] L K := by
  have hg : L.getD 0 .dead = rrB s o none := by rw [List.getD_eq_getElem?_getD, hL]; rfl
  refine xcall_sel (args' := [.ptr 0 0 0]) (L0 := [rrB s o none]) [0] (by simp) (fun t ht => ?_) rfl ?_ (resc_t hP s o hs ho) (fun r L1 hr => ?_)
  · rw [List.mem_singleton] at ht; subst ht; exact ⟨_, hL, rfl⟩
  · rw [List.map_cons, List.map_nil, hg]; rfl
  · unfold EscR at hr
    cases he : Fr.escape s o with
    | ok cj =>
      obtain ⟨c, j⟩ := cj
      rw [he] at hr
      obtain ⟨rfl, rfl⟩ := hr
      refine ⟨_, [rrB s j none], rfl, rfl, ?_⟩
      show K _ (L.set 0 (rrB s j none) ++ [])
      rw [List.append_nil]; exact h1 c j he
    | error pw =>
      obtain ⟨p, w⟩ := pw
      rw [he] at hr
      obtain ⟨rfl, a, rfl⟩ := hr
      refine ⟨_, [rrB s a (some (p, w))], rfl, rfl, ?_⟩
      show K _ (L.set 0 (rrB s a (some (p, w))) ++ [])
      rw [List.append_nil]; exact h2 p w a he
theorem hex4_bnd (s : List UInt8) (o : Nat) : ∀ (f i c c' j : Nat), Fr.hex4 s o f i c = .ok (c', j) → j = i + f ∧ (f = 0 ∨ j ≤ s.length)
  | 0, i, c, c', j, h => by
    rw [Fr.hex4] at h
    cases h
    exact ⟨rfl, .inl rfl⟩
  | f + 1, i, c, c', j, h => by
    rw [Fr.hex4] at h
    by_cases hi : i = s.length
    · rw [if_pos hi] at h; cases h
    · rw [if_neg hi] at h
      cases hp : Fr.place Fr.hexD (s.getD i 0 ||| 32) with
      | none => rw [hp] at h; cases h
      | some k =>
        rw [hp] at h
        dsimp only at h
        split at h
        · cases h
        · have := hex4_bnd s o f (i + 1) _ c' j h
          by_cases hil : i < s.length
          · exact ⟨by omega, .inr (by omega)⟩
          · have h0 : (s.getD i 0) = 0 := by rw [List.getD_eq_getElem?_getD, List.getElem?_eq_none (by omega)]; rfl
            rename_i hnot
            exact absurd (by rw [h0]; decide) hnot
theorem escape_bnd {s : List UInt8} {o c j : Nat} (ho : o < s.length) (h : Fr.escape s o = .ok (c, j)) : o < j ∧ j ≤ s.length := by
  unfold Fr.escape at h
  by_cases h1 : o + 1 = s.length
  · rw [if_pos h1] at h; cases h
  · rw [if_neg h1] at h
    split at h
    · cases h; omega
    · split at h
      · split at h
        · cases h
        · rename_i hx
          split at h
          · cases h
          · cases h
            have := hex4_bnd s o 4 (o + 2) 0 c j hx
            omega
      · cases h
/-- What a text is read as, behind what has been. -/
def txtT (s : List UInt8) (i : Nat) (q : Option (Nat × Int)) : Except Fr.Bad (List UInt8 × Nat) := match q with
  | some x => .error x
  | none => Fr.text s (Fr.blanks s i)
def TxtR (s : List UInt8) (T : Except Fr.Bad (List UInt8 × Nat)) (r : IV) (L1 : List Blk) : Prop := match T with
    | .ok (v, j) => r = .str v ∧ v.length ≤ 4 * s.length ∧ L1 = [rrB s j none]
    | .error (p, w) => r = .str [] ∧ ∃ a, L1 = [rrB s a (some (p, w))]
theorem rtext_t (hP : E.P = Tryz.prog) (s : List UInt8) (i0 : Nat) (q : Option (Nat × Int)) (hs : s.length ≤ 1000000) : XT E 45 [.ptr 0 0 0] [rrB s i0 q] (TxtR s (txtT s i0 q)) := by
  refine xt_of_fun (F := ⟨Tryz.f45.ntmps, [.tmp 2], y45⟩) (by rw [hP]; rfl) (by rw [hP]; kernel_rfl) (by decide) (Nat.le_of_ble_eq_true rfl) (xfun1 ?_)
  generalize hρ : entry _ = ρ
  have h0 : ρ 0 = .ptr 0 0 0 := by rw [← hρ]; rfl
  clear hρ
  unfold y45
  simp only [h0, go_sem, Nat.reduceEqDiff, reduceIte, Int.reduceEq, Int.reduceLT, Int.reduceLE, Nat.reduceAdd, Nat.reduceLT, Nat.reduceLeDiff, Int.reduceToNat, Int.reduceSub, Int.reduceAdd, Int.reduceNeg]
  refine reat_call (E := E.noPan) hP (s := s) (i := i0) (q := q) (c := 34) rfl hs rfl ?_
  show xops _ _ _ [rrB s (eatS s i0 34 q).1 (eatS s i0 34 q).2] _
  have hT0 : (∃ i out f, i ≤ s.length ∧ s.length + 1 - i ≤ f ∧ txtT s i0 q = Fr.textGo s f i out ∧ eatS s i0 34 q = (i, none) ∧ out = []) ∨ ∃ p w a, txtT s i0 q = .error (p, w) ∧ eatS s i0 34 q = (a, some (p, w)) := by
    unfold txtT eatS
    cases q with
    | some x => exact .inr ⟨x.1, x.2, _, rfl, rfl⟩
    | none =>
      dsimp only
      cases hat : Fr.isAt s (Fr.blanks s i0) 34 with
      | true =>
        have := isAt_lt hat
        refine .inl ⟨Fr.blanks s i0 + 1, [], _, by omega, Nat.le_refl _, ?_, rfl, rfl⟩
        unfold Fr.text Fr.must
        rw [hat]; rfl
      | false =>
        refine .inr ⟨Fr.blanks s i0, 2, _, ?_, rfl⟩
        unfold Fr.text Fr.must
        rw [hat]; rfl
  generalize hT : txtT s i0 q = T at *
  generalize hes : eatS s i0 34 q = es at *
  simp only [h0, go_sem, Nat.reduceEqDiff, reduceIte, Int.reduceEq, Int.reduceLT, Int.reduceLE, Nat.reduceAdd, Nat.reduceLT, Nat.reduceLeDiff, Int.reduceToNat, Int.reduceSub, Int.reduceAdd, Int.reduceNeg]
  refine s_loop (fun n ρ L => ρ 0 = .ptr 0 0 0 ∧ 0 < L.length ∧ ((∃ i out sv f, n = s.length - i + 1 ∧ i ≤ s.length ∧ s.length + 1 - i ≤ f ∧ T = Fr.textGo s f i out ∧ L[0]? = some (rrB s i none) ∧ OutN L sv out ∧ ρ 3 = sv ∧ out.length ≤ 4 * i) ∨
      (n = 0 ∧ ∃ p w a, T = .error (p, w) ∧ L[0]? = some (rrB s a (some (p, w)))))) (n := match es.2 with | none => s.length - es.1 + 1 | some _ => 0) ⟨by simp only [h0, go_sem, Nat.reduceEqDiff, reduceIte, Int.reduceEq, Int.reduceLT, Int.reduceLE, Nat.reduceAdd, Nat.reduceLT, Nat.reduceLeDiff, Int.reduceToNat, Int.reduceSub, Int.reduceAdd, Int.reduceNeg], by simp, ?_⟩ ?_
  · rcases hT0 with ⟨i, out, f, g1, g2, g3, rfl, rfl⟩ | ⟨p, w, a, g1, rfl⟩
    · exact .inl ⟨i, [], .nsl, f, rfl, g1, g2, g3, rfl, .inl ⟨rfl, rfl⟩, by simp only [go_sem, Nat.reduceEqDiff, reduceIte, Int.reduceEq, Int.reduceLT, Int.reduceLE, Nat.reduceAdd, Nat.reduceLT, Nat.reduceLeDiff, Int.reduceToNat, Int.reduceSub, Int.reduceAdd, Int.reduceNeg]; try rfl, by simp⟩
    · exact .inr ⟨rfl, p, w, a, g1, rfl⟩
  clear h0 hT0 hT hes ρ
  rintro n ρ L ⟨h0, hl0, hI⟩
  rcases hI with ⟨i, out, sv, f, rfl, hil, hf, hgo, hL, hO, h3, hol⟩ | ⟨rfl, p, w, a, hgo, hL⟩
  case inr =>
    have e1 := bdS (p, w)
    have hLu := hL
    unfold rrB at hLu
    simp only [h0, hLu, e1, go_sem, Nat.reduceEqDiff, reduceIte, Int.reduceEq, Int.reduceLT, Int.reduceLE, Nat.reduceAdd, Nat.reduceLT, Nat.reduceLeDiff, Int.reduceToNat, Int.reduceSub, Int.reduceAdd, Int.reduceNeg]
    exact leave_rr hL rfl (by unfold TxtR; rw [hgo]; exact ⟨rfl, _, rfl⟩)
  obtain ⟨f, rfl⟩ : ∃ k, f = k + 1 := ⟨f - 1, by omega⟩
  have e1 := bdN
  have hLu := hL
  unfold rrB at hLu
  rw [Fr.textGo] at hgo
  by_cases hie : i = s.length
  · have e2 : ((s.length : Int) ≤ (i : Int)) = True := eq_true (by omega)
    have hat : Fr.isAt s i 34 = false := by unfold Fr.isAt; rw [decide_eq_false (by omega)]; rfl
    rw [hat, if_neg (by decide), if_pos hie] at hgo
    simp only [h0, h3, hLu, e1, e2, go_sem, Nat.reduceEqDiff, reduceIte, Int.reduceEq, Int.reduceLT, Int.reduceLE, Nat.reduceAdd, Nat.reduceLT, Nat.reduceLeDiff, Int.reduceToNat, Int.reduceSub, Int.reduceAdd, Int.reduceNeg]
    refine ⟨by rfl, ?_⟩
    refine rno_call (E := E.noPan) hP (s := s) (i := i) (q := none) (p := s.length) (w := 2) hL ?_
    simp only [h0, go_sem, Nat.reduceEqDiff, reduceIte, Int.reduceEq, Int.reduceLT, Int.reduceLE, Nat.reduceAdd, Nat.reduceLT, Nat.reduceLeDiff, Int.reduceToNat, Int.reduceSub, Int.reduceAdd, Int.reduceNeg]
    exact leave_rr (rr_set0 hL) rfl (by unfold TxtR; rw [hgo, hie]; exact ⟨rfl, _, rfl⟩)
  have hlt : i < s.length := by omega
  have e2 : ((s.length : Int) ≤ (i : Int)) = False := eq_false (by omega)
  have e3 : ((i : Int) < (s.length : Int)) = True := eq_true (by omega)
  have e0 : ((0 : Int) ≤ (i : Int)) = True := eq_true (by omega)
  have hw : IntKind.i64.wrap ((i : Int) + 1) = ((i + 1 : Nat) : Int) := by rw [wrap64 (by omega) (by omega)]; rfl
  have at34 : Fr.isAt s i 34 = decide (s.getD i 0 = 34) := by unfold Fr.isAt; rw [decide_eq_true hlt, Bool.true_and]
  have at92 : Fr.isAt s i 92 = decide (s.getD i 0 = 92) := by unfold Fr.isAt; rw [decide_eq_true hlt, Bool.true_and]
  have u34 : (((s.getD i 0).toNat : Int) = 34) = (s.getD i 0 = 34) := propext ⟨fun h => UInt8.toNat_inj.1 (by show (s.getD i 0).toNat = 34; omega), fun h => by rw [h]; rfl⟩
  have u92 : (((s.getD i 0).toNat : Int) = 92) = (s.getD i 0 = 92) := propext ⟨fun h => UInt8.toNat_inj.1 (by show (s.getD i 0).toNat = 92; omega), fun h => by rw [h]; rfl⟩
  have u32 : (((s.getD i 0).toNat : Int) < 32) = (s.getD i 0 < 32) := propext ⟨fun h => UInt8.lt_iff_toNat_lt.2 (by show (s.getD i 0).toNat < 32; omega), fun h => by have := UInt8.lt_iff_toNat_lt.1 h; rw [show (32 : UInt8).toNat = 32 from rfl] at this; omega⟩
  have hbadI : ∀ (ρ2 : Rho) (L2 : List Blk) (p : Nat) (w : Int) (a : Nat), ρ2 0 = .ptr 0 0 0 → 0 < L2.length → T = .error (p, w) → L2[0]? = some (rrB s a (some (p, w))) →
      ∃ m, m < s.length - i + 1 ∧ ρ2 0 = .ptr 0 0 0 ∧ 0 < L2.length ∧ ((∃ i out sv f, m = s.length - i + 1 ∧ i ≤ s.length ∧ s.length + 1 - i ≤ f ∧ T = Fr.textGo s f i out ∧ L2[0]? = some (rrB s i none) ∧ OutN L2 sv out ∧ ρ2 3 = sv ∧ out.length ≤ 4 * i) ∨
      (m = 0 ∧ ∃ p w a, T = .error (p, w) ∧ L2[0]? = some (rrB s a (some (p, w))))) := fun ρ2 L2 p w a k0 kl kT kL => ⟨0, by omega, k0, kl, .inr ⟨rfl, p, w, a, kT, kL⟩⟩
  by_cases k34 : s.getD i 0 = 34
  · have f1 := u34.trans (eq_true k34)
    rw [at34, decide_eq_true k34, if_pos rfl] at hgo
    simp only [h0, h3, hLu, e0, e1, e2, e3, f1, hw, go_sem, Nat.reduceEqDiff, reduceIte, Int.reduceEq, Int.reduceLT, Int.reduceLE, Nat.reduceAdd, Nat.reduceLT, Nat.reduceLeDiff, Int.reduceToNat, Int.reduceSub, Int.reduceAdd, Int.reduceNeg]
    refine ⟨by rfl, by rfl, ?_⟩
    have hob := outN_bytes (hO.set0 (b := rrB s (i + 1) none))
    unfold rrB at hob
    rw [hob]
    simp only [h0, go_sem, Nat.reduceEqDiff, reduceIte, Int.reduceEq, Int.reduceLT, Int.reduceLE, Nat.reduceAdd, Nat.reduceLT, Nat.reduceLeDiff, Int.reduceToNat, Int.reduceSub, Int.reduceAdd, Int.reduceNeg]
    exact leave_rr (rr_set0 (j := i + 1) (q' := none) hL) rfl (by unfold TxtR; rw [hgo]; exact ⟨rfl, by omega, rfl⟩)
  have f1 := u34.trans (eq_false k34)
  rw [at34, decide_eq_false k34, if_neg (by decide), if_neg hie] at hgo
  by_cases k32 : s.getD i 0 < 32
  · have f2 := u32.trans (eq_true k32)
    rw [if_pos k32] at hgo
    simp only [h0, h3, hLu, e0, e1, e2, e3, f1, f2, go_sem, Nat.reduceEqDiff, reduceIte, Int.reduceEq, Int.reduceLT, Int.reduceLE, Nat.reduceAdd, Nat.reduceLT, Nat.reduceLeDiff, Int.reduceToNat, Int.reduceSub, Int.reduceAdd, Int.reduceNeg]
    refine ⟨by rfl, by rfl, ?_⟩
    refine rno_call (E := E.noPan) hP (s := s) (i := i) (q := none) (p := i) (w := 2) hL ?_
    simp only [h0, go_sem, Nat.reduceEqDiff, reduceIte, Int.reduceEq, Int.reduceLT, Int.reduceLE, Nat.reduceAdd, Nat.reduceLT, Nat.reduceLeDiff, Int.reduceToNat, Int.reduceSub, Int.reduceAdd, Int.reduceNeg]
    exact ⟨0, by omega, by rw [List.length_set]; exact hl0, .inr ⟨rfl, i, 2, i, hgo, rr_set0 hL⟩⟩
  have f2 := u32.trans (eq_false k32)
  rw [if_neg k32] at hgo
  by_cases k92 : s.getD i 0 = 92
  · have f3 := u92.trans (eq_true k92)
    rw [at92, decide_eq_true k92, if_pos rfl] at hgo
    simp only [h0, h3, hLu, e0, e1, e2, e3, f1, f2, f3, go_sem, Nat.reduceEqDiff, reduceIte, Int.reduceEq, Int.reduceLT, Int.reduceLE, Nat.reduceAdd, Nat.reduceLT, Nat.reduceLeDiff, Int.reduceToNat, Int.reduceSub, Int.reduceAdd, Int.reduceNeg]
    refine ⟨by rfl, by rfl, ?_⟩
    refine resc_call (E := E.noPan) hP hs hlt hL (fun c j he => ?_) (fun p w a he => ?_)
    · rw [he] at hgo
      dsimp only at hgo
      simp only [h0, h3, go_sem, Nat.reduceEqDiff, reduceIte, Int.reduceEq, Int.reduceLT, Int.reduceLE, Nat.reduceAdd, Nat.reduceLT, Nat.reduceLeDiff, Int.reduceToNat, Int.reduceSub, Int.reduceAdd, Int.reduceNeg]
      have hjb := escape_bnd hlt he
      have hel := enc_len (c : Int)
      refine app_outN hO.set0 rfl rfl (by rw [List.length_set]; exact hl0) (by omega) fun L2 sv2 hO2 hz2 => ?_
      have hL2 : L2[0]? = some (rrB s j none) := by rw [hz2]; exact rr_set0 hL
      exact ⟨s.length - j + 1, by omega, lt_of_get hL2, .inl ⟨j, _, sv2, f, rfl, hjb.2, by omega, hgo, hL2, hO2, rfl, by rw [List.length_append]; omega⟩⟩
    · rw [he] at hgo
      dsimp only at hgo
      simp only [h0, h3, go_sem, Nat.reduceEqDiff, reduceIte, Int.reduceEq, Int.reduceLT, Int.reduceLE, Nat.reduceAdd, Nat.reduceLT, Nat.reduceLeDiff, Int.reduceToNat, Int.reduceSub, Int.reduceAdd, Int.reduceNeg]
      refine app_outN hO.set0 rfl rfl (by rw [List.length_set]; exact hl0) (by simp; omega) fun L2 sv2 hO2 hz2 => ?_
      have hL2 : L2[0]? = some (rrB s a (some (p, w))) := by rw [hz2]; exact rr_set0 hL
      exact ⟨0, by omega, lt_of_get hL2, .inr ⟨rfl, p, w, a, hgo, hL2⟩⟩
  have f3 := u92.trans (eq_false k92)
  rw [at92, decide_eq_false k92, if_neg (by decide)] at hgo
  simp only [h0, h3, hLu, e0, e1, e2, e3, f1, f2, f3, go_sem, Nat.reduceEqDiff, reduceIte, Int.reduceEq, Int.reduceLT, Int.reduceLE, Nat.reduceAdd, Nat.reduceLT, Nat.reduceLeDiff, Int.reduceToNat, Int.reduceSub, Int.reduceAdd, Int.reduceNeg]
  refine ⟨by rfl, by rfl, ?_⟩
  refine o_pcall (args' := [.str s, .int .i64 i]) rfl (utf8_pure (E := E.noPan) hP s i hlt (by omega)) (fun m => rfl) ?_
  rw [utf_dec s i hlt]
  have hne : s.drop i ≠ [] := fun h => by have := congrArg List.length h; rw [List.length_drop] at this; simp at this; omega
  have hdw := decL_w (s.drop i) hne
  have hd4 := decL_le4 (s.drop i)
  rw [List.length_drop] at hdw
  by_cases hbad : (Lib.decodeL (s.drop i)).1 = 65533 ∧ (Lib.decodeL (s.drop i)).2 = 1
  · rw [if_pos hbad] at hgo ⊢
    have z0 : ((((0 : Nat) : Int)) = 0) = True := eq_true rfl
    simp only [h0, h3, hLu, z0, go_sem, Nat.reduceEqDiff, reduceIte, Int.reduceEq, Int.reduceLT, Int.reduceLE, Nat.reduceAdd, Nat.reduceLT, Nat.reduceLeDiff, Int.reduceToNat, Int.reduceSub, Int.reduceAdd, Int.reduceNeg]
    refine rno_call (E := E.noPan) hP (s := s) (i := i) (q := none) (p := i) (w := 2) hL ?_
    simp only [h0, go_sem, Nat.reduceEqDiff, reduceIte, Int.reduceEq, Int.reduceLT, Int.reduceLE, Nat.reduceAdd, Nat.reduceLT, Nat.reduceLeDiff, Int.reduceToNat, Int.reduceSub, Int.reduceAdd, Int.reduceNeg]
    exact ⟨0, by omega, by rw [List.length_set]; exact hl0, .inr ⟨rfl, i, 2, i, hgo, rr_set0 hL⟩⟩
  · rw [if_neg hbad] at hgo ⊢
    have henc := Lib.encode_decode (s.drop i) hne hbad
    rw [henc] at hgo
    generalize (Lib.decodeL (s.drop i)).2 = m at *
    have z0 : ((m : Int) = 0) = False := eq_false (by omega)
    have hwi : IntKind.i64.wrap ((i : Int) + (m : Int)) = ((i + m : Nat) : Int) := by rw [wrap64 (by omega) (by omega)]; rfl
    simp only [h0, h3, hLu, e0, z0, hwi, go_sem, Nat.reduceEqDiff, reduceIte, Int.reduceEq, Int.reduceLT, Int.reduceLE, Nat.reduceAdd, Nat.reduceLT, Nat.reduceLeDiff, Int.reduceToNat, Int.reduceSub, Int.reduceAdd, Int.reduceNeg]
    refine ⟨by omega, by omega, ?_⟩
    have hcut : (s.take (i + m)).drop i = (s.drop i).take m := by rw [List.drop_take, show i + m - i = m by omega]
    rw [hcut]
    have htl : ((s.drop i).take m).length = m := by rw [List.length_take, List.length_drop]; omega
    refine app_outN hO (rowsOf_str _ _) rfl hl0 (by omega) fun L2 sv2 hO2 hz2 => ?_
    have hL2 : L2[0]? = some (rrB s i none) := by rw [hz2]; exact hL
    have hL2u := hL2
    unfold rrB at hL2u
    simp only [h0, hL2u, hwi, go_sem, Nat.reduceEqDiff, reduceIte, Int.reduceEq, Int.reduceLT, Int.reduceLE, Nat.reduceAdd, Nat.reduceLT, Nat.reduceLeDiff, Int.reduceToNat, Int.reduceSub, Int.reduceAdd, Int.reduceNeg]
    have hL3 : (L2.set 0 (rrB s (i + m) none))[0]? = some (rrB s (i + m) none) := rr_set0 hL2
    exact ⟨s.length - (i + m) + 1, by omega, lt_of_get hL3, .inl ⟨i + m, _, sv2, f, rfl, by omega, by omega, hgo, hL3, hO2.set0, rfl, by rw [List.length_append]; omega⟩⟩
end
end Go.X.TryzW
end
section
open Go Go.X Go.Proofs
set_option maxRecDepth 100000
set_option maxHeartbeats 4000000
set_option linter.unusedSimpArgs false
set_option linter.unusedVariables false
namespace Go.X.TryzW
/- "(*tiller/tillerref13.reader).value" params { toList := [68] } results { toList := [Go.ResultVar.tmp 2] } -/
def y47 : XC :=
 (.seq
  (.ops [
    ⟨(some 2), (.mov (.c (.str []))), none⟩])
  (.seq
   (.ops [
     ⟨(some 3), (.mov (.t 0)), none⟩,
     ⟨(some 4), (.call (.f 44) [(.t 3)]), none⟩])
   (.seq
    (.seq
     (.ops [
       ⟨(some 5), (.mov (.t 0)), none⟩,
       ⟨(some 6), (.nilck (.t 5)), none⟩,
       ⟨(some 7), (.fldA 2 (.t 6)), none⟩,
       ⟨(some 8), (.load1 (.t 7)), none⟩,
       ⟨(some 9), (.bin .geq (.t 8) (.c (.int .i64 0))), none⟩])
     (.cond (.t 9)
      (.seq
       (.ops [
         ⟨(some 2), (.mov (.c (.str []))), none⟩])
       .ret)
      .skip))
    (.seq
     (.seq
      (.draw [
        ⟨(some 10), (.mov (.t 0)), none⟩,
        ⟨(some 11), (.nilck (.t 10)), none⟩,
        ⟨(some 12), (.fldA 1 (.t 11)), none⟩,
        ⟨(some 13), (.load1 (.t 12)), none⟩,
        ⟨(some 14), (.mov (.t 0)), none⟩,
        ⟨(some 15), (.nilck (.t 14)), none⟩,
        ⟨(some 16), (.fldA 0 (.t 15)), none⟩,
        ⟨(some 17), (.load1 (.t 16)), none⟩,
        ⟨(some 18), (.lenS (.t 17)), none⟩,
        ⟨(some 19), (.bin .geq (.t 13) (.t 18)), none⟩])
      (.cond (.t 19)
       (.seq
        (.ops [
          ⟨(some 20), (.mov (.t 0)), none⟩,
          ⟨(some 21), (.mov (.t 0)), none⟩,
          ⟨(some 22), (.nilck (.t 21)), none⟩,
          ⟨(some 23), (.fldA 1 (.t 22)), none⟩,
          ⟨(some 24), (.load1 (.t 23)), none⟩,
          ⟨(some 25), (.call (.f 46) [(.t 20), (.t 24), (.c (.int .i64 2))]), none⟩])
        (.seq
         (.ops [
           ⟨(some 2), (.mov (.c (.str []))), none⟩])
         .ret))
       .skip))
     (.seq
      (.seq
       (.draw [
         ⟨(some 26), (.mov (.t 0)), none⟩,
         ⟨(some 27), (.nilck (.t 26)), none⟩,
         ⟨(some 28), (.fldA 0 (.t 27)), none⟩,
         ⟨(some 29), (.load1 (.t 28)), none⟩,
         ⟨(some 30), (.mov (.t 0)), none⟩,
         ⟨(some 31), (.nilck (.t 30)), none⟩,
         ⟨(some 32), (.fldA 1 (.t 31)), none⟩,
         ⟨(some 33), (.load1 (.t 32)), none⟩,
         ⟨(some 34), (.idx (.t 29) (.t 33)), none⟩,
         ⟨(some 35), (.bin .eql (.t 34) (.c (.int .u8 34))), none⟩])
       (.cond (.t 35)
        (.seq
         (.ops [
           ⟨(some 36), (.mov (.t 0)), none⟩,
           ⟨(some 37), (.call (.f 45) [(.t 36)]), none⟩,
           ⟨(some 38), (.bin .add (.c (.str [34])) (.t 37)), none⟩,
           ⟨(some 2), (.mov (.t 38)), none⟩])
         .ret)
        .skip))
      (.seq
       (.seq
        (.draw [
          ⟨(some 39), (.mov (.t 0)), none⟩,
          ⟨(some 40), (.nilck (.t 39)), none⟩,
          ⟨(some 41), (.fldA 0 (.t 40)), none⟩,
          ⟨(some 42), (.load1 (.t 41)), none⟩,
          ⟨(some 43), (.mov (.t 0)), none⟩,
          ⟨(some 44), (.nilck (.t 43)), none⟩,
          ⟨(some 45), (.fldA 1 (.t 44)), none⟩,
          ⟨(some 46), (.load1 (.t 45)), none⟩,
          ⟨(some 47), (.idx (.t 42) (.t 46)), none⟩,
          ⟨(some 48), (.bin .eql (.t 47) (.c (.int .u8 45))), none⟩,
          ⟨(some 49), (.mov (.t 48)), none⟩,
          ⟨(some 50), (.mov (.t 0)), (some (49, false))⟩,
          ⟨(some 51), (.nilck (.t 50)), (some (49, false))⟩,
          ⟨(some 52), (.fldA 0 (.t 51)), (some (49, false))⟩,
          ⟨(some 53), (.load1 (.t 52)), (some (49, false))⟩,
          ⟨(some 54), (.mov (.t 0)), (some (49, false))⟩,
          ⟨(some 55), (.nilck (.t 54)), (some (49, false))⟩,
          ⟨(some 56), (.fldA 1 (.t 55)), (some (49, false))⟩,
          ⟨(some 57), (.load1 (.t 56)), (some (49, false))⟩,
          ⟨(some 58), (.idx (.t 53) (.t 57)), (some (49, false))⟩,
          ⟨(some 59), (.bin .geq (.t 58) (.c (.int .u8 48))), (some (49, false))⟩,
          ⟨(some 60), (.mov (.t 59)), (some (49, false))⟩,
          ⟨(some 61), (.mov (.t 0)), (some (60, true))⟩,
          ⟨(some 62), (.nilck (.t 61)), (some (60, true))⟩,
          ⟨(some 63), (.fldA 0 (.t 62)), (some (60, true))⟩,
          ⟨(some 64), (.load1 (.t 63)), (some (60, true))⟩,
          ⟨(some 65), (.mov (.t 0)), (some (60, true))⟩,
          ⟨(some 66), (.nilck (.t 65)), (some (60, true))⟩,
          ⟨(some 67), (.fldA 1 (.t 66)), (some (60, true))⟩,
          ⟨(some 68), (.load1 (.t 67)), (some (60, true))⟩,
          ⟨(some 69), (.idx (.t 64) (.t 68)), (some (60, true))⟩,
          ⟨(some 70), (.bin .leq (.t 69) (.c (.int .u8 57))), (some (60, true))⟩,
          ⟨(some 71), (.pick (.t 60) (.t 70) (.c (.bool false))), (some (49, false))⟩,
          ⟨(some 72), (.pick (.t 49) (.c (.bool true)) (.t 71)), none⟩])
        (.cond (.t 72)
         (.seq
          (.ops [
            ⟨(some 73), (.mov (.t 0)), none⟩,
            ⟨(some 74), (.call (.f 75) [(.t 73)]), none⟩,
            ⟨(some 2), (.mov (.t 74)), none⟩])
          .ret)
         .skip))
       (.seq
        (.ops [
          ⟨(some 75), (.mov (.t 0)), none⟩,
          ⟨(some 76), (.mov (.t 0)), none⟩,
          ⟨(some 77), (.nilck (.t 76)), none⟩,
          ⟨(some 78), (.fldA 1 (.t 77)), none⟩,
          ⟨(some 79), (.load1 (.t 78)), none⟩,
          ⟨(some 80), (.call (.f 46) [(.t 75), (.t 79), (.c (.int .i64 2))]), none⟩])
        (.seq
         (.ops [
           ⟨(some 2), (.mov (.c (.str []))), none⟩])
         .ret))))))))

section
variable {E : Env} {L : List Blk} {K : IV → List Blk → Prop}
theorem rtext_call (hP : E.P = Tryz.prog) {s : List UInt8} {i : Nat} {q : Option (Nat × Int)} (hs : s.length ≤ 1000000) (hL : L[0]? = some (rrB s i q))
    (h1 : ∀ v j, txtT s i q = .ok (v, j) → v.length ≤ 4 * s.length → K (.str v) (L.set 0 (rrB s j none))) (h2 : ∀ p w a, txtT s i q = .error (p, w) → K (.str []) (L.set 0 (rrB s a (some (p, w))))) : xcall E 45 [.ptr 0 0 0] L K := by
  refine rr_call (xs := []) hL rfl (rtext_t hP s i q hs) fun r L1 hr => ?_
  unfold TxtR at hr
  cases hT : txtT s i q with
  | ok vj => obtain ⟨v, j⟩ := vj; rw [hT] at hr; obtain ⟨rfl, hv, rfl⟩ := hr; exact ⟨j, none, rfl, rfl, h1 v j hT hv⟩
  | error pw => obtain ⟨p, w⟩ := pw; rw [hT] at hr; obtain ⟨rfl, a, rfl⟩ := hr; exact ⟨a, _, rfl, rfl, h2 p w a hT⟩
theorem rnum_call (hP : E.P = Tryz.prog) {s : List UInt8} {i : Nat} (hs : s.length ≤ 1000000) (hi : i < s.length) (hL : L[0]? = some (rrB s i none))
    (h1 : ∀ v j, numR s i = .ok (v, j) → K (.str v) (L.set 0 (rrB s j none))) (h2 : ∀ p w v a, numR s i = .error (p, w) → K (.str v) (L.set 0 (rrB s a (some (p, w))))) : xcall E 75 [.ptr 0 0 0] L K := by
  refine rr_call (xs := []) hL rfl (rnum_t hP s i hs hi) fun r L1 hr => ?_
  unfold NumR at hr
  cases hT : numR s i with
  | ok vj => obtain ⟨v, j⟩ := vj; rw [hT] at hr; obtain ⟨rfl, rfl⟩ := hr; exact ⟨j, none, rfl, rfl, h1 v j hT⟩
  | error pw => obtain ⟨p, w⟩ := pw; rw [hT] at hr; obtain ⟨v, a, rfl, rfl⟩ := hr; exact ⟨a, _, rfl, rfl, h2 p w v a hT⟩
theorem blanks_end (s : List UInt8) : ∀ f i, (decide (Fr.blanksGo s f i < s.length) && Fr.blankB (s.getD (Fr.blanksGo s f i) 0)) = false ∨ Fr.blanksGo s f i = i + f
  | 0, i => .inr rfl
  | f + 1, i => by
    rw [Fr.blanksGo]
    cases h : decide (i < s.length) && Fr.blankB (s.getD i 0) with
    | false => rw [if_neg (by decide)]; exact .inl h
    | true =>
      rw [if_pos rfl]
      rcases blanks_end s f (i + 1) with h2 | h2
      · exact .inl h2
      · exact .inr (by omega)
theorem blanks_idem (s : List UInt8) (i : Nat) : Fr.blanks s (Fr.blanks s i) = Fr.blanks s i := by
  refine blanksGo_stop s _ ?_
  unfold Fr.blanks
  rcases blanks_end s (s.length - i) i with h | h
  · exact h
  · rw [h, decide_eq_false (by omega)]; rfl
def valT (s : List UInt8) (i : Nat) (q : Option (Nat × Int)) : Except Fr.Bad (List UInt8 × Nat) := match q with
  | some x => .error x
  | none =>
    if Fr.isAt s (Fr.blanks s i) 34 then (match Fr.text s (Fr.blanks s i) with | .error e => .error e | .ok (v, m) => .ok (34 :: v, m))
    else if Fr.blanks s i < s.length ∧ (s.getD (Fr.blanks s i) 0 = 45 ∨ Fr.digB (s.getD (Fr.blanks s i) 0) = true) then numR s (Fr.blanks s i)
    else .error (Fr.blanks s i, 2)
def ValR (s : List UInt8) (T : Except Fr.Bad (List UInt8 × Nat)) (r : IV) (L1 : List Blk) : Prop := match T with
  | .ok (v, j) => r = .str v ∧ L1 = [rrB s j none]
  | .error (p, w) => ∃ (v : List UInt8) (a : Nat), r = .str v ∧ L1 = [rrB s a (some (p, w))]
theorem rval_t (hP : E.P = Tryz.prog) (s : List UInt8) (i0 : Nat) (q : Option (Nat × Int)) (hs : s.length ≤ 1000000) : XT E 47 [.ptr 0 0 0] [rrB s i0 q] (ValR s (valT s i0 q)) := by
  refine xt_of_fun (F := ⟨Tryz.f47.ntmps, [.tmp 2], y47⟩) (by rw [hP]; rfl) (by rw [hP]; kernel_rfl) (by decide) (Nat.le_of_ble_eq_true rfl) (xfun1 ?_)
  generalize hρ : entry _ = ρ
  have h0 : ρ 0 = .ptr 0 0 0 := by rw [← hρ]; rfl
  clear hρ
  unfold y47
  simp only [h0, go_sem, Nat.reduceEqDiff, reduceIte, Int.reduceEq, Int.reduceLT, Int.reduceLE, Nat.reduceAdd, Nat.reduceLT, Nat.reduceLeDiff, Int.reduceToNat, Int.reduceSub, Int.reduceAdd, Int.reduceNeg]
  refine rskip_call (E := E.noPan) hP (s := s) (i := i0) (q := q) hs rfl ?_
  show xops _ _ _ [rrB s (Fr.blanks s i0) q] _
  have hidem : Fr.blanks s (Fr.blanks s i0) = Fr.blanks s i0 := blanks_idem s i0
  unfold valT
  generalize hj : Fr.blanks s i0 = j at *
  cases q with
  | some x =>
    have e1 := bdS' x
    simp only [h0, rrB, e1, go_sem, Nat.reduceEqDiff, reduceIte, Int.reduceEq, Int.reduceLT, Int.reduceLE, Nat.reduceAdd, Nat.reduceLT, Nat.reduceLeDiff, Int.reduceToNat, Int.reduceSub, Int.reduceAdd, Int.reduceNeg]
    exact leave_rr (s := s) (j := j) (q := some x) rfl rfl ⟨_, _, rfl, rfl⟩
  | none =>
  have e1 := bdN'
  dsimp only
  by_cases hlt : j < s.length
  case neg =>
    have e2 : ((s.length : Int) ≤ (j : Int)) = True := eq_true (by omega)
    have hat : Fr.isAt s j 34 = false := by unfold Fr.isAt; rw [decide_eq_false hlt]; rfl
    rw [hat, if_neg (by decide), if_neg (fun h => hlt h.1)]
    simp only [h0, rrB, e1, e2, go_sem, Nat.reduceEqDiff, reduceIte, Int.reduceEq, Int.reduceLT, Int.reduceLE, Nat.reduceAdd, Nat.reduceLT, Nat.reduceLeDiff, Int.reduceToNat, Int.reduceSub, Int.reduceAdd, Int.reduceNeg]
    refine ⟨by rfl, ?_⟩
    refine rno_call (E := E.noPan) hP (s := s) (i := j) (q := none) (p := j) (w := 2) rfl ?_
    show xops _ _ _ [rrB s j (some (j, 2))] _
    simp only [h0, go_sem, Nat.reduceEqDiff, reduceIte, Int.reduceEq, Int.reduceLT, Int.reduceLE, Nat.reduceAdd, Nat.reduceLT, Nat.reduceLeDiff, Int.reduceToNat, Int.reduceSub, Int.reduceAdd, Int.reduceNeg]
    exact leave_rr (s := s) (j := j) (q := some (j, 2)) rfl rfl ⟨_, _, rfl, rfl⟩
  have e2 : ((s.length : Int) ≤ (j : Int)) = False := eq_false (by omega)
  have e3 : ((j : Int) < (s.length : Int)) = True := eq_true (by omega)
  have e0 : ((0 : Int) ≤ (j : Int)) = True := eq_true (by omega)
  have u34 : (((s.getD j 0).toNat : Int) = 34) = (s.getD j 0 = 34) := propext ⟨fun h => UInt8.toNat_inj.1 (by show (s.getD j 0).toNat = 34; omega), fun h => by rw [h]; rfl⟩
  have u45 : (((s.getD j 0).toNat : Int) = 45) = (s.getD j 0 = 45) := propext ⟨fun h => UInt8.toNat_inj.1 (by show (s.getD j 0).toNat = 45; omega), fun h => by rw [h]; rfl⟩
  have at34 : Fr.isAt s j 34 = decide (s.getD j 0 = 34) := by unfold Fr.isAt; rw [decide_eq_true hlt, Bool.true_and]
  by_cases k34 : s.getD j 0 = 34
  · have f1 := u34.trans (eq_true k34)
    rw [at34, decide_eq_true k34, if_pos rfl]
    simp only [h0, rrB, e0, e1, e2, e3, f1, go_sem, Nat.reduceEqDiff, reduceIte, Int.reduceEq, Int.reduceLT, Int.reduceLE, Nat.reduceAdd, Nat.reduceLT, Nat.reduceLeDiff, Int.reduceToNat, Int.reduceSub, Int.reduceAdd, Int.reduceNeg]
    refine ⟨by rfl, by rfl, ?_⟩
    refine rtext_call (E := E.noPan) hP (s := s) (i := j) (q := none) hs rfl (fun v m hT hv => ?_) (fun p w a hT => ?_)
    · show xops _ _ _ [rrB s m none] _
      unfold txtT at hT
      have hT2 : Fr.text s j = .ok (v, m) := by rw [hidem] at hT; exact hT
      rw [hT2]
      simp only [h0, go_sem, Nat.reduceEqDiff, reduceIte, Int.reduceEq, Int.reduceLT, Int.reduceLE, Nat.reduceAdd, Nat.reduceLT, Nat.reduceLeDiff, Int.reduceToNat, Int.reduceSub, Int.reduceAdd, Int.reduceNeg]
      refine ⟨by omega, ?_⟩
      exact leave_rr (s := s) (j := m) (q := none) rfl rfl ⟨rfl, rfl⟩
    · show xops _ _ _ [rrB s a (some (p, w))] _
      unfold txtT at hT
      have hT2 : Fr.text s j = .error (p, w) := by rw [hidem] at hT; exact hT
      rw [hT2]
      simp only [h0, go_sem, Nat.reduceEqDiff, reduceIte, Int.reduceEq, Int.reduceLT, Int.reduceLE, Nat.reduceAdd, Nat.reduceLT, Nat.reduceLeDiff, Int.reduceToNat, Int.reduceSub, Int.reduceAdd, Int.reduceNeg]
      exact leave_rr (s := s) (j := a) (q := some (p, w)) rfl rfl ⟨_, _, rfl, rfl⟩
  have f1 := u34.trans (eq_false k34)
  rw [at34, decide_eq_false k34, if_neg (by decide)]
  have hnum : ∀ (K2 : IV → List Blk → Prop), (∀ v m, numR s j = .ok (v, m) → K2 (.str v) [rrB s m none]) → (∀ p w v a, numR s j = .error (p, w) → K2 (.str v) [rrB s a (some (p, w))]) → xcall E.noPan 75 [.ptr 0 0 0] [rrB s j none] K2 := fun K2 g1 g2 =>
    rnum_call (E := E.noPan) hP hs hlt rfl g1 g2
  have hfin : ∀ r L1, (∃ v m, numR s j = .ok (v, m) ∧ r = .str v ∧ L1 = [rrB s m none]) ∨ (∃ p w v a, numR s j = .error (p, w) ∧ r = .str v ∧ L1 = [rrB s a (some (p, w))]) → Leave 1 r L1 (ValR s (numR s j)) := fun r L1 h => by
    rcases h with ⟨v, m, g1, rfl, rfl⟩ | ⟨p, w, v, a, g1, rfl, rfl⟩
    · exact leave_rr (s := s) (j := m) (q := none) rfl rfl (by unfold ValR; rw [g1]; exact ⟨rfl, rfl⟩)
    · exact leave_rr (s := s) (j := a) (q := some (p, w)) rfl rfl (by unfold ValR; rw [g1]; exact ⟨_, _, rfl, rfl⟩)
  by_cases k45 : s.getD j 0 = 45
  · have f2 := u45.trans (eq_true k45)
    rw [if_pos ⟨hlt, .inl k45⟩]
    simp only [h0, rrB, e0, e1, e2, e3, f1, f2, go_sem, Nat.reduceEqDiff, reduceIte, Int.reduceEq, Int.reduceLT, Int.reduceLE, Nat.reduceAdd, Nat.reduceLT, Nat.reduceLeDiff, Int.reduceToNat, Int.reduceSub, Int.reduceAdd, Int.reduceNeg]
    refine ⟨by rfl, by rfl, by rfl, ?_⟩
    refine hnum _ (fun v m g1 => ?_) (fun p w v a g1 => ?_)
    · simp only [h0, go_sem, Nat.reduceEqDiff, reduceIte, Int.reduceEq, Int.reduceLT, Int.reduceLE, Nat.reduceAdd, Nat.reduceLT, Nat.reduceLeDiff, Int.reduceToNat, Int.reduceSub, Int.reduceAdd, Int.reduceNeg]
      exact hfin _ _ (.inl ⟨v, m, g1, rfl, rfl⟩)
    · simp only [h0, go_sem, Nat.reduceEqDiff, reduceIte, Int.reduceEq, Int.reduceLT, Int.reduceLE, Nat.reduceAdd, Nat.reduceLT, Nat.reduceLeDiff, Int.reduceToNat, Int.reduceSub, Int.reduceAdd, Int.reduceNeg]
      exact hfin _ _ (.inr ⟨p, w, v, a, g1, rfl, rfl⟩)
  have f2 := u45.trans (eq_false k45)
  by_cases hd : 48 ≤ (s.getD j 0).toNat ∧ (s.getD j 0).toNat ≤ 57
  · have g1 : ((48 : Int) ≤ ((s.getD j 0).toNat : Int)) = True := eq_true (by omega)
    have g2 : (((s.getD j 0).toNat : Int) ≤ 57) = True := eq_true (by omega)
    rw [if_pos ⟨hlt, .inr (by unfold Fr.digB; rw [decide_eq_true hd.1, decide_eq_true hd.2]; rfl)⟩]
    simp only [h0, rrB, e0, e1, e2, e3, f1, f2, g1, g2, go_sem, Nat.reduceEqDiff, reduceIte, Int.reduceEq, Int.reduceLT, Int.reduceLE, Nat.reduceAdd, Nat.reduceLT, Nat.reduceLeDiff, Int.reduceToNat, Int.reduceSub, Int.reduceAdd, Int.reduceNeg]
    refine ⟨by rfl, by rfl, by rfl, ?_⟩
    refine hnum _ (fun v m g1 => ?_) (fun p w v a g1 => ?_)
    · simp only [h0, go_sem, Nat.reduceEqDiff, reduceIte, Int.reduceEq, Int.reduceLT, Int.reduceLE, Nat.reduceAdd, Nat.reduceLT, Nat.reduceLeDiff, Int.reduceToNat, Int.reduceSub, Int.reduceAdd, Int.reduceNeg]
      exact hfin _ _ (.inl ⟨v, m, g1, rfl, rfl⟩)
    · simp only [h0, go_sem, Nat.reduceEqDiff, reduceIte, Int.reduceEq, Int.reduceLT, Int.reduceLE, Nat.reduceAdd, Nat.reduceLT, Nat.reduceLeDiff, Int.reduceToNat, Int.reduceSub, Int.reduceAdd, Int.reduceNeg]
      exact hfin _ _ (.inr ⟨p, w, v, a, g1, rfl, rfl⟩)
  rw [if_neg (fun h => h.2.elim k45 (fun h => hd (by unfold Fr.digB at h; rw [Bool.and_eq_true, decide_eq_true_eq, decide_eq_true_eq] at h; exact h)))]
  by_cases h48 : 48 ≤ (s.getD j 0).toNat
  · have g1 : ((48 : Int) ≤ ((s.getD j 0).toNat : Int)) = True := eq_true (by omega)
    have g2 : (((s.getD j 0).toNat : Int) ≤ 57) = False := eq_false (by omega)
    simp only [h0, rrB, e0, e1, e2, e3, f1, f2, g1, g2, go_sem, Nat.reduceEqDiff, reduceIte, Int.reduceEq, Int.reduceLT, Int.reduceLE, Nat.reduceAdd, Nat.reduceLT, Nat.reduceLeDiff, Int.reduceToNat, Int.reduceSub, Int.reduceAdd, Int.reduceNeg]
    refine ⟨by rfl, by rfl, by rfl, ?_⟩
    refine rno_call (E := E.noPan) hP (s := s) (i := j) (q := none) (p := j) (w := 2) rfl ?_
    show xops _ _ _ [rrB s j (some (j, 2))] _
    simp only [h0, go_sem, Nat.reduceEqDiff, reduceIte, Int.reduceEq, Int.reduceLT, Int.reduceLE, Nat.reduceAdd, Nat.reduceLT, Nat.reduceLeDiff, Int.reduceToNat, Int.reduceSub, Int.reduceAdd, Int.reduceNeg]
    exact leave_rr (s := s) (j := j) (q := some (j, 2)) rfl rfl ⟨_, _, rfl, rfl⟩
  · have g1 : ((48 : Int) ≤ ((s.getD j 0).toNat : Int)) = False := eq_false (by omega)
    simp only [h0, rrB, e0, e1, e2, e3, f1, f2, g1, go_sem, Nat.reduceEqDiff, reduceIte, Int.reduceEq, Int.reduceLT, Int.reduceLE, Nat.reduceAdd, Nat.reduceLT, Nat.reduceLeDiff, Int.reduceToNat, Int.reduceSub, Int.reduceAdd, Int.reduceNeg]
    refine ⟨by rfl, by rfl, by rfl, ?_⟩
    refine rno_call (E := E.noPan) hP (s := s) (i := j) (q := none) (p := j) (w := 2) rfl ?_
    show xops _ _ _ [rrB s j (some (j, 2))] _
    simp only [h0, go_sem, Nat.reduceEqDiff, reduceIte, Int.reduceEq, Int.reduceLT, Int.reduceLE, Nat.reduceAdd, Nat.reduceLT, Nat.reduceLeDiff, Int.reduceToNat, Int.reduceSub, Int.reduceAdd, Int.reduceNeg]
    exact leave_rr (s := s) (j := j) (q := some (j, 2)) rfl rfl ⟨_, _, rfl, rfl⟩
end
end Go.X.TryzW
end
section
open Go Go.X Go.Proofs
set_option maxRecDepth 100000
set_option maxHeartbeats 4000000
set_option linter.unusedSimpArgs false
set_option linter.unusedVariables false
namespace Go.X.TryzW
def z21d : XC :=
 (.seq (.ops [ ⟨(some 9), (.mov (.c (.int .i64 0))), none⟩]) (.block 2 (.loop (.seq (.seq (.ops [ ⟨(some 39), (.mov (.t 9)), none⟩, ⟨(some 40), (.mov (.t 6)), none⟩, ⟨(some 41), (.len (.t 40)), none⟩, ⟨(some 42), (.bin .lss (.t 39) (.t 41)), none⟩, ⟨(some 43), (.mov (.t 42)), none⟩, ⟨(some 44), (.mov (.t 5)), (some (43, true))⟩, ⟨(some 45), (.nilck (.t 44)), (some (43, true))⟩, ⟨(some 46), (.fldA 2 (.t 45)), (some (43, true))⟩, ⟨(some 47), (.load1 (.t 46)), (some (43, true))⟩, ⟨(some 48), (.bin .lss (.t 47) (.c (.int .i64 0))), (some (43, true))⟩, ⟨(some 49), (.pick (.t 43) (.t 48) (.c (.bool false))), none⟩]) (.cond (.t 49) .skip (.exit 2))) (.seq (.block 3 (.seq (.ops [ ⟨(some 52), (.mov (.t 6)), none⟩, ⟨(some 53), (.mov (.t 9)), none⟩, ⟨(some 54), (.idxS 2 (.t 52) (.t 53)), none⟩, ⟨(some 55), (.fldA 0 (.t 54)), none⟩, ⟨(some 56), (.load1 (.t 55)), none⟩, ⟨(some 57), (.mov (.t 8)), none⟩, ⟨(some 58), (.bin .eql (.t 56) (.t 57)), none⟩]) (.cond (.t 58) (.ops [ ⟨(some 59), (.mov (.t 5)), none⟩, ⟨(some 60), (.mov (.t 7)), none⟩, ⟨(some 61), (.call (.f 46) [(.t 59), (.t 60), (.c (.int .i64 16))]), none⟩]) .skip))) (.ops [ ⟨(some 50), (.mov (.t 9)), none⟩, ⟨(some 51), (.bin .add (.t 50) (.c (.int .i64 1))), none⟩, ⟨(some 9), (.mov (.t 51)), none⟩]))))))
def z21m : XC :=
 (.seq (.ops [ ⟨(some 62), (.mov (.t 5)), none⟩, ⟨(some 63), (.nilck (.t 62)), none⟩, ⟨(some 64), (.fldA 2 (.t 63)), none⟩, ⟨(some 65), (.load1 (.t 64)), none⟩, ⟨(some 66), (.bin .lss (.t 65) (.c (.int .i64 0))), none⟩, ⟨(some 67), (.mov (.t 66)), none⟩, ⟨(some 68), (.mov (.t 6)), (some (67, true))⟩, ⟨(some 69), (.len (.t 68)), (some (67, true))⟩, ⟨(some 70), (.bin .eql (.t 69) (.c (.int .i64 16))), (some (67, true))⟩, ⟨(some 71), (.pick (.t 67) (.t 70) (.c (.bool false))), none⟩]) (.cond (.t 71) (.ops [ ⟨(some 72), (.mov (.t 5)), none⟩, ⟨(some 73), (.mov (.t 7)), none⟩, ⟨(some 74), (.call (.f 46) [(.t 72), (.t 73), (.c (.int .i64 10))]), none⟩]) .skip))
def z21t : XC :=
 (.seq (.ops [ ⟨(some 75), (.mov (.t 5)), none⟩, ⟨(some 76), (.call (.f 42) [(.t 75), (.c (.int .u8 58))]), none⟩]) (.seq (.ops [ ⟨(some 77), (.mov (.t 5)), none⟩, ⟨(some 78), (.call (.f 47) [(.t 77)]), none⟩, ⟨(some 10), (.mov (.t 78)), none⟩]) (.seq (.ops [ ⟨(some 79), (.mov (.t 6)), none⟩, ⟨(some 80), (.mov (.t 8)), none⟩, ⟨(some 81), (.mov (.t 10)), none⟩, ⟨(some 82), (.build [(.str []), (.str [])] [(0, (1, (.t 80))), (1, (1, (.t 81)))]), none⟩, ⟨(some 83), (.bslice 2 [(.str []), (.str [])] 1 [(0, (.t 82))]), none⟩, ⟨(some 84), (.append 2 32 (.t 79) (.t 83)), none⟩, ⟨(some 6), (.mov (.t 84)), none⟩]) (.seq (.seq (.ops [ ⟨(some 85), (.mov (.t 5)), none⟩, ⟨(some 86), (.call (.f 43) [(.t 85), (.c (.int .u8 44))]), none⟩, ⟨(some 87), (.un .not (.t 86)), none⟩]) (.cond (.t 87) (.exit 0) .skip)) (.ops [ ⟨(some 88), (.mov (.t 5)), none⟩, ⟨(some 89), (.nilck (.t 88)), none⟩, ⟨(some 90), (.fldA 1 (.t 89)), none⟩, ⟨(some 91), (.load1 (.t 90)), none⟩, ⟨(some 92), (.bin .add (.t 91) (.c (.int .i64 1))), none⟩, ⟨(some 93), (.nilck (.t 88)), none⟩, ⟨(some 94), (.fldA 1 (.t 93)), none⟩, ⟨none, (.store 1 (.t 94) (.t 92)), none⟩])))))
def z21b : XC :=
 (.seq (.ops [ ⟨(some 31), (.mov (.t 5)), none⟩, ⟨(some 32), (.call (.f 44) [(.t 31)]), none⟩]) (.seq (.ops [ ⟨(some 33), (.mov (.t 5)), none⟩, ⟨(some 34), (.nilck (.t 33)), none⟩, ⟨(some 35), (.fldA 1 (.t 34)), none⟩, ⟨(some 36), (.load1 (.t 35)), none⟩, ⟨(some 7), (.mov (.t 36)), none⟩]) (.seq (.ops [ ⟨(some 37), (.mov (.t 5)), none⟩, ⟨(some 38), (.call (.f 45) [(.t 37)]), none⟩, ⟨(some 8), (.mov (.t 38)), none⟩]) (.seq z21d (.seq z21m z21t)))))
/- "tiller/tillerref13.Object" params { toList := [9] } results { toList := [Go.ResultVar.tmp 2, Go.ResultVar.tmp 3, Go.ResultVar.tmp 4] } -/
def y21 : XC :=
 (.seq (.ops [ ⟨(some 2), (.mov (.c .nsl)), none⟩, ⟨(some 3), (.mov (.c (.int .i64 0))), none⟩, ⟨(some 4), (.mov (.c (.int .i64 0))), none⟩]) (.seq (.ops [ ⟨(some 11), (.mov (.t 0)), none⟩, ⟨(some 12), (.build [(.str []), (.int .i64 0), (.int .i64 0), (.int .i64 0)] [(0, (1, (.t 11))), (2, (1, (.c (.int .i64 (-1)))))]), none⟩, ⟨(some 13), (.box (.t 12)), none⟩, ⟨(some 5), (.mov (.t 13)), none⟩]) (.seq (.ops [ ⟨(some 6), (.mov (.c .nsl)), none⟩]) (.seq (.ops [ ⟨(some 14), (.mov (.t 5)), none⟩, ⟨(some 15), (.call (.f 42) [(.t 14), (.c (.int .u8 123))]), none⟩]) (.seq (.block 0 (.loop (.seq (.seq (.ops [ ⟨(some 16), (.mov (.t 5)), none⟩, ⟨(some 17), (.nilck (.t 16)), none⟩, ⟨(some 18), (.fldA 2 (.t 17)), none⟩, ⟨(some 19), (.load1 (.t 18)), none⟩, ⟨(some 20), (.bin .lss (.t 19) (.c (.int .i64 0))), none⟩, ⟨(some 21), (.mov (.t 20)), none⟩, ⟨(some 22), (.mov (.t 6)), (some (21, true))⟩, ⟨(some 23), (.len (.t 22)), (some (21, true))⟩, ⟨(some 24), (.bin .gtr (.t 23) (.c (.int .i64 0))), (some (21, true))⟩, ⟨(some 25), (.mov (.t 24)), (some (21, true))⟩, ⟨(some 26), (.mov (.t 5)), (some (25, false))⟩, ⟨(some 27), (.call (.f 43) [(.t 26), (.c (.int .u8 125))]), (some (25, false))⟩, ⟨(some 28), (.un .not (.t 27)), (some (25, false))⟩, ⟨(some 29), (.pick (.t 25) (.c (.bool true)) (.t 28)), (some (21, true))⟩, ⟨(some 30), (.pick (.t 21) (.t 29) (.c (.bool false))), none⟩]) (.cond (.t 30) .skip (.exit 0))) (.block 1 z21b)))) (.seq (.ops [ ⟨(some 95), (.mov (.t 5)), none⟩, ⟨(some 96), (.call (.f 42) [(.t 95), (.c (.int .u8 125))]), none⟩]) (.seq (.ops [ ⟨(some 97), (.mov (.t 5)), none⟩, ⟨(some 98), (.call (.f 44) [(.t 97)]), none⟩]) (.seq (.seq (.ops [ ⟨(some 99), (.mov (.t 5)), none⟩, ⟨(some 100), (.nilck (.t 99)), none⟩, ⟨(some 101), (.fldA 2 (.t 100)), none⟩, ⟨(some 102), (.load1 (.t 101)), none⟩, ⟨(some 103), (.bin .lss (.t 102) (.c (.int .i64 0))), none⟩, ⟨(some 104), (.mov (.t 103)), none⟩, ⟨(some 105), (.mov (.t 5)), (some (104, true))⟩, ⟨(some 106), (.nilck (.t 105)), (some (104, true))⟩, ⟨(some 107), (.fldA 1 (.t 106)), (some (104, true))⟩, ⟨(some 108), (.load1 (.t 107)), (some (104, true))⟩, ⟨(some 109), (.mov (.t 0)), (some (104, true))⟩, ⟨(some 110), (.lenS (.t 109)), (some (104, true))⟩, ⟨(some 111), (.bin .lss (.t 108) (.t 110)), (some (104, true))⟩, ⟨(some 112), (.pick (.t 104) (.t 111) (.c (.bool false))), none⟩]) (.cond (.t 112) (.ops [ ⟨(some 113), (.mov (.t 5)), none⟩, ⟨(some 114), (.mov (.t 5)), none⟩, ⟨(some 115), (.nilck (.t 114)), none⟩, ⟨(some 116), (.fldA 1 (.t 115)), none⟩, ⟨(some 117), (.load1 (.t 116)), none⟩, ⟨(some 118), (.call (.f 46) [(.t 113), (.t 117), (.c (.int .i64 2))]), none⟩]) .skip)) (.seq (.seq (.ops [ ⟨(some 119), (.mov (.t 5)), none⟩, ⟨(some 120), (.nilck (.t 119)), none⟩, ⟨(some 121), (.fldA 2 (.t 120)), none⟩, ⟨(some 122), (.load1 (.t 121)), none⟩, ⟨(some 123), (.bin .geq (.t 122) (.c (.int .i64 0))), none⟩]) (.cond (.t 123) (.seq (.draw [ ⟨(some 124), (.mov (.t 5)), none⟩, ⟨(some 125), (.nilck (.t 124)), none⟩, ⟨(some 126), (.fldA 2 (.t 125)), none⟩, ⟨(some 127), (.load1 (.t 126)), none⟩, ⟨(some 128), (.mov (.t 5)), none⟩, ⟨(some 129), (.nilck (.t 128)), none⟩, ⟨(some 130), (.fldA 3 (.t 129)), none⟩, ⟨(some 131), (.load1 (.t 130)), none⟩, ⟨(some 2), (.mov (.c .nsl)), none⟩, ⟨(some 3), (.mov (.t 127)), none⟩, ⟨(some 4), (.mov (.t 131)), none⟩]) .ret) .skip)) (.seq (.ops [ ⟨(some 132), (.mov (.t 6)), none⟩, ⟨(some 2), (.mov (.t 132)), none⟩, ⟨(some 3), (.mov (.c (.int .i64 0))), none⟩, ⟨(some 4), (.mov (.c (.int .i64 0))), none⟩]) .ret))))))))))
section
variable {E : Env} {L : List Blk} {K : IV → List Blk → Prop}
theorem rval_call (hP : E.P = Tryz.prog) {s : List UInt8} {i : Nat} {q : Option (Nat × Int)} (hs : s.length ≤ 1000000) (hL : L[0]? = some (rrB s i q))
    (h1 : ∀ v j, valT s i q = .ok (v, j) → K (.str v) (L.set 0 (rrB s j none))) (h2 : ∀ p w v a, valT s i q = .error (p, w) → K (.str v) (L.set 0 (rrB s a (some (p, w))))) : xcall E 47 [.ptr 0 0 0] L K := by
  refine rr_call (xs := []) hL rfl (rval_t hP s i q hs) fun r L1 hr => ?_
  unfold ValR at hr
  cases hT : valT s i q with
  | ok vj => obtain ⟨v, j⟩ := vj; rw [hT] at hr; obtain ⟨rfl, rfl⟩ := hr; exact ⟨j, none, rfl, rfl, h1 v j hT⟩
  | error pw => obtain ⟨p, w⟩ := pw; rw [hT] at hr; obtain ⟨v, a, rfl, rfl⟩ := hr; exact ⟨a, _, rfl, rfl, h2 p w v a hT⟩
def dupQ (l : List Fr.Pair) (k : List UInt8) (j0 : Nat) (q : Option (Nat × Int)) : Option (Nat × Int) := match q with
  | some x => some x
  | none => if hasP l k then some (j0, 16) else none
def manyQ (l : List Fr.Pair) (j0 : Nat) (q : Option (Nat × Int)) : Option (Nat × Int) := match q with
  | some x => some x
  | none => if l.length = 16 then some (j0, 10) else none
theorem LstOk.row {sv : IV} {l : List Fr.Pair} (h : LstOk L sv l) (hne : l ≠ []) : ∃ k, 0 < k ∧ sv = .sl k 0 l.length l.length ∧ L[k]? = some (.cells 2 (pRows l)) := by
  rcases h with ⟨h1, _⟩ | h
  · exact absurd h1 hne
  · exact h
theorem dup_run (hP : E.P = Tryz.prog) {ρ : Rho} {s : List UInt8} {a j0 : Nat} {q : Option (Nat × Int)} {l : List Fr.Pair} {sv : IV} {k : List UInt8} (hl17 : l.length ≤ 16) (h0 : ρ 0 = .str s) (h5 : ρ 5 = .ptr 0 0 0) (h6 : ρ 6 = sv) (h7 : ρ 7 = .int .i64 j0) (h8 : ρ 8 = .str k) (hL : L[0]? = some (rrB s a q)) (hl : LstOk L sv l) :
    xrun E z21d ρ L (Norm fun ρ' L' => ρ' 0 = .str s ∧ ρ' 5 = .ptr 0 0 0 ∧ ρ' 6 = sv ∧ ρ' 7 = .int .i64 j0 ∧ ρ' 8 = .str k ∧ L'[0]? = some (rrB s a (dupQ l k j0 q)) ∧ LstOk L' sv l) := by
  unfold z21d
  simp only [h0, h5, h6, h7, h8, go_sem, Nat.reduceEqDiff, reduceIte, Int.reduceEq, Int.reduceLT, Int.reduceLE, Nat.reduceAdd, Nat.reduceLT, Nat.reduceLeDiff, Int.reduceToNat, Int.reduceSub, Int.reduceAdd, Int.reduceNeg]
  refine s_loop (fun n ρ L => ∃ (i : Nat) (q' : Option (Nat × Int)), i ≤ l.length ∧ n = l.length - i ∧ ρ 0 = .str s ∧ ρ 5 = .ptr 0 0 0 ∧ ρ 6 = sv ∧ ρ 7 = .int .i64 j0 ∧ ρ 8 = .str k ∧ ρ 9 = .int .i64 i ∧ L[0]? = some (rrB s a q') ∧ LstOk L sv l ∧
      ((q' = none ∧ q = none ∧ (l.take i).any (fun p => decide (p.key = k)) = false) ∨ (∃ x, q' = some x) ∧ dupQ l k j0 q = q')) (n := l.length)
    ⟨0, q, Nat.zero_le _, rfl, by simp only [h0, go_sem, Nat.reduceEqDiff, reduceIte, Int.reduceEq, Int.reduceLT, Int.reduceLE, Nat.reduceAdd, Nat.reduceLT, Nat.reduceLeDiff, Int.reduceToNat, Int.reduceSub, Int.reduceAdd, Int.reduceNeg], by simp only [h5, go_sem, Nat.reduceEqDiff, reduceIte, Int.reduceEq, Int.reduceLT, Int.reduceLE, Nat.reduceAdd, Nat.reduceLT, Nat.reduceLeDiff, Int.reduceToNat, Int.reduceSub, Int.reduceAdd, Int.reduceNeg], by simp only [h6, go_sem, Nat.reduceEqDiff, reduceIte, Int.reduceEq, Int.reduceLT, Int.reduceLE, Nat.reduceAdd, Nat.reduceLT, Nat.reduceLeDiff, Int.reduceToNat, Int.reduceSub, Int.reduceAdd, Int.reduceNeg], by simp only [h7, go_sem, Nat.reduceEqDiff, reduceIte, Int.reduceEq, Int.reduceLT, Int.reduceLE, Nat.reduceAdd, Nat.reduceLT, Nat.reduceLeDiff, Int.reduceToNat, Int.reduceSub, Int.reduceAdd, Int.reduceNeg], by simp only [h8, go_sem, Nat.reduceEqDiff, reduceIte, Int.reduceEq, Int.reduceLT, Int.reduceLE, Nat.reduceAdd, Nat.reduceLT, Nat.reduceLeDiff, Int.reduceToNat, Int.reduceSub, Int.reduceAdd, Int.reduceNeg], by simp only [go_sem, Nat.reduceEqDiff, reduceIte, Int.reduceEq, Int.reduceLT, Int.reduceLE, Nat.reduceAdd, Nat.reduceLT, Nat.reduceLeDiff, Int.reduceToNat, Int.reduceSub, Int.reduceAdd, Int.reduceNeg]; try rfl, hL, hl, by cases q with | none => exact .inl ⟨rfl, rfl, rfl⟩ | some x => exact .inr ⟨⟨x, rfl⟩, rfl⟩⟩ ?_
  clear h0 h5 h6 h7 h8 hL hl ρ
  rintro n ρ L ⟨i, q', hil, rfl, h0, h5, h6, h7, h8, h9, hL, hl, hq⟩
  have hlen := hl.len
  have hLu := hL
  unfold rrB at hLu
  have hlen0 := lt_of_get hL
  by_cases hi : i < l.length
  case neg =>
    have e1 : ((i : Int) < (l.length : Int)) = False := eq_false (by omega)
    simp only [h0, h5, h6, h7, h8, h9, e1, o_lenG hlen, go_sem, Nat.reduceEqDiff, reduceIte, Int.reduceEq, Int.reduceLT, Int.reduceLE, Nat.reduceAdd, Nat.reduceLT, Nat.reduceLeDiff, Int.reduceToNat, Int.reduceSub, Int.reduceAdd, Int.reduceNeg]
    have hd : dupQ l k j0 q = q' := by
      rcases hq with ⟨rfl, rfl, h⟩ | ⟨_, h⟩
      · rw [List.take_of_length_le (by omega)] at h
        unfold dupQ hasP
        rw [h]; rfl
      · exact h
    rw [hd]
    exact ⟨hL, hl⟩
  have e1 : ((i : Int) < (l.length : Int)) = True := eq_true (by omega)
  rcases hq with ⟨rfl, rfl, hno⟩ | ⟨⟨x, rfl⟩, hd⟩
  case inr =>
    have b1 := bdS x
    simp only [h0, h5, h6, h7, h8, h9, e1, o_lenG hlen, hLu, b1, go_sem, Nat.reduceEqDiff, reduceIte, Int.reduceEq, Int.reduceLT, Int.reduceLE, Nat.reduceAdd, Nat.reduceLT, Nat.reduceLeDiff, Int.reduceToNat, Int.reduceSub, Int.reduceAdd, Int.reduceNeg]
    rw [hd]
    exact ⟨rfl, hl⟩
  have b1 := bdN
  obtain ⟨kk, hk0, rfl, hrow⟩ := hl.row (fun h => by subst h; simp at hi)
  have e0 : ((0 : Int) ≤ (i : Int)) = True := eq_true (by omega)
  have hga := pRows_get hi
  have hw : IntKind.i64.wrap ((i : Int) + 1) = ((i + 1 : Nat) : Int) := by rw [wrap64 (by omega) (by omega)]; rfl
  have hsz : szOf L kk = some 2 := by unfold szOf; rw [hrow]
  by_cases hk : (l.getD i default).key = k
  · have k1 : ((l.getD i default).key = k) = True := eq_true hk
    have hd : dupQ l k j0 none = some (j0, 16) := by
      have : hasP l k = true := List.any_eq_true.2 ⟨l.getD i default, by rw [List.getD_eq_getElem?_getD, List.getElem?_eq_getElem hi]; exact List.getElem_mem _, decide_eq_true hk⟩
      unfold dupQ
      rw [this]; rfl
    simp only [h0, h5, h6, h7, h8, h9, e0, e1, o_lenG hlen, hLu, b1, hrow, hsz, hga, pRow, pRows_len, k1, go_sem, Nat.reduceEqDiff, reduceIte, Int.reduceEq, Int.reduceLT, Int.reduceLE, Nat.reduceAdd, Nat.reduceLT, Nat.reduceLeDiff, Int.reduceToNat, Int.reduceSub, Int.reduceAdd, Int.reduceNeg]
    refine ⟨hi, ?_⟩
    refine rno_call (E := E) hP (s := s) (i := a) (q := none) (p := j0) (w := 16) hL ?_
    simp only [h0, h5, h6, h7, h8, h9, hw, go_sem, Nat.reduceEqDiff, reduceIte, Int.reduceEq, Int.reduceLT, Int.reduceLE, Nat.reduceAdd, Nat.reduceLT, Nat.reduceLeDiff, Int.reduceToNat, Int.reduceSub, Int.reduceAdd, Int.reduceNeg]
    exact ⟨l.length - (i + 1), by omega, i + 1, some (j0, 16), by omega, rfl, rfl, rr_set0 hL, hl.set0, .inr ⟨⟨_, rfl⟩, hd⟩⟩
  · have k1 : ((l.getD i default).key = k) = False := eq_false hk
    simp only [h0, h5, h6, h7, h8, h9, e0, e1, o_lenG hlen, hLu, b1, hrow, hsz, hga, pRow, pRows_len, k1, hw, go_sem, Nat.reduceEqDiff, reduceIte, Int.reduceEq, Int.reduceLT, Int.reduceLE, Nat.reduceAdd, Nat.reduceLT, Nat.reduceLeDiff, Int.reduceToNat, Int.reduceSub, Int.reduceAdd, Int.reduceNeg]
    refine ⟨hi, ?_⟩
    exact ⟨l.length - (i + 1), by omega, i + 1, none, by omega, rfl, rfl, rfl, hl, .inl ⟨rfl, any_take_succ hi hno (decide_eq_false hk)⟩⟩
theorem many_run (hP : E.P = Tryz.prog) {ρ : Rho} {s : List UInt8} {a j0 : Nat} {q : Option (Nat × Int)} {l : List Fr.Pair} {sv : IV} {k : List UInt8} (h0 : ρ 0 = .str s) (h5 : ρ 5 = .ptr 0 0 0) (h6 : ρ 6 = sv) (h7 : ρ 7 = .int .i64 j0) (h8 : ρ 8 = .str k) (hL : L[0]? = some (rrB s a q)) (hl : LstOk L sv l) :
    xrun E z21m ρ L (Norm fun ρ' L' => ρ' 0 = .str s ∧ ρ' 5 = .ptr 0 0 0 ∧ ρ' 6 = sv ∧ ρ' 7 = .int .i64 j0 ∧ ρ' 8 = .str k ∧ L'[0]? = some (rrB s a (manyQ l j0 q)) ∧ LstOk L' sv l) := by
  unfold z21m
  have hlen := hl.len
  have hLu := hL
  unfold rrB at hLu
  cases q with
  | some x =>
    have b1 := bdS x
    simp only [h0, h5, h6, h7, h8, hLu, b1, go_sem, Nat.reduceEqDiff, reduceIte, Int.reduceEq, Int.reduceLT, Int.reduceLE, Nat.reduceAdd, Nat.reduceLT, Nat.reduceLeDiff, Int.reduceToNat, Int.reduceSub, Int.reduceAdd, Int.reduceNeg]
    exact ⟨rfl, hl⟩
  | none =>
    have b1 := bdN
    by_cases h16 : l.length = 16
    · have e1 : ((l.length : Int) = 16) = True := eq_true (by omega)
      have hm : manyQ l j0 none = some (j0, 10) := by unfold manyQ; exact if_pos h16
      rw [hm]
      simp only [h0, h5, h6, h7, h8, hLu, b1, o_lenG hlen, e1, go_sem, Nat.reduceEqDiff, reduceIte, Int.reduceEq, Int.reduceLT, Int.reduceLE, Nat.reduceAdd, Nat.reduceLT, Nat.reduceLeDiff, Int.reduceToNat, Int.reduceSub, Int.reduceAdd, Int.reduceNeg]
      refine rno_call (E := E) hP (s := s) (i := a) (q := none) (p := j0) (w := 10) hL ?_
      simp only [h0, h5, h6, h7, h8, go_sem, Nat.reduceEqDiff, reduceIte, Int.reduceEq, Int.reduceLT, Int.reduceLE, Nat.reduceAdd, Nat.reduceLT, Nat.reduceLeDiff, Int.reduceToNat, Int.reduceSub, Int.reduceAdd, Int.reduceNeg]
      exact ⟨rr_set0 hL, hl.set0⟩
    · have e1 : ((l.length : Int) = 16) = False := eq_false (by omega)
      have hm : manyQ l j0 none = none := by unfold manyQ; exact if_neg h16
      rw [hm]
      simp only [h0, h5, h6, h7, h8, hLu, b1, o_lenG hlen, e1, go_sem, Nat.reduceEqDiff, reduceIte, Int.reduceEq, Int.reduceLT, Int.reduceLE, Nat.reduceAdd, Nat.reduceLT, Nat.reduceLeDiff, Int.reduceToNat, Int.reduceSub, Int.reduceAdd, Int.reduceNeg]
      exact ⟨rfl, hl⟩
end
end Go.X.TryzW
end
section
open Go Go.X Go.Proofs
set_option maxRecDepth 100000
set_option maxHeartbeats 4000000
set_option linter.unusedSimpArgs false
set_option linter.unusedVariables false
namespace Go.X.TryzW
section
variable {E : Env} {L : List Blk} {K : IV → List Blk → Prop}
/-- How a number goes on as package front reads it. -/
theorem num_same {s : List UInt8} {o : Nat} {l : List Fr.Pair} {k : List UInt8} : (∀ v j, numR s o = .ok (v, j) → Fr.number s o = .ok (v, j)) ∧ (∀ p w, numR s o = .error (p, w) → Fr.number s o = .error (p, w) ∨ (w = 2 ∧ ∃ v, Fr.number s o = .ok (v, p) ∧ p < s.length ∧ Fr.digB (s.getD p 0) = true)) := by
  unfold numR Fr.number
  generalize (if Fr.isAt s o 45 then o + 1 else o) = fst
  dsimp only
  generalize Fr.numGo s o fst (s.length - fst) fst = i
  constructor
  · intro v j h
    by_cases h1 : i < s.length ∧ Fr.digB (s.getD i 0) = true
    · rw [if_pos h1] at h; cases h
    · rw [if_neg h1] at h
      by_cases h2 : i = fst
      · rw [if_pos h2] at h; cases h
      · rw [if_neg h2] at h ⊢; exact h
  · intro p w h
    by_cases h1 : i < s.length ∧ Fr.digB (s.getD i 0) = true
    · rw [if_pos h1] at h
      cases h
      by_cases h2 : i = fst
      · left; rw [if_pos h2]; rfl
      · right; refine ⟨rfl, _, by rw [if_neg h2], h1.1, h1.2⟩
    · rw [if_neg h1] at h
      by_cases h2 : i = fst
      · rw [if_pos h2] at h; cases h
        left; rw [if_pos h2]; rfl
      · rw [if_neg h2] at h; cases h
theorem blanks_dig {s : List UInt8} {i : Nat} (h : Fr.digB (s.getD i 0) = true) : Fr.blanks s i = i := by
  refine blanksGo_stop s i ?_
  rw [(dig_facts h).1, Bool.and_false]
/-- A field as the reference reads it: a field of package front's, or the same refusal. -/
def fldT (s : List UInt8) (l : List Fr.Pair) (i : Nat) : Except Fr.Bad (Fr.Pair × Nat) :=
  match Fr.text s i with
  | .error e => .error e
  | .ok (k, j) =>
    if hasP l k then .error (i, 16)
    else if l.length = 16 then .error (i, 10)
    else match Fr.must s (Fr.blanks s j) 58 with
      | .error e => .error e
      | .ok j => (match valT s j none with
        | .error e => .error e
        | .ok (v, m) => .ok (⟨k, v⟩, m))
theorem fld_ok {s : List UInt8} {l : List Fr.Pair} {i m : Nat} {p : Fr.Pair} (h : fldT s l i = .ok (p, m)) : Fr.field s l i = .ok (p, m) := by
  unfold fldT at h
  unfold Fr.field
  cases ht : Fr.text s i with
  | error e => rw [ht] at h; cases h
  | ok kj =>
    obtain ⟨k, j⟩ := kj
    rw [ht] at h
    dsimp only at h ⊢
    unfold hasP at h
    split at h
    · cases h
    · rename_i hh
      rw [if_neg hh]
      split at h
      · cases h
      · rename_i h16
        rw [if_neg h16]
        cases hm : Fr.must s (Fr.blanks s j) 58 with
        | error e => rw [hm] at h; cases h
        | ok j2 =>
          rw [hm] at h
          dsimp only at h ⊢
          unfold valT at h
          dsimp only at h
          cases hat : Fr.isAt s (Fr.blanks s j2) 34 with
          | true =>
            rw [hat, if_pos rfl] at h
            rw [if_pos rfl]
            cases ht2 : Fr.text s (Fr.blanks s j2) with
            | error e => rw [ht2] at h; cases h
            | ok vm => rw [ht2] at h; exact h
          | false =>
            rw [hat, if_neg (by decide)] at h
            rw [if_neg (by decide)]
            by_cases hcond : Fr.blanks s j2 < s.length ∧ (s.getD (Fr.blanks s j2) 0 = 45 ∨ Fr.digB (s.getD (Fr.blanks s j2) 0) = true)
            · rw [if_pos hcond] at h
              cases hn : numR s (Fr.blanks s j2) with
              | error e => rw [hn] at h; cases h
              | ok vm => rw [hn] at h; rw [num_same (l := l) (k := k) |>.1 vm.1 vm.2 hn]; exact h
            · rw [if_neg hcond] at h; cases h
theorem fld_err {s : List UInt8} {l : List Fr.Pair} {i p : Nat} {w : Int} (h : fldT s l i = .error (p, w)) : Fr.field s l i = .error (p, w) ∨ (w = 2 ∧ ∃ x, Fr.field s l i = .ok (x, p) ∧ p < s.length ∧ Fr.digB (s.getD p 0) = true) := by
  unfold fldT at h
  unfold Fr.field
  cases ht : Fr.text s i with
  | error e => rw [ht] at h; exact .inl h
  | ok kj =>
    obtain ⟨k, j⟩ := kj
    rw [ht] at h
    dsimp only at h ⊢
    unfold hasP at h
    split at h
    · rename_i hh; rw [if_pos hh]; exact .inl h
    · rename_i hh
      rw [if_neg hh]
      split at h
      · rename_i h16; rw [if_pos h16]; exact .inl h
      · rename_i h16
        rw [if_neg h16]
        cases hm : Fr.must s (Fr.blanks s j) 58 with
        | error e => rw [hm] at h; exact .inl h
        | ok j2 =>
          rw [hm] at h
          dsimp only at h ⊢
          unfold valT at h
          dsimp only at h
          cases hat : Fr.isAt s (Fr.blanks s j2) 34 with
          | true =>
            rw [hat, if_pos rfl] at h
            rw [if_pos rfl]
            cases ht2 : Fr.text s (Fr.blanks s j2) with
            | error e => rw [ht2] at h; exact .inl h
            | ok vm => rw [ht2] at h; cases h
          | false =>
            rw [hat, if_neg (by decide)] at h
            rw [if_neg (by decide)]
            by_cases hcond : Fr.blanks s j2 < s.length ∧ (s.getD (Fr.blanks s j2) 0 = 45 ∨ Fr.digB (s.getD (Fr.blanks s j2) 0) = true)
            · rw [if_pos hcond] at h
              cases hn : numR s (Fr.blanks s j2) with
              | error e =>
                rw [hn] at h
                cases h
                rcases (num_same (l := l) (k := k)).2 p w hn with h2 | ⟨rfl, v, h2, h3, h4⟩
                · rw [h2]; exact .inl rfl
                · rw [h2]; exact .inr ⟨rfl, _, rfl, h3, h4⟩
              | ok vm => rw [hn] at h; cases h
            · have hnn := hcond
              rw [if_neg hcond] at h
              cases h
              left
              have hnd : ¬ (Fr.blanks s j2 < s.length ∧ Fr.digB (s.getD (Fr.blanks s j2) 0) = true) := fun h => hnn ⟨h.1, .inr h.2⟩
              have hnm : Fr.isAt s (Fr.blanks s j2) 45 = false := by
                unfold Fr.isAt
                by_cases h1 : Fr.blanks s j2 < s.length
                · rw [decide_eq_false (fun h => hnn ⟨h1, .inl h⟩), Bool.and_false]
                · rw [decide_eq_false h1]; rfl
              have : Fr.number s (Fr.blanks s j2) = .error (Fr.blanks s j2, 2) := by
                unfold Fr.number
                rw [hnm]
                dsimp only
                have hst : Fr.numGo s (Fr.blanks s j2) (Fr.blanks s j2) (s.length - Fr.blanks s j2) (Fr.blanks s j2) = Fr.blanks s j2 := numGo_halt s _ _ _ _ (.inl (by
                  by_cases h1 : Fr.blanks s j2 < s.length
                  · rw [decide_eq_true h1, Bool.eq_false_iff.2 (fun h => hnd ⟨h1, h⟩)]; rfl
                  · rw [decide_eq_false h1]; rfl))
                simp only [Bool.false_eq_true, if_false, hst, if_true]; rfl
              rw [this]
/-- Behind a refused field the body is refused there. -/
theorem body_err {s : List UInt8} {l : List Fr.Pair} {i p f : Nat} {w : Int} (h : fldT s l i = .error (p, w)) : contF s (Fr.fields s (f + 1) l i) = .error (p, w) := by
  rw [Fr.fields]
  rcases fld_err h with h1 | ⟨rfl, x, h1, h2, h3⟩
  · rw [h1]; rfl
  · rw [h1]
    dsimp only
    rw [blanks_dig h3]
    have ha : ∀ b : UInt8, Fr.digB b = false → Fr.isAt s p b = false := fun b hb => by
      unfold Fr.isAt
      rw [decide_eq_false (p := s.getD p 0 = b) (fun h => by rw [h] at h3; rw [h3] at hb; cases hb), Bool.and_false]
    rw [ha 44 (by decide), if_neg (by decide)]
    unfold contF endF Fr.must
    dsimp only
    rw [ha 125 (by decide)]; rfl
theorem body_ok {s : List UInt8} {l : List Fr.Pair} {i m f : Nat} {x : Fr.Pair} (h : fldT s l i = .ok (x, m)) : contF s (Fr.fields s (f + 1) l i) = if Fr.isAt s (Fr.blanks s m) 44 then contF s (Fr.fields s f (l ++ [x]) (Fr.blanks s (Fr.blanks s m + 1))) else endF s (l ++ [x]) (Fr.blanks s m) := by
  rw [Fr.fields, fld_ok h]
  dsimp only
  split
  · rfl
  · rfl
end
end Go.X.TryzW
end
