/- Parts of the proof: XfEscP, Xfescapes. -/
import Derived.Test.YtepkimlnaoaboaaGreatDoorXP20
import Derived.KernelRfl
import Derived.Stop.FmtQuoteTie
set_option linter.unusedVariables false
set_option linter.unusedSimpArgs false
set_option linter.unusedSectionVars false
section
/- FrontEscapes, the plain law: a body with one escape of four digits is read as the character of that number, or refused at its backslash. -/
namespace Go.X.TryzW
open Go Go.X
set_option maxRecDepth 100000
/-- The body with these digits. -/
def escB (h : List UInt8) : List UInt8 := [123, 34, 97, 34, 58, 34, 92, 117] ++ h ++ [34, 125]
structure HexOk (h : UInt8) (d : Nat) : Prop where
  p : Fr.place Fr.hexD (h ||| 32) = some d
  l : ¬ h < 48
theorem escape_val (h0 h1 h2 h3 : UInt8) (d0 d1 d2 d3 : Nat) (k0 : HexOk h0 d0) (k1 : HexOk h1 d1) (k2 : HexOk h2 d2) (k3 : HexOk h3 d3) :
    Fr.escape (escB [h0, h1, h2, h3]) 6 = if 55296 ≤ (((0 * 16 + d0) * 16 + d1) * 16 + d2) * 16 + d3 ∧ (((0 * 16 + d0) * 16 + d1) * 16 + d2) * 16 + d3 ≤ 57343 then .error (6, Fr.form) else .ok ((((0 * 16 + d0) * 16 + d1) * 16 + d2) * 16 + d3, 12) := by
  have e0 : (escB [h0, h1, h2, h3]).getD 8 0 = h0 := rfl
  have e1 : (escB [h0, h1, h2, h3]).getD 9 0 = h1 := rfl
  have e2 : (escB [h0, h1, h2, h3]).getD 10 0 = h2 := rfl
  have e3 : (escB [h0, h1, h2, h3]).getD 11 0 = h3 := rfl
  have n0 : ¬ 8 = (escB [h0, h1, h2, h3]).length := by show ¬ (8 = 14); decide
  have n1 : ¬ 8 + 1 = (escB [h0, h1, h2, h3]).length := by show ¬ (9 = 14); decide
  have n2 : ¬ 8 + 1 + 1 = (escB [h0, h1, h2, h3]).length := by show ¬ (10 = 14); decide
  have n3 : ¬ 8 + 1 + 1 + 1 = (escB [h0, h1, h2, h3]).length := by show ¬ (11 = 14); decide
  have hx : Fr.hex4 (escB [h0, h1, h2, h3]) 6 4 8 0 = .ok ((((0 * 16 + d0) * 16 + d1) * 16 + d2) * 16 + d3, 12) := by
    rw [Fr.hex4, if_neg n0, e0, k0.p]
    simp only [if_neg k0.l]
    rw [Fr.hex4, if_neg n1, e1, k1.p]
    simp only [if_neg k1.l]
    rw [Fr.hex4, if_neg n2, e2, k2.p]
    simp only [if_neg k2.l]
    rw [Fr.hex4, if_neg n3, e3, k3.p]
    simp only [if_neg k3.l]
    rw [Fr.hex4]
  have hp : Fr.place Fr.escL ((escB [h0, h1, h2, h3]).getD 7 0) = none := rfl
  have hu : (escB [h0, h1, h2, h3]).getD 7 0 = 117 := rfl
  unfold Fr.escape
  rw [if_neg (by show ¬ (6 + 1 = 14); decide), hp]
  simp only
  rw [if_pos hu, hx]
theorem body_val (h0 h1 h2 h3 : UInt8) (c : Nat) (h : Fr.escape (escB [h0, h1, h2, h3]) 6 = if 55296 ≤ c ∧ c ≤ 57343 then .error (6, Fr.form) else .ok (c, 12)) :
    Fr.body (escB [h0, h1, h2, h3]) = if 55296 ≤ c ∧ c ≤ 57343 then .error (6, Fr.form) else .ok [⟨[97], 34 :: Lib.encodeRune (c : Int)⟩] := by
  generalize hs : escB [h0, h1, h2, h3] = s at *
  have b0 : Fr.blanks s 0 = 0 := by subst hs; rfl
  have m0 : Fr.must s 0 123 = .ok 1 := by subst hs; rfl
  have b1 : Fr.blanks s 1 = 1 := by subst hs; rfl
  have q1 : Fr.isAt s 1 125 = false := by subst hs; rfl
  have t1 : Fr.text s 1 = .ok ([97], 4) := by subst hs; kernel_rfl
  have b4 : Fr.blanks s 4 = 4 := by subst hs; rfl
  have m4 : Fr.must s 4 58 = .ok 5 := by subst hs; rfl
  have b5 : Fr.blanks s 5 = 5 := by subst hs; rfl
  have q5 : Fr.isAt s 5 34 = true := by subst hs; rfl
  have m5 : Fr.must s 5 34 = .ok 6 := by subst hs; rfl
  have hl : s.length = 14 := by subst hs; rfl
  have q6 : Fr.isAt s 6 34 = false := by subst hs; rfl
  have g6 : s.getD 6 0 = 92 := by subst hs; rfl
  have q6' : Fr.isAt s 6 92 = true := by subst hs; rfl
  have q12 : Fr.isAt s 12 34 = true := by subst hs; rfl
  have b13 : Fr.blanks s 13 = 13 := by subst hs; rfl
  have q13 : Fr.isAt s 13 44 = false := by subst hs; rfl
  have m13 : Fr.must s 13 125 = .ok 14 := by subst hs; rfl
  have b14 : Fr.blanks s 14 = 14 := by subst hs; rfl
  have tx : Fr.text s 5 = if 55296 ≤ c ∧ c ≤ 57343 then .error (6, Fr.form) else .ok (Lib.encodeRune (c : Int), 13) := by
    unfold Fr.text
    rw [m5]
    simp only
    rw [hl, show 14 + 1 - 6 = 8 + 1 from rfl, Fr.textGo, q6, if_neg (by decide), if_neg (by rw [hl]; decide), g6, if_neg (by decide), q6', if_pos rfl, h]
    by_cases hc : 55296 ≤ c ∧ c ≤ 57343
    · rw [if_pos hc, if_pos hc]
    · rw [if_neg hc, if_neg hc]
      simp only
      rw [Fr.textGo, q12, if_pos rfl]
      rfl
  unfold Fr.body
  rw [b0, m0]
  simp only
  rw [b1, q1, if_neg (by decide), Fr.fields]
  unfold Fr.field
  rw [t1]
  simp only
  rw [if_neg (by decide), if_neg (by decide), b4, m4]
  simp only
  rw [b5, q5, if_pos rfl, tx]
  by_cases hc : 55296 ≤ c ∧ c ≤ 57343
  · rw [if_pos hc, if_pos hc]
  · rw [if_neg hc, if_neg hc]
    simp only
    rw [b13, q13, if_neg (by decide)]
    simp only [List.nil_append]
    rw [m13]
    simp only
    rw [b14, hl, if_neg (by decide)]
theorem enc_same (r : Nat) (h : r ≤ 1114111) (hs : ¬ (55296 ≤ r ∧ r ≤ 57343)) : (Utf8.encode (r : Int)).data.toList = Lib.encodeRune (r : Int) := by
  have hb : ∀ (a b : List UInt8), bytesRows a = bytesRows b → a = b := fun a b hab => by
    have h1 := bytesRows_of a
    rw [hab, bytesRows_of] at h1
    exact (Option.some.inj h1).symm
  refine hb _ _ ?_
  have hu : ∀ n : Nat, n < 256 → (((UInt8.ofNat n).toNat : Nat) : Int) = (n : Int) := fun n hn => by simp; omega
  by_cases c1 : r < 128
  · rw [Go.Extern.FmtText.enc1 r c1, enc1 r (by omega)]
    show [[IV.int .u8 ((UInt8.ofNat r).toNat : Int)]] = _
    rw [hu r (by omega)]
  by_cases c2 : r < 2048
  · rw [Go.Extern.FmtText.enc2 r c1 c2, enc2 r (by omega) (by omega)]
    show [[IV.int .u8 ((UInt8.ofNat (192 + r / 64)).toNat : Int)], [IV.int .u8 ((UInt8.ofNat (128 + r % 64)).toNat : Int)]] = _
    rw [hu _ (by omega), hu _ (by omega)]
  by_cases c3 : r < 65536
  · rw [Go.Extern.FmtText.enc3 r c2 c3 (by omega), enc3 r (by omega)]
    show [[IV.int .u8 ((UInt8.ofNat (224 + r / 4096)).toNat : Int)], [IV.int .u8 ((UInt8.ofNat (128 + r / 64 % 64)).toNat : Int)], [IV.int .u8 ((UInt8.ofNat (128 + r % 64)).toNat : Int)]] = _
    rw [hu _ (by omega), hu _ (by omega), hu _ (by omega)]
  · rw [Go.Extern.FmtText.enc4 r c3 h, enc4 r (by omega) h]
    show [[IV.int .u8 ((UInt8.ofNat (240 + r / 262144)).toNat : Int)], [IV.int .u8 ((UInt8.ofNat (128 + r / 4096 % 64)).toNat : Int)], [IV.int .u8 ((UInt8.ofNat (128 + r / 64 % 64)).toNat : Int)], [IV.int .u8 ((UInt8.ofNat (128 + r % 64)).toNat : Int)]] = _
    rw [hu _ (by omega), hu _ (by omega), hu _ (by omega), hu _ (by omega)]
end Go.X.TryzW
end
section
open Go Go.X Go.Proofs
set_option maxRecDepth 100000
set_option maxHeartbeats 4000000
set_option linter.unusedSimpArgs false
set_option linter.unusedVariables false
namespace Go.X.TryzW
/- "tiller/tillerkeep.Within" params { toList := [3, 3] } results { toList := [Go.ResultVar.tmp 4] } -/
def y15 : XC :=
 (.seq
  (.ops [
    ⟨(some 4), (.mov (.c (.int .i64 0))), none⟩])
  (.seq
   (.ops [
     ⟨(some 5), (.mov (.t 0)), none⟩,
     ⟨(some 6), (.mov (.t 1)), none⟩,
     ⟨(some 7), (.bin .rem (.t 5) (.t 6)), none⟩,
     ⟨(some 0), (.mov (.t 7)), none⟩])
   (.seq
    (.seq
     (.ops [
       ⟨(some 8), (.mov (.t 0)), none⟩,
       ⟨(some 9), (.bin .lss (.t 8) (.c (.int .i64 0))), none⟩])
     (.cond (.t 9)
      (.ops [
        ⟨(some 10), (.mov (.t 0)), none⟩,
        ⟨(some 11), (.mov (.t 1)), none⟩,
        ⟨(some 12), (.bin .add (.t 10) (.t 11)), none⟩,
        ⟨(some 0), (.mov (.t 12)), none⟩])
      .skip))
    (.seq
     (.ops [
       ⟨(some 13), (.mov (.t 0)), none⟩,
       ⟨(some 4), (.mov (.t 13)), none⟩])
     .ret))))

/- "tiller/tillerlaw13.FrontEscapes" params { toList := [37, 4] } results { toList := [Go.ResultVar.tmp 4] } -/
def y6 : XC :=
 (.seq
  (.ops [
    ⟨(some 4), (.mov (.c (.bool false))), none⟩])
  (.seq
   (.ops [
     ⟨(some 5), (.mov (.c (.str [48, 49, 50, 51, 52, 53, 54, 55, 56, 57, 97, 98, 99, 100, 101, 102]))), none⟩])
   (.seq
    (.seq
     (.ops [
       ⟨(some 16), (.mov (.t 1)), none⟩])
     (.cond (.t 16)
      (.ops [
        ⟨(some 5), (.mov (.c (.str [48, 49, 50, 51, 52, 53, 54, 55, 56, 57, 65, 66, 67, 68, 69, 70]))), none⟩])
      .skip))
    (.seq
     (.seq
      (.ops [
        ⟨(some 6), (.mov (.c (.int .i64 0))), none⟩])
      (.block 0
       (.loop
        (.seq
         (.seq
          (.ops [
            ⟨(some 17), (.mov (.t 6)), none⟩,
            ⟨(some 18), (.mov (.t 0)), none⟩,
            ⟨(some 19), (.len (.t 18)), none⟩,
            ⟨(some 20), (.bin .lss (.t 17) (.t 19)), none⟩,
            ⟨(some 21), (.mov (.t 20)), none⟩,
            ⟨(some 22), (.mov (.t 6)), (some (21, true))⟩,
            ⟨(some 23), (.bin .lss (.t 22) (.c (.int .i64 30))), (some (21, true))⟩,
            ⟨(some 24), (.pick (.t 21) (.t 23) (.c (.bool false))), none⟩])
          (.cond (.t 24)
           .skip
           (.exit 0)))
         (.seq
          (.block 1
           (.seq
            (.ops [
              ⟨(some 27), (.mov (.t 0)), none⟩,
              ⟨(some 28), (.mov (.t 6)), none⟩,
              ⟨(some 29), (.idxS 1 (.t 27) (.t 28)), none⟩,
              ⟨(some 30), (.load1 (.t 29)), none⟩,
              ⟨(some 31), (.call (.f 15) [(.t 30), (.c (.int .i64 65536))]), none⟩,
              ⟨(some 7), (.mov (.t 31)), none⟩])
            (.seq
             (.ops [
               ⟨(some 8), (.mov (.c (.str []))), none⟩])
             (.seq
              (.seq
               (.ops [
                 ⟨(some 9), (.mov (.c (.int .i64 12))), none⟩])
               (.block 2
                (.loop
                 (.seq
                  (.seq
                   (.ops [
                     ⟨(some 32), (.mov (.t 9)), none⟩,
                     ⟨(some 33), (.bin .geq (.t 32) (.c (.int .i64 0))), none⟩])
                   (.cond (.t 33)
                    .skip
                    (.exit 2)))
                  (.seq
                   (.block 3
                    (.seq
                     (.ops [
                       ⟨(some 36), (.mov (.t 7)), none⟩,
                       ⟨(some 37), (.mov (.t 9)), none⟩,
                       ⟨(some 38), (.bin .shr (.t 36) (.t 37)), none⟩,
                       ⟨(some 39), (.bin .and (.t 38) (.c (.int .i64 15))), none⟩,
                       ⟨(some 10), (.mov (.t 39)), none⟩])
                     (.ops [
                       ⟨(some 40), (.mov (.t 8)), none⟩,
                       ⟨(some 41), (.mov (.t 5)), none⟩,
                       ⟨(some 42), (.mov (.t 10)), none⟩,
                       ⟨(some 43), (.mov (.t 10)), none⟩,
                       ⟨(some 44), (.bin .add (.t 43) (.c (.int .i64 1))), none⟩,
                       ⟨(some 45), (.sliceS (.t 41) (some (.t 42)) (some (.t 44))), none⟩,
                       ⟨(some 46), (.bin .add (.t 40) (.t 45)), none⟩,
                       ⟨(some 8), (.mov (.t 46)), none⟩])))
                   (.ops [
                     ⟨(some 34), (.mov (.t 9)), none⟩,
                     ⟨(some 35), (.bin .sub (.t 34) (.c (.int .i64 4))), none⟩,
                     ⟨(some 9), (.mov (.t 35)), none⟩]))))))
              (.seq
               (.ops [
                 ⟨(some 48), (.mov (.t 8)), none⟩,
                 ⟨(some 49), (.bin .add (.c (.str [123, 34, 97, 34, 58, 34, 92, 117])) (.t 48)), none⟩,
                 ⟨(some 50), (.bin .add (.t 49) (.c (.str [34, 125]))), none⟩,
                 ⟨(some 51), (.call (.f 19) [(.t 50)]), none⟩,
                 ⟨(some 47), (.mov (.t 51)), none⟩,
                 ⟨(some 52), (.ext (.t 47) 0), none⟩,
                 ⟨(some 53), (.ext (.t 47) 1), none⟩,
                 ⟨(some 54), (.ext (.t 47) 2), none⟩,
                 ⟨(some 11), (.mov (.t 52)), none⟩,
                 ⟨(some 12), (.mov (.t 53)), none⟩,
                 ⟨(some 13), (.mov (.t 54)), none⟩])
               (.seq
                (.seq
                 (.ops [
                   ⟨(some 55), (.mov (.t 7)), none⟩,
                   ⟨(some 56), (.bin .geq (.t 55) (.c (.int .i64 55296))), none⟩,
                   ⟨(some 57), (.mov (.t 56)), none⟩,
                   ⟨(some 58), (.mov (.t 7)), (some (57, true))⟩,
                   ⟨(some 59), (.bin .leq (.t 58) (.c (.int .i64 57343))), (some (57, true))⟩,
                   ⟨(some 60), (.pick (.t 57) (.t 59) (.c (.bool false))), none⟩])
                 (.cond (.t 60)
                  (.seq
                   (.seq
                    (.ops [
                      ⟨(some 61), (.mov (.t 13)), none⟩,
                      ⟨(some 62), (.bin .neq (.t 61) (.c (.int .i64 2))), none⟩,
                      ⟨(some 63), (.mov (.t 62)), none⟩,
                      ⟨(some 64), (.mov (.t 12)), (some (63, false))⟩,
                      ⟨(some 65), (.bin .neq (.t 64) (.c (.int .i64 6))), (some (63, false))⟩,
                      ⟨(some 66), (.pick (.t 63) (.c (.bool true)) (.t 65)), none⟩])
                    (.cond (.t 66)
                     (.seq
                      (.ops [
                        ⟨(some 4), (.mov (.c (.bool false))), none⟩])
                      .ret)
                     .skip))
                   (.exit 1))
                  .skip))
                (.seq
                 (.ops [
                   ⟨(some 68), (.mov (.t 11)), none⟩,
                   ⟨(some 69), (.call (.f 20) [(.t 68), (.c (.str [97]))]), none⟩,
                   ⟨(some 67), (.mov (.t 69)), none⟩,
                   ⟨(some 70), (.ext (.t 67) 0), none⟩,
                   ⟨(some 71), (.ext (.t 67) 1), none⟩,
                   ⟨(some 14), (.mov (.t 70)), none⟩,
                   ⟨(some 15), (.mov (.t 71)), none⟩])
                 (.seq
                  (.ops [
                    ⟨(some 72), (.mov (.t 13)), none⟩,
                    ⟨(some 73), (.bin .neq (.t 72) (.c (.int .i64 0))), none⟩,
                    ⟨(some 74), (.mov (.t 73)), none⟩,
                    ⟨(some 75), (.mov (.t 15)), (some (74, false))⟩,
                    ⟨(some 76), (.un .not (.t 75)), (some (74, false))⟩,
                    ⟨(some 77), (.pick (.t 74) (.c (.bool true)) (.t 76)), none⟩,
                    ⟨(some 78), (.mov (.t 77)), none⟩,
                    ⟨(some 79), (.mov (.t 14)), (some (78, false))⟩,
                    ⟨(some 80), (.mov (.t 7)), (some (78, false))⟩,
                    ⟨(some 81), (.cvInt .i32 (.t 80)), (some (78, false))⟩,
                    ⟨(some 82), (.bslice 1 [(.int .i32 0)] 1 [(0, (.t 81))]), (some (78, false))⟩,
                    ⟨(some 83), (.ex .rStr [(.t 82)]), (some (78, false))⟩,
                    ⟨(some 84), (.bin .neq (.t 79) (.t 83)), (some (78, false))⟩,
                    ⟨(some 85), (.pick (.t 78) (.c (.bool true)) (.t 84)), none⟩])
                  (.cond (.t 85)
                   (.seq
                    (.ops [
                      ⟨(some 4), (.mov (.c (.bool false))), none⟩])
                    .ret)
                   .skip)))))))))
          (.ops [
            ⟨(some 25), (.mov (.t 6)), none⟩,
            ⟨(some 26), (.bin .add (.t 25) (.c (.int .i64 1))), none⟩,
            ⟨(some 6), (.mov (.t 26)), none⟩]))))))
     (.seq
      (.ops [
        ⟨(some 86), (.call (.f 14) []), none⟩,
        ⟨(some 4), (.mov (.t 86)), none⟩])
      .ret)))))

section
variable {E : Env} {L : List Blk} {K : IV → List Blk → Prop}
def withinF (a m : Int) : Int := if a.tmod m < 0 then a.tmod m + m else a.tmod m
theorem withinF_bnd (a m : Int) (hm : 0 < m) : 0 ≤ withinF a m ∧ withinF a m < m := by
  unfold withinF
  have h1 := Int.tmod_lt_of_pos a hm
  have h2 : -m < a.tmod m := Int.lt_tmod_of_pos a hm
  split <;> omega
theorem within_pure (hP : E.P = Tryz.prog) (a m : Int) (hm : 0 < m) (hm2 : m ≤ 1000000000) : XPure E 15 [.int .i64 a, .int .i64 m] (.int .i64 (withinF a m)) := by
  refine xpure1 (n := Tryz.f15.ntmps) (c := y15) (t := 4) (by rw [hP]; rfl) (by rw [hP]; kernel_rfl) (by decide) (Nat.le_of_ble_eq_true rfl) ?_
  generalize hρ : entry _ = ρ
  have h0 : ρ 0 = .int .i64 a := by rw [← hρ]; rfl
  have h1 : ρ 1 = .int .i64 m := by rw [← hρ]; rfl
  clear hρ
  unfold y15
  have h1' := Int.tmod_lt_of_pos a hm
  have h2' : -m < a.tmod m := Int.lt_tmod_of_pos a hm
  have hne : (m ≠ 0) = True := eq_true (by omega)
  unfold withinF
  by_cases hc : a.tmod m < 0
  · have f1 : (a.tmod m < 0) = True := eq_true hc
    have hw : IntKind.i64.wrap (a.tmod m + m) = a.tmod m + m := wrap64 (by omega) (by omega)
    rw [if_pos hc]
    simp only [h0, h1, hne, f1, hw, go_sem, Nat.reduceEqDiff, reduceIte, Int.reduceEq, Int.reduceLT, Int.reduceLE, Nat.reduceAdd, Nat.reduceLT, Nat.reduceLeDiff, Int.reduceToNat, Int.reduceSub, Int.reduceAdd, Int.reduceNeg]
    first | rfl | exact ⟨by omega, rfl⟩
  · have f1 : (a.tmod m < 0) = False := eq_false hc
    rw [if_neg hc]
    simp only [h0, h1, hne, f1, go_sem, Nat.reduceEqDiff, reduceIte, Int.reduceEq, Int.reduceLT, Int.reduceLE, Nat.reduceAdd, Nat.reduceLT, Nat.reduceLeDiff, Int.reduceToNat, Int.reduceSub, Int.reduceAdd, Int.reduceNeg]
    first | rfl | exact ⟨by omega, rfl⟩
@[go_sem high] theorem o_and15 {a : Nat} {KV : IV → List Blk → Prop} : xop E (.bin .and (.c (.int .i64 (a : Int))) (.c (.int .i64 15))) cev L KV = KV (.int .i64 ((a % 16 : Nat) : Int)) L := by
  rw [o_and]
  have h1 : (BitVec.ofInt 64 (a : Int) &&& BitVec.ofInt 64 15).toNat = a % 16 := by
    rw [BitVec.toNat_and]
    have e2 : (BitVec.ofInt 64 (a : Int)).toNat = a % 18446744073709551616 := by simp only [BitVec.toNat_ofInt]; omega
    have e3 : (BitVec.ofInt 64 (15 : Int)).toNat = 2 ^ 4 - 1 := rfl
    rw [e2, e3, Nat.and_two_pow_sub_one_eq_mod]; omega
  have h2 : IntKind.i64.wrap ((BitVec.ofInt 64 (a : Int) &&& BitVec.ofInt 64 15).toNat : Int) = ((a % 16 : Nat) : Int) := by
    rw [h1, wrap64 (by omega) (by omega)]
  exact congrArg (fun n : Int => KV (.int .i64 n) L) h2
def smL : List UInt8 := [48, 49, 50, 51, 52, 53, 54, 55, 56, 57, 97, 98, 99, 100, 101, 102]
def grL : List UInt8 := [48, 49, 50, 51, 52, 53, 54, 55, 56, 57, 65, 66, 67, 68, 69, 70]
def tabL (b : Bool) : List UInt8 := if b then grL else smL
theorem tab_ok (b : Bool) (d : Nat) (h : d < 16) : HexOk ((tabL b).getD d 0) d := by
  have : ∀ b : Bool, ∀ d : Fin 16, Fr.place Fr.hexD ((tabL b).getD d.val 0 ||| 32) = some d.val ∧ ¬ (tabL b).getD d.val 0 < 48 := by decide +kernel
  exact ⟨(this b ⟨d, h⟩).1, (this b ⟨d, h⟩).2⟩
theorem tab_len (b : Bool) : (tabL b).length = 16 := by cases b <;> rfl
def hexs (t : List UInt8) (N : Nat) : List UInt8 := [t.getD (N / 4096 % 16) 0, t.getD (N / 256 % 16) 0, t.getD (N / 16 % 16) 0, t.getD (N / 1 % 16) 0]
def iRows (l : List Int) : List (List IV) := l.map fun n => [.int .i64 n]
theorem iRows_len (l : List Int) : (iRows l).length = l.length := List.length_map ..
theorem rows_i (l : List Int) : Rows 1 (iRows l) := by
  intro row hr
  unfold iRows at hr
  obtain ⟨b, _, rfl⟩ := List.mem_map.1 hr
  rfl
theorem iRows_get {l : List Int} {i : Nat} (h : i < l.length) : (iRows l).getD i [] = [.int .i64 (l.getD i 0)] := by
  simp [iRows, List.getD, h]
theorem take1 (t : List UInt8) (d : Nat) (h : d < t.length) : (t.take (d + 1)).drop d = [t.getD d 0] := by
  apply List.ext_getElem?
  intro i
  rw [List.getElem?_drop, List.getElem?_take]
  cases i with
  | zero => simp [List.getD, h]
  | succ i => rw [if_neg (by omega)]; rfl
theorem esc_law (b : Bool) (N : Nat) (h : N < 65536) : Fr.body (escB (hexs (tabL b) N)) = if 55296 ≤ N ∧ N ≤ 57343 then .error (6, Fr.form) else .ok [⟨[97], 34 :: Lib.encodeRune (N : Int)⟩] := by
  have e := escape_val _ _ _ _ _ _ _ _ (tab_ok b (N / 4096 % 16) (by omega)) (tab_ok b (N / 256 % 16) (by omega)) (tab_ok b (N / 16 % 16) (by omega)) (tab_ok b (N / 1 % 16) (by omega))
  have hN : (((0 * 16 + N / 4096 % 16) * 16 + N / 256 % 16) * 16 + N / 16 % 16) * 16 + N / 1 % 16 = N := by omega
  rw [hN] at e
  exact body_val _ _ _ _ N e
theorem tx1 (V : List UInt8) : textP [⟨[97], 34 :: V⟩] [97] = (V, true) := by
  have h1 : (fieldP [⟨[97], 34 :: V⟩] [97]) = (34 :: V, true) := by unfold fieldP; rw [if_pos rfl]
  unfold textP
  rw [h1]
  simp [Lib.hasPrefix, Lib.trimPrefix]
theorem escapes_pure (hP : E.P = Tryz.prog) {m : Int} (hm : E.gl 2 = some [.int .i64 m]) (ht : ∀ w, E.G w → Lib.Utf8Tabs 0 1 w) (l : List Int) (b : Bool) : XPure E 6 [.isl (iRows l), .bool b] (.bool true) := by
  refine xpure1 (n := Tryz.f6.ntmps) (c := y6) (t := 4) (by rw [hP]; rfl) (by rw [hP]; kernel_rfl) (by decide) (Nat.le_of_ble_eq_true rfl) ?_
  generalize hρ : entry _ = ρ
  have h0 : ρ 0 = .isl (iRows l) := by rw [← hρ]; rfl
  have h1 : ρ 1 = .bool b := by rw [← hρ]; rfl
  clear hρ
  unfold y6
  simp only [h0, h1, go_sem, Nat.reduceEqDiff, reduceIte, Int.reduceEq, Int.reduceLT, Int.reduceLE, Nat.reduceAdd, Nat.reduceLT, Nat.reduceLeDiff, Int.reduceToNat, Int.reduceSub, Int.reduceAdd, Int.reduceNeg]
  refine xcut_norm (fun ρ' L' => L' = [] ∧ ρ' 0 = .isl (iRows l) ∧ ρ' 5 = .str (tabL b)) ?_ (fun ρ' L' h => ?_)
  · refine s_cond (b := b) (by simp only [h1, go_sem, Nat.reduceEqDiff, reduceIte, Int.reduceEq, Int.reduceLT, Int.reduceLE, Nat.reduceAdd, Nat.reduceLT, Nat.reduceLeDiff, Int.reduceToNat, Int.reduceSub, Int.reduceAdd, Int.reduceNeg]; try rfl) ?_ ?_ <;> intro hc <;> subst hc <;> simp only [h0, h1, go_sem, Nat.reduceEqDiff, reduceIte, Int.reduceEq, Int.reduceLT, Int.reduceLE, Nat.reduceAdd, Nat.reduceLT, Nat.reduceLeDiff, Int.reduceToNat, Int.reduceSub, Int.reduceAdd, Int.reduceNeg]
    · rfl
    · rfl
  clear h0 h1
  obtain ⟨rfl, h0, h5⟩ := h
  simp only [h0, h5, go_sem, Nat.reduceEqDiff, reduceIte, Int.reduceEq, Int.reduceLT, Int.reduceLE, Nat.reduceAdd, Nat.reduceLT, Nat.reduceLeDiff, Int.reduceToNat, Int.reduceSub, Int.reduceAdd, Int.reduceNeg]
  refine xrun_cut (fun e _ _ => e = .exit 0) ?_ ?_
  rotate_left
  · rintro e ρ L rfl
    simp only [go_sem, Nat.reduceEqDiff, reduceIte, Int.reduceEq, Int.reduceLT, Int.reduceLE, Nat.reduceAdd, Nat.reduceLT, Nat.reduceLeDiff, Int.reduceToNat, Int.reduceSub, Int.reduceAdd, Int.reduceNeg]
    refine xcall_pure (args' := []) rfl (wakes_pure (E := E.noPan) hP hm ht) rfl ?_
    simp only [go_sem, Nat.reduceEqDiff, reduceIte, Int.reduceEq, Int.reduceLT, Int.reduceLE, Nat.reduceAdd, Nat.reduceLT, Nat.reduceLeDiff, Int.reduceToNat, Int.reduceSub, Int.reduceAdd, Int.reduceNeg]
    rfl
  refine s_loop (fun n ρ L => ∃ i : Nat, n = 30 - i ∧ ρ 0 = .isl (iRows l) ∧ ρ 5 = .str (tabL b) ∧ ρ 6 = .int .i64 i) ⟨0, rfl, by simp only [h0, go_sem, Nat.reduceEqDiff, reduceIte, Int.reduceEq, Int.reduceLT, Int.reduceLE, Nat.reduceAdd, Nat.reduceLT, Nat.reduceLeDiff, Int.reduceToNat, Int.reduceSub, Int.reduceAdd, Int.reduceNeg], by simp only [h5, go_sem, Nat.reduceEqDiff, reduceIte, Int.reduceEq, Int.reduceLT, Int.reduceLE, Nat.reduceAdd, Nat.reduceLT, Nat.reduceLeDiff, Int.reduceToNat, Int.reduceSub, Int.reduceAdd, Int.reduceNeg], by simp only [go_sem, Nat.reduceEqDiff, reduceIte, Int.reduceEq, Int.reduceLT, Int.reduceLE, Nat.reduceAdd, Nat.reduceLT, Nat.reduceLeDiff, Int.reduceToNat, Int.reduceSub, Int.reduceAdd, Int.reduceNeg]; try rfl⟩ ?_
  clear h0 h5 ρ' ρ
  rintro n ρ L ⟨i, rfl, h0, h5, h6⟩
  have hlen := iRows_len l
  by_cases hi : i < l.length ∧ i < 30
  case neg =>
    by_cases h1 : i < l.length
    · have f1 : ((i : Int) < ((iRows l).length : Int)) = True := eq_true (by omega)
      have f2 : ((i : Int) < 30) = False := eq_false (by omega)
      simp only [h0, h6, f1, f2, go_sem, Nat.reduceEqDiff, reduceIte, Int.reduceEq, Int.reduceLT, Int.reduceLE, Nat.reduceAdd, Nat.reduceLT, Nat.reduceLeDiff, Int.reduceToNat, Int.reduceSub, Int.reduceAdd, Int.reduceNeg]
    · have f1 : ((i : Int) < ((iRows l).length : Int)) = False := eq_false (by omega)
      simp only [h0, h6, f1, go_sem, Nat.reduceEqDiff, reduceIte, Int.reduceEq, Int.reduceLT, Int.reduceLE, Nat.reduceAdd, Nat.reduceLT, Nat.reduceLeDiff, Int.reduceToNat, Int.reduceSub, Int.reduceAdd, Int.reduceNeg]
  obtain ⟨hi1, hi2⟩ := hi
  have f1 : ((i : Int) < ((iRows l).length : Int)) = True := eq_true (by omega)
  have f2 : ((i : Int) < 30) = True := eq_true (by omega)
  have e0 : ((0 : Int) ≤ (i : Int)) = True := eq_true (by omega)
  have hg := iRows_get hi1
  have hrw := rows_i l
  simp only [h0, h6, f1, f2, e0, hg, go_sem, Nat.reduceEqDiff, reduceIte, Int.reduceEq, Int.reduceLT, Int.reduceLE, Nat.reduceAdd, Nat.reduceLT, Nat.reduceLeDiff, Int.reduceToNat, Int.reduceSub, Int.reduceAdd, Int.reduceNeg]
  refine ⟨hrw, by omega, ?_⟩
  refine xcall_pure (args' := [.int .i64 (l.getD i 0), .int .i64 65536]) rfl (within_pure (E := E.noPan) hP (l.getD i 0) 65536 (by decide) (by decide)) rfl ?_
  have hwb := withinF_bnd (l.getD i 0) 65536 (by decide)
  obtain ⟨N, hN⟩ : ∃ N : Nat, withinF (l.getD i 0) 65536 = (N : Int) := ⟨(withinF (l.getD i 0) 65536).toNat, by omega⟩
  rw [hN] at hwb ⊢
  have hNl : N < 65536 := by omega
  have hwi : IntKind.i64.wrap ((i : Int) + 1) = ((i + 1 : Nat) : Int) := by rw [wrap64 (by omega) (by omega)]; rfl
  simp only [h0, go_sem, Nat.reduceEqDiff, reduceIte, Int.reduceEq, Int.reduceLT, Int.reduceLE, Nat.reduceAdd, Nat.reduceLT, Nat.reduceLeDiff, Int.reduceToNat, Int.reduceSub, Int.reduceAdd, Int.reduceNeg]
  have hx0 : (hexs (tabL b) N).take 0 = [] := rfl
  refine xrun_cut (fun e ρ' L' => e = .exit 2 ∧ L' = L ∧ ρ' 0 = .isl (iRows l) ∧ ρ' 5 = .str (tabL b) ∧ ρ' 6 = .int .i64 i ∧ ρ' 7 = .int .i64 N ∧ ρ' 8 = .str (hexs (tabL b) N)) ?_ ?_
  · refine s_loop (fun n ρ' L' => ∃ j : Nat, n = 4 - j ∧ j ≤ 4 ∧ L' = L ∧ ρ' 0 = .isl (iRows l) ∧ ρ' 5 = .str (tabL b) ∧ ρ' 6 = .int .i64 i ∧ ρ' 7 = .int .i64 N ∧ ρ' 8 = .str ((hexs (tabL b) N).take j) ∧ ρ' 9 = .int .i64 (12 - 4 * (j : Int))) (n := 4)
      ⟨0, rfl, by omega, rfl, by simp only [h0, go_sem, Nat.reduceEqDiff, reduceIte, Int.reduceEq, Int.reduceLT, Int.reduceLE, Nat.reduceAdd, Nat.reduceLT, Nat.reduceLeDiff, Int.reduceToNat, Int.reduceSub, Int.reduceAdd, Int.reduceNeg], by simp only [h5, go_sem, Nat.reduceEqDiff, reduceIte, Int.reduceEq, Int.reduceLT, Int.reduceLE, Nat.reduceAdd, Nat.reduceLT, Nat.reduceLeDiff, Int.reduceToNat, Int.reduceSub, Int.reduceAdd, Int.reduceNeg], by simp only [h6, go_sem, Nat.reduceEqDiff, reduceIte, Int.reduceEq, Int.reduceLT, Int.reduceLE, Nat.reduceAdd, Nat.reduceLT, Nat.reduceLeDiff, Int.reduceToNat, Int.reduceSub, Int.reduceAdd, Int.reduceNeg], by simp only [go_sem, Nat.reduceEqDiff, reduceIte, Int.reduceEq, Int.reduceLT, Int.reduceLE, Nat.reduceAdd, Nat.reduceLT, Nat.reduceLeDiff, Int.reduceToNat, Int.reduceSub, Int.reduceAdd, Int.reduceNeg]; try rfl, by simp only [go_sem, Nat.reduceEqDiff, reduceIte, Int.reduceEq, Int.reduceLT, Int.reduceLE, Nat.reduceAdd, Nat.reduceLT, Nat.reduceLeDiff, Int.reduceToNat, Int.reduceSub, Int.reduceAdd, Int.reduceNeg]; try rfl, by simp only [go_sem, Nat.reduceEqDiff, reduceIte, Int.reduceEq, Int.reduceLT, Int.reduceLE, Nat.reduceAdd, Nat.reduceLT, Nat.reduceLeDiff, Int.reduceToNat, Int.reduceSub, Int.reduceAdd, Int.reduceNeg]; try rfl⟩ ?_
    clear h0 h5 h6 ρ
    rintro n ρ L' ⟨j, rfl, hj, rfl, h0, h5, h6, h7, h8, h9⟩
    have htl := tab_len b
    have s12 : (N : Int).fdiv (2 ^ min 12 64) = ((N / 4096 : Nat) : Int) := shrN N 12 _ rfl
    have s8 : (N : Int).fdiv (2 ^ min 8 64) = ((N / 256 : Nat) : Int) := shrN N 8 _ rfl
    have s4 : (N : Int).fdiv (2 ^ min 4 64) = ((N / 16 : Nat) : Int) := shrN N 4 _ rfl
    have s0 : (N : Int).fdiv (2 ^ min 0 64) = ((N / 1 : Nat) : Int) := shrN N 0 _ rfl
    match j, hj with
    | 0, _ =>
      have h9 : ρ 9 = .int .i64 12 := h9
      have hw : IntKind.i64.wrap (((N / 4096 % 16 : Nat) : Int) + 1) = ((N / 4096 % 16 + 1 : Nat) : Int) := by rw [wrap64 (by omega) (by omega)]; rfl
      have ht1 := take1 (tabL b) (N / 4096 % 16) (by omega)
      simp only [h0, h5, h6, h7, h8, h9, s12, hw, ht1, go_sem, Nat.reduceEqDiff, reduceIte, Int.reduceEq, Int.reduceLT, Int.reduceLE, Nat.reduceAdd, Nat.reduceLT, Nat.reduceLeDiff, Int.reduceToNat, Int.reduceSub, Int.reduceAdd, Int.reduceNeg]
      refine ⟨by omega, by omega, 4 - 1, by omega, 1, rfl, by omega, rfl, ?_⟩
      rw [show IntKind.i64.wrap 8 = 8 from rfl]; rfl
    | 1, _ =>
      have h9 : ρ 9 = .int .i64 8 := h9
      have hw : IntKind.i64.wrap (((N / 256 % 16 : Nat) : Int) + 1) = ((N / 256 % 16 + 1 : Nat) : Int) := by rw [wrap64 (by omega) (by omega)]; rfl
      have ht1 := take1 (tabL b) (N / 256 % 16) (by omega)
      simp only [h0, h5, h6, h7, h8, h9, s8, hw, ht1, go_sem, Nat.reduceEqDiff, reduceIte, Int.reduceEq, Int.reduceLT, Int.reduceLE, Nat.reduceAdd, Nat.reduceLT, Nat.reduceLeDiff, Int.reduceToNat, Int.reduceSub, Int.reduceAdd, Int.reduceNeg]
      refine ⟨by omega, by omega, by rw [List.length_take]; omega, 4 - 2, by omega, 2, rfl, by omega, rfl, ?_⟩
      rw [show IntKind.i64.wrap 4 = 4 from rfl]; rfl
    | 2, _ =>
      have h9 : ρ 9 = .int .i64 4 := h9
      have hw : IntKind.i64.wrap (((N / 16 % 16 : Nat) : Int) + 1) = ((N / 16 % 16 + 1 : Nat) : Int) := by rw [wrap64 (by omega) (by omega)]; rfl
      have ht1 := take1 (tabL b) (N / 16 % 16) (by omega)
      simp only [h0, h5, h6, h7, h8, h9, s4, hw, ht1, go_sem, Nat.reduceEqDiff, reduceIte, Int.reduceEq, Int.reduceLT, Int.reduceLE, Nat.reduceAdd, Nat.reduceLT, Nat.reduceLeDiff, Int.reduceToNat, Int.reduceSub, Int.reduceAdd, Int.reduceNeg]
      refine ⟨by omega, by omega, by rw [List.length_take]; omega, 4 - 3, by omega, 3, rfl, by omega, rfl, ?_⟩
      rw [show IntKind.i64.wrap 0 = 0 from rfl]; rfl
    | 3, _ =>
      have h9 : ρ 9 = .int .i64 0 := h9
      have hw : IntKind.i64.wrap (((N / 1 % 16 : Nat) : Int) + 1) = ((N / 1 % 16 + 1 : Nat) : Int) := by rw [wrap64 (by omega) (by omega)]; rfl
      have ht1 := take1 (tabL b) (N / 1 % 16) (by omega)
      simp only [h0, h5, h6, h7, h8, h9, s0, hw, ht1, go_sem, Nat.reduceEqDiff, reduceIte, Int.reduceEq, Int.reduceLT, Int.reduceLE, Nat.reduceAdd, Nat.reduceLT, Nat.reduceLeDiff, Int.reduceToNat, Int.reduceSub, Int.reduceAdd, Int.reduceNeg]
      refine ⟨by omega, by omega, by rw [List.length_take]; omega, 4 - 4, by omega, 4, rfl, by omega, rfl, ?_⟩
      rw [show IntKind.i64.wrap (-4) = (-4) from rfl]; rfl
    | 4, _ =>
      have h9 : ρ 9 = .int .i64 (-4) := h9
      simp only [h0, h5, h6, h7, h8, h9, go_sem, Nat.reduceEqDiff, reduceIte, Int.reduceEq, Int.reduceLT, Int.reduceLE, Nat.reduceAdd, Nat.reduceLT, Nat.reduceLeDiff, Int.reduceToNat, Int.reduceSub, Int.reduceAdd, Int.reduceNeg]
      rfl
  rintro e ρ L' ⟨rfl, rfl, h0, h5, h6, h7, h8⟩
  have hob := obj_pure (E := E.noPan) hP ht (escB (hexs (tabL b) N)) (by show 14 ≤ 1000000; decide)
  have hlaw := esc_law b N hNl
  have hs : (123 :: 34 :: 97 :: 34 :: 58 :: 34 :: 92 :: 117 :: (hexs (tabL b) N ++ [34, 125])) = escB (hexs (tabL b) N) := rfl
  have hxl : (hexs (tabL b) N).length = 4 := rfl
  simp only [h0, h7, h8, go_sem, Nat.reduceEqDiff, reduceIte, Int.reduceEq, Int.reduceLT, Int.reduceLE, Nat.reduceAdd, Nat.reduceLT, Nat.reduceLeDiff, Int.reduceToNat, Int.reduceSub, Int.reduceAdd, Int.reduceNeg]
  rw [hs]
  refine ⟨by rw [hxl]; decide, by rw [hxl]; decide, ?_⟩
  refine xcall_pure (args' := [.str (escB (hexs (tabL b) N))]) rfl hob ?_ ?_
  · unfold objIV; rw [hlaw]
    split <;> rename_i heq <;> split at heq <;> first | rfl | (cases heq; done) | (cases heq; rfl)
  unfold objIV
  rw [hlaw]
  by_cases g1 : 55296 ≤ N
  · have q1 : ((55296 : Int) ≤ (N : Int)) = True := eq_true (by omega)
    by_cases g2 : N ≤ 57343
    · have q2 : ((N : Int) ≤ 57343) = True := eq_true (by omega)
      rw [if_pos ⟨g1, g2⟩]
      simp only [h0, h5, h6, h7, q1, q2, Fr.form, hwi, go_sem, Nat.reduceEqDiff, reduceIte, Int.reduceEq, Int.reduceLT, Int.reduceLE, Nat.reduceAdd, Nat.reduceLT, Nat.reduceLeDiff, Int.reduceToNat, Int.reduceSub, Int.reduceAdd, Int.reduceNeg]
      exact ⟨30 - (i + 1), by omega, i + 1, rfl, rfl⟩
    · have q2 : ((N : Int) ≤ 57343) = False := eq_false (by omega)
      rw [if_neg (fun h => g2 h.2)]
      have hes := enc_same N (by omega) (fun h => g2 h.2)
      simp only [h0, h5, h6, h7, q1, q2, go_sem, Nat.reduceEqDiff, reduceIte, Int.reduceEq, Int.reduceLT, Int.reduceLE, Nat.reduceAdd, Nat.reduceLT, Nat.reduceLeDiff, Int.reduceToNat, Int.reduceSub, Int.reduceAdd, Int.reduceNeg]
      refine xcall_pure (args' := [.isl (pRows [⟨[97], 34 :: Lib.encodeRune (N : Int)⟩]), .str [97]]) rfl (text_pure (E := E.noPan) hP [⟨[97], 34 :: Lib.encodeRune (N : Int)⟩] (by show 1 ≤ 1000000; decide) [97]) rfl ?_
      rw [tx1]
      have hwN : IntKind.i32.wrap (N : Int) = (N : Int) := by rw [IntKind.wrap_i32]; omega
      have hrn : (rowsSl (L' ++ [Blk.cells 1 [[IV.int .i32 (N : Int)]]]) (.sl L'.length 0 1 1)).bind (mapO runeOf) = some [(N : Int)] := by
        simp [rowsSl, rowsOf, mapO, runeOf]
      have hru : runesL [(N : Int)] = Lib.encodeRune (N : Int) := by unfold runesL; rw [List.flatMap_cons, List.flatMap_nil, List.append_nil, hes]
      have ee : (Lib.encodeRune (N : Int) = Lib.encodeRune (N : Int)) = True := eq_self _
      simp only [h0, h5, h6, h7, hwN, go_sem, Nat.reduceEqDiff, reduceIte, Int.reduceEq, Int.reduceLT, Int.reduceLE, Nat.reduceAdd, Nat.reduceLT, Nat.reduceLeDiff, Int.reduceToNat, Int.reduceSub, Int.reduceAdd, Int.reduceNeg]
      rw [hrn]
      simp only [h0, h5, h6, h7, hru, ee, hwi, go_sem, Nat.reduceEqDiff, reduceIte, Int.reduceEq, Int.reduceLT, Int.reduceLE, Nat.reduceAdd, Nat.reduceLT, Nat.reduceLeDiff, Int.reduceToNat, Int.reduceSub, Int.reduceAdd, Int.reduceNeg]
      exact ⟨30 - (i + 1), by omega, i + 1, rfl, rfl⟩
  · have q1 : ((55296 : Int) ≤ (N : Int)) = False := eq_false (by omega)
    rw [if_neg (fun h => g1 h.1)]
    have hes := enc_same N (by omega) (fun h => g1 h.1)
    simp only [h0, h5, h6, h7, q1, go_sem, Nat.reduceEqDiff, reduceIte, Int.reduceEq, Int.reduceLT, Int.reduceLE, Nat.reduceAdd, Nat.reduceLT, Nat.reduceLeDiff, Int.reduceToNat, Int.reduceSub, Int.reduceAdd, Int.reduceNeg]
    refine xcall_pure (args' := [.isl (pRows [⟨[97], 34 :: Lib.encodeRune (N : Int)⟩]), .str [97]]) rfl (text_pure (E := E.noPan) hP [⟨[97], 34 :: Lib.encodeRune (N : Int)⟩] (by show 1 ≤ 1000000; decide) [97]) rfl ?_
    rw [tx1]
    have hwN : IntKind.i32.wrap (N : Int) = (N : Int) := by rw [IntKind.wrap_i32]; omega
    have hrn : (rowsSl (L' ++ [Blk.cells 1 [[IV.int .i32 (N : Int)]]]) (.sl L'.length 0 1 1)).bind (mapO runeOf) = some [(N : Int)] := by
      simp [rowsSl, rowsOf, mapO, runeOf]
    have hru : runesL [(N : Int)] = Lib.encodeRune (N : Int) := by unfold runesL; rw [List.flatMap_cons, List.flatMap_nil, List.append_nil, hes]
    have ee : (Lib.encodeRune (N : Int) = Lib.encodeRune (N : Int)) = True := eq_self _
    simp only [h0, h5, h6, h7, hwN, go_sem, Nat.reduceEqDiff, reduceIte, Int.reduceEq, Int.reduceLT, Int.reduceLE, Nat.reduceAdd, Nat.reduceLT, Nat.reduceLeDiff, Int.reduceToNat, Int.reduceSub, Int.reduceAdd, Int.reduceNeg]
    rw [hrn]
    simp only [h0, h5, h6, h7, hru, ee, hwi, go_sem, Nat.reduceEqDiff, reduceIte, Int.reduceEq, Int.reduceLT, Int.reduceLE, Nat.reduceAdd, Nat.reduceLT, Nat.reduceLeDiff, Int.reduceToNat, Int.reduceSub, Int.reduceAdd, Int.reduceNeg]
    exact ⟨30 - (i + 1), by omega, i + 1, rfl, rfl⟩
end
end Go.X.TryzW
end
