/- Parts of the proof: XzDag1, XzDag2, XzDag3, XzDag4, XzDag5, XzDag6, XzDag7, XzDag8, XzDag9, XzDag10, XzDag11. -/
import Derived.Test.YtnejaochjehhgaaGreatDoorXP9
import Derived.Test.YtnejaochjehhgaaGreatDoorProg
set_option linter.unusedVariables false
set_option linter.unusedSimpArgs false
set_option linter.unusedSectionVars false
section
open Go Go.X Go.Proofs
set_option maxRecDepth 100000
set_option maxHeartbeats 2000000
set_option linter.unusedSimpArgs false
set_option linter.unusedVariables false
namespace Go.X.TryzW
/- "tiller/tillerref08.named" params { toList := [9, 4, 3] } results { toList := [Go.ResultVar.tmp 6] } -/
/- "tiller/tillerref08.Name" params { toList := [9] } results { toList := [Go.ResultVar.tmp 2] } -/
/- "tiller/tillerref08.Flow" params { toList := [9] } results { toList := [Go.ResultVar.tmp 2] } -/
section
variable {E : Env}
def okB (slash : Bool) (c : UInt8) : Bool :=
  let n : Int := c.toNat
  (decide (97 ≤ n) && decide (n ≤ 122)) || (decide (65 ≤ n) && decide (n ≤ 90)) || (decide (48 ≤ n) && decide (n ≤ 57)) || decide (n = 46) || decide (n = 45) || decide (n = 95) || (decide (n = 47) && slash)
def namedS (s : List UInt8) (slash : Bool) (most : Int) : Bool := s.all (okB slash) && (decide (1 ≤ (s.length : Int)) && decide ((s.length : Int) ≤ most))

theorem take_succ_all {α : Type} {p : α → Bool} {d : α} {l : List α} {i : Nat} (h : i < l.length) (h1 : (l.take i).all p = true) : (l.take (i + 1)).all p = p (l.getD i d) := by
  rw [List.take_add_one, List.all_append, h1]; simp [List.getElem?_eq_getElem h, List.getD_eq_getElem?_getD]
theorem all_false {α : Type} {p : α → Bool} {d : α} {l : List α} {i : Nat} (h : i < l.length) (h1 : p (l.getD i d) = false) : l.all p = false := by
  rw [List.all_eq_false]; exact ⟨_, List.getElem_mem h, by simpa [List.getD_eq_getElem?_getD, List.getElem?_eq_getElem h] using h1⟩

end
end Go.X.TryzW
end
section
open Go Go.X Go.Proofs
set_option maxRecDepth 100000
set_option maxHeartbeats 2000000
set_option linter.unusedSimpArgs false
set_option linter.unusedVariables false
namespace Go.X.TryzW
/- "internal/stringslite.IndexByte" params { toList := [9, 5] } results { toList := [Go.ResultVar.tmp 4] } -/
def x59 : XC :=
 (.seq
  (.ops [
    ⟨(some 4), (.mov (.c (.int .i64 0))), none⟩])
  (.seq
   (.ops [
     ⟨(some 5), (.mov (.t 0)), none⟩,
     ⟨(some 6), (.mov (.t 1)), none⟩,
     ⟨(some 7), (.call (.f 108) [(.t 5), (.t 6)]), none⟩,
     ⟨(some 4), (.mov (.t 7)), none⟩])
   .ret))

/- "internal/stringslite.Index" params { toList := [9, 9] } results { toList := [Go.ResultVar.tmp 4] } -/
def x54 : XC :=
 (.seq
  (.ops [
    ⟨(some 4), (.mov (.c (.int .i64 0))), none⟩])
  (.seq
   (.ops [
     ⟨(some 14), (.mov (.t 1)), none⟩,
     ⟨(some 15), (.lenS (.t 14)), none⟩,
     ⟨(some 5), (.mov (.t 15)), none⟩])
   (.seq
    (.block 0
     (.seq
      (.ops [
        ⟨(some 17), (.mov (.t 5)), none⟩,
        ⟨(some 18), (.bin .eql (.t 17) (.c (.int .i64 0))), none⟩,
        ⟨(some 19), (.mov (.t 18)), none⟩,
        ⟨(some 20), (.mov (.t 1)), (some (19, false))⟩,
        ⟨(some 21), (.mov (.t 0)), (some (19, false))⟩,
        ⟨(some 22), (.bin .eql (.t 20) (.t 21)), (some (19, false))⟩,
        ⟨(some 23), (.pick (.t 19) (.c (.bool true)) (.t 22)), none⟩,
        ⟨(some 16), (.mov (.t 23)), none⟩])
      (.cond (.t 16)
       (.seq
        (.ops [
          ⟨(some 4), (.mov (.c (.int .i64 0))), none⟩])
        .ret)
       (.seq
        (.ops [
          ⟨(some 25), (.mov (.t 5)), none⟩,
          ⟨(some 26), (.bin .eql (.t 25) (.c (.int .i64 1))), none⟩,
          ⟨(some 24), (.mov (.t 26)), none⟩])
        (.cond (.t 24)
         (.seq
          (.ops [
            ⟨(some 27), (.mov (.t 0)), none⟩,
            ⟨(some 28), (.mov (.t 1)), none⟩,
            ⟨(some 29), (.idx (.t 28) (.c (.int .i64 0))), none⟩,
            ⟨(some 30), (.call (.f 91) [(.t 27), (.t 29)]), none⟩,
            ⟨(some 4), (.mov (.t 30)), none⟩])
          .ret)
         (.seq
          (.ops [
            ⟨(some 32), (.mov (.t 5)), none⟩,
            ⟨(some 33), (.mov (.t 0)), none⟩,
            ⟨(some 34), (.lenS (.t 33)), none⟩,
            ⟨(some 35), (.bin .geq (.t 32) (.t 34)), none⟩,
            ⟨(some 31), (.mov (.t 35)), none⟩])
          (.cond (.t 31)
           (.seq
            (.ops [
              ⟨(some 4), (.mov (.c (.int .i64 (-1)))), none⟩])
            .ret)
           (.seq
            (.ops [
              ⟨(some 37), (.mov (.t 5)), none⟩,
              ⟨(some 38), (.load1 (.g 0)), none⟩,
              ⟨(some 39), (.bin .leq (.t 37) (.t 38)), none⟩,
              ⟨(some 40), (.mov (.t 39)), none⟩,
              ⟨(some 41), (.mov (.t 0)), (some (40, true))⟩,
              ⟨(some 42), (.lenS (.t 41)), (some (40, true))⟩,
              ⟨(some 43), (.bin .leq (.t 42) (.c (.int .i64 64))), (some (40, true))⟩,
              ⟨(some 44), (.pick (.t 40) (.t 43) (.c (.bool false))), none⟩,
              ⟨(some 36), (.mov (.t 44)), none⟩])
            (.cond (.t 36)
             (.seq
              (.ops [
                ⟨(some 45), (.mov (.t 0)), none⟩,
                ⟨(some 46), (.mov (.t 1)), none⟩,
                ⟨(some 47), (.call (.f 92) [(.t 45), (.t 46)]), none⟩,
                ⟨(some 4), (.mov (.t 47)), none⟩])
              .ret)
             .skip)))))))))
    (.seq
     (.ops [
       ⟨(some 48), (.mov (.t 1)), none⟩,
       ⟨(some 49), (.idx (.t 48) (.c (.int .i64 0))), none⟩,
       ⟨(some 6), (.mov (.t 49)), none⟩])
     (.seq
      (.ops [
        ⟨(some 50), (.mov (.t 1)), none⟩,
        ⟨(some 51), (.idx (.t 50) (.c (.int .i64 1))), none⟩,
        ⟨(some 7), (.mov (.t 51)), none⟩])
      (.seq
       (.ops [
         ⟨(some 8), (.mov (.c (.int .i64 0))), none⟩])
       (.seq
        (.ops [
          ⟨(some 52), (.mov (.t 0)), none⟩,
          ⟨(some 53), (.lenS (.t 52)), none⟩,
          ⟨(some 54), (.mov (.t 5)), none⟩,
          ⟨(some 55), (.bin .sub (.t 53) (.t 54)), none⟩,
          ⟨(some 56), (.bin .add (.t 55) (.c (.int .i64 1))), none⟩,
          ⟨(some 9), (.mov (.t 56)), none⟩])
        (.seq
         (.ops [
           ⟨(some 10), (.mov (.c (.int .i64 0))), none⟩])
         (.seq
          (.block 1
           (.loop
            (.seq
             (.seq
              (.ops [
                ⟨(some 57), (.mov (.t 8)), none⟩,
                ⟨(some 58), (.mov (.t 9)), none⟩,
                ⟨(some 59), (.bin .lss (.t 57) (.t 58)), none⟩])
              (.cond (.t 59)
               .skip
               (.exit 1)))
             (.block 2
              (.seq
               (.seq
                (.ops [
                  ⟨(some 60), (.mov (.t 0)), none⟩,
                  ⟨(some 61), (.mov (.t 8)), none⟩,
                  ⟨(some 62), (.idx (.t 60) (.t 61)), none⟩,
                  ⟨(some 63), (.mov (.t 6)), none⟩,
                  ⟨(some 64), (.bin .neq (.t 62) (.t 63)), none⟩])
                (.cond (.t 64)
                 (.seq
                  (.ops [
                    ⟨(some 65), (.mov (.t 0)), none⟩,
                    ⟨(some 66), (.mov (.t 8)), none⟩,
                    ⟨(some 67), (.bin .add (.t 66) (.c (.int .i64 1))), none⟩,
                    ⟨(some 68), (.mov (.t 9)), none⟩,
                    ⟨(some 69), (.sliceS (.t 65) (some (.t 67)) (some (.t 68))), none⟩,
                    ⟨(some 70), (.mov (.t 6)), none⟩,
                    ⟨(some 71), (.call (.f 91) [(.t 69), (.t 70)]), none⟩,
                    ⟨(some 11), (.mov (.t 71)), none⟩])
                  (.seq
                   (.seq
                    (.ops [
                      ⟨(some 72), (.mov (.t 11)), none⟩,
                      ⟨(some 73), (.bin .lss (.t 72) (.c (.int .i64 0))), none⟩])
                    (.cond (.t 73)
                     (.seq
                      (.ops [
                        ⟨(some 4), (.mov (.c (.int .i64 (-1)))), none⟩])
                      .ret)
                     .skip))
                   (.ops [
                     ⟨(some 74), (.mov (.t 8)), none⟩,
                     ⟨(some 75), (.mov (.t 11)), none⟩,
                     ⟨(some 76), (.bin .add (.t 75) (.c (.int .i64 1))), none⟩,
                     ⟨(some 77), (.bin .add (.t 74) (.t 76)), none⟩,
                     ⟨(some 8), (.mov (.t 77)), none⟩])))
                 .skip))
               (.seq
                (.seq
                 (.ops [
                   ⟨(some 78), (.mov (.t 0)), none⟩,
                   ⟨(some 79), (.mov (.t 8)), none⟩,
                   ⟨(some 80), (.bin .add (.t 79) (.c (.int .i64 1))), none⟩,
                   ⟨(some 81), (.idx (.t 78) (.t 80)), none⟩,
                   ⟨(some 82), (.mov (.t 7)), none⟩,
                   ⟨(some 83), (.bin .eql (.t 81) (.t 82)), none⟩,
                   ⟨(some 84), (.mov (.t 83)), none⟩,
                   ⟨(some 85), (.mov (.t 0)), (some (84, true))⟩,
                   ⟨(some 86), (.mov (.t 8)), (some (84, true))⟩,
                   ⟨(some 87), (.mov (.t 8)), (some (84, true))⟩,
                   ⟨(some 88), (.mov (.t 5)), (some (84, true))⟩,
                   ⟨(some 89), (.bin .add (.t 87) (.t 88)), (some (84, true))⟩,
                   ⟨(some 90), (.sliceS (.t 85) (some (.t 86)) (some (.t 89))), (some (84, true))⟩,
                   ⟨(some 91), (.mov (.t 1)), (some (84, true))⟩,
                   ⟨(some 92), (.bin .eql (.t 90) (.t 91)), (some (84, true))⟩,
                   ⟨(some 93), (.pick (.t 84) (.t 92) (.c (.bool false))), none⟩])
                 (.cond (.t 93)
                  (.seq
                   (.ops [
                     ⟨(some 94), (.mov (.t 8)), none⟩,
                     ⟨(some 4), (.mov (.t 94)), none⟩])
                   .ret)
                  .skip))
                (.seq
                 (.ops [
                   ⟨(some 95), (.mov (.t 8)), none⟩,
                   ⟨(some 96), (.bin .add (.t 95) (.c (.int .i64 1))), none⟩,
                   ⟨(some 8), (.mov (.t 96)), none⟩])
                 (.seq
                  (.ops [
                    ⟨(some 97), (.mov (.t 10)), none⟩,
                    ⟨(some 98), (.bin .add (.t 97) (.c (.int .i64 1))), none⟩,
                    ⟨(some 10), (.mov (.t 98)), none⟩])
                  (.seq
                   (.ops [
                     ⟨(some 99), (.mov (.t 5)), none⟩,
                     ⟨(some 100), (.load1 (.g 0)), none⟩,
                     ⟨(some 101), (.bin .leq (.t 99) (.t 100)), none⟩,
                     ⟨(some 102), (.mov (.t 101)), none⟩,
                     ⟨(some 103), (.mov (.t 10)), (some (102, true))⟩,
                     ⟨(some 104), (.mov (.t 8)), (some (102, true))⟩,
                     ⟨(some 105), (.call (.f 93) [(.t 104)]), (some (102, true))⟩,
                     ⟨(some 106), (.bin .gtr (.t 103) (.t 105)), (some (102, true))⟩,
                     ⟨(some 107), (.pick (.t 102) (.t 106) (.c (.bool false))), none⟩])
                   (.cond (.t 107)
                    (.seq
                     (.ops [
                       ⟨(some 108), (.mov (.t 0)), none⟩,
                       ⟨(some 109), (.mov (.t 8)), none⟩,
                       ⟨(some 110), (.sliceS (.t 108) (some (.t 109)) none), none⟩,
                       ⟨(some 111), (.mov (.t 1)), none⟩,
                       ⟨(some 112), (.call (.f 92) [(.t 110), (.t 111)]), none⟩,
                       ⟨(some 12), (.mov (.t 112)), none⟩])
                     (.seq
                      (.seq
                       (.ops [
                         ⟨(some 113), (.mov (.t 12)), none⟩,
                         ⟨(some 114), (.bin .geq (.t 113) (.c (.int .i64 0))), none⟩])
                       (.cond (.t 114)
                        (.seq
                         (.ops [
                           ⟨(some 115), (.mov (.t 12)), none⟩,
                           ⟨(some 116), (.mov (.t 8)), none⟩,
                           ⟨(some 117), (.bin .add (.t 115) (.t 116)), none⟩,
                           ⟨(some 4), (.mov (.t 117)), none⟩])
                         .ret)
                        .skip))
                      (.seq
                       (.ops [
                         ⟨(some 4), (.mov (.c (.int .i64 (-1)))), none⟩])
                       .ret)))
                    (.seq
                     (.ops [
                       ⟨(some 118), (.mov (.t 5)), none⟩,
                       ⟨(some 119), (.load1 (.g 0)), none⟩,
                       ⟨(some 120), (.bin .gtr (.t 118) (.t 119)), none⟩,
                       ⟨(some 121), (.mov (.t 120)), none⟩,
                       ⟨(some 122), (.mov (.t 10)), (some (121, true))⟩,
                       ⟨(some 123), (.mov (.t 8)), (some (121, true))⟩,
                       ⟨(some 124), (.bin .shr (.t 123) (.c (.int .u64 4))), (some (121, true))⟩,
                       ⟨(some 125), (.bin .add (.c (.int .i64 4)) (.t 124)), (some (121, true))⟩,
                       ⟨(some 126), (.bin .geq (.t 122) (.t 125)), (some (121, true))⟩,
                       ⟨(some 127), (.pick (.t 121) (.t 126) (.c (.bool false))), none⟩,
                       ⟨(some 128), (.mov (.t 127)), none⟩,
                       ⟨(some 129), (.mov (.t 8)), (some (128, true))⟩,
                       ⟨(some 130), (.mov (.t 9)), (some (128, true))⟩,
                       ⟨(some 131), (.bin .lss (.t 129) (.t 130)), (some (128, true))⟩,
                       ⟨(some 132), (.pick (.t 128) (.t 131) (.c (.bool false))), none⟩])
                     (.cond (.t 132)
                      (.seq
                       (.ops [
                         ⟨(some 133), (.mov (.t 0)), none⟩,
                         ⟨(some 134), (.mov (.t 8)), none⟩,
                         ⟨(some 135), (.sliceS (.t 133) (some (.t 134)) none), none⟩,
                         ⟨(some 136), (.mov (.t 1)), none⟩,
                         ⟨(some 137), (.call (.f 94) [(.t 135), (.t 136)]), none⟩,
                         ⟨(some 13), (.mov (.t 137)), none⟩])
                       (.seq
                        (.seq
                         (.ops [
                           ⟨(some 138), (.mov (.t 13)), none⟩,
                           ⟨(some 139), (.bin .lss (.t 138) (.c (.int .i64 0))), none⟩])
                         (.cond (.t 139)
                          (.seq
                           (.ops [
                             ⟨(some 4), (.mov (.c (.int .i64 (-1)))), none⟩])
                           .ret)
                          .skip))
                        (.seq
                         (.ops [
                           ⟨(some 140), (.mov (.t 8)), none⟩,
                           ⟨(some 141), (.mov (.t 13)), none⟩,
                           ⟨(some 142), (.bin .add (.t 140) (.t 141)), none⟩,
                           ⟨(some 4), (.mov (.t 142)), none⟩])
                         .ret)))
                      .skip))))))))))))
          (.seq
           (.ops [
             ⟨(some 4), (.mov (.c (.int .i64 (-1)))), none⟩])
           .ret))))))))))

/- "strings.Index" params { toList := [9, 9] } results { toList := [Go.ResultVar.tmp 4] } -/
def x48 : XC :=
 (.seq
  (.ops [
    ⟨(some 4), (.mov (.c (.int .i64 0))), none⟩])
  (.seq
   (.ops [
     ⟨(some 5), (.mov (.t 0)), none⟩,
     ⟨(some 6), (.mov (.t 1)), none⟩,
     ⟨(some 7), (.call (.f 75) [(.t 5), (.t 6)]), none⟩,
     ⟨(some 4), (.mov (.t 7)), none⟩])
   .ret))

/- "strings.Contains" params { toList := [9, 9] } results { toList := [Go.ResultVar.tmp 4] } -/
def x37 : XC :=
 (.seq
  (.ops [
    ⟨(some 4), (.mov (.c (.bool false))), none⟩])
  (.seq
   (.ops [
     ⟨(some 5), (.mov (.t 0)), none⟩,
     ⟨(some 6), (.mov (.t 1)), none⟩,
     ⟨(some 7), (.call (.f 65) [(.t 5), (.t 6)]), none⟩,
     ⟨(some 8), (.bin .geq (.t 7) (.c (.int .i64 0))), none⟩,
     ⟨(some 4), (.mov (.t 8)), none⟩])
   .ret))

section
variable {E : Env}
theorem sIndexByte_pure (hP : E.P = Tryz.prog) (s : List UInt8) (c : Int) : XPure E 91 [.str s, .int .u8 c] (.int .i64 (Lib.indexByte s c.toNat.toUInt8)) := by
  refine xpure1 (n := Tryz.f91.ntmps) (c := x59) (t := 4) (by rw [hP]; rfl) (by rw [hP]; rfl) (by decide) (Nat.le_of_ble_eq_true rfl) ?_
  generalize hρ : entry _ = ρ
  have h0 : ρ 0 = .str s := by rw [← hρ]; rfl
  have h1 : ρ 1 = .int .u8 c := by rw [← hρ]; rfl
  clear hρ
  unfold x59
  simp only [h0, h1, go_sem, Nat.reduceEqDiff, reduceIte, Int.reduceEq, Int.reduceLT, Int.reduceLE, Nat.reduceAdd, Nat.reduceLT, Nat.reduceLeDiff, Int.reduceToNat, Int.reduceSub, Int.reduceAdd, Int.reduceNeg]
  refine xcall_ext (ext_indexByte (E := E.noPan) (f := 108) (fn := Tryz.f108) (show E.P.funcs[108]? = _ by rw [hP]; rfl) (by rfl) (by rfl) (by rfl) (by rfl) s c) ?_
  try simp only [h0, h1, go_sem, Nat.reduceEqDiff, reduceIte, Int.reduceEq, Int.reduceLT, Int.reduceLE, Nat.reduceAdd, Nat.reduceLT, Nat.reduceLeDiff, Int.reduceToNat, Int.reduceSub, Int.reduceAdd, Int.reduceNeg]
  rfl

theorem toU8 {c : UInt8} : c.toNat.toUInt8 = c := UInt8.ofNat_toNat
theorem indexByte_none {s : List UInt8} {c : UInt8} (h : c ∉ s) : Lib.indexByte s c = -1 := by
  induction s with
  | nil => rfl
  | cons b s ih =>
    simp only [List.mem_cons, not_or] at h
    have hb : (b == c) = false := by simpa using fun h' => h.1 h'.symm
    rw [Lib.indexByte, hb, ih h.2]; rfl

theorem maxLen_run (hP : E.P = Tryz.prog) {m : Int} (hm : E.gl 0 = some [.int .i64 m]) : ∀ w, E.G w → Extern.BytealgIndex.maxLen.run E.P w = .ok m w := by
  intro w hG
  obtain ⟨u, hu1, hu2⟩ := E.hgl w 0 _ hG hm 0 _ rfl
  have hu : u = .int .i64 m := by have := hu2 ⟨w, fun _ => ⟨0, 0, 0⟩, [], fun _ => False⟩; cases this; rfl
  subst hu
  unfold Extern.BytealgIndex.maxLen
  rw [Sem.run_bind, run_globalAddr (g := 0) (by rw [hP]; kernel_rfl)]
  simp only [Sem.run_bind, Result.andThen_ok, run_load, hu1, run_asInt]

/-- strings.Index at two bytes, the first of which is not there. -/
theorem sIndex2_pure (hP : E.P = Tryz.prog) {m : Int} (hm : E.gl 0 = some [.int .i64 m]) (s : List UInt8) (c d : UInt8) (hs : 3 ≤ s.length) (hs' : s.length ≤ 64) (hc : c ∉ s) :
    XPure E 75 [.str s, .str [c, d]] (.int .i64 (-1)) := by
  refine xpure1 (n := Tryz.f75.ntmps) (c := x54) (t := 4) (by rw [hP]; rfl) (by rw [hP]; rfl) (by decide) (Nat.le_of_ble_eq_true rfl) ?_
  generalize hρ : entry _ = ρ
  have h0 : ρ 0 = .str s := by rw [← hρ]; rfl
  have h1 : ρ 1 = .str [c, d] := by rw [← hρ]; rfl
  clear hρ
  unfold x54
  have e1 : ((s.length : Int) ≤ 2) = False := by simp; omega
  have e2 : ((s.length : Int) ≤ 64) = True := by simp; omega
  simp only [h0, h1, go_sem, Nat.reduceEqDiff, reduceIte, Int.reduceEq, Int.reduceLT, Int.reduceLE, Nat.reduceAdd, Nat.reduceLT, Nat.reduceLeDiff, Int.reduceToNat, Int.reduceSub, Int.reduceAdd, Int.reduceNeg]
  have hcd : ∀ (i : Nat), i + 2 ≤ s.length → ((s.drop i).take 2) ≠ [c, d] := by
    intro i hi he
    refine hc ?_
    have h1 : c ∈ (s.drop i).take 2 := by rw [he]; simp
    exact List.mem_of_mem_drop (List.mem_of_mem_take h1)
  repeat (refine s_mg (by simp only [h0, h1, go_sem, Nat.reduceEqDiff, reduceIte, Int.reduceEq, Int.reduceLT, Int.reduceLE, Nat.reduceAdd, Nat.reduceLT, Nat.reduceLeDiff, Int.reduceToNat, Int.reduceSub, Int.reduceAdd, Int.reduceNeg]; try rfl) ?_; simp only [cut_g, cut_t, cut_none, cut_out, memN_cons, memN_nil, Nat.reduceEqDiff, reduceIte, List.nil_append, List.cons_append, not_false_eq_true]; refine ex_merge rfl (by simp only [h0, h1, go_sem, Nat.reduceEqDiff, reduceIte, Int.reduceEq, Int.reduceLT, Int.reduceLE, Nat.reduceAdd, Nat.reduceLT, Nat.reduceLeDiff, Int.reduceToNat, Int.reduceSub, Int.reduceAdd, Int.reduceNeg]) (by intro hb; simp only [hb, h0, h1, go_sem, Nat.reduceEqDiff, reduceIte, Int.reduceEq, Int.reduceLT, Int.reduceLE, Nat.reduceAdd, Nat.reduceLT, Nat.reduceLeDiff, Int.reduceToNat, Int.reduceSub, Int.reduceAdd, Int.reduceNeg]; (repeat (refine s_mg (by simp only [h0, h1, go_sem, Nat.reduceEqDiff, reduceIte, Int.reduceEq, Int.reduceLT, Int.reduceLE, Nat.reduceAdd, Nat.reduceLT, Nat.reduceLeDiff, Int.reduceToNat, Int.reduceSub, Int.reduceAdd, Int.reduceNeg]; try rfl) ?_; simp only [cut_g, cut_t, cut_none, cut_out, memN_cons, memN_nil, Nat.reduceEqDiff, reduceIte, List.nil_append, List.cons_append, not_false_eq_true]; refine ex_merge rfl (by simp only [h0, h1, go_sem, Nat.reduceEqDiff, reduceIte, Int.reduceEq, Int.reduceLT, Int.reduceLE, Nat.reduceAdd, Nat.reduceLT, Nat.reduceLeDiff, Int.reduceToNat, Int.reduceSub, Int.reduceAdd, Int.reduceNeg]) (by intro hb; simp only [hb, h0, h1, go_sem, Nat.reduceEqDiff, reduceIte, Int.reduceEq, Int.reduceLT, Int.reduceLE, Nat.reduceAdd, Nat.reduceLT, Nat.reduceLeDiff, Int.reduceToNat, Int.reduceSub, Int.reduceAdd, Int.reduceNeg]; (repeat (refine s_mg (by simp only [h0, h1, go_sem, Nat.reduceEqDiff, reduceIte, Int.reduceEq, Int.reduceLT, Int.reduceLE, Nat.reduceAdd, Nat.reduceLT, Nat.reduceLeDiff, Int.reduceToNat, Int.reduceSub, Int.reduceAdd, Int.reduceNeg]; try rfl) ?_; simp only [cut_g, cut_t, cut_none, cut_out, memN_cons, memN_nil, Nat.reduceEqDiff, reduceIte, List.nil_append, List.cons_append, not_false_eq_true]; refine ex_merge rfl (by simp only [h0, h1, go_sem, Nat.reduceEqDiff, reduceIte, Int.reduceEq, Int.reduceLT, Int.reduceLE, Nat.reduceAdd, Nat.reduceLT, Nat.reduceLeDiff, Int.reduceToNat, Int.reduceSub, Int.reduceAdd, Int.reduceNeg]) (by intro hb; simp only [hb, h0, h1, go_sem, Nat.reduceEqDiff, reduceIte, Int.reduceEq, Int.reduceLT, Int.reduceLE, Nat.reduceAdd, Nat.reduceLT, Nat.reduceLeDiff, Int.reduceToNat, Int.reduceSub, Int.reduceAdd, Int.reduceNeg]; first | exact rfl | exact ⟨rfl, rfl⟩) (fun vs => ?_); simp only [h0, h1, go_sem, Nat.reduceEqDiff, reduceIte, Int.reduceEq, Int.reduceLT, Int.reduceLE, Nat.reduceAdd, Nat.reduceLT, Nat.reduceLeDiff, Int.reduceToNat, Int.reduceSub, Int.reduceAdd, Int.reduceNeg])); first | exact rfl | exact ⟨rfl, rfl⟩) (fun vs => ?_); simp only [h0, h1, go_sem, Nat.reduceEqDiff, reduceIte, Int.reduceEq, Int.reduceLT, Int.reduceLE, Nat.reduceAdd, Nat.reduceLT, Nat.reduceLeDiff, Int.reduceToNat, Int.reduceSub, Int.reduceAdd, Int.reduceNeg])); first | exact rfl | exact ⟨rfl, rfl⟩) (fun vs => ?_); simp only [h0, h1, go_sem, Nat.reduceEqDiff, reduceIte, Int.reduceEq, Int.reduceLT, Int.reduceLE, Nat.reduceAdd, Nat.reduceLT, Nat.reduceLeDiff, Int.reduceToNat, Int.reduceSub, Int.reduceAdd, Int.reduceNeg])
  have e0 : ([c, d] = s) = False := by simp; rintro rfl; simp at hs
  simp only [h0, h1, e0, e1, e2, o_load1g (E := E.noPan) hm, go_sem, Nat.reduceEqDiff, reduceIte, Int.reduceEq, Int.reduceLT, Int.reduceLE, Nat.reduceAdd, Nat.reduceLT, Nat.reduceLeDiff, Int.reduceToNat, Int.reduceSub, Int.reduceAdd, Int.reduceNeg]

  by_cases hm2 : (2 : Int) ≤ m
  · simp only [h0, h1, hm2, e2, o_load1g (E := E.noPan) hm, go_sem, Nat.reduceEqDiff, reduceIte, Int.reduceEq, Int.reduceLT, Int.reduceLE, Nat.reduceAdd, Nat.reduceLT, Nat.reduceLeDiff, Int.reduceToNat, Int.reduceSub, Int.reduceAdd, Int.reduceNeg]
    refine xcall_ext (ext_indexNone (E := E.noPan) (f := 92) (fn := Tryz.f92) (show E.P.funcs[92]? = _ by rw [hP]; rfl) (by rfl) (by rfl) (by rfl) (by rfl) (maxLen_run hP hm) s [c, d] (by simp) (by simpa using hm2) (by omega) (by simpa using hcd)) ?_
    try simp only [h0, h1, go_sem, Nat.reduceEqDiff, reduceIte, Int.reduceEq, Int.reduceLT, Int.reduceLE, Nat.reduceAdd, Nat.reduceLT, Nat.reduceLeDiff, Int.reduceToNat, Int.reduceSub, Int.reduceAdd, Int.reduceNeg]
    rfl
  · simp only [h0, h1, hm2, e2, o_load1g (E := E.noPan) hm, go_sem, Nat.reduceEqDiff, reduceIte, Int.reduceEq, Int.reduceLT, Int.reduceLE, Nat.reduceAdd, Nat.reduceLT, Nat.reduceLeDiff, Int.reduceToNat, Int.reduceSub, Int.reduceAdd, Int.reduceNeg]
    refine s_loop1 ?_
    have e3 : IntKind.i64.wrap ((s.length : Int) - 2) = (s.length : Int) - 2 := wrap64 (by omega) (by omega)
    have e4 : IntKind.i64.wrap ((s.length : Int) - 2 + 1) = (s.length : Int) - 2 + 1 := wrap64 (by omega) (by omega)
    have e5 : (0 < (s.length : Int) - 2 + 1) = True := by simp; omega
    have e6 : (0 < (s.length : Int)) = True := by simp; omega
    have e7 : (((s.getD 0 0).toNat : Int) = (c.toNat : Int)) = False := by
      simp only [eq_iff_iff, iff_false]
      intro h
      have h2 : s.getD 0 0 = c := UInt8.toNat_inj.1 (by omega)
      refine hc ?_
      rw [← h2, List.getD_eq_getElem?_getD, List.getElem?_eq_getElem (by omega)]
      exact List.getElem_mem _
    have e8 : IntKind.i64.wrap 1 = 1 := wrap64 (by omega) (by omega)
    simp only [h0, h1, e3, e4, e5, e6, e7, e8, Int.zero_add, Int.reduceToNat, go_sem, Nat.reduceEqDiff, reduceIte, Int.reduceEq, Int.reduceLT, Int.reduceLE, Nat.reduceAdd, Nat.reduceLT, Nat.reduceLeDiff, Int.reduceToNat, Int.reduceSub, Int.reduceAdd, Int.reduceNeg]
    refine ⟨by omega, by omega, by omega, ?_⟩
    refine xcall_pure (args' := [.str _, .int .u8 c.toNat]) rfl (sIndexByte_pure hP _ _) rfl ?_
    have e9 : Lib.indexByte (List.drop 1 (List.take ((s.length : Int) - 2 + 1).toNat s)) ((c.toNat : Int).toNat.toUInt8) = -1 := by
      rw [Int.toNat_natCast, toU8]
      exact indexByte_none fun h => hc (List.mem_of_mem_take (List.mem_of_mem_drop h))
    rw [e9]
    simp only [h0, h1, go_sem, Nat.reduceEqDiff, reduceIte, Int.reduceEq, Int.reduceLT, Int.reduceLE, Nat.reduceAdd, Nat.reduceLT, Nat.reduceLeDiff, Int.reduceToNat, Int.reduceSub, Int.reduceAdd, Int.reduceNeg]
    rfl

/-- strings.Index at one byte. -/
theorem sIndex1_pure (hP : E.P = Tryz.prog) (s : List UInt8) (c : UInt8) : XPure E 75 [.str s, .str [c]] (.int .i64 (Lib.indexByte s c)) := by
  refine xpure1 (n := Tryz.f75.ntmps) (c := x54) (t := 4) (by rw [hP]; rfl) (by rw [hP]; rfl) (by decide) (Nat.le_of_ble_eq_true rfl) ?_
  generalize hρ : entry _ = ρ
  have h0 : ρ 0 = .str s := by rw [← hρ]; rfl
  have h1 : ρ 1 = .str [c] := by rw [← hρ]; rfl
  clear hρ
  unfold x54
  simp only [h0, h1, go_sem, Nat.reduceEqDiff, reduceIte, Int.reduceEq, Int.reduceLT, Int.reduceLE, Nat.reduceAdd, Nat.reduceLT, Nat.reduceLeDiff, Int.reduceToNat, Int.reduceSub, Int.reduceAdd, Int.reduceNeg]
  repeat (refine s_mg (by simp only [h0, h1, go_sem, Nat.reduceEqDiff, reduceIte, Int.reduceEq, Int.reduceLT, Int.reduceLE, Nat.reduceAdd, Nat.reduceLT, Nat.reduceLeDiff, Int.reduceToNat, Int.reduceSub, Int.reduceAdd, Int.reduceNeg]; try rfl) ?_; simp only [cut_g, cut_t, cut_none, cut_out, memN_cons, memN_nil, Nat.reduceEqDiff, reduceIte, List.nil_append, List.cons_append, not_false_eq_true]; refine ex_merge rfl (by simp only [h0, h1, go_sem, Nat.reduceEqDiff, reduceIte, Int.reduceEq, Int.reduceLT, Int.reduceLE, Nat.reduceAdd, Nat.reduceLT, Nat.reduceLeDiff, Int.reduceToNat, Int.reduceSub, Int.reduceAdd, Int.reduceNeg]) (by intro hb; simp only [hb, h0, h1, go_sem, Nat.reduceEqDiff, reduceIte, Int.reduceEq, Int.reduceLT, Int.reduceLE, Nat.reduceAdd, Nat.reduceLT, Nat.reduceLeDiff, Int.reduceToNat, Int.reduceSub, Int.reduceAdd, Int.reduceNeg]; (repeat (refine s_mg (by simp only [h0, h1, go_sem, Nat.reduceEqDiff, reduceIte, Int.reduceEq, Int.reduceLT, Int.reduceLE, Nat.reduceAdd, Nat.reduceLT, Nat.reduceLeDiff, Int.reduceToNat, Int.reduceSub, Int.reduceAdd, Int.reduceNeg]; try rfl) ?_; simp only [cut_g, cut_t, cut_none, cut_out, memN_cons, memN_nil, Nat.reduceEqDiff, reduceIte, List.nil_append, List.cons_append, not_false_eq_true]; refine ex_merge rfl (by simp only [h0, h1, go_sem, Nat.reduceEqDiff, reduceIte, Int.reduceEq, Int.reduceLT, Int.reduceLE, Nat.reduceAdd, Nat.reduceLT, Nat.reduceLeDiff, Int.reduceToNat, Int.reduceSub, Int.reduceAdd, Int.reduceNeg]) (by intro hb; simp only [hb, h0, h1, go_sem, Nat.reduceEqDiff, reduceIte, Int.reduceEq, Int.reduceLT, Int.reduceLE, Nat.reduceAdd, Nat.reduceLT, Nat.reduceLeDiff, Int.reduceToNat, Int.reduceSub, Int.reduceAdd, Int.reduceNeg]; (repeat (refine s_mg (by simp only [h0, h1, go_sem, Nat.reduceEqDiff, reduceIte, Int.reduceEq, Int.reduceLT, Int.reduceLE, Nat.reduceAdd, Nat.reduceLT, Nat.reduceLeDiff, Int.reduceToNat, Int.reduceSub, Int.reduceAdd, Int.reduceNeg]; try rfl) ?_; simp only [cut_g, cut_t, cut_none, cut_out, memN_cons, memN_nil, Nat.reduceEqDiff, reduceIte, List.nil_append, List.cons_append, not_false_eq_true]; refine ex_merge rfl (by simp only [h0, h1, go_sem, Nat.reduceEqDiff, reduceIte, Int.reduceEq, Int.reduceLT, Int.reduceLE, Nat.reduceAdd, Nat.reduceLT, Nat.reduceLeDiff, Int.reduceToNat, Int.reduceSub, Int.reduceAdd, Int.reduceNeg]) (by intro hb; simp only [hb, h0, h1, go_sem, Nat.reduceEqDiff, reduceIte, Int.reduceEq, Int.reduceLT, Int.reduceLE, Nat.reduceAdd, Nat.reduceLT, Nat.reduceLeDiff, Int.reduceToNat, Int.reduceSub, Int.reduceAdd, Int.reduceNeg]; first | exact rfl | exact ⟨rfl, rfl⟩) (fun vs => ?_); simp only [h0, h1, go_sem, Nat.reduceEqDiff, reduceIte, Int.reduceEq, Int.reduceLT, Int.reduceLE, Nat.reduceAdd, Nat.reduceLT, Nat.reduceLeDiff, Int.reduceToNat, Int.reduceSub, Int.reduceAdd, Int.reduceNeg])); first | exact rfl | exact ⟨rfl, rfl⟩) (fun vs => ?_); simp only [h0, h1, go_sem, Nat.reduceEqDiff, reduceIte, Int.reduceEq, Int.reduceLT, Int.reduceLE, Nat.reduceAdd, Nat.reduceLT, Nat.reduceLeDiff, Int.reduceToNat, Int.reduceSub, Int.reduceAdd, Int.reduceNeg])); first | exact rfl | exact ⟨rfl, rfl⟩) (fun vs => ?_); simp only [h0, h1, go_sem, Nat.reduceEqDiff, reduceIte, Int.reduceEq, Int.reduceLT, Int.reduceLE, Nat.reduceAdd, Nat.reduceLT, Nat.reduceLeDiff, Int.reduceToNat, Int.reduceSub, Int.reduceAdd, Int.reduceNeg])
  refine s_cond (b := decide _) (by simp only [h0, h1, go_sem, Nat.reduceEqDiff, reduceIte, Int.reduceEq, Int.reduceLT, Int.reduceLE, Nat.reduceAdd, Nat.reduceLT, Nat.reduceLeDiff, Int.reduceToNat, Int.reduceSub, Int.reduceAdd, Int.reduceNeg]; try rfl) ?_ ?_ <;> intro he <;> simp only [he, h0, h1, go_sem, Nat.reduceEqDiff, reduceIte, Int.reduceEq, Int.reduceLT, Int.reduceLE, Nat.reduceAdd, Nat.reduceLT, Nat.reduceLeDiff, Int.reduceToNat, Int.reduceSub, Int.reduceAdd, Int.reduceNeg]
  · rw [decide_eq_true_eq] at he
    subst he
    have e1 : Lib.indexByte [c] c = 0 := by rw [Lib.indexByte]; simp
    rw [e1]; rfl
  · refine xcall_pure (args' := [.str s, .int .u8 c.toNat]) rfl (sIndexByte_pure hP _ _) rfl ?_
    rw [Int.toNat_natCast, toU8]
    try simp only [h0, h1, go_sem, Nat.reduceEqDiff, reduceIte, Int.reduceEq, Int.reduceLT, Int.reduceLE, Nat.reduceAdd, Nat.reduceLT, Nat.reduceLeDiff, Int.reduceToNat, Int.reduceSub, Int.reduceAdd, Int.reduceNeg]
    rfl

theorem index_pure (hP : E.P = Tryz.prog) {s p : List UInt8} {r : Int} (h : XPure E 75 [.str s, .str p] (.int .i64 r)) : XPure E 65 [.str s, .str p] (.int .i64 r) := by
  refine xpure1 (n := Tryz.f65.ntmps) (c := x48) (t := 4) (by rw [hP]; rfl) (by rw [hP]; rfl) (by decide) (Nat.le_of_ble_eq_true rfl) ?_
  generalize hρ : entry _ = ρ
  have h0 : ρ 0 = .str s := by rw [← hρ]; rfl
  have h1 : ρ 1 = .str p := by rw [← hρ]; rfl
  clear hρ
  unfold x48
  simp only [h0, h1, go_sem, Nat.reduceEqDiff, reduceIte, Int.reduceEq, Int.reduceLT, Int.reduceLE, Nat.reduceAdd, Nat.reduceLT, Nat.reduceLeDiff, Int.reduceToNat, Int.reduceSub, Int.reduceAdd, Int.reduceNeg]
  refine xcall_pure (args' := [.str s, .str p]) rfl h rfl ?_
  try simp only [h0, h1, go_sem, Nat.reduceEqDiff, reduceIte, Int.reduceEq, Int.reduceLT, Int.reduceLE, Nat.reduceAdd, Nat.reduceLT, Nat.reduceLeDiff, Int.reduceToNat, Int.reduceSub, Int.reduceAdd, Int.reduceNeg]
  rfl

theorem contains_pure (hP : E.P = Tryz.prog) {s p : List UInt8} {r : Int} (h : XPure E 75 [.str s, .str p] (.int .i64 r)) : XPure E 66 [.str s, .str p] (.bool (decide (0 ≤ r))) := by
  refine xpure1 (n := Tryz.f66.ntmps) (c := x37) (t := 4) (by rw [hP]; rfl) (by rw [hP]; rfl) (by decide) (Nat.le_of_ble_eq_true rfl) ?_
  generalize hρ : entry _ = ρ
  have h0 : ρ 0 = .str s := by rw [← hρ]; rfl
  have h1 : ρ 1 = .str p := by rw [← hρ]; rfl
  clear hρ
  unfold x37
  simp only [h0, h1, go_sem, Nat.reduceEqDiff, reduceIte, Int.reduceEq, Int.reduceLT, Int.reduceLE, Nat.reduceAdd, Nat.reduceLT, Nat.reduceLeDiff, Int.reduceToNat, Int.reduceSub, Int.reduceAdd, Int.reduceNeg]
  refine xcall_pure (args' := [.str s, .str p]) rfl (index_pure hP h) rfl ?_
  try simp only [h0, h1, go_sem, Nat.reduceEqDiff, reduceIte, Int.reduceEq, Int.reduceLT, Int.reduceLE, Nat.reduceAdd, Nat.reduceLT, Nat.reduceLeDiff, Int.reduceToNat, Int.reduceSub, Int.reduceAdd, Int.reduceNeg]
  rfl
end
end Go.X.TryzW
end
section
open Go Go.X Go.Proofs
set_option maxRecDepth 100000
set_option maxHeartbeats 2000000
set_option linter.unusedSimpArgs false
set_option linter.unusedVariables false
namespace Go.X.TryzW
/- "tiller/dag.made" params { toList := [9, 9] } results { toList := [Go.ResultVar.tmp 4] } -/
def x21 : XC :=
 (.seq
  (.ops [
    ⟨(some 4), (.mov (.c (.bool false))), none⟩])
  (.seq
   (.seq
    (.ops [
      ⟨(some 8), (.mov (.t 0)), none⟩,
      ⟨(some 9), (.lenS (.t 8)), none⟩,
      ⟨(some 10), (.mov (.c (.int .i64 0))), none⟩])
    (.block 0
     (.loop
      (.seq
       (.ops [
         ⟨(some 11), (.bin .lss (.t 10) (.t 9)), none⟩])
       (.seq
        (.cond (.t 11)
         .skip
         (.exit 0))
        (.seq
         (.block 1
          (.seq
           (.ops [
             ⟨(some 12), (.mov (.t 10)), none⟩,
             ⟨(some 5), (.mov (.t 12)), none⟩])
           (.seq
            (.ops [
              ⟨(some 13), (.mov (.t 0)), none⟩,
              ⟨(some 14), (.mov (.t 5)), none⟩,
              ⟨(some 15), (.idx (.t 13) (.t 14)), none⟩,
              ⟨(some 6), (.mov (.t 15)), none⟩])
            (.seq
             (.ops [
               ⟨(some 16), (.mov (.t 6)), none⟩,
               ⟨(some 17), (.bin .geq (.t 16) (.c (.int .u8 97))), none⟩,
               ⟨(some 18), (.mov (.t 17)), none⟩,
               ⟨(some 19), (.mov (.t 6)), (some (18, true))⟩,
               ⟨(some 20), (.bin .leq (.t 19) (.c (.int .u8 122))), (some (18, true))⟩,
               ⟨(some 21), (.pick (.t 18) (.t 20) (.c (.bool false))), none⟩,
               ⟨(some 22), (.mov (.t 21)), none⟩,
               ⟨(some 23), (.mov (.t 6)), (some (22, false))⟩,
               ⟨(some 24), (.bin .geq (.t 23) (.c (.int .u8 65))), (some (22, false))⟩,
               ⟨(some 25), (.mov (.t 24)), (some (22, false))⟩,
               ⟨(some 26), (.mov (.t 6)), (some (25, true))⟩,
               ⟨(some 27), (.bin .leq (.t 26) (.c (.int .u8 90))), (some (25, true))⟩,
               ⟨(some 28), (.pick (.t 25) (.t 27) (.c (.bool false))), (some (22, false))⟩,
               ⟨(some 29), (.pick (.t 22) (.c (.bool true)) (.t 28)), none⟩,
               ⟨(some 30), (.mov (.t 29)), none⟩,
               ⟨(some 31), (.mov (.t 6)), (some (30, false))⟩,
               ⟨(some 32), (.bin .geq (.t 31) (.c (.int .u8 48))), (some (30, false))⟩,
               ⟨(some 33), (.mov (.t 32)), (some (30, false))⟩,
               ⟨(some 34), (.mov (.t 6)), (some (33, true))⟩,
               ⟨(some 35), (.bin .leq (.t 34) (.c (.int .u8 57))), (some (33, true))⟩,
               ⟨(some 36), (.pick (.t 33) (.t 35) (.c (.bool false))), (some (30, false))⟩,
               ⟨(some 37), (.pick (.t 30) (.c (.bool true)) (.t 36)), none⟩,
               ⟨(some 7), (.mov (.t 37)), none⟩])
             (.seq
              (.ops [
                ⟨(some 38), (.mov (.t 7)), none⟩,
                ⟨(some 39), (.un .not (.t 38)), none⟩,
                ⟨(some 40), (.mov (.t 39)), none⟩,
                ⟨(some 41), (.mov (.t 1)), (some (40, true))⟩,
                ⟨(some 42), (.mov (.t 6)), (some (40, true))⟩,
                ⟨(some 43), (.cvInt .i32 (.t 42)), (some (40, true))⟩,
                ⟨(some 44), (.cvIntStr (.t 43)), (some (40, true))⟩,
                ⟨(some 45), (.call (.f 66) [(.t 41), (.t 44)]), (some (40, true))⟩,
                ⟨(some 46), (.un .not (.t 45)), (some (40, true))⟩,
                ⟨(some 47), (.pick (.t 40) (.t 46) (.c (.bool false))), none⟩])
              (.cond (.t 47)
               (.seq
                (.ops [
                  ⟨(some 4), (.mov (.c (.bool false))), none⟩])
                .ret)
               .skip))))))
         (.ops [
           ⟨(some 48), (.bin .add (.t 10) (.c (.int .i64 1))), none⟩,
           ⟨(some 10), (.mov (.t 48)), none⟩])))))))
   (.seq
    (.ops [
      ⟨(some 49), (.mov (.t 0)), none⟩,
      ⟨(some 50), (.bin .neq (.t 49) (.c (.str []))), none⟩,
      ⟨(some 4), (.mov (.t 50)), none⟩])
    .ret)))

/- "tiller/dag.Name" params { toList := [9] } results { toList := [Go.ResultVar.tmp 2] } -/
def x7 : XC :=
 (.seq
  (.ops [
    ⟨(some 2), (.mov (.c (.bool false))), none⟩])
  (.seq
   (.ops [
     ⟨(some 3), (.mov (.t 0)), none⟩,
     ⟨(some 4), (.lenS (.t 3)), none⟩,
     ⟨(some 5), (.bin .leq (.t 4) (.c (.int .i64 64))), none⟩,
     ⟨(some 6), (.mov (.t 5)), none⟩,
     ⟨(some 7), (.mov (.t 0)), (some (6, true))⟩,
     ⟨(some 8), (.call (.f 45) [(.t 7), (.c (.str [46, 45, 95]))]), (some (6, true))⟩,
     ⟨(some 9), (.pick (.t 6) (.t 8) (.c (.bool false))), none⟩,
     ⟨(some 2), (.mov (.t 9)), none⟩])
   .ret))

/- "tiller/dag.Flow" params { toList := [9] } results { toList := [Go.ResultVar.tmp 2] } -/
def x9 : XC :=
 (.seq
  (.ops [
    ⟨(some 2), (.mov (.c (.bool false))), none⟩])
  (.seq
   (.ops [
     ⟨(some 3), (.mov (.t 0)), none⟩,
     ⟨(some 4), (.lenS (.t 3)), none⟩,
     ⟨(some 5), (.bin .leq (.t 4) (.c (.int .i64 256))), none⟩,
     ⟨(some 6), (.mov (.t 5)), none⟩,
     ⟨(some 7), (.mov (.t 0)), (some (6, true))⟩,
     ⟨(some 8), (.call (.f 45) [(.t 7), (.c (.str [46, 45, 95, 47]))]), (some (6, true))⟩,
     ⟨(some 9), (.pick (.t 6) (.t 8) (.c (.bool false))), none⟩,
     ⟨(some 2), (.mov (.t 9)), none⟩])
   .ret))

section
variable {E : Env}
theorem enc1 : ∀ n : Fin 128, (Utf8.encode (n.val : Int)).data.toList = [n.val.toUInt8] := by decide +kernel
theorem enc2 : ∀ n : Fin 128, ∃ c d : UInt8, (Utf8.encode ((n.val + 128 : Nat) : Int)).data.toList = [c, d] ∧ 128 ≤ c := by
  intro n
  have h : ∀ n : Fin 128, (Utf8.encode ((n.val + 128 : Nat) : Int)).data.toList = [((Utf8.encode ((n.val + 128 : Nat) : Int)).data.toList).getD 0 0, ((Utf8.encode ((n.val + 128 : Nat) : Int)).data.toList).getD 1 0] ∧ 128 ≤ ((Utf8.encode ((n.val + 128 : Nat) : Int)).data.toList).getD 0 0 := by decide +kernel
  exact ⟨_, _, h n⟩

theorem indexByte_iff (s : List UInt8) (c : UInt8) : decide (0 ≤ Lib.indexByte s c) = s.contains c := by
  induction s with
  | nil => rfl
  | cons b s ih =>
    have hg := Lib.indexByte_ge s c
    rw [Lib.indexByte, List.contains_cons, ← ih]
    by_cases hb : b = c
    · subst hb; simp
    · have h1 : (b == c) = false := by simpa using hb
      have h2 : (c == b) = false := by simpa using fun h => hb h.symm
      rw [h1, h2, Bool.false_or]
      simp only [Bool.false_eq_true, if_false]
      by_cases h3 : Lib.indexByte s c = -1
      · rw [h3]; rfl
      · rw [if_neg (by simpa using h3)]
        congr 1
        exact propext ⟨fun _ => by omega, fun _ => by omega⟩

theorem containsRune (hP : E.P = Tryz.prog) {m : Int} (hm : E.gl 0 = some [.int .i64 m]) (o : List UInt8) (ho : o = [46, 45, 95] ∨ o = [46, 45, 95, 47]) (b : UInt8) :
    XPure E 66 [.str o, .str (Utf8.encode (b.toNat : Int)).data.toList] (.bool (o.contains b)) := by
  by_cases hb : b.toNat < 128
  · have h1 : (Utf8.encode (b.toNat : Int)).data.toList = [b] := by rw [enc1 ⟨b.toNat, hb⟩]; exact congrArg (fun x => [x]) toU8
    rw [h1, ← indexByte_iff]
    exact contains_pure hP (sIndex1_pure hP o b)
  · have hlt : b.toNat < 256 := UInt8.toNat_lt b
    obtain ⟨c, d, h1, h2⟩ := enc2 ⟨b.toNat - 128, by omega⟩
    have h3 : b.toNat - 128 + 128 = b.toNat := by omega
    simp only [h3] at h1
    have hc : c ∉ o := by
      intro h
      have h4 : 128 ≤ c.toNat := h2
      rcases ho with rfl | rfl <;> simp at h <;> rcases h with rfl | rfl | rfl | rfl <;> simp at h4
    have hn : o.contains b = false := by
      rw [← Bool.not_eq_true, List.contains_iff_mem]
      intro h
      rcases ho with rfl | rfl <;> simp at h <;> rcases h with rfl | rfl | rfl | rfl <;> simp at hb
    rw [h1, hn]
    have hlen : 3 ≤ o.length ∧ o.length ≤ 64 := by rcases ho with rfl | rfl <;> simp
    exact contains_pure hP (sIndex2_pure hP hm o c d hlen.1 hlen.2 hc)

def letB (c : UInt8) : Bool :=
  let n : Int := c.toNat
  (decide (97 ≤ n) && decide (n ≤ 122)) || (decide (65 ≤ n) && decide (n ≤ 90)) || (decide (48 ≤ n) && decide (n ≤ 57))
def madeB (o : List UInt8) (c : UInt8) : Bool := letB c || o.contains c
def madeS (s o : List UInt8) : Bool := s.all (madeB o) && !decide (s = [])

theorem made_pure (hP : E.P = Tryz.prog) {m : Int} (hm : E.gl 0 = some [.int .i64 m]) (s o : List UInt8) (ho : o = [46, 45, 95] ∨ o = [46, 45, 95, 47]) (hs : s.length ≤ 9223372036854775807) : XPure E 45 [.str s, .str o] (.bool (madeS s o)) := by
  refine xpure1 (n := Tryz.f45.ntmps) (c := x21) (t := 4) (by rw [hP]; rfl) (by rw [hP]; rfl) (by decide) (Nat.le_of_ble_eq_true rfl) ?_
  generalize hρ : entry _ = ρ
  have h0 : ρ 0 = .str s := by rw [← hρ]; rfl
  have h1 : ρ 1 = .str o := by rw [← hρ]; rfl
  clear hρ
  unfold x21
  simp only [h0, h1, go_sem, Nat.reduceEqDiff, reduceIte, Int.reduceEq, Int.reduceLT, Int.reduceLE, Nat.reduceAdd, Nat.reduceLT, Nat.reduceLeDiff, Int.reduceToNat, Int.reduceSub, Int.reduceAdd, Int.reduceNeg]
  refine s_loop (fun n ρ L => ∃ i : Nat, i ≤ s.length ∧ n = s.length - i ∧ L = [] ∧ ρ 0 = .str s ∧ ρ 1 = .str o ∧ ρ 9 = .int .i64 s.length ∧ ρ 10 = .int .i64 i ∧ (s.take i).all (madeB o) = true)
    ⟨0, Nat.zero_le _, rfl, rfl, by simp only [h0, go_sem, Nat.reduceEqDiff, reduceIte, Int.reduceEq, Int.reduceLT, Int.reduceLE, Nat.reduceAdd, Nat.reduceLT, Nat.reduceLeDiff, Int.reduceToNat, Int.reduceSub, Int.reduceAdd, Int.reduceNeg], by simp only [h1, go_sem, Nat.reduceEqDiff, reduceIte, Int.reduceEq, Int.reduceLT, Int.reduceLE, Nat.reduceAdd, Nat.reduceLT, Nat.reduceLeDiff, Int.reduceToNat, Int.reduceSub, Int.reduceAdd, Int.reduceNeg], by simp only [go_sem, Nat.reduceEqDiff, reduceIte, Int.reduceEq, Int.reduceLT, Int.reduceLE, Nat.reduceAdd, Nat.reduceLT, Nat.reduceLeDiff, Int.reduceToNat, Int.reduceSub, Int.reduceAdd, Int.reduceNeg], by simp only [go_sem, Nat.reduceEqDiff, reduceIte, Int.reduceEq, Int.reduceLT, Int.reduceLE, Nat.reduceAdd, Nat.reduceLT, Nat.reduceLeDiff, Int.reduceToNat, Int.reduceSub, Int.reduceAdd, Int.reduceNeg]; try rfl, rfl⟩ ?_
  clear h0 h1 ρ
  rintro n ρ L ⟨i, hi, rfl, rfl, h0, h1, h9, h10, hall⟩
  have hw : IntKind.i32.wrap ((s.getD i 0).toNat : Int) = ((s.getD i 0).toNat : Int) := by
    have := UInt8.toNat_lt (s.getD i 0)
    rw [IntKind.wrap_i32]; omega
  simp only [h0, h1, h9, h10, hw, go_sem, Nat.reduceEqDiff, reduceIte, Int.reduceEq, Int.reduceLT, Int.reduceLE, Nat.reduceAdd, Nat.reduceLT, Nat.reduceLeDiff, Int.reduceToNat, Int.reduceSub, Int.reduceAdd, Int.reduceNeg]
  refine s_cond (b := decide _) (by simp only [h0, h1, h9, h10, hw, go_sem, Nat.reduceEqDiff, reduceIte, Int.reduceEq, Int.reduceLT, Int.reduceLE, Nat.reduceAdd, Nat.reduceLT, Nat.reduceLeDiff, Int.reduceToNat, Int.reduceSub, Int.reduceAdd, Int.reduceNeg]; try rfl) ?_ ?_ <;> intro hb <;> simp only [hb, h0, h1, h9, h10, hw, go_sem, Nat.reduceEqDiff, reduceIte, Int.reduceEq, Int.reduceLT, Int.reduceLE, Nat.reduceAdd, Nat.reduceLT, Nat.reduceLeDiff, Int.reduceToNat, Int.reduceSub, Int.reduceAdd, Int.reduceNeg]
  · rw [decide_eq_true_eq] at hb
    have hi' : i < s.length := by omega
    refine ⟨hb, ?_⟩
    repeat (refine s_mg (by simp only [h0, h1, h9, h10, hw, go_sem, Nat.reduceEqDiff, reduceIte, Int.reduceEq, Int.reduceLT, Int.reduceLE, Nat.reduceAdd, Nat.reduceLT, Nat.reduceLeDiff, Int.reduceToNat, Int.reduceSub, Int.reduceAdd, Int.reduceNeg]; try rfl) ?_; simp only [cut_g, cut_t, cut_none, cut_out, memN_cons, memN_nil, Nat.reduceEqDiff, reduceIte, List.nil_append, List.cons_append, not_false_eq_true]; refine ex_merge rfl (by simp only [h0, h1, h9, h10, hw, go_sem, Nat.reduceEqDiff, reduceIte, Int.reduceEq, Int.reduceLT, Int.reduceLE, Nat.reduceAdd, Nat.reduceLT, Nat.reduceLeDiff, Int.reduceToNat, Int.reduceSub, Int.reduceAdd, Int.reduceNeg]) (by intro hb; simp only [hb, h0, h1, h9, h10, hw, go_sem, Nat.reduceEqDiff, reduceIte, Int.reduceEq, Int.reduceLT, Int.reduceLE, Nat.reduceAdd, Nat.reduceLT, Nat.reduceLeDiff, Int.reduceToNat, Int.reduceSub, Int.reduceAdd, Int.reduceNeg]; (repeat (refine s_mg (by simp only [h0, h1, h9, h10, hw, go_sem, Nat.reduceEqDiff, reduceIte, Int.reduceEq, Int.reduceLT, Int.reduceLE, Nat.reduceAdd, Nat.reduceLT, Nat.reduceLeDiff, Int.reduceToNat, Int.reduceSub, Int.reduceAdd, Int.reduceNeg]; try rfl) ?_; simp only [cut_g, cut_t, cut_none, cut_out, memN_cons, memN_nil, Nat.reduceEqDiff, reduceIte, List.nil_append, List.cons_append, not_false_eq_true]; refine ex_merge rfl (by simp only [h0, h1, h9, h10, hw, go_sem, Nat.reduceEqDiff, reduceIte, Int.reduceEq, Int.reduceLT, Int.reduceLE, Nat.reduceAdd, Nat.reduceLT, Nat.reduceLeDiff, Int.reduceToNat, Int.reduceSub, Int.reduceAdd, Int.reduceNeg]) (by intro hb; simp only [hb, h0, h1, h9, h10, hw, go_sem, Nat.reduceEqDiff, reduceIte, Int.reduceEq, Int.reduceLT, Int.reduceLE, Nat.reduceAdd, Nat.reduceLT, Nat.reduceLeDiff, Int.reduceToNat, Int.reduceSub, Int.reduceAdd, Int.reduceNeg]; (repeat (refine s_mg (by simp only [h0, h1, h9, h10, hw, go_sem, Nat.reduceEqDiff, reduceIte, Int.reduceEq, Int.reduceLT, Int.reduceLE, Nat.reduceAdd, Nat.reduceLT, Nat.reduceLeDiff, Int.reduceToNat, Int.reduceSub, Int.reduceAdd, Int.reduceNeg]; try rfl) ?_; simp only [cut_g, cut_t, cut_none, cut_out, memN_cons, memN_nil, Nat.reduceEqDiff, reduceIte, List.nil_append, List.cons_append, not_false_eq_true]; refine ex_merge rfl (by simp only [h0, h1, h9, h10, hw, go_sem, Nat.reduceEqDiff, reduceIte, Int.reduceEq, Int.reduceLT, Int.reduceLE, Nat.reduceAdd, Nat.reduceLT, Nat.reduceLeDiff, Int.reduceToNat, Int.reduceSub, Int.reduceAdd, Int.reduceNeg]) (by intro hb; simp only [hb, h0, h1, h9, h10, hw, go_sem, Nat.reduceEqDiff, reduceIte, Int.reduceEq, Int.reduceLT, Int.reduceLE, Nat.reduceAdd, Nat.reduceLT, Nat.reduceLeDiff, Int.reduceToNat, Int.reduceSub, Int.reduceAdd, Int.reduceNeg]; first | exact rfl | exact ⟨rfl, rfl⟩) (fun vs => ?_); simp only [h0, h1, h9, h10, hw, go_sem, Nat.reduceEqDiff, reduceIte, Int.reduceEq, Int.reduceLT, Int.reduceLE, Nat.reduceAdd, Nat.reduceLT, Nat.reduceLeDiff, Int.reduceToNat, Int.reduceSub, Int.reduceAdd, Int.reduceNeg])); first | exact rfl | exact ⟨rfl, rfl⟩) (fun vs => ?_); simp only [h0, h1, h9, h10, hw, go_sem, Nat.reduceEqDiff, reduceIte, Int.reduceEq, Int.reduceLT, Int.reduceLE, Nat.reduceAdd, Nat.reduceLT, Nat.reduceLeDiff, Int.reduceToNat, Int.reduceSub, Int.reduceAdd, Int.reduceNeg])); first | exact rfl | exact ⟨rfl, rfl⟩) (fun vs => ?_); simp only [h0, h1, h9, h10, hw, go_sem, Nat.reduceEqDiff, reduceIte, Int.reduceEq, Int.reduceLT, Int.reduceLE, Nat.reduceAdd, Nat.reduceLT, Nat.reduceLeDiff, Int.reduceToNat, Int.reduceSub, Int.reduceAdd, Int.reduceNeg])
    refine s_mg (by simp only [h0, h1, h9, h10, hw, go_sem, Nat.reduceEqDiff, reduceIte, Int.reduceEq, Int.reduceLT, Int.reduceLE, Nat.reduceAdd, Nat.reduceLT, Nat.reduceLeDiff, Int.reduceToNat, Int.reduceSub, Int.reduceAdd, Int.reduceNeg]; try rfl) ?_; simp only [cut_g, cut_t, cut_none, cut_out, memN_cons, memN_nil, Nat.reduceEqDiff, reduceIte, List.nil_append, List.cons_append, not_false_eq_true]; refine ex_merge rfl (by simp only [h0, h1, h9, h10, hw, go_sem, Nat.reduceEqDiff, reduceIte, Int.reduceEq, Int.reduceLT, Int.reduceLE, Nat.reduceAdd, Nat.reduceLT, Nat.reduceLeDiff, Int.reduceToNat, Int.reduceSub, Int.reduceAdd, Int.reduceNeg]) (by intro hb; simp only [hb, h0, h1, h9, h10, hw, go_sem, Nat.reduceEqDiff, reduceIte, Int.reduceEq, Int.reduceLT, Int.reduceLE, Nat.reduceAdd, Nat.reduceLT, Nat.reduceLeDiff, Int.reduceToNat, Int.reduceSub, Int.reduceAdd, Int.reduceNeg]; refine xcall_pure (args' := [.str o, .str _]) rfl (containsRune hP hm o ho _) rfl ?_; (try simp only [hb, h0, h1, h9, h10, hw, go_sem, Nat.reduceEqDiff, reduceIte, Int.reduceEq, Int.reduceLT, Int.reduceLE, Nat.reduceAdd, Nat.reduceLT, Nat.reduceLeDiff, Int.reduceToNat, Int.reduceSub, Int.reduceAdd, Int.reduceNeg]); first | exact rfl | exact ⟨rfl, rfl⟩) (fun vs => ?_); simp only [h0, h1, h9, h10, hw, go_sem, Nat.reduceEqDiff, reduceIte, Int.reduceEq, Int.reduceLT, Int.reduceLE, Nat.reduceAdd, Nat.reduceLT, Nat.reduceLeDiff, Int.reduceToNat, Int.reduceSub, Int.reduceAdd, Int.reduceNeg]
    refine s_cond (b := !letB (s.getD i 0) && !o.contains (s.getD i 0)) (by simp only [h0, h1, h9, h10, hw, go_sem, Nat.reduceEqDiff, reduceIte, Int.reduceEq, Int.reduceLT, Int.reduceLE, Nat.reduceAdd, Nat.reduceLT, Nat.reduceLeDiff, Int.reduceToNat, Int.reduceSub, Int.reduceAdd, Int.reduceNeg]; try rfl) ?_ ?_ <;> intro hc <;> simp only [hc, h0, h1, h9, h10, hw, go_sem, Nat.reduceEqDiff, reduceIte, Int.reduceEq, Int.reduceLT, Int.reduceLE, Nat.reduceAdd, Nat.reduceLT, Nat.reduceLeDiff, Int.reduceToNat, Int.reduceSub, Int.reduceAdd, Int.reduceNeg]
    · have hf : madeS s o = false := by rw [madeS, all_false hi' (by rw [madeB]; simpa using hc)]; rfl
      rw [hf]; rfl
    · refine ⟨s.length - (i + 1), by omega, i + 1, by omega, rfl, ?_, ?_⟩
      · rw [wrap64 (by omega) (by omega)]; rfl
      · rw [take_succ_all (d := 0) hi' hall, madeB]
        revert hc
        cases letB (s.getD i 0) <;> cases o.contains (s.getD i 0) <;> simp
  · rw [decide_eq_false_iff_not] at hb
    have hi' : i = s.length := by omega
    subst hi'
    rw [List.take_length] at hall
    have hf : madeS s o = !decide (s = []) := by rw [madeS, hall, Bool.true_and]
    rw [hf]; rfl
theorem okB_false (c : UInt8) : okB false c = madeB [46, 45, 95] c := by
  have : ∀ n : Fin 256, okB false n.val.toUInt8 = madeB [46, 45, 95] n.val.toUInt8 := by decide +kernel
  have h := this ⟨c.toNat, UInt8.toNat_lt c⟩
  rwa [toU8] at h
theorem okB_true (c : UInt8) : okB true c = madeB [46, 45, 95, 47] c := by
  have : ∀ n : Fin 256, okB true n.val.toUInt8 = madeB [46, 45, 95, 47] n.val.toUInt8 := by decide +kernel
  have h := this ⟨c.toNat, UInt8.toNat_lt c⟩
  rwa [toU8] at h
theorem nonempty_len (s : List UInt8) : (!decide (s = [])) = decide (1 ≤ (s.length : Int)) := by
  cases s with
  | nil => rfl
  | cons b s => simp; omega
theorem made_named (s : List UInt8) (slash : Bool) (o : List UInt8) (most : Int) (h : ∀ c, okB slash c = madeB o c) :
    (decide ((s.length : Int) ≤ most) && madeS s o) = namedS s slash most := by
  have h1 : okB slash = madeB o := funext h
  rw [namedS, madeS, h1, nonempty_len]
  cases s.all (madeB o) <;> cases decide (1 ≤ (s.length : Int)) <;> cases decide ((s.length : Int) ≤ most) <;> rfl

theorem dagName_pure (hP : E.P = Tryz.prog) {m : Int} (hm : E.gl 0 = some [.int .i64 m]) (s : List UInt8) (hs : s.length ≤ 9223372036854775807) : XPure E 23 [.str s] (.bool (namedS s false 64)) := by
  rw [← made_named s false _ 64 okB_false]
  refine xpure1 (n := Tryz.f23.ntmps) (c := x7) (t := 2) (by rw [hP]; rfl) (by rw [hP]; rfl) (by decide) (Nat.le_of_ble_eq_true rfl) ?_
  generalize hρ : entry _ = ρ
  have h0 : ρ 0 = .str s := by rw [← hρ]; rfl
  clear hρ
  unfold x7
  simp only [h0, go_sem, Nat.reduceEqDiff, reduceIte, Int.reduceEq, Int.reduceLT, Int.reduceLE, Nat.reduceAdd, Nat.reduceLT, Nat.reduceLeDiff, Int.reduceToNat, Int.reduceSub, Int.reduceAdd, Int.reduceNeg]
  refine s_mg (by simp only [h0, go_sem, Nat.reduceEqDiff, reduceIte, Int.reduceEq, Int.reduceLT, Int.reduceLE, Nat.reduceAdd, Nat.reduceLT, Nat.reduceLeDiff, Int.reduceToNat, Int.reduceSub, Int.reduceAdd, Int.reduceNeg]; try rfl) ?_; simp only [cut_g, cut_t, cut_none, cut_out, memN_cons, memN_nil, Nat.reduceEqDiff, reduceIte, List.nil_append, List.cons_append, not_false_eq_true]; refine ex_merge rfl (by simp only [h0, go_sem, Nat.reduceEqDiff, reduceIte, Int.reduceEq, Int.reduceLT, Int.reduceLE, Nat.reduceAdd, Nat.reduceLT, Nat.reduceLeDiff, Int.reduceToNat, Int.reduceSub, Int.reduceAdd, Int.reduceNeg]) (by intro hb; simp only [hb, h0, go_sem, Nat.reduceEqDiff, reduceIte, Int.reduceEq, Int.reduceLT, Int.reduceLE, Nat.reduceAdd, Nat.reduceLT, Nat.reduceLeDiff, Int.reduceToNat, Int.reduceSub, Int.reduceAdd, Int.reduceNeg]; refine xcall_pure (args' := [.str s, .str [46, 45, 95]]) rfl (made_pure hP hm s _ (.inl rfl) hs) rfl ?_; (try simp only [h0, go_sem, Nat.reduceEqDiff, reduceIte, Int.reduceEq, Int.reduceLT, Int.reduceLE, Nat.reduceAdd, Nat.reduceLT, Nat.reduceLeDiff, Int.reduceToNat, Int.reduceSub, Int.reduceAdd, Int.reduceNeg]); (try simp only [hb, h0, go_sem, Nat.reduceEqDiff, reduceIte, Int.reduceEq, Int.reduceLT, Int.reduceLE, Nat.reduceAdd, Nat.reduceLT, Nat.reduceLeDiff, Int.reduceToNat, Int.reduceSub, Int.reduceAdd, Int.reduceNeg]); first | exact rfl | exact ⟨rfl, rfl⟩) (fun vs => ?_); simp only [h0, go_sem, Nat.reduceEqDiff, reduceIte, Int.reduceEq, Int.reduceLT, Int.reduceLE, Nat.reduceAdd, Nat.reduceLT, Nat.reduceLeDiff, Int.reduceToNat, Int.reduceSub, Int.reduceAdd, Int.reduceNeg]
  rfl
theorem dagFlow_pure (hP : E.P = Tryz.prog) {m : Int} (hm : E.gl 0 = some [.int .i64 m]) (s : List UInt8) (hs : s.length ≤ 9223372036854775807) : XPure E 47 [.str s] (.bool (namedS s true 256)) := by
  rw [← made_named s true _ 256 okB_true]
  refine xpure1 (n := Tryz.f47.ntmps) (c := x9) (t := 2) (by rw [hP]; rfl) (by rw [hP]; rfl) (by decide) (Nat.le_of_ble_eq_true rfl) ?_
  generalize hρ : entry _ = ρ
  have h0 : ρ 0 = .str s := by rw [← hρ]; rfl
  clear hρ
  unfold x9
  simp only [h0, go_sem, Nat.reduceEqDiff, reduceIte, Int.reduceEq, Int.reduceLT, Int.reduceLE, Nat.reduceAdd, Nat.reduceLT, Nat.reduceLeDiff, Int.reduceToNat, Int.reduceSub, Int.reduceAdd, Int.reduceNeg]
  refine s_mg (by simp only [h0, go_sem, Nat.reduceEqDiff, reduceIte, Int.reduceEq, Int.reduceLT, Int.reduceLE, Nat.reduceAdd, Nat.reduceLT, Nat.reduceLeDiff, Int.reduceToNat, Int.reduceSub, Int.reduceAdd, Int.reduceNeg]; try rfl) ?_; simp only [cut_g, cut_t, cut_none, cut_out, memN_cons, memN_nil, Nat.reduceEqDiff, reduceIte, List.nil_append, List.cons_append, not_false_eq_true]; refine ex_merge rfl (by simp only [h0, go_sem, Nat.reduceEqDiff, reduceIte, Int.reduceEq, Int.reduceLT, Int.reduceLE, Nat.reduceAdd, Nat.reduceLT, Nat.reduceLeDiff, Int.reduceToNat, Int.reduceSub, Int.reduceAdd, Int.reduceNeg]) (by intro hb; simp only [hb, h0, go_sem, Nat.reduceEqDiff, reduceIte, Int.reduceEq, Int.reduceLT, Int.reduceLE, Nat.reduceAdd, Nat.reduceLT, Nat.reduceLeDiff, Int.reduceToNat, Int.reduceSub, Int.reduceAdd, Int.reduceNeg]; refine xcall_pure (args' := [.str s, .str [46, 45, 95, 47]]) rfl (made_pure hP hm s _ (.inr rfl) hs) rfl ?_; (try simp only [h0, go_sem, Nat.reduceEqDiff, reduceIte, Int.reduceEq, Int.reduceLT, Int.reduceLE, Nat.reduceAdd, Nat.reduceLT, Nat.reduceLeDiff, Int.reduceToNat, Int.reduceSub, Int.reduceAdd, Int.reduceNeg]); (try simp only [hb, h0, go_sem, Nat.reduceEqDiff, reduceIte, Int.reduceEq, Int.reduceLT, Int.reduceLE, Nat.reduceAdd, Nat.reduceLT, Nat.reduceLeDiff, Int.reduceToNat, Int.reduceSub, Int.reduceAdd, Int.reduceNeg]); first | exact rfl | exact ⟨rfl, rfl⟩) (fun vs => ?_); simp only [h0, go_sem, Nat.reduceEqDiff, reduceIte, Int.reduceEq, Int.reduceLT, Int.reduceLE, Nat.reduceAdd, Nat.reduceLT, Nat.reduceLeDiff, Int.reduceToNat, Int.reduceSub, Int.reduceAdd, Int.reduceNeg]
  rfl
end
end Go.X.TryzW
end
section
open Go Go.X Go.Proofs
set_option maxRecDepth 100000
set_option maxHeartbeats 2000000
set_option linter.unusedSimpArgs false
set_option linter.unusedVariables false
namespace Go.X.TryzW
/- "tiller/tillerref08.Find" params { toList := [28, 9] } results { toList := [Go.ResultVar.tmp 4, Go.ResultVar.tmp 5] } -/
/- "tiller/dag.Find" params { toList := [28, 9] } results { toList := [Go.ResultVar.tmp 4, Go.ResultVar.tmp 5] } -/
def x29 : XC :=
 (.seq
  (.ops [
    ⟨(some 2), (.box (.t 0)), none⟩,
    ⟨(some 3), (.box (.t 1)), none⟩,
    ⟨(some 4), (.mov (.c (.int .i64 0))), none⟩,
    ⟨(some 5), (.mov (.c (.bool false))), none⟩])
  (.seq
   (.ops [
     ⟨(some 7), (.fldA 1 (.t 2)), none⟩,
     ⟨(some 8), (.load1 (.t 7)), none⟩,
     ⟨(some 9), (.mkfn (.func 53) [] [(.t 3)]), none⟩,
     ⟨(some 10), (.call (.f 52) [(.t 8), (.t 9)]), none⟩,
     ⟨(some 6), (.mov (.t 10)), none⟩])
   (.seq
    (.ops [
      ⟨(some 11), (.mov (.t 6)), none⟩,
      ⟨(some 12), (.max2 (.t 11) (.c (.int .i64 0))), none⟩,
      ⟨(some 13), (.mov (.t 6)), none⟩,
      ⟨(some 14), (.bin .geq (.t 13) (.c (.int .i64 0))), none⟩,
      ⟨(some 4), (.mov (.t 12)), none⟩,
      ⟨(some 5), (.mov (.t 14)), none⟩])
    .ret)))

/- "tiller/dag.Find$1" params { toList := [37] } results { toList := [Go.ResultVar.tmp 3] } -/
def x43 : XC :=
 (.seq
  (.ops [
    ⟨(some 2), (.box (.t 0)), none⟩,
    ⟨(some 3), (.mov (.c (.bool false))), none⟩])
  (.seq
   (.ops [
     ⟨(some 4), (.fldA 0 (.t 2)), none⟩,
     ⟨(some 5), (.load1 (.t 4)), none⟩,
     ⟨(some 6), (.load1 (.t 1)), none⟩,
     ⟨(some 7), (.bin .eql (.t 5) (.t 6)), none⟩,
     ⟨(some 3), (.mov (.t 7)), none⟩])
   .ret))

/- "slices.IndexFunc[[]tiller/api.Node,tiller/api.Node]" params { toList := [26, 52] } results { toList := [Go.ResultVar.tmp 4] } -/
def x42 : XC :=
 (.seq
  (.ops [
    ⟨(some 4), (.mov (.c (.int .i64 0))), none⟩])
  (.seq
   (.seq
    (.ops [
      ⟨(some 6), (.mov (.t 0)), none⟩,
      ⟨(some 7), (.len (.t 6)), none⟩,
      ⟨(some 8), (.mov (.c (.int .i64 0))), none⟩])
    (.block 0
     (.loop
      (.seq
       (.ops [
         ⟨(some 9), (.bin .lss (.t 8) (.t 7)), none⟩])
       (.seq
        (.cond (.t 9)
         .skip
         (.exit 0))
        (.seq
         (.block 1
          (.seq
           (.ops [
             ⟨(some 10), (.mov (.t 8)), none⟩,
             ⟨(some 5), (.mov (.t 10)), none⟩])
           (.seq
            (.ops [
              ⟨(some 11), (.mov (.t 1)), none⟩,
              ⟨(some 12), (.mov (.t 0)), none⟩,
              ⟨(some 13), (.mov (.t 5)), none⟩,
              ⟨(some 14), (.idxS 7 (.t 12) (.t 13)), none⟩,
              ⟨(some 15), (.loadN 7 (.t 14)), none⟩,
              ⟨(some 16), (.call (.t 11) [(.t 15)]), none⟩])
            (.cond (.t 16)
             (.seq
              (.ops [
                ⟨(some 17), (.mov (.t 5)), none⟩,
                ⟨(some 4), (.mov (.t 17)), none⟩])
              .ret)
             .skip))))
         (.ops [
           ⟨(some 18), (.bin .add (.t 8) (.c (.int .i64 1))), none⟩,
           ⟨(some 8), (.mov (.t 18)), none⟩])))))))
   (.seq
    (.ops [
      ⟨(some 4), (.mov (.c (.int .i64 (-1)))), none⟩])
    .ret)))

structure NodeD where
  name : List UInt8
  kind : Int
  arg : List UInt8
  to : List UInt8
  delay : Int
  tries : Int
  after : List (List UInt8)
  deriving DecidableEq, Inhabited
structure DefD where
  name : List UInt8
  nodes : List NodeD
  deriving DecidableEq, Inhabited
def strRows (l : List (List UInt8)) : List (List IV) := l.map fun s => [.str s]
def NodeD.row (n : NodeD) : List IV := [.str n.name, .int .i64 n.kind, .str n.arg, .str n.to, .int .i64 n.delay, .int .i64 n.tries, .isl (strRows n.after)]
def nodeRows (l : List NodeD) : List (List IV) := l.map NodeD.row
def DefD.iv (d : DefD) : IV := .agg [.str d.name, .isl (nodeRows d.nodes)]

section
variable {E : Env}
theorem rows_nodes (l : List NodeD) : Rows 7 (nodeRows l) := by
  intro row h
  obtain ⟨n, _, rfl⟩ := List.mem_map.1 h
  rfl
theorem rows_strs (l : List (List UInt8)) : Rows 1 (strRows l) := by
  intro row h
  obtain ⟨n, _, rfl⟩ := List.mem_map.1 h
  rfl
theorem nodeRows_len (l : List NodeD) : (nodeRows l).length = l.length := List.length_map ..
theorem strRows_len (l : List (List UInt8)) : (strRows l).length = l.length := List.length_map ..
theorem nodeRows_get {l : List NodeD} {i : Nat} (h : i < l.length) : (nodeRows l).getD i [] = (l.getD i default).row := by
  simp [nodeRows, List.getD_eq_getElem?_getD, List.getElem?_eq_getElem h]
theorem strRows_get {l : List (List UInt8)} {i : Nat} (h : i < l.length) : (strRows l).getD i [] = [.str (l.getD i [])] := by
  simp [strRows, List.getD_eq_getElem?_getD, List.getElem?_eq_getElem h]

/-- The place of the first that is so. -/
def firstI {α : Type} (p : α → Bool) : List α → Option Nat
  | [] => none
  | x :: r => if p x then some 0 else (firstI p r).map (· + 1)
theorem firstI_some {α : Type} {p : α → Bool} {d : α} : ∀ {l : List α} {i : Nat}, i < l.length → (l.take i).all (fun x => !p x) = true → p (l.getD i d) = true → firstI p l = some i
  | [], _, h, _, _ => absurd h (Nat.not_lt_zero _)
  | x :: r, 0, _, _, hp => by simp only [List.getD_cons_zero] at hp; simp [firstI, hp]
  | x :: r, i + 1, h, ha, hp => by
    simp only [List.take_succ_cons, List.all_cons, Bool.and_eq_true] at ha
    have hx : p x = false := by simpa using ha.1
    simp only [List.getD_cons_succ] at hp
    simp only [firstI, hx, Bool.false_eq_true, if_false]
    rw [firstI_some (by simpa using h) ha.2 hp]; rfl
theorem firstI_none {α : Type} {p : α → Bool} : ∀ {l : List α}, l.all (fun x => !p x) = true → firstI p l = none
  | [], _ => rfl
  | x :: r, ha => by
    simp only [List.all_cons, Bool.and_eq_true] at ha
    have hx : p x = false := by simpa using ha.1
    simp only [firstI, hx, Bool.false_eq_true, if_false]
    rw [firstI_none ha.2]; rfl
theorem firstI_lt {α : Type} {p : α → Bool} : ∀ {l : List α} {i : Nat}, firstI p l = some i → i < l.length
  | x :: r, i, h => by
    simp only [firstI] at h
    split at h
    · simp only [Option.some.injEq] at h; subst h; simp
    · rw [Option.map_eq_some_iff] at h
      obtain ⟨j, hj, rfl⟩ := h
      have := firstI_lt hj
      simpa using this

def DefD.find (d : DefD) (s : List UInt8) : Option Nat := firstI (fun n : NodeD => decide (n.name = s)) d.nodes
def findN (o : Option Nat) : Int := match o with | some i => i | none => 0

/-- slices.IndexFunc of nodes, with a function that only computes. -/
theorem indexFunc_pure (hP : E.P = Tryz.prog) (l : List NodeD) (f : FuncId) (caps : List IV) (p : NodeD → Bool) (hl : l.length ≤ 9223372036854775807) (hcap : mapO (conv [] 12 renNone) caps = some caps)
    (hf : ∀ n ∈ l, XPure E f (.agg n.row :: caps) (.bool (p n))) : XPure E 52 [.isl (nodeRows l), .fn (.func f) [] caps] (.int .i64 (match firstI p l with | some i => i | none => -1)) := by
  refine xpure1 (n := Tryz.f52.ntmps) (c := x42) (t := 4) (by rw [hP]; rfl) (by rw [hP]; rfl) (by decide) (Nat.le_of_ble_eq_true rfl) ?_
  generalize hρ : entry _ = ρ
  have h0 : ρ 0 = .isl (nodeRows l) := by rw [← hρ]; rfl
  have h1 : ρ 1 = .fn (.func f) [] caps := by rw [← hρ]; rfl
  clear hρ
  unfold x42
  simp only [h0, h1, nodeRows_len, go_sem, Nat.reduceEqDiff, reduceIte, Int.reduceEq, Int.reduceLT, Int.reduceLE, Nat.reduceAdd, Nat.reduceLT, Nat.reduceLeDiff, Int.reduceToNat, Int.reduceSub, Int.reduceAdd, Int.reduceNeg]
  refine s_loop (fun n ρ L => ∃ i : Nat, i ≤ l.length ∧ n = l.length - i ∧ L = [] ∧ ρ 0 = .isl (nodeRows l) ∧ ρ 1 = .fn (.func f) [] caps ∧ ρ 7 = .int .i64 l.length ∧ ρ 8 = .int .i64 i ∧ (l.take i).all (fun n => !p n) = true)
    ⟨0, Nat.zero_le _, rfl, rfl, by simp only [h0, go_sem, Nat.reduceEqDiff, reduceIte, Int.reduceEq, Int.reduceLT, Int.reduceLE, Nat.reduceAdd, Nat.reduceLT, Nat.reduceLeDiff, Int.reduceToNat, Int.reduceSub, Int.reduceAdd, Int.reduceNeg], by simp only [h1, go_sem, Nat.reduceEqDiff, reduceIte, Int.reduceEq, Int.reduceLT, Int.reduceLE, Nat.reduceAdd, Nat.reduceLT, Nat.reduceLeDiff, Int.reduceToNat, Int.reduceSub, Int.reduceAdd, Int.reduceNeg], by simp only [go_sem, Nat.reduceEqDiff, reduceIte, Int.reduceEq, Int.reduceLT, Int.reduceLE, Nat.reduceAdd, Nat.reduceLT, Nat.reduceLeDiff, Int.reduceToNat, Int.reduceSub, Int.reduceAdd, Int.reduceNeg], by simp only [go_sem, Nat.reduceEqDiff, reduceIte, Int.reduceEq, Int.reduceLT, Int.reduceLE, Nat.reduceAdd, Nat.reduceLT, Nat.reduceLeDiff, Int.reduceToNat, Int.reduceSub, Int.reduceAdd, Int.reduceNeg]; try rfl, rfl⟩ ?_
  clear h0 h1 ρ
  rintro n ρ L ⟨i, hi, rfl, rfl, h0, h1, h7, h8, hall⟩
  simp only [h0, h1, h7, h8, go_sem, Nat.reduceEqDiff, reduceIte, Int.reduceEq, Int.reduceLT, Int.reduceLE, Nat.reduceAdd, Nat.reduceLT, Nat.reduceLeDiff, Int.reduceToNat, Int.reduceSub, Int.reduceAdd, Int.reduceNeg]
  refine s_cond (b := decide _) (by simp only [h0, h1, h7, h8, nodeRows_len, rows_nodes, go_sem, Nat.reduceEqDiff, reduceIte, Int.reduceEq, Int.reduceLT, Int.reduceLE, Nat.reduceAdd, Nat.reduceLT, Nat.reduceLeDiff, Int.reduceToNat, Int.reduceSub, Int.reduceAdd, Int.reduceNeg]; try rfl) ?_ ?_ <;> intro hb <;> simp only [hb, h0, h1, h7, h8, nodeRows_len, rows_nodes, go_sem, Nat.reduceEqDiff, reduceIte, Int.reduceEq, Int.reduceLT, Int.reduceLE, Nat.reduceAdd, Nat.reduceLT, Nat.reduceLeDiff, Int.reduceToNat, Int.reduceSub, Int.reduceAdd, Int.reduceNeg]
  · rw [decide_eq_true_eq] at hb
    have hi' : i < l.length := by omega
    have hrow := nodeRows_get hi'
    refine ⟨hb, ?_⟩
    have hlen : (l.getD i default).row.length = 7 := rfl
    have htake : List.take 7 (l.getD i default).row = (l.getD i default).row := rfl
    simp only [h0, h1, h7, h8, hrow, hlen, htake, go_sem, Nat.reduceEqDiff, reduceIte, Int.reduceEq, Int.reduceLT, Int.reduceLE, Nat.reduceAdd, Nat.reduceLT, Nat.reduceLeDiff, Int.reduceToNat, Int.reduceSub, Int.reduceAdd, Int.reduceNeg]
    refine ⟨hi', ?_⟩
    have hmem : l.getD i default ∈ l := by rw [List.getD_eq_getElem?_getD, List.getElem?_eq_getElem hi']; exact List.getElem_mem _
    have hcv : mapO (conv [] fuel renNone) (.agg (l.getD i default).row :: caps) = some (.agg (l.getD i default).row :: caps) := by
      simp only [mapO]
      have e1 : conv [] fuel renNone (.agg (l.getD i default).row) = some (.agg (l.getD i default).row) := rfl
      rw [e1]
      have e2 : mapO (conv [] fuel renNone) caps = some caps := hcap
      rw [e2]
    refine xcall_pure hcv (hf _ hmem) rfl ?_
    try simp only [h0, h1, h7, h8, go_sem, Nat.reduceEqDiff, reduceIte, Int.reduceEq, Int.reduceLT, Int.reduceLE, Nat.reduceAdd, Nat.reduceLT, Nat.reduceLeDiff, Int.reduceToNat, Int.reduceSub, Int.reduceAdd, Int.reduceNeg]
    refine s_cond (b := p _) (by simp only [h0, h1, h7, h8, go_sem, Nat.reduceEqDiff, reduceIte, Int.reduceEq, Int.reduceLT, Int.reduceLE, Nat.reduceAdd, Nat.reduceLT, Nat.reduceLeDiff, Int.reduceToNat, Int.reduceSub, Int.reduceAdd, Int.reduceNeg]; try rfl) ?_ ?_ <;> intro hc <;> simp only [hc, h0, h1, h7, h8, go_sem, Nat.reduceEqDiff, reduceIte, Int.reduceEq, Int.reduceLT, Int.reduceLE, Nat.reduceAdd, Nat.reduceLT, Nat.reduceLeDiff, Int.reduceToNat, Int.reduceSub, Int.reduceAdd, Int.reduceNeg]
    · have hfi : firstI p l = some i := firstI_some (d := default) hi' hall hc
      rw [hfi]; rfl
    · refine ⟨l.length - (i + 1), by omega, i + 1, by omega, rfl, ?_, ?_⟩
      · rw [wrap64 (by omega) (by omega)]; rfl
      · rw [take_succ_all (d := default) hi' hall]; simpa using hc
  · rw [decide_eq_false_iff_not] at hb
    have hi' : i = l.length := by omega
    subst hi'
    rw [List.take_length] at hall
    have hfi : firstI p l = none := firstI_none hall
    rw [hfi]; rfl

theorem find1_pure (hP : E.P = Tryz.prog) (n : NodeD) (s : List UInt8) : XPure E 53 [.agg n.row, .iptr [[.str s]] 0 0] (.bool (decide (n.name = s))) := by
  refine xpure1 (n := Tryz.f53.ntmps) (c := x43) (t := 3) (by rw [hP]; rfl) (by rw [hP]; rfl) (by decide) (Nat.le_of_ble_eq_true rfl) ?_
  generalize hρ : entry _ = ρ
  have h0 : ρ 0 = .agg [.str n.name, .int .i64 n.kind, .str n.arg, .str n.to, .int .i64 n.delay, .int .i64 n.tries, .isl (strRows n.after)] := by rw [← hρ]; rfl
  have h1 : ρ 1 = .iptr [[.str s]] 0 0 := by rw [← hρ]; rfl
  clear hρ
  unfold x43
  simp only [h0, h1, go_sem, Nat.reduceEqDiff, reduceIte, Int.reduceEq, Int.reduceLT, Int.reduceLE, Nat.reduceAdd, Nat.reduceLT, Nat.reduceLeDiff, Int.reduceToNat, Int.reduceSub, Int.reduceAdd, Int.reduceNeg]
  rfl

theorem dagFind_pure (hP : E.P = Tryz.prog) (d : DefD) (s : List UInt8) (hd : d.nodes.length ≤ 9223372036854775807) : XPure E 30 [d.iv, .str s] (.tup [.int .i64 (findN (d.find s)), .bool (d.find s).isSome]) := by
  refine xpure2 (n := Tryz.f30.ntmps) (c := x29) (t := 4) (t' := 5) (by rw [hP]; rfl) (by rw [hP]; rfl) (by decide) (Nat.le_of_ble_eq_true rfl) ?_
  generalize hρ : entry _ = ρ
  have h0 : ρ 0 = .agg [.str d.name, .isl (nodeRows d.nodes)] := by rw [← hρ]; rfl
  have h1 : ρ 1 = .str s := by rw [← hρ]; rfl
  clear hρ
  unfold x29
  simp only [h0, h1, go_sem, Nat.reduceEqDiff, reduceIte, Int.reduceEq, Int.reduceLT, Int.reduceLE, Nat.reduceAdd, Nat.reduceLT, Nat.reduceLeDiff, Int.reduceToNat, Int.reduceSub, Int.reduceAdd, Int.reduceNeg]
  refine xcall_lend (args' := [.isl (nodeRows d.nodes), .fn (.func 53) [] [.iptr [[.str s]] 0 0]]) rfl (indexFunc_pure hP d.nodes 53 _ (fun n => decide (n.name = s)) hd rfl fun n _ => find1_pure hP n s) rfl rfl ?_
  cases hf : d.find s with
  | none =>
    have hf' : firstI (fun n : NodeD => decide (n.name = s)) d.nodes = none := hf
    rw [hf']
    try simp only [h0, h1, go_sem, Nat.reduceEqDiff, reduceIte, Int.reduceEq, Int.reduceLT, Int.reduceLE, Nat.reduceAdd, Nat.reduceLT, Nat.reduceLeDiff, Int.reduceToNat, Int.reduceSub, Int.reduceAdd, Int.reduceNeg]
    exact ⟨rfl, rfl⟩
  | some i =>
    have hf' : firstI (fun n : NodeD => decide (n.name = s)) d.nodes = some i := hf
    rw [hf']
    try simp only [h0, h1, go_sem, Nat.reduceEqDiff, reduceIte, Int.reduceEq, Int.reduceLT, Int.reduceLE, Nat.reduceAdd, Nat.reduceLT, Nat.reduceLeDiff, Int.reduceToNat, Int.reduceSub, Int.reduceAdd, Int.reduceNeg]
    have e1 : (if (0 : Int) > (i : Int) then (0 : Int) else (i : Int)) = i := if_neg (by omega)
    have e2 : decide ((0 : Int) ≤ (i : Int)) = true := by simp
    simp only [e1, e2]
    exact ⟨rfl, rfl⟩
end
end Go.X.TryzW
end
section
open Go Go.X Go.Proofs
set_option maxRecDepth 100000
set_option maxHeartbeats 2000000
set_option linter.unusedSimpArgs false
set_option linter.unusedVariables false
namespace Go.X.TryzW
/- "tiller/dag.met" params { toList := [28, 3, 57] } results { toList := [Go.ResultVar.tmp 6] } -/
def x32 : XC :=
 (.seq
  (.ops [
    ⟨(some 3), (.box (.t 0)), none⟩,
    ⟨(some 6), (.mov (.c (.bool false))), none⟩])
  (.seq
   (.seq
    (.ops [
      ⟨(some 11), (.fldA 1 (.t 3)), none⟩,
      ⟨(some 12), (.load1 (.t 11)), none⟩,
      ⟨(some 13), (.mov (.t 1)), none⟩,
      ⟨(some 14), (.idxS 7 (.t 12) (.t 13)), none⟩,
      ⟨(some 15), (.fldA 6 (.t 14)), none⟩,
      ⟨(some 16), (.load1 (.t 15)), none⟩,
      ⟨(some 17), (.len (.t 16)), none⟩,
      ⟨(some 18), (.mov (.c (.int .i64 0))), none⟩])
    (.block 0
     (.loop
      (.seq
       (.ops [
         ⟨(some 19), (.bin .lss (.t 18) (.t 17)), none⟩])
       (.seq
        (.cond (.t 19)
         .skip
         (.exit 0))
        (.seq
         (.block 1
          (.seq
           (.ops [
             ⟨(some 20), (.idxS 1 (.t 16) (.t 18)), none⟩,
             ⟨(some 21), (.load1 (.t 20)), none⟩,
             ⟨(some 8), (.mov (.t 21)), none⟩])
           (.seq
            (.ops [
              ⟨(some 23), (.loadN 2 (.t 3)), none⟩,
              ⟨(some 24), (.mov (.t 8)), none⟩,
              ⟨(some 25), (.call (.f 30) [(.t 23), (.t 24)]), none⟩,
              ⟨(some 22), (.mov (.t 25)), none⟩,
              ⟨(some 26), (.ext (.t 22) 0), none⟩,
              ⟨(some 27), (.ext (.t 22) 1), none⟩,
              ⟨(some 9), (.mov (.t 26)), none⟩,
              ⟨(some 10), (.mov (.t 27)), none⟩])
            (.seq
             (.ops [
               ⟨(some 28), (.mov (.t 10)), none⟩,
               ⟨(some 29), (.un .not (.t 28)), none⟩,
               ⟨(some 30), (.mov (.t 29)), none⟩,
               ⟨(some 31), (.mov (.t 9)), (some (30, false))⟩,
               ⟨(some 32), (.mov (.t 1)), (some (30, false))⟩,
               ⟨(some 33), (.bin .eql (.t 31) (.t 32)), (some (30, false))⟩,
               ⟨(some 34), (.pick (.t 30) (.c (.bool true)) (.t 33)), none⟩,
               ⟨(some 35), (.mov (.t 34)), none⟩,
               ⟨(some 36), (.mov (.t 2)), (some (35, false))⟩,
               ⟨(some 37), (.mov (.t 9)), (some (35, false))⟩,
               ⟨(some 38), (.call (.t 36) [(.t 37)]), (some (35, false))⟩,
               ⟨(some 39), (.un .not (.t 38)), (some (35, false))⟩,
               ⟨(some 40), (.pick (.t 35) (.c (.bool true)) (.t 39)), none⟩])
             (.cond (.t 40)
              (.seq
               (.ops [
                 ⟨(some 6), (.mov (.c (.bool false))), none⟩])
               .ret)
              .skip)))))
         (.ops [
           ⟨(some 41), (.bin .add (.t 18) (.c (.int .i64 1))), none⟩,
           ⟨(some 18), (.mov (.t 41)), none⟩])))))))
   (.seq
    (.ops [
      ⟨(some 6), (.mov (.c (.bool true))), none⟩])
    .ret)))

/- "tiller/dag.Order$1" params { toList := [3] } results { toList := [Go.ResultVar.tmp 3] } -/
def x33 : XC :=
 (.seq
  (.ops [
    ⟨(some 3), (.mov (.c (.bool false))), none⟩])
  (.seq
   (.ops [
     ⟨(some 4), (.load1 (.t 1)), none⟩,
     ⟨(some 5), (.mov (.t 0)), none⟩,
     ⟨(some 6), (.idxS 1 (.t 4) (.t 5)), none⟩,
     ⟨(some 7), (.load1 (.t 6)), none⟩,
     ⟨(some 3), (.mov (.t 7)), none⟩])
   .ret))

section
variable {E : Env}
def boolRows (l : List Bool) : List (List IV) := l.map fun b => [.bool b]
theorem rows_bools (l : List Bool) : Rows 1 (boolRows l) := by
  intro row h
  obtain ⟨n, _, rfl⟩ := List.mem_map.1 h
  rfl
theorem boolRows_len (l : List Bool) : (boolRows l).length = l.length := List.length_map ..
theorem boolRows_get {l : List Bool} {i : Nat} (h : i < l.length) : (boolRows l).getD i [] = [.bool (l.getD i false)] := by
  simp [boolRows, List.getD_eq_getElem?_getD, List.getElem?_eq_getElem h]

theorem order1_pure (hP : E.P = Tryz.prog) (t : List Bool) (k : Nat) (hk : k < t.length) : XPure E 40 [.int .i64 k, .iptr [[.isl (boolRows t)]] 0 0] (.bool (t.getD k false)) := by
  refine xpure1 (n := Tryz.f40.ntmps) (c := x33) (t := 3) (by rw [hP]; rfl) (by rw [hP]; rfl) (by decide) (Nat.le_of_ble_eq_true rfl) ?_
  generalize hρ : entry _ = ρ
  have h0 : ρ 0 = .int .i64 k := by rw [← hρ]; rfl
  have h1 : ρ 1 = .iptr [[.isl (boolRows t)]] 0 0 := by rw [← hρ]; rfl
  clear hρ
  unfold x33
  have hrow := boolRows_get hk
  simp only [h0, h1, boolRows_len, rows_bools, hrow, go_sem, Nat.reduceEqDiff, reduceIte, Int.reduceEq, Int.reduceLT, Int.reduceLE, Nat.reduceAdd, Nat.reduceLT, Nat.reduceLeDiff, Int.reduceToNat, Int.reduceSub, Int.reduceAdd, Int.reduceNeg]
  exact ⟨by omega, hk, rfl⟩

def depOk (d : DefD) (i : Nat) (p : Nat → Bool) (s : List UInt8) : Bool :=
  match d.find s with
  | some k => !decide (k = i) && p k
  | none => false
def DefD.met (d : DefD) (i : Nat) (p : Nat → Bool) : Bool := (d.nodes.getD i default).after.all (depOk d i p)

theorem met_pure (hP : E.P = Tryz.prog) (d : DefD) (i : Nat) (f : FuncId) (caps : List IV) (p : Nat → Bool) (hi : i < d.nodes.length) (hd : d.nodes.length ≤ 9223372036854775807)
    (ha : (d.nodes.getD i default).after.length ≤ 9223372036854775807) (hcap : ∀ L, mapO (conv L 12 renNone) caps = some caps)
    (hf : ∀ k, k < d.nodes.length → XPure E f (.int .i64 k :: caps) (.bool (p k))) : XPure E 39 [d.iv, .int .i64 i, .fn (.func f) [] caps] (.bool (d.met i p)) := by
  refine xpure1 (n := Tryz.f39.ntmps) (c := x32) (t := 6) (by rw [hP]; rfl) (by rw [hP]; rfl) (by decide) (Nat.le_of_ble_eq_true rfl) ?_
  generalize hρ : entry _ = ρ
  have h0 : ρ 0 = .agg [.str d.name, .isl (nodeRows d.nodes)] := by rw [← hρ]; rfl
  have h1 : ρ 1 = .int .i64 i := by rw [← hρ]; rfl
  have h2 : ρ 2 = .fn (.func f) [] caps := by rw [← hρ]; rfl
  clear hρ
  unfold x32
  have hrow := nodeRows_get hi
  simp only [h0, h1, h2, nodeRows_len, rows_nodes, hrow, NodeD.row, strRows_len, go_sem, Nat.reduceEqDiff, reduceIte, Int.reduceEq, Int.reduceLT, Int.reduceLE, Nat.reduceAdd, Nat.reduceLT, Nat.reduceLeDiff, Int.reduceToNat, Int.reduceSub, Int.reduceAdd, Int.reduceNeg]
  refine ⟨by omega, hi, ?_⟩
  generalize hA : (d.nodes.getD i default).after = A at *
  have hcv : ∀ x : Int, mapO (conv [Blk.cells 2 [[IV.str d.name, IV.isl (nodeRows d.nodes)]]] fuel renNone) (.int .i64 x :: caps) = some (.int .i64 x :: caps) := by
    intro x
    simp only [mapO]
    have e1 : ∀ L, conv L fuel renNone (.int .i64 x) = some (.int .i64 x) := fun L => rfl
    have e2 : ∀ L, mapO (conv L fuel renNone) caps = some caps := hcap
    rw [e1, e2]
  refine s_loop (fun n ρ L => ∃ j : Nat, j ≤ A.length ∧ n = A.length - j ∧ L = [.cells 2 [[.str d.name, .isl (nodeRows d.nodes)]]] ∧ ρ 1 = .int .i64 i ∧ ρ 2 = .fn (.func f) [] caps ∧ ρ 3 = .ptr 0 0 0 ∧
      ρ 16 = .isl (strRows A) ∧ ρ 17 = .int .i64 A.length ∧ ρ 18 = .int .i64 j ∧ (A.take j).all (depOk d i p) = true)
    ⟨0, Nat.zero_le _, rfl, rfl, by simp only [h1, go_sem, Nat.reduceEqDiff, reduceIte, Int.reduceEq, Int.reduceLT, Int.reduceLE, Nat.reduceAdd, Nat.reduceLT, Nat.reduceLeDiff, Int.reduceToNat, Int.reduceSub, Int.reduceAdd, Int.reduceNeg], by simp only [h2, go_sem, Nat.reduceEqDiff, reduceIte, Int.reduceEq, Int.reduceLT, Int.reduceLE, Nat.reduceAdd, Nat.reduceLT, Nat.reduceLeDiff, Int.reduceToNat, Int.reduceSub, Int.reduceAdd, Int.reduceNeg], by simp only [go_sem, Nat.reduceEqDiff, reduceIte, Int.reduceEq, Int.reduceLT, Int.reduceLE, Nat.reduceAdd, Nat.reduceLT, Nat.reduceLeDiff, Int.reduceToNat, Int.reduceSub, Int.reduceAdd, Int.reduceNeg], by simp only [go_sem, Nat.reduceEqDiff, reduceIte, Int.reduceEq, Int.reduceLT, Int.reduceLE, Nat.reduceAdd, Nat.reduceLT, Nat.reduceLeDiff, Int.reduceToNat, Int.reduceSub, Int.reduceAdd, Int.reduceNeg], by simp only [go_sem, Nat.reduceEqDiff, reduceIte, Int.reduceEq, Int.reduceLT, Int.reduceLE, Nat.reduceAdd, Nat.reduceLT, Nat.reduceLeDiff, Int.reduceToNat, Int.reduceSub, Int.reduceAdd, Int.reduceNeg], by simp only [go_sem, Nat.reduceEqDiff, reduceIte, Int.reduceEq, Int.reduceLT, Int.reduceLE, Nat.reduceAdd, Nat.reduceLT, Nat.reduceLeDiff, Int.reduceToNat, Int.reduceSub, Int.reduceAdd, Int.reduceNeg]; try rfl, rfl⟩ ?_
  clear h0 h1 h2 ρ
  rintro n ρ L ⟨j, hj, rfl, rfl, h1, h2, h3, h16, h17, h18, hall⟩
  simp only [h1, h2, h3, h16, h17, h18, go_sem, Nat.reduceEqDiff, reduceIte, Int.reduceEq, Int.reduceLT, Int.reduceLE, Nat.reduceAdd, Nat.reduceLT, Nat.reduceLeDiff, Int.reduceToNat, Int.reduceSub, Int.reduceAdd, Int.reduceNeg]
  refine s_cond (b := decide _) (by simp only [h1, h2, h3, h16, h17, h18, strRows_len, rows_strs, go_sem, Nat.reduceEqDiff, reduceIte, Int.reduceEq, Int.reduceLT, Int.reduceLE, Nat.reduceAdd, Nat.reduceLT, Nat.reduceLeDiff, Int.reduceToNat, Int.reduceSub, Int.reduceAdd, Int.reduceNeg]; try rfl) ?_ ?_ <;> intro hb <;> simp only [hb, h1, h2, h3, h16, h17, h18, strRows_len, rows_strs, go_sem, Nat.reduceEqDiff, reduceIte, Int.reduceEq, Int.reduceLT, Int.reduceLE, Nat.reduceAdd, Nat.reduceLT, Nat.reduceLeDiff, Int.reduceToNat, Int.reduceSub, Int.reduceAdd, Int.reduceNeg]
  · rw [decide_eq_true_eq] at hb
    have hj' : j < A.length := by omega
    have hrow := strRows_get hj'
    refine ⟨hb, ?_⟩
    simp only [h1, h2, h3, h16, h17, h18, hrow, go_sem, Nat.reduceEqDiff, reduceIte, Int.reduceEq, Int.reduceLT, Int.reduceLE, Nat.reduceAdd, Nat.reduceLT, Nat.reduceLeDiff, Int.reduceToNat, Int.reduceSub, Int.reduceAdd, Int.reduceNeg]
    refine ⟨hj', ?_⟩
    refine xcall_pure (args' := [d.iv, .str (A.getD j [])]) rfl (dagFind_pure hP d _ hd) rfl ?_
    have hdep : depOk d i p (A.getD j []) = match d.find (A.getD j []) with | some k => !decide (k = i) && p k | none => false := rfl
    have hfin : ∀ b : Bool, depOk d i p (A.getD j []) = b → (b = false → d.met i p = false) ∧ (b = true → (A.take (j + 1)).all (depOk d i p) = true) := by
      intro b hb'
      refine ⟨fun h => ?_, fun h => ?_⟩
      · rw [DefD.met, hA]; exact all_false (d := []) hj' (by rw [hb', h])
      · rw [take_succ_all (d := []) hj' hall, hb', h]
    have hw : IntKind.i64.wrap ((j : Int) + 1) = ((j + 1 : Nat) : Int) := by rw [wrap64 (by omega) (by omega)]; rfl
    cases hfd : d.find (A.getD j []) with
    | none =>
      rw [hfd] at hdep
      try simp only [h1, h2, h3, h16, h17, h18, findN, Option.isSome, go_sem, Nat.reduceEqDiff, reduceIte, Int.reduceEq, Int.reduceLT, Int.reduceLE, Nat.reduceAdd, Nat.reduceLT, Nat.reduceLeDiff, Int.reduceToNat, Int.reduceSub, Int.reduceAdd, Int.reduceNeg]
      rw [(hfin false hdep).1 rfl]; rfl
    | some k =>
      rw [hfd] at hdep
      have hk : k < d.nodes.length := firstI_lt hfd
      simp only [h1, h2, h3, h16, h17, h18, findN, Option.isSome, go_sem, Nat.reduceEqDiff, reduceIte, Int.reduceEq, Int.reduceLT, Int.reduceLE, Nat.reduceAdd, Nat.reduceLT, Nat.reduceLeDiff, Int.reduceToNat, Int.reduceSub, Int.reduceAdd, Int.reduceNeg]
      refine s_mg (by simp only [h1, h2, h3, h16, h17, h18, go_sem, Nat.reduceEqDiff, reduceIte, Int.reduceEq, Int.reduceLT, Int.reduceLE, Nat.reduceAdd, Nat.reduceLT, Nat.reduceLeDiff, Int.reduceToNat, Int.reduceSub, Int.reduceAdd, Int.reduceNeg]; try rfl) ?_; simp only [cut_g, cut_t, cut_none, cut_out, memN_cons, memN_nil, Nat.reduceEqDiff, reduceIte, List.nil_append, List.cons_append, not_false_eq_true]; refine ex_merge rfl (by simp only [h1, h2, h3, h16, h17, h18, go_sem, Nat.reduceEqDiff, reduceIte, Int.reduceEq, Int.reduceLT, Int.reduceLE, Nat.reduceAdd, Nat.reduceLT, Nat.reduceLeDiff, Int.reduceToNat, Int.reduceSub, Int.reduceAdd, Int.reduceNeg]) (by intro hb; simp only [hb, h1, h2, h3, h16, h17, h18, go_sem, Nat.reduceEqDiff, reduceIte, Int.reduceEq, Int.reduceLT, Int.reduceLE, Nat.reduceAdd, Nat.reduceLT, Nat.reduceLeDiff, Int.reduceToNat, Int.reduceSub, Int.reduceAdd, Int.reduceNeg]; refine xcall_pure (args' := .int .i64 _ :: caps) (hcv _) (hf k hk) rfl ?_; (try simp only [h1, h2, h3, h16, h17, h18, go_sem, Nat.reduceEqDiff, reduceIte, Int.reduceEq, Int.reduceLT, Int.reduceLE, Nat.reduceAdd, Nat.reduceLT, Nat.reduceLeDiff, Int.reduceToNat, Int.reduceSub, Int.reduceAdd, Int.reduceNeg]); (try simp only [hb, h1, h2, h3, h16, h17, h18, go_sem, Nat.reduceEqDiff, reduceIte, Int.reduceEq, Int.reduceLT, Int.reduceLE, Nat.reduceAdd, Nat.reduceLT, Nat.reduceLeDiff, Int.reduceToNat, Int.reduceSub, Int.reduceAdd, Int.reduceNeg]); first | exact rfl | exact ⟨rfl, rfl⟩) (fun vs => ?_); simp only [h1, h2, h3, h16, h17, h18, go_sem, Nat.reduceEqDiff, reduceIte, Int.reduceEq, Int.reduceLT, Int.reduceLE, Nat.reduceAdd, Nat.reduceLT, Nat.reduceLeDiff, Int.reduceToNat, Int.reduceSub, Int.reduceAdd, Int.reduceNeg]
      have hki : decide ((k : Int) = (i : Int)) = decide (k = i) := by congr 1; exact propext ⟨fun h => by omega, fun h => by omega⟩
      refine s_cond (b := decide (k = i) || !p k) (by simp only [h1, h2, h3, h16, h17, h18, hki, go_sem, Nat.reduceEqDiff, reduceIte, Int.reduceEq, Int.reduceLT, Int.reduceLE, Nat.reduceAdd, Nat.reduceLT, Nat.reduceLeDiff, Int.reduceToNat, Int.reduceSub, Int.reduceAdd, Int.reduceNeg]; try rfl) ?_ ?_ <;> intro hc <;> simp only [hc, h1, h2, h3, h16, h17, h18, go_sem, Nat.reduceEqDiff, reduceIte, Int.reduceEq, Int.reduceLT, Int.reduceLE, Nat.reduceAdd, Nat.reduceLT, Nat.reduceLeDiff, Int.reduceToNat, Int.reduceSub, Int.reduceAdd, Int.reduceNeg]
      · have hb2 : depOk d i p (A.getD j []) = false := by
          rw [hdep]; revert hc
          show (decide (k = i) || !p k) = true → (!decide (k = i) && p k) = false
          cases decide (k = i) <;> cases p k <;> simp
        rw [(hfin false hb2).1 rfl]; rfl
      · have hb2 : depOk d i p (A.getD j []) = true := by
          rw [hdep]; revert hc
          show (decide (k = i) || !p k) = false → (!decide (k = i) && p k) = true
          cases decide (k = i) <;> cases p k <;> simp
        refine ⟨A.length - (j + 1), by omega, j + 1, by omega, rfl, ?_, (hfin true hb2).2 rfl⟩
        rw [hw]
  · rw [decide_eq_false_iff_not] at hb
    have hj' : j = A.length := by omega
    subst hj'
    rw [List.take_length] at hall
    have hm : d.met i p = true := by rw [DefD.met, hA]; exact hall
    rw [hm]; rfl
end
end Go.X.TryzW
end
section
open Go Go.X Go.Proofs
set_option maxRecDepth 100000
set_option maxHeartbeats 2000000
set_option linter.unusedSimpArgs false
set_option linter.unusedVariables false
namespace Go.X.TryzW
def x17r : XC :=
 (.seq (.seq (.ops [ ⟨(some 11), (.fldA 1 (.t 1)), none⟩, ⟨(some 12), (.load1 (.t 11)), none⟩, ⟨(some 13), (.len (.t 12)), none⟩, ⟨(some 14), (.mov (.c (.int .i64 0))), none⟩]) (.block 0 (.loop (.seq (.ops [ ⟨(some 15), (.bin .lss (.t 14) (.t 13)), none⟩]) (.seq (.cond (.t 15) .skip (.exit 0)) (.seq (.block 1 (.seq (.ops [ ⟨(some 16), (.mov (.t 14)), none⟩, ⟨(some 6), (.mov (.t 16)), none⟩]) (.seq (.ops [ ⟨(some 17), (.load1 (.t 5)), none⟩, ⟨(some 18), (.mov (.t 6)), none⟩, ⟨(some 19), (.idxS 1 (.t 17) (.t 18)), none⟩, ⟨(some 20), (.load1 (.t 19)), none⟩, ⟨(some 21), (.un .not (.t 20)), none⟩, ⟨(some 22), (.mov (.t 21)), none⟩, ⟨(some 23), (.loadN 2 (.t 1)), (some (22, true))⟩, ⟨(some 24), (.mov (.t 6)), (some (22, true))⟩, ⟨(some 25), (.mkfn (.func 40) [] [(.t 5)]), (some (22, true))⟩, ⟨(some 26), (.call (.f 39) [(.t 23), (.t 24), (.t 25)]), (some (22, true))⟩, ⟨(some 27), (.pick (.t 22) (.t 26) (.c (.bool false))), none⟩]) (.cond (.t 27) (.seq (.ops [ ⟨(some 28), (.load1 (.t 5)), none⟩, ⟨(some 29), (.mov (.t 6)), none⟩, ⟨(some 30), (.idxS 1 (.t 28) (.t 29)), none⟩, ⟨none, (.store 1 (.t 30) (.c (.bool true))), none⟩]) (.seq (.ops [ ⟨(some 31), (.mov (.t 4)), none⟩, ⟨(some 32), (.mov (.t 6)), none⟩, ⟨(some 33), (.bslice 1 [(.int .i64 0)] 1 [(0, (.t 32))]), none⟩, ⟨(some 34), (.append 1 8 (.t 31) (.t 33)), none⟩, ⟨(some 4), (.mov (.t 34)), none⟩]) (.goto 0))) .skip)))) (.ops [ ⟨(some 35), (.bin .add (.t 14) (.c (.int .i64 1))), none⟩, ⟨(some 14), (.mov (.t 35)), none⟩]))))))) (.seq (.draw [ ⟨(some 36), (.mov (.t 4)), none⟩, ⟨(some 37), (.mov (.t 4)), none⟩, ⟨(some 38), (.len (.t 37)), none⟩, ⟨(some 39), (.fldA 1 (.t 1)), none⟩, ⟨(some 40), (.load1 (.t 39)), none⟩, ⟨(some 41), (.len (.t 40)), none⟩, ⟨(some 42), (.bin .eql (.t 38) (.t 41)), none⟩, ⟨(some 2), (.mov (.t 36)), none⟩, ⟨(some 3), (.mov (.t 42)), none⟩]) .ret))
def x17 : XC :=
 (.seq (.ops [ ⟨(some 1), (.box (.t 0)), none⟩, ⟨(some 2), (.mov (.c .nsl)), none⟩, ⟨(some 3), (.mov (.c (.bool false))), none⟩]) (.scope (.seq (.ops [ ⟨(some 4), (.mov (.c .nsl)), none⟩]) (.seq (.ops [ ⟨(some 7), (.fldA 1 (.t 1)), none⟩, ⟨(some 8), (.load1 (.t 7)), none⟩, ⟨(some 9), (.len (.t 8)), none⟩, ⟨(some 10), (.mkslice [(.bool false)] 1 (.t 9) (.t 9)), none⟩, ⟨(some 5), (.alloc [.nsl]), none⟩, ⟨none, (.store 1 (.t 5) (.t 10)), none⟩]) (.seq (.label 0) x17r))) (.cons 0 (.seq .skip x17r) .nil)))
section
variable {E : Env}
theorem comp17 : compFn Tryz.prog Tryz.f18 = some ⟨Tryz.f18.ntmps, [.tmp 2, .tmp 3], x17⟩ := by kernel_rfl
def intRows (l : List Nat) : List (List IV) := l.map fun (i : Nat) => [.int .i64 (i : Int)]
/-- May this one be told now? -/
def DefD.may (d : DefD) (told : List Bool) (i : Nat) : Bool := !told.getD i false && d.met i (fun k => told.getD k false)
def DefD.ordGo (d : DefD) : Nat → List Bool → List Nat → List Nat
  | 0, _, out => out
  | n + 1, told, out => match firstI (d.may told) (List.range d.nodes.length) with
    | none => out
    | some i => d.ordGo n (told.set i true) (out ++ [i])
def DefD.order (d : DefD) : List Nat := d.ordGo (d.nodes.length + 1) (List.replicate d.nodes.length false) []

def ordBase (d : DefD) (told : List Bool) : List Blk := [.cells 2 [[.str d.name, .isl (nodeRows d.nodes)]], .cells 1 (boolRows told), .cells 1 [[.sl 1 0 d.nodes.length d.nodes.length]]]
def ordInv (d : DefD) (n : Nat) (ρ : Rho) (L : List Blk) : Prop := ∃ (told : List Bool) (out : List Nat), told.length = d.nodes.length ∧ out.length + n = d.nodes.length + 1 ∧ told.count true = out.length ∧
  ρ 1 = .ptr 0 0 0 ∧ ρ 5 = .ptr 2 0 0 ∧ OutOk 1 (ordBase d told) (intRows out) (ρ 4) L ∧ d.order = d.ordGo n told out

theorem boolRows_rep (n : Nat) : List.replicate n [IV.bool false] = boolRows (List.replicate n false) := by simp [boolRows]
theorem boolRows_set (l : List Bool) (i : Nat) : (boolRows l).set i [.bool true] = boolRows (l.set i true) := by simp [boolRows, List.map_set]
theorem mapO_bools (L : List Blk) (n : Nat) (m : Ren) (l : List Bool) : mapO (mapO (conv L (n + 1) m)) (boolRows l) = some (boolRows l) := by
  refine mapO_same fun row h => ?_
  obtain ⟨b, _, rfl⟩ := List.mem_map.1 h
  rfl
theorem mapO_ints (L : List Blk) (n : Nat) (m : Ren) (l : List Nat) : mapO (mapO (conv L (n + 1) m)) (intRows l) = some (intRows l) := by
  refine mapO_same fun row h => ?_
  obtain ⟨b, _, rfl⟩ := List.mem_map.1 h
  rfl
theorem intRows_len (l : List Nat) : (intRows l).length = l.length := List.length_map ..

theorem order_round (hP : E.P = Tryz.prog) (d : DefD) (hd : d.nodes.length ≤ 1000000) (ha : ∀ n ∈ d.nodes, n.after.length ≤ 9223372036854775807) (n : Nat) (ρ : Rho) (L : List Blk) (h : ordInv d n ρ L) :
    xrun E x17r ρ L (gotoK 0 (ordInv d) n (doneK fun ρ L' => (∃ told, OutOk 1 (ordBase d told) (intRows d.order) (ρ 2) L') ∧ ρ 3 = .bool (decide (d.order.length = d.nodes.length)))) := by
  obtain ⟨told, out, htold, hcount, hct, h1, h5, ⟨J, rfl, hout⟩, hgo⟩ := h
  show xrun E x17r ρ (.cells 2 [[.str d.name, .isl (nodeRows d.nodes)]] :: .cells 1 (boolRows told) :: .cells 1 [[.sl 1 0 d.nodes.length d.nodes.length]] :: J) _
  generalize h4 : ρ 4 = v at hout
  unfold x17r
  simp only [h1, h4, h5, nodeRows_len, go_sem, Nat.reduceEqDiff, reduceIte, Int.reduceEq, Int.reduceLT, Int.reduceLE, Nat.reduceAdd, Nat.reduceLT, Nat.reduceLeDiff, Int.reduceToNat, Int.reduceSub, Int.reduceAdd, Int.reduceNeg]
  refine s_loop (fun n' ρ L => ∃ i : Nat, i ≤ d.nodes.length ∧ n' = d.nodes.length - i ∧ L = .cells 2 [[.str d.name, .isl (nodeRows d.nodes)]] :: .cells 1 (boolRows told) :: .cells 1 [[.sl 1 0 d.nodes.length d.nodes.length]] :: J ∧
      ρ 1 = .ptr 0 0 0 ∧ ρ 4 = v ∧ ρ 5 = .ptr 2 0 0 ∧ ρ 13 = .int .i64 d.nodes.length ∧ ρ 14 = .int .i64 i ∧ (List.range i).all (fun k => !d.may told k) = true)
    ⟨0, Nat.zero_le _, rfl, rfl, by simp only [h1, go_sem, Nat.reduceEqDiff, reduceIte, Int.reduceEq, Int.reduceLT, Int.reduceLE, Nat.reduceAdd, Nat.reduceLT, Nat.reduceLeDiff, Int.reduceToNat, Int.reduceSub, Int.reduceAdd, Int.reduceNeg], by simp only [h4, go_sem, Nat.reduceEqDiff, reduceIte, Int.reduceEq, Int.reduceLT, Int.reduceLE, Nat.reduceAdd, Nat.reduceLT, Nat.reduceLeDiff, Int.reduceToNat, Int.reduceSub, Int.reduceAdd, Int.reduceNeg], by simp only [h5, go_sem, Nat.reduceEqDiff, reduceIte, Int.reduceEq, Int.reduceLT, Int.reduceLE, Nat.reduceAdd, Nat.reduceLT, Nat.reduceLeDiff, Int.reduceToNat, Int.reduceSub, Int.reduceAdd, Int.reduceNeg], by simp only [go_sem, Nat.reduceEqDiff, reduceIte, Int.reduceEq, Int.reduceLT, Int.reduceLE, Nat.reduceAdd, Nat.reduceLT, Nat.reduceLeDiff, Int.reduceToNat, Int.reduceSub, Int.reduceAdd, Int.reduceNeg], by simp only [go_sem, Nat.reduceEqDiff, reduceIte, Int.reduceEq, Int.reduceLT, Int.reduceLE, Nat.reduceAdd, Nat.reduceLT, Nat.reduceLeDiff, Int.reduceToNat, Int.reduceSub, Int.reduceAdd, Int.reduceNeg]; try rfl, rfl⟩ ?_
  clear h1 h4 h5 ρ
  rintro n' ρ L ⟨i, hi, rfl, rfl, h1, h4, h5, h13, h14, hall⟩
  simp only [h1, h4, h5, h13, h14, go_sem, Nat.reduceEqDiff, reduceIte, Int.reduceEq, Int.reduceLT, Int.reduceLE, Nat.reduceAdd, Nat.reduceLT, Nat.reduceLeDiff, Int.reduceToNat, Int.reduceSub, Int.reduceAdd, Int.reduceNeg]
  refine s_cond (b := decide _) (by simp only [h1, h4, h5, h13, h14, boolRows_len, rows_bools, nodeRows_len, htold, go_sem, Nat.reduceEqDiff, reduceIte, Int.reduceEq, Int.reduceLT, Int.reduceLE, Nat.reduceAdd, Nat.reduceLT, Nat.reduceLeDiff, Int.reduceToNat, Int.reduceSub, Int.reduceAdd, Int.reduceNeg]; try rfl) ?_ ?_ <;> intro hb <;> simp only [hb, h1, h4, h5, h13, h14, boolRows_len, rows_bools, nodeRows_len, htold, go_sem, Nat.reduceEqDiff, reduceIte, Int.reduceEq, Int.reduceLT, Int.reduceLE, Nat.reduceAdd, Nat.reduceLT, Nat.reduceLeDiff, Int.reduceToNat, Int.reduceSub, Int.reduceAdd, Int.reduceNeg]
  · rw [decide_eq_true_eq] at hb
    have hi' : i < d.nodes.length := by omega
    have hit : i < told.length := by omega
    have hrow := boolRows_get hit
    refine ⟨hb, ?_⟩
    simp only [h1, h4, h5, h13, h14, hrow, go_sem, Nat.reduceEqDiff, reduceIte, Int.reduceEq, Int.reduceLT, Int.reduceLE, Nat.reduceAdd, Nat.reduceLT, Nat.reduceLeDiff, Int.reduceToNat, Int.reduceSub, Int.reduceAdd, Int.reduceNeg]
    refine ⟨hi', ?_⟩
    have hmem : d.nodes.getD i default ∈ d.nodes := by rw [List.getD_eq_getElem?_getD, List.getElem?_eq_getElem hi']; exact List.getElem_mem _
    have hmet := met_pure (E := E) hP d i 40 [.iptr [[.isl (boolRows told)]] 0 0] (fun k => told.getD k false) hi' (by omega) (ha _ hmem) (fun L => rfl) (fun k hk => order1_pure hP told k (by omega))
    have hl : (boolRows told).length = d.nodes.length := by rw [boolRows_len, htold]
    have hcv : mapO (conv (.cells 2 [[.str d.name, .isl (nodeRows d.nodes)]] :: .cells 1 (boolRows told) :: .cells 1 [[.sl 1 0 d.nodes.length d.nodes.length]] :: J) fuel renFreeze)
        [.agg [.str d.name, .isl (nodeRows d.nodes)], .int .i64 i, .fn (.func 40) [] [.ptr 2 0 0]] = some [d.iv, .int .i64 i, .fn (.func 40) [] [.iptr [[.isl (boolRows told)]] 0 0]] := by
      refine mapO_cons rfl (mapO_cons rfl (mapO_cons (conv_fn rfl (mapO_cons (conv_ptr_free rfl rfl (mapO_cons (mapO_cons (conv_sl_free rfl rfl (by omega) ?_) rfl) rfl)) rfl)) rfl))
      rw [List.drop_zero, List.take_of_length_le (by omega)]
      exact mapO_bools _ _ _ _
    refine s_mg (by simp only [h1, h4, h5, h13, h14, go_sem, Nat.reduceEqDiff, reduceIte, Int.reduceEq, Int.reduceLT, Int.reduceLE, Nat.reduceAdd, Nat.reduceLT, Nat.reduceLeDiff, Int.reduceToNat, Int.reduceSub, Int.reduceAdd, Int.reduceNeg]; try rfl) ?_; simp only [cut_g, cut_t, cut_none, cut_out, memN_cons, memN_nil, Nat.reduceEqDiff, reduceIte, List.nil_append, List.cons_append, not_false_eq_true]; refine ex_merge rfl (by simp only [h1, h4, h5, h13, h14, go_sem, Nat.reduceEqDiff, reduceIte, Int.reduceEq, Int.reduceLT, Int.reduceLE, Nat.reduceAdd, Nat.reduceLT, Nat.reduceLeDiff, Int.reduceToNat, Int.reduceSub, Int.reduceAdd, Int.reduceNeg]) (by intro hb; simp only [hb, h1, h4, h5, h13, h14, go_sem, Nat.reduceEqDiff, reduceIte, Int.reduceEq, Int.reduceLT, Int.reduceLE, Nat.reduceAdd, Nat.reduceLT, Nat.reduceLeDiff, Int.reduceToNat, Int.reduceSub, Int.reduceAdd, Int.reduceNeg]; refine xcall_lend (args' := [d.iv, .int .i64 i, .fn (.func 40) [] [.iptr [[.isl (boolRows told)]] 0 0]]) hcv hmet rfl rfl ?_; (try simp only [h1, h4, h5, h13, h14, go_sem, Nat.reduceEqDiff, reduceIte, Int.reduceEq, Int.reduceLT, Int.reduceLE, Nat.reduceAdd, Nat.reduceLT, Nat.reduceLeDiff, Int.reduceToNat, Int.reduceSub, Int.reduceAdd, Int.reduceNeg]); (try simp only [hb, h1, h4, h5, h13, h14, go_sem, Nat.reduceEqDiff, reduceIte, Int.reduceEq, Int.reduceLT, Int.reduceLE, Nat.reduceAdd, Nat.reduceLT, Nat.reduceLeDiff, Int.reduceToNat, Int.reduceSub, Int.reduceAdd, Int.reduceNeg]); first | exact rfl | exact ⟨rfl, rfl⟩) (fun vs => ?_); simp only [h1, h4, h5, h13, h14, go_sem, Nat.reduceEqDiff, reduceIte, Int.reduceEq, Int.reduceLT, Int.reduceLE, Nat.reduceAdd, Nat.reduceLT, Nat.reduceLeDiff, Int.reduceToNat, Int.reduceSub, Int.reduceAdd, Int.reduceNeg]
    refine s_cond (b := d.may told i) (by simp only [h1, h4, h5, h13, h14, go_sem, Nat.reduceEqDiff, reduceIte, Int.reduceEq, Int.reduceLT, Int.reduceLE, Nat.reduceAdd, Nat.reduceLT, Nat.reduceLeDiff, Int.reduceToNat, Int.reduceSub, Int.reduceAdd, Int.reduceNeg]; try rfl) ?_ ?_ <;> intro hc <;> simp only [hc, h1, h4, h5, h13, h14, boolRows_len, htold, go_sem, Nat.reduceEqDiff, reduceIte, Int.reduceEq, Int.reduceLT, Int.reduceLE, Nat.reduceAdd, Nat.reduceLT, Nat.reduceLeDiff, Int.reduceToNat, Int.reduceSub, Int.reduceAdd, Int.reduceNeg]
    · have hset : (boolRows told).set i (IV.bool true :: List.drop 1 ((boolRows told).getD i [])) = boolRows (told.set i true) := by rw [hrow]; exact boolRows_set _ _
      refine ⟨hb, hi', by rw [hrow]; exact Nat.le_refl 1, ?_⟩
      rw [hset]
      have hO : OutOk 1 (ordBase d (told.set i true)) (intRows out) v (ordBase d (told.set i true) ++ J) := by
        refine ⟨J, rfl, ?_⟩
        rcases hout with h | ⟨s, hs, h2, h3⟩
        · exact .inl h
        · refine .inr ⟨s, hs, h2, ?_⟩
          have hs' : 3 ≤ s := hs
          rw [List.getElem?_append_right (by exact hs)] at h3 ⊢
          exact h3
      have hle : out.length ≤ d.nodes.length := by rw [← hct, ← htold]; exact List.count_le_length
      refine out_append (row := [.int .i64 i]) hO rfl rfl ⟨rfl, rfl⟩ (by rw [intRows_len]; omega) ?_
      intro v' L' hO'
      simp only [h1, h4, h5, h13, h14, go_sem, Nat.reduceEqDiff, reduceIte, Int.reduceEq, Int.reduceLT, Int.reduceLE, Nat.reduceAdd, Nat.reduceLT, Nat.reduceLeDiff, Int.reduceToNat, Int.reduceSub, Int.reduceAdd, Int.reduceNeg]
      have hti : told.getD i false = false := by
        have : d.may told i = true := hc
        simp only [DefD.may, Bool.and_eq_true, Bool.not_eq_true'] at this
        exact this.1
      have hstep : d.ordGo n told out = d.ordGo (n - 1) (told.set i true) (out ++ [i]) := by
        obtain ⟨m, rfl⟩ : ∃ m, n = m + 1 := ⟨n - 1, by omega⟩
        rw [DefD.ordGo]
        have hf : firstI (d.may told) (List.range d.nodes.length) = some i := by
          refine firstI_some (d := 0) (by simpa using hi') ?_ ?_
          · rw [List.take_range, Nat.min_eq_left (by omega)]; exact hall
          · simpa [List.getD_eq_getElem?_getD, hi'] using hc
        rw [hf]; rfl
      refine ⟨n - 1, by omega, told.set i true, out ++ [i], by simp [htold], by simp; omega, ?_, by simp only [h1, h4, h5, h13, h14, go_sem, Nat.reduceEqDiff, reduceIte, Int.reduceEq, Int.reduceLT, Int.reduceLE, Nat.reduceAdd, Nat.reduceLT, Nat.reduceLeDiff, Int.reduceToNat, Int.reduceSub, Int.reduceAdd, Int.reduceNeg], by simp only [h1, h4, h5, h13, h14, go_sem, Nat.reduceEqDiff, reduceIte, Int.reduceEq, Int.reduceLT, Int.reduceLE, Nat.reduceAdd, Nat.reduceLT, Nat.reduceLeDiff, Int.reduceToNat, Int.reduceSub, Int.reduceAdd, Int.reduceNeg], ?_, by rw [hgo, hstep]⟩
      · rw [List.count_set (by omega)]
        have : told[i] = false := by simpa [List.getD_eq_getElem?_getD, List.getElem?_eq_getElem hit] using hti
        simp [this]; omega
      · try simp only [go_sem, Nat.reduceEqDiff, reduceIte, Int.reduceEq, Int.reduceLT, Int.reduceLE, Nat.reduceAdd, Nat.reduceLT, Nat.reduceLeDiff, Int.reduceToNat, Int.reduceSub, Int.reduceAdd, Int.reduceNeg]
        have hr : intRows (out ++ [i]) = intRows out ++ [[.int .i64 i]] := by simp [intRows]
        rw [hr]; exact hO'
    · refine ⟨d.nodes.length - (i + 1), by omega, i + 1, by omega, rfl, by rw [wrap64 (by omega) (by omega)]; rfl, ?_⟩
      rw [List.range_succ, List.all_append, hall]
      simpa using hc
  · rw [decide_eq_false_iff_not] at hb
    have hi' : i = d.nodes.length := by omega
    subst hi'
    have hO : OutOk 1 (ordBase d told) (intRows out) v (ordBase d told ++ J) := ⟨J, rfl, hout⟩
    refine ⟨rfl, ?_⟩
    simp only [h1, h4, h5, h13, h14, o_len_out hO, intRows_len, nodeRows_len, go_sem, Nat.reduceEqDiff, reduceIte, Int.reduceEq, Int.reduceLT, Int.reduceLE, Nat.reduceAdd, Nat.reduceLT, Nat.reduceLeDiff, Int.reduceToNat, Int.reduceSub, Int.reduceAdd, Int.reduceNeg]
    have hle : out.length ≤ d.nodes.length := by rw [← hct, ← htold]; exact List.count_le_length
    have hout' : d.order = out := by
      rw [hgo]
      obtain ⟨m, rfl⟩ : ∃ m, n = m + 1 := ⟨n - 1, by omega⟩
      rw [DefD.ordGo, firstI_none hall]
    rw [hout']
    refine ⟨⟨_, hO⟩, ?_⟩
    show IV.bool (decide ((out.length : Int) = (d.nodes.length : Int))) = _
    congr 1
    simp only [decide_eq_decide]
    omega

theorem order_pure (hP : E.P = Tryz.prog) (d : DefD) (hd : d.nodes.length ≤ 1000000) (ha : ∀ n ∈ d.nodes, n.after.length ≤ 9223372036854775807) :
    XPure E 18 [d.iv] (.tup [.isl (intRows d.order), .bool (decide (d.order.length = d.nodes.length))]) := by
  refine xpure2 (n := Tryz.f18.ntmps) (c := x17) (t := 2) (t' := 3) (by rw [hP]; rfl) (by rw [hP]; exact comp17) (by decide) (Nat.le_of_ble_eq_true rfl) ?_
  generalize hρ : entry _ = ρ
  have h0 : ρ 0 = .agg [.str d.name, .isl (nodeRows d.nodes)] := by rw [← hρ]; rfl
  clear hρ
  unfold x17
  simp only [h0, go_sem, Nat.reduceEqDiff, reduceIte, Int.reduceEq, Int.reduceLT, Int.reduceLE, Nat.reduceAdd, Nat.reduceLT, Nat.reduceLeDiff, Int.reduceToNat, Int.reduceSub, Int.reduceAdd, Int.reduceNeg]
  refine xrun_mono (K := doneK fun ρ L' => (∃ told, OutOk 1 (ordBase d told) (intRows d.order) (ρ 2) L') ∧ ρ 3 = .bool (decide (d.order.length = d.nodes.length))) _ (fun e ρ L h => ?_) ?_
  · have key : ((∃ told, OutOk 1 (ordBase d told) (intRows d.order) (ρ 2) L) ∧ ρ 3 = .bool (decide (d.order.length = d.nodes.length))) → conv L 11 renFreeze (ρ 2) = some (.isl (intRows d.order)) ∧ conv L 11 renFreeze (ρ 3) = some (.bool (decide (d.order.length = d.nodes.length))) := by
      rintro ⟨⟨told, h1⟩, h2⟩
      exact ⟨out_conv h1 (mapO_ints _ _ _ _), by rw [h2]; rfl⟩
    cases e with
    | normal => exact key h
    | ret => exact key h
    | exit => exact h.elim
    | goto => exact h.elim
  refine s_scope (ordInv d) (d.nodes.length + 1) ?_ (fun n ρ L h => ?_)
  · simp only [h0, nodeRows_len, List.length_replicate, boolRows_rep, go_sem, Nat.reduceEqDiff, reduceIte, Int.reduceEq, Int.reduceLT, Int.reduceLE, Nat.reduceAdd, Nat.reduceLT, Nat.reduceLeDiff, Int.reduceToNat, Int.reduceSub, Int.reduceAdd, Int.reduceNeg]
    refine ⟨by omega, by omega, by omega, ?_⟩
    refine order_round (E := E.noPan) hP d hd ha _ _ _ ?_
    refine ⟨List.replicate d.nodes.length false, [], by simp, by simp, by rw [List.count_replicate]; rfl, by simp only [go_sem, Nat.reduceEqDiff, reduceIte, Int.reduceEq, Int.reduceLT, Int.reduceLE, Nat.reduceAdd, Nat.reduceLT, Nat.reduceLeDiff, Int.reduceToNat, Int.reduceSub, Int.reduceAdd, Int.reduceNeg], by simp only [go_sem, Nat.reduceEqDiff, reduceIte, Int.reduceEq, Int.reduceLT, Int.reduceLE, Nat.reduceAdd, Nat.reduceLT, Nat.reduceLeDiff, Int.reduceToNat, Int.reduceSub, Int.reduceAdd, Int.reduceNeg], ?_, rfl⟩
    try simp only [go_sem, Nat.reduceEqDiff, reduceIte, Int.reduceEq, Int.reduceLT, Int.reduceLE, Nat.reduceAdd, Nat.reduceLT, Nat.reduceLeDiff, Int.reduceToNat, Int.reduceSub, Int.reduceAdd, Int.reduceNeg]
    exact out_nil (p := ordBase d _) (J := [])
  · simp only [go_sem, Nat.reduceEqDiff, reduceIte, Int.reduceEq, Int.reduceLT, Int.reduceLE, Nat.reduceAdd, Nat.reduceLT, Nat.reduceLeDiff, Int.reduceToNat, Int.reduceSub, Int.reduceAdd, Int.reduceNeg]
    exact order_round (E := E.noPan) hP d hd ha n ρ L h
end
end Go.X.TryzW
end
section
open Go Go.X Go.Proofs
set_option maxRecDepth 100000
set_option maxHeartbeats 4000000
set_option linter.unusedSimpArgs false
set_option linter.unusedVariables false
namespace Go.X.TryzW
/- "slices.IndexFunc[[]string,string]" params { toList := [22, 23] } results { toList := [Go.ResultVar.tmp 4] } -/
def x41 : XC :=
 (.seq
  (.ops [
    ⟨(some 4), (.mov (.c (.int .i64 0))), none⟩])
  (.seq
   (.seq
    (.ops [
      ⟨(some 6), (.mov (.t 0)), none⟩,
      ⟨(some 7), (.len (.t 6)), none⟩,
      ⟨(some 8), (.mov (.c (.int .i64 0))), none⟩])
    (.block 0
     (.loop
      (.seq
       (.ops [
         ⟨(some 9), (.bin .lss (.t 8) (.t 7)), none⟩])
       (.seq
        (.cond (.t 9)
         .skip
         (.exit 0))
        (.seq
         (.block 1
          (.seq
           (.ops [
             ⟨(some 10), (.mov (.t 8)), none⟩,
             ⟨(some 5), (.mov (.t 10)), none⟩])
           (.seq
            (.ops [
              ⟨(some 11), (.mov (.t 1)), none⟩,
              ⟨(some 12), (.mov (.t 0)), none⟩,
              ⟨(some 13), (.mov (.t 5)), none⟩,
              ⟨(some 14), (.idxS 1 (.t 12) (.t 13)), none⟩,
              ⟨(some 15), (.load1 (.t 14)), none⟩,
              ⟨(some 16), (.call (.t 11) [(.t 15)]), none⟩])
            (.cond (.t 16)
             (.seq
              (.ops [
                ⟨(some 17), (.mov (.t 5)), none⟩,
                ⟨(some 4), (.mov (.t 17)), none⟩])
              .ret)
             .skip))))
         (.ops [
           ⟨(some 18), (.bin .add (.t 8) (.c (.int .i64 1))), none⟩,
           ⟨(some 8), (.mov (.t 18)), none⟩])))))))
   (.seq
    (.ops [
      ⟨(some 4), (.mov (.c (.int .i64 (-1)))), none⟩])
    .ret)))

/- "slices.ContainsFunc[[]string,string]" params { toList := [22, 23] } results { toList := [Go.ResultVar.tmp 4] } -/
def x27 : XC :=
 (.seq
  (.ops [
    ⟨(some 4), (.mov (.c (.bool false))), none⟩])
  (.seq
   (.ops [
     ⟨(some 5), (.mov (.t 0)), none⟩,
     ⟨(some 6), (.mov (.t 1)), none⟩,
     ⟨(some 7), (.call (.f 51) [(.t 5), (.t 6)]), none⟩,
     ⟨(some 8), (.bin .geq (.t 7) (.c (.int .i64 0))), none⟩,
     ⟨(some 4), (.mov (.t 8)), none⟩])
   .ret))

/- "slices.Index[[]string,string]" params { toList := [22, 9] } results { toList := [Go.ResultVar.tmp 4] } -/
def x44 : XC :=
 (.seq
  (.ops [
    ⟨(some 4), (.mov (.c (.int .i64 0))), none⟩])
  (.seq
   (.seq
    (.ops [
      ⟨(some 6), (.mov (.t 0)), none⟩,
      ⟨(some 7), (.len (.t 6)), none⟩,
      ⟨(some 8), (.mov (.c (.int .i64 0))), none⟩])
    (.block 0
     (.loop
      (.seq
       (.ops [
         ⟨(some 9), (.bin .lss (.t 8) (.t 7)), none⟩])
       (.seq
        (.cond (.t 9)
         .skip
         (.exit 0))
        (.seq
         (.block 1
          (.seq
           (.ops [
             ⟨(some 10), (.mov (.t 8)), none⟩,
             ⟨(some 5), (.mov (.t 10)), none⟩])
           (.seq
            (.ops [
              ⟨(some 11), (.mov (.t 1)), none⟩,
              ⟨(some 12), (.mov (.t 0)), none⟩,
              ⟨(some 13), (.mov (.t 5)), none⟩,
              ⟨(some 14), (.idxS 1 (.t 12) (.t 13)), none⟩,
              ⟨(some 15), (.load1 (.t 14)), none⟩,
              ⟨(some 16), (.bin .eql (.t 11) (.t 15)), none⟩])
            (.cond (.t 16)
             (.seq
              (.ops [
                ⟨(some 17), (.mov (.t 5)), none⟩,
                ⟨(some 4), (.mov (.t 17)), none⟩])
              .ret)
             .skip))))
         (.ops [
           ⟨(some 18), (.bin .add (.t 8) (.c (.int .i64 1))), none⟩,
           ⟨(some 8), (.mov (.t 18)), none⟩])))))))
   (.seq
    (.ops [
      ⟨(some 4), (.mov (.c (.int .i64 (-1)))), none⟩])
    .ret)))

/- "slices.Contains[[]string,string]" params { toList := [22, 9] } results { toList := [Go.ResultVar.tmp 4] } -/
def x30 : XC :=
 (.seq
  (.ops [
    ⟨(some 4), (.mov (.c (.bool false))), none⟩])
  (.seq
   (.ops [
     ⟨(some 5), (.mov (.t 0)), none⟩,
     ⟨(some 6), (.mov (.t 1)), none⟩,
     ⟨(some 7), (.call (.f 54) [(.t 5), (.t 6)]), none⟩,
     ⟨(some 8), (.bin .geq (.t 7) (.c (.int .i64 0))), none⟩,
     ⟨(some 4), (.mov (.t 8)), none⟩])
   .ret))

/- "tiller/dag.fits" params { toList := [37] } results { toList := [Go.ResultVar.tmp 2] } -/
def x26 : XC :=
 (.seq
  (.ops [
    ⟨(some 1), (.box (.t 0)), none⟩,
    ⟨(some 2), (.mov (.c (.bool false))), none⟩])
  (.seq
   (.ops [
     ⟨(some 6), (.fldA 5 (.t 1)), none⟩,
     ⟨(some 7), (.load1 (.t 6)), none⟩,
     ⟨(some 8), (.bin .eql (.t 7) (.c (.int .i64 0))), none⟩,
     ⟨(some 3), (.mov (.t 8)), none⟩])
   (.seq
    (.seq
     (.ops [
       ⟨(some 9), (.fldA 1 (.t 1)), none⟩,
       ⟨(some 10), (.load1 (.t 9)), none⟩,
       ⟨(some 11), (.bin .eql (.t 10) (.c (.int .i64 1))), none⟩])
     (.cond (.t 11)
      (.ops [
        ⟨(some 12), (.fldA 5 (.t 1)), none⟩,
        ⟨(some 13), (.load1 (.t 12)), none⟩,
        ⟨(some 14), (.bin .geq (.t 13) (.c (.int .i64 1))), none⟩,
        ⟨(some 15), (.mov (.t 14)), none⟩,
        ⟨(some 16), (.fldA 5 (.t 1)), (some (15, true))⟩,
        ⟨(some 17), (.load1 (.t 16)), (some (15, true))⟩,
        ⟨(some 18), (.bin .leq (.t 17) (.c (.int .i64 10))), (some (15, true))⟩,
        ⟨(some 19), (.pick (.t 15) (.t 18) (.c (.bool false))), none⟩,
        ⟨(some 3), (.mov (.t 19)), none⟩])
      .skip))
    (.seq
     (.ops [
       ⟨(some 20), (.fldA 4 (.t 1)), none⟩,
       ⟨(some 21), (.load1 (.t 20)), none⟩,
       ⟨(some 22), (.bin .eql (.t 21) (.c (.int .i64 0))), none⟩,
       ⟨(some 23), (.mov (.t 22)), none⟩,
       ⟨(some 24), (.fldA 4 (.t 1)), (some (23, false))⟩,
       ⟨(some 25), (.load1 (.t 24)), (some (23, false))⟩,
       ⟨(some 26), (.bin .gtr (.t 25) (.c (.int .i64 0))), (some (23, false))⟩,
       ⟨(some 27), (.mov (.t 26)), (some (23, false))⟩,
       ⟨(some 28), (.fldA 4 (.t 1)), (some (27, true))⟩,
       ⟨(some 29), (.load1 (.t 28)), (some (27, true))⟩,
       ⟨(some 30), (.bin .leq (.t 29) (.c (.int .i64 1000000))), (some (27, true))⟩,
       ⟨(some 31), (.pick (.t 27) (.t 30) (.c (.bool false))), (some (23, false))⟩,
       ⟨(some 32), (.mov (.t 31)), (some (23, false))⟩,
       ⟨(some 33), (.fldA 1 (.t 1)), (some (32, true))⟩,
       ⟨(some 34), (.load1 (.t 33)), (some (32, true))⟩,
       ⟨(some 35), (.bin .eql (.t 34) (.c (.int .i64 1))), (some (32, true))⟩,
       ⟨(some 36), (.mov (.t 35)), (some (32, true))⟩,
       ⟨(some 37), (.fldA 1 (.t 1)), (some (36, false))⟩,
       ⟨(some 38), (.load1 (.t 37)), (some (36, false))⟩,
       ⟨(some 39), (.bin .eql (.t 38) (.c (.int .i64 2))), (some (36, false))⟩,
       ⟨(some 40), (.pick (.t 36) (.c (.bool true)) (.t 39)), (some (32, true))⟩,
       ⟨(some 41), (.pick (.t 32) (.t 40) (.c (.bool false))), (some (23, false))⟩,
       ⟨(some 42), (.pick (.t 23) (.c (.bool true)) (.t 41)), none⟩,
       ⟨(some 4), (.mov (.t 42)), none⟩])
     (.seq
      (.ops [
        ⟨(some 43), (.fldA 1 (.t 1)), none⟩,
        ⟨(some 44), (.load1 (.t 43)), none⟩,
        ⟨(some 45), (.bin .neq (.t 44) (.c (.int .i64 2))), none⟩,
        ⟨(some 46), (.mov (.t 45)), none⟩,
        ⟨(some 47), (.fldA 2 (.t 1)), (some (46, false))⟩,
        ⟨(some 48), (.load1 (.t 47)), (some (46, false))⟩,
        ⟨(some 49), (.bin .eql (.t 48) (.c (.str []))), (some (46, false))⟩,
        ⟨(some 50), (.pick (.t 46) (.c (.bool true)) (.t 49)), none⟩,
        ⟨(some 51), (.mov (.t 50)), none⟩,
        ⟨(some 52), (.fldA 1 (.t 1)), (some (51, true))⟩,
        ⟨(some 53), (.load1 (.t 52)), (some (51, true))⟩,
        ⟨(some 54), (.bin .eql (.t 53) (.c (.int .i64 5))), (some (51, true))⟩,
        ⟨(some 55), (.mov (.t 54)), (some (51, true))⟩,
        ⟨(some 56), (.fldA 3 (.t 1)), (some (55, false))⟩,
        ⟨(some 57), (.load1 (.t 56)), (some (55, false))⟩,
        ⟨(some 58), (.bin .eql (.t 57) (.c (.str []))), (some (55, false))⟩,
        ⟨(some 59), (.pick (.t 55) (.c (.bool true)) (.t 58)), (some (51, true))⟩,
        ⟨(some 60), (.pick (.t 51) (.t 59) (.c (.bool false))), none⟩,
        ⟨(some 5), (.mov (.t 60)), none⟩])
      (.seq
       (.ops [
         ⟨(some 61), (.fldA 1 (.t 1)), none⟩,
         ⟨(some 62), (.load1 (.t 61)), none⟩,
         ⟨(some 63), (.bin .geq (.t 62) (.c (.int .i64 1))), none⟩,
         ⟨(some 64), (.mov (.t 63)), none⟩,
         ⟨(some 65), (.fldA 1 (.t 1)), (some (64, true))⟩,
         ⟨(some 66), (.load1 (.t 65)), (some (64, true))⟩,
         ⟨(some 67), (.bin .leq (.t 66) (.c (.int .i64 5))), (some (64, true))⟩,
         ⟨(some 68), (.pick (.t 64) (.t 67) (.c (.bool false))), none⟩,
         ⟨(some 69), (.mov (.t 68)), none⟩,
         ⟨(some 70), (.mov (.t 4)), (some (69, true))⟩,
         ⟨(some 71), (.pick (.t 69) (.t 70) (.c (.bool false))), none⟩,
         ⟨(some 72), (.mov (.t 71)), none⟩,
         ⟨(some 73), (.mov (.t 3)), (some (72, true))⟩,
         ⟨(some 74), (.pick (.t 72) (.t 73) (.c (.bool false))), none⟩,
         ⟨(some 75), (.mov (.t 74)), none⟩,
         ⟨(some 76), (.mov (.t 5)), (some (75, true))⟩,
         ⟨(some 77), (.pick (.t 75) (.t 76) (.c (.bool false))), none⟩,
         ⟨(some 2), (.mov (.t 77)), none⟩])
       .ret))))))

/- "tiller/dag.named" params { toList := [28, 3] } results { toList := [Go.ResultVar.tmp 4] } -/
def x25 : XC :=
 (.seq
  (.ops [
    ⟨(some 2), (.box (.t 0)), none⟩,
    ⟨(some 4), (.mov (.c (.int .i64 0))), none⟩])
  (.seq
   (.ops [
     ⟨(some 8), (.fldA 1 (.t 2)), none⟩,
     ⟨(some 9), (.load1 (.t 8)), none⟩,
     ⟨(some 10), (.mov (.t 1)), none⟩,
     ⟨(some 11), (.idxS 7 (.t 9) (.t 10)), none⟩,
     ⟨(some 12), (.loadN 7 (.t 11)), none⟩,
     ⟨(some 5), (.alloc [(.str []), (.int .i64 0), (.str []), (.str []), (.int .i64 0), (.int .i64 0), .nsl]), none⟩,
     ⟨none, (.store 7 (.t 5) (.t 12)), none⟩])
   (.seq
    (.seq
     (.ops [
       ⟨(some 13), (.fldA 0 (.t 5)), none⟩,
       ⟨(some 14), (.load1 (.t 13)), none⟩,
       ⟨(some 15), (.call (.f 23) [(.t 14)]), none⟩,
       ⟨(some 16), (.un .not (.t 15)), none⟩,
       ⟨(some 17), (.mov (.t 16)), none⟩,
       ⟨(some 18), (.fldA 1 (.t 5)), (some (17, false))⟩,
       ⟨(some 19), (.load1 (.t 18)), (some (17, false))⟩,
       ⟨(some 20), (.bin .neq (.t 19) (.c (.int .i64 2))), (some (17, false))⟩,
       ⟨(some 21), (.mov (.t 20)), (some (17, false))⟩,
       ⟨(some 22), (.fldA 2 (.t 5)), (some (21, true))⟩,
       ⟨(some 23), (.load1 (.t 22)), (some (21, true))⟩,
       ⟨(some 24), (.call (.f 23) [(.t 23)]), (some (21, true))⟩,
       ⟨(some 25), (.un .not (.t 24)), (some (21, true))⟩,
       ⟨(some 26), (.pick (.t 21) (.t 25) (.c (.bool false))), (some (17, false))⟩,
       ⟨(some 27), (.pick (.t 17) (.c (.bool true)) (.t 26)), none⟩,
       ⟨(some 28), (.mov (.t 27)), none⟩,
       ⟨(some 29), (.fldA 1 (.t 5)), (some (28, false))⟩,
       ⟨(some 30), (.load1 (.t 29)), (some (28, false))⟩,
       ⟨(some 31), (.bin .eql (.t 30) (.c (.int .i64 5))), (some (28, false))⟩,
       ⟨(some 32), (.mov (.t 31)), (some (28, false))⟩,
       ⟨(some 33), (.fldA 3 (.t 5)), (some (32, true))⟩,
       ⟨(some 34), (.load1 (.t 33)), (some (32, true))⟩,
       ⟨(some 35), (.call (.f 47) [(.t 34)]), (some (32, true))⟩,
       ⟨(some 36), (.un .not (.t 35)), (some (32, true))⟩,
       ⟨(some 37), (.pick (.t 32) (.t 36) (.c (.bool false))), (some (28, false))⟩,
       ⟨(some 38), (.pick (.t 28) (.c (.bool true)) (.t 37)), none⟩])
     (.cond (.t 38)
      (.seq
       (.ops [
         ⟨(some 4), (.mov (.c (.int .i64 17))), none⟩])
       .ret)
      .skip))
    (.seq
     (.seq
      (.ops [
        ⟨(some 40), (.loadN 2 (.t 2)), none⟩,
        ⟨(some 41), (.fldA 0 (.t 5)), none⟩,
        ⟨(some 42), (.load1 (.t 41)), none⟩,
        ⟨(some 43), (.call (.f 30) [(.t 40), (.t 42)]), none⟩,
        ⟨(some 39), (.mov (.t 43)), none⟩,
        ⟨(some 44), (.ext (.t 39) 0), none⟩,
        ⟨(some 45), (.ext (.t 39) 1), none⟩,
        ⟨(some 6), (.mov (.t 44)), none⟩,
        ⟨(some 7), (.mov (.t 45)), none⟩])
      (.seq
       (.ops [
         ⟨(some 46), (.mov (.t 6)), none⟩,
         ⟨(some 47), (.mov (.t 1)), none⟩,
         ⟨(some 48), (.bin .lss (.t 46) (.t 47)), none⟩])
       (.cond (.t 48)
        (.seq
         (.ops [
           ⟨(some 4), (.mov (.c (.int .i64 16))), none⟩])
         .ret)
        .skip)))
     (.seq
      (.ops [
        ⟨(some 4), (.mov (.c (.int .i64 0))), none⟩])
      .ret)))))

/- "tiller/dag.Check$1" params { toList := [9] } results { toList := [Go.ResultVar.tmp 3] } -/
def x28 : XC :=
 (.seq
  (.ops [
    ⟨(some 3), (.mov (.c (.bool false))), none⟩])
  (.seq
   (.ops [
     ⟨(some 7), (.loadN 2 (.t 1)), none⟩,
     ⟨(some 8), (.mov (.t 0)), none⟩,
     ⟨(some 9), (.call (.f 30) [(.t 7), (.t 8)]), none⟩,
     ⟨(some 6), (.mov (.t 9)), none⟩,
     ⟨(some 10), (.ext (.t 6) 0), none⟩,
     ⟨(some 11), (.ext (.t 6) 1), none⟩,
     ⟨(some 4), (.mov (.t 10)), none⟩,
     ⟨(some 5), (.mov (.t 11)), none⟩])
   (.seq
    (.ops [
      ⟨(some 12), (.mov (.t 5)), none⟩,
      ⟨(some 13), (.un .not (.t 12)), none⟩,
      ⟨(some 3), (.mov (.t 13)), none⟩])
    .ret)))

section
variable {E : Env}
def idxV (o : Option Nat) : Int := match o with | some i => i | none => -1
theorem idxV_nonneg (o : Option Nat) : decide (0 ≤ idxV o) = o.isSome := by cases o <;> simp [idxV]

theorem indexFuncS_pure (hP : E.P = Tryz.prog) (l : List (List UInt8)) (f : FuncId) (caps : List IV) (p : List UInt8 → Bool) (hl : l.length ≤ 9223372036854775807) (hcap : mapO (conv [] 12 renNone) caps = some caps)
    (hf : ∀ s ∈ l, XPure E f (.str s :: caps) (.bool (p s))) : XPure E 51 [.isl (strRows l), .fn (.func f) [] caps] (.int .i64 (idxV (firstI p l))) := by
  refine xpure1 (n := Tryz.f51.ntmps) (c := x41) (t := 4) (by rw [hP]; rfl) (by rw [hP]; kernel_rfl) (by decide) (Nat.le_of_ble_eq_true rfl) ?_
  generalize hρ : entry _ = ρ
  have h0 : ρ 0 = .isl (strRows l) := by rw [← hρ]; rfl
  have h1 : ρ 1 = .fn (.func f) [] caps := by rw [← hρ]; rfl
  clear hρ
  unfold x41
  simp only [h0, h1, strRows_len, go_sem, Nat.reduceEqDiff, reduceIte, Int.reduceEq, Int.reduceLT, Int.reduceLE, Nat.reduceAdd, Nat.reduceLT, Nat.reduceLeDiff, Int.reduceToNat, Int.reduceSub, Int.reduceAdd, Int.reduceNeg]
  refine s_loop (fun n ρ L => ∃ i : Nat, i ≤ l.length ∧ n = l.length - i ∧ L = [] ∧ ρ 0 = .isl (strRows l) ∧ ρ 1 = .fn (.func f) [] caps ∧ ρ 7 = .int .i64 l.length ∧ ρ 8 = .int .i64 i ∧ (l.take i).all (fun n => !p n) = true)
    ⟨0, Nat.zero_le _, rfl, rfl, by simp only [h0, go_sem, Nat.reduceEqDiff, reduceIte, Int.reduceEq, Int.reduceLT, Int.reduceLE, Nat.reduceAdd, Nat.reduceLT, Nat.reduceLeDiff, Int.reduceToNat, Int.reduceSub, Int.reduceAdd, Int.reduceNeg], by simp only [h1, go_sem, Nat.reduceEqDiff, reduceIte, Int.reduceEq, Int.reduceLT, Int.reduceLE, Nat.reduceAdd, Nat.reduceLT, Nat.reduceLeDiff, Int.reduceToNat, Int.reduceSub, Int.reduceAdd, Int.reduceNeg], by simp only [go_sem, Nat.reduceEqDiff, reduceIte, Int.reduceEq, Int.reduceLT, Int.reduceLE, Nat.reduceAdd, Nat.reduceLT, Nat.reduceLeDiff, Int.reduceToNat, Int.reduceSub, Int.reduceAdd, Int.reduceNeg], by simp only [go_sem, Nat.reduceEqDiff, reduceIte, Int.reduceEq, Int.reduceLT, Int.reduceLE, Nat.reduceAdd, Nat.reduceLT, Nat.reduceLeDiff, Int.reduceToNat, Int.reduceSub, Int.reduceAdd, Int.reduceNeg]; try rfl, rfl⟩ ?_
  clear h0 h1 ρ
  rintro n ρ L ⟨i, hi, rfl, rfl, h0, h1, h7, h8, hall⟩
  simp only [h0, h1, h7, h8, go_sem, Nat.reduceEqDiff, reduceIte, Int.reduceEq, Int.reduceLT, Int.reduceLE, Nat.reduceAdd, Nat.reduceLT, Nat.reduceLeDiff, Int.reduceToNat, Int.reduceSub, Int.reduceAdd, Int.reduceNeg]
  refine s_cond (b := decide _) (by simp only [h0, h1, h7, h8, strRows_len, rows_strs, go_sem, Nat.reduceEqDiff, reduceIte, Int.reduceEq, Int.reduceLT, Int.reduceLE, Nat.reduceAdd, Nat.reduceLT, Nat.reduceLeDiff, Int.reduceToNat, Int.reduceSub, Int.reduceAdd, Int.reduceNeg]; try rfl) ?_ ?_ <;> intro hb <;> simp only [hb, h0, h1, h7, h8, strRows_len, rows_strs, go_sem, Nat.reduceEqDiff, reduceIte, Int.reduceEq, Int.reduceLT, Int.reduceLE, Nat.reduceAdd, Nat.reduceLT, Nat.reduceLeDiff, Int.reduceToNat, Int.reduceSub, Int.reduceAdd, Int.reduceNeg]
  · rw [decide_eq_true_eq] at hb
    have hi' : i < l.length := by omega
    have hrow := strRows_get hi'
    refine ⟨hb, ?_⟩
    simp only [h0, h1, h7, h8, hrow, go_sem, Nat.reduceEqDiff, reduceIte, Int.reduceEq, Int.reduceLT, Int.reduceLE, Nat.reduceAdd, Nat.reduceLT, Nat.reduceLeDiff, Int.reduceToNat, Int.reduceSub, Int.reduceAdd, Int.reduceNeg]
    refine ⟨hi', ?_⟩
    have hmem : l.getD i [] ∈ l := by rw [List.getD_eq_getElem?_getD, List.getElem?_eq_getElem hi']; exact List.getElem_mem _
    refine xcall_pure (mapO_cons rfl hcap) (hf _ hmem) rfl ?_
    try simp only [h0, h1, h7, h8, go_sem, Nat.reduceEqDiff, reduceIte, Int.reduceEq, Int.reduceLT, Int.reduceLE, Nat.reduceAdd, Nat.reduceLT, Nat.reduceLeDiff, Int.reduceToNat, Int.reduceSub, Int.reduceAdd, Int.reduceNeg]
    refine s_cond (b := p _) (by simp only [h0, h1, h7, h8, go_sem, Nat.reduceEqDiff, reduceIte, Int.reduceEq, Int.reduceLT, Int.reduceLE, Nat.reduceAdd, Nat.reduceLT, Nat.reduceLeDiff, Int.reduceToNat, Int.reduceSub, Int.reduceAdd, Int.reduceNeg]; try rfl) ?_ ?_ <;> intro hc <;> simp only [hc, h0, h1, h7, h8, go_sem, Nat.reduceEqDiff, reduceIte, Int.reduceEq, Int.reduceLT, Int.reduceLE, Nat.reduceAdd, Nat.reduceLT, Nat.reduceLeDiff, Int.reduceToNat, Int.reduceSub, Int.reduceAdd, Int.reduceNeg]
    · have hfi : firstI p l = some i := firstI_some (d := []) hi' hall (by simpa using hc)
      rw [hfi]; rfl
    · refine ⟨l.length - (i + 1), by omega, i + 1, by omega, rfl, ?_, ?_⟩
      · rw [wrap64 (by omega) (by omega)]; rfl
      · rw [take_succ_all (d := []) hi' hall]; simpa using hc
  · rw [decide_eq_false_iff_not] at hb
    have hi' : i = l.length := by omega
    subst hi'
    rw [List.take_length] at hall
    have hfi : firstI p l = none := firstI_none hall
    rw [hfi]; rfl

theorem containsFuncS_pure (hP : E.P = Tryz.prog) (l : List (List UInt8)) (f : FuncId) (caps : List IV) (p : List UInt8 → Bool) (hl : l.length ≤ 9223372036854775807) (hcap : mapO (conv [] 12 renNone) caps = some caps) (hcap' : mapO (conv [] 11 renNone) caps = some caps)
    (hf : ∀ s ∈ l, XPure E f (.str s :: caps) (.bool (p s))) : XPure E 28 [.isl (strRows l), .fn (.func f) [] caps] (.bool (firstI p l).isSome) := by
  refine xpure1 (n := Tryz.f28.ntmps) (c := x27) (t := 4) (by rw [hP]; rfl) (by rw [hP]; kernel_rfl) (by decide) (Nat.le_of_ble_eq_true rfl) ?_
  generalize hρ : entry _ = ρ
  have h0 : ρ 0 = .isl (strRows l) := by rw [← hρ]; rfl
  have h1 : ρ 1 = .fn (.func f) [] caps := by rw [← hρ]; rfl
  clear hρ
  unfold x27
  simp only [h0, h1, go_sem, Nat.reduceEqDiff, reduceIte, Int.reduceEq, Int.reduceLT, Int.reduceLE, Nat.reduceAdd, Nat.reduceLT, Nat.reduceLeDiff, Int.reduceToNat, Int.reduceSub, Int.reduceAdd, Int.reduceNeg]
  refine xcall_pure (args' := [.isl (strRows l), .fn (.func f) [] caps]) (mapO_cons rfl (mapO_cons (conv_fn rfl hcap') rfl)) (indexFuncS_pure hP l f caps p hl hcap hf) rfl ?_
  try simp only [h0, h1, idxV_nonneg, go_sem, Nat.reduceEqDiff, reduceIte, Int.reduceEq, Int.reduceLT, Int.reduceLE, Nat.reduceAdd, Nat.reduceLT, Nat.reduceLeDiff, Int.reduceToNat, Int.reduceSub, Int.reduceAdd, Int.reduceNeg]
  rfl

theorem indexS_pure (hP : E.P = Tryz.prog) (l : List (List UInt8)) (s : List UInt8) (hl : l.length ≤ 9223372036854775807) : XPure E 54 [.isl (strRows l), .str s] (.int .i64 (idxV (firstI (fun x => decide (s = x)) l))) := by
  refine xpure1 (n := Tryz.f54.ntmps) (c := x44) (t := 4) (by rw [hP]; rfl) (by rw [hP]; kernel_rfl) (by decide) (Nat.le_of_ble_eq_true rfl) ?_
  generalize hρ : entry _ = ρ
  have h0 : ρ 0 = .isl (strRows l) := by rw [← hρ]; rfl
  have h1 : ρ 1 = .str s := by rw [← hρ]; rfl
  clear hρ
  unfold x44
  generalize hp : (fun x => decide (s = x)) = p
  simp only [h0, h1, strRows_len, go_sem, Nat.reduceEqDiff, reduceIte, Int.reduceEq, Int.reduceLT, Int.reduceLE, Nat.reduceAdd, Nat.reduceLT, Nat.reduceLeDiff, Int.reduceToNat, Int.reduceSub, Int.reduceAdd, Int.reduceNeg]
  refine s_loop (fun n ρ L => ∃ i : Nat, i ≤ l.length ∧ n = l.length - i ∧ L = [] ∧ ρ 0 = .isl (strRows l) ∧ ρ 1 = .str s ∧ ρ 7 = .int .i64 l.length ∧ ρ 8 = .int .i64 i ∧ (l.take i).all (fun n => !p n) = true)
    ⟨0, Nat.zero_le _, rfl, rfl, by simp only [h0, go_sem, Nat.reduceEqDiff, reduceIte, Int.reduceEq, Int.reduceLT, Int.reduceLE, Nat.reduceAdd, Nat.reduceLT, Nat.reduceLeDiff, Int.reduceToNat, Int.reduceSub, Int.reduceAdd, Int.reduceNeg], by simp only [h1, go_sem, Nat.reduceEqDiff, reduceIte, Int.reduceEq, Int.reduceLT, Int.reduceLE, Nat.reduceAdd, Nat.reduceLT, Nat.reduceLeDiff, Int.reduceToNat, Int.reduceSub, Int.reduceAdd, Int.reduceNeg], by simp only [go_sem, Nat.reduceEqDiff, reduceIte, Int.reduceEq, Int.reduceLT, Int.reduceLE, Nat.reduceAdd, Nat.reduceLT, Nat.reduceLeDiff, Int.reduceToNat, Int.reduceSub, Int.reduceAdd, Int.reduceNeg], by simp only [go_sem, Nat.reduceEqDiff, reduceIte, Int.reduceEq, Int.reduceLT, Int.reduceLE, Nat.reduceAdd, Nat.reduceLT, Nat.reduceLeDiff, Int.reduceToNat, Int.reduceSub, Int.reduceAdd, Int.reduceNeg]; try rfl, rfl⟩ ?_
  clear h0 h1 ρ
  rintro n ρ L ⟨i, hi, rfl, rfl, h0, h1, h7, h8, hall⟩
  simp only [h0, h1, h7, h8, go_sem, Nat.reduceEqDiff, reduceIte, Int.reduceEq, Int.reduceLT, Int.reduceLE, Nat.reduceAdd, Nat.reduceLT, Nat.reduceLeDiff, Int.reduceToNat, Int.reduceSub, Int.reduceAdd, Int.reduceNeg]
  refine s_cond (b := decide _) (by simp only [h0, h1, h7, h8, strRows_len, rows_strs, go_sem, Nat.reduceEqDiff, reduceIte, Int.reduceEq, Int.reduceLT, Int.reduceLE, Nat.reduceAdd, Nat.reduceLT, Nat.reduceLeDiff, Int.reduceToNat, Int.reduceSub, Int.reduceAdd, Int.reduceNeg]; try rfl) ?_ ?_ <;> intro hb <;> simp only [hb, h0, h1, h7, h8, strRows_len, rows_strs, go_sem, Nat.reduceEqDiff, reduceIte, Int.reduceEq, Int.reduceLT, Int.reduceLE, Nat.reduceAdd, Nat.reduceLT, Nat.reduceLeDiff, Int.reduceToNat, Int.reduceSub, Int.reduceAdd, Int.reduceNeg]
  · rw [decide_eq_true_eq] at hb
    have hi' : i < l.length := by omega
    have hrow := strRows_get hi'
    refine ⟨hb, ?_⟩
    simp only [h0, h1, h7, h8, hrow, go_sem, Nat.reduceEqDiff, reduceIte, Int.reduceEq, Int.reduceLT, Int.reduceLE, Nat.reduceAdd, Nat.reduceLT, Nat.reduceLeDiff, Int.reduceToNat, Int.reduceSub, Int.reduceAdd, Int.reduceNeg]
    refine ⟨hi', ?_⟩
    refine s_cond (b := p (l.getD i [])) (by simp only [h0, h1, h7, h8, go_sem, Nat.reduceEqDiff, reduceIte, Int.reduceEq, Int.reduceLT, Int.reduceLE, Nat.reduceAdd, Nat.reduceLT, Nat.reduceLeDiff, Int.reduceToNat, Int.reduceSub, Int.reduceAdd, Int.reduceNeg]; (first | rfl | (rw [← hp]))) ?_ ?_ <;> intro hc <;> simp only [hc, h0, h1, h7, h8, go_sem, Nat.reduceEqDiff, reduceIte, Int.reduceEq, Int.reduceLT, Int.reduceLE, Nat.reduceAdd, Nat.reduceLT, Nat.reduceLeDiff, Int.reduceToNat, Int.reduceSub, Int.reduceAdd, Int.reduceNeg]
    · have hfi : firstI p l = some i := firstI_some (d := []) hi' hall (by simpa using hc)
      rw [hfi]; rfl
    · refine ⟨l.length - (i + 1), by omega, i + 1, by omega, rfl, ?_, ?_⟩
      · rw [wrap64 (by omega) (by omega)]; rfl
      · rw [take_succ_all (d := []) hi' hall]; simpa using hc
  · rw [decide_eq_false_iff_not] at hb
    have hi' : i = l.length := by omega
    subst hi'
    rw [List.take_length] at hall
    have hfi : firstI p l = none := firstI_none hall
    rw [hfi]; rfl

theorem containsS_pure (hP : E.P = Tryz.prog) (l : List (List UInt8)) (s : List UInt8) (hl : l.length ≤ 9223372036854775807) : XPure E 31 [.isl (strRows l), .str s] (.bool (firstI (fun x => decide (s = x)) l).isSome) := by
  refine xpure1 (n := Tryz.f31.ntmps) (c := x30) (t := 4) (by rw [hP]; rfl) (by rw [hP]; kernel_rfl) (by decide) (Nat.le_of_ble_eq_true rfl) ?_
  generalize hρ : entry _ = ρ
  have h0 : ρ 0 = .isl (strRows l) := by rw [← hρ]; rfl
  have h1 : ρ 1 = .str s := by rw [← hρ]; rfl
  clear hρ
  unfold x30
  simp only [h0, h1, go_sem, Nat.reduceEqDiff, reduceIte, Int.reduceEq, Int.reduceLT, Int.reduceLE, Nat.reduceAdd, Nat.reduceLT, Nat.reduceLeDiff, Int.reduceToNat, Int.reduceSub, Int.reduceAdd, Int.reduceNeg]
  refine xcall_pure (args' := [.isl (strRows l), .str s]) rfl (indexS_pure hP l s hl) rfl ?_
  try simp only [h0, h1, idxV_nonneg, go_sem, Nat.reduceEqDiff, reduceIte, Int.reduceEq, Int.reduceLT, Int.reduceLE, Nat.reduceAdd, Nat.reduceLT, Nat.reduceLeDiff, Int.reduceToNat, Int.reduceSub, Int.reduceAdd, Int.reduceNeg]
  rfl

def fitsB (n : NodeD) : Bool :=
  (((decide (1 ≤ n.kind) && decide (n.kind ≤ 5)) && (decide (n.delay = 0) || ((decide (0 < n.delay) && decide (n.delay ≤ 1000000)) && (decide (n.kind = 1) || decide (n.kind = 2))))) &&
    (if n.kind = 1 then decide (1 ≤ n.tries) && decide (n.tries ≤ 10) else decide (n.tries = 0))) && ((!decide (n.kind = 2) || decide (n.arg = [])) && (decide (n.kind = 5) || decide (n.to = [])))

theorem fits_pure (hP : E.P = Tryz.prog) (n : NodeD) : XPure E 27 [.agg n.row] (.bool (fitsB n)) := by
  refine xpure1 (n := Tryz.f27.ntmps) (c := x26) (t := 2) (by rw [hP]; rfl) (by rw [hP]; kernel_rfl) (by decide) (Nat.le_of_ble_eq_true rfl) ?_
  generalize hρ : entry _ = ρ
  have h0 : ρ 0 = .agg [.str n.name, .int .i64 n.kind, .str n.arg, .str n.to, .int .i64 n.delay, .int .i64 n.tries, .isl (strRows n.after)] := by rw [← hρ]; rfl
  clear hρ
  unfold x26
  simp only [h0, go_sem, Nat.reduceEqDiff, reduceIte, Int.reduceEq, Int.reduceLT, Int.reduceLE, Nat.reduceAdd, Nat.reduceLT, Nat.reduceLeDiff, Int.reduceToNat, Int.reduceSub, Int.reduceAdd, Int.reduceNeg]
  refine s_cond (b := decide (n.kind = 1)) (by simp only [go_sem, Nat.reduceEqDiff, reduceIte, Int.reduceEq, Int.reduceLT, Int.reduceLE, Nat.reduceAdd, Nat.reduceLT, Nat.reduceLeDiff, Int.reduceToNat, Int.reduceSub, Int.reduceAdd, Int.reduceNeg]; try rfl) ?_ ?_ <;> intro hk <;> simp only [h0, go_sem, Nat.reduceEqDiff, reduceIte, Int.reduceEq, Int.reduceLT, Int.reduceLE, Nat.reduceAdd, Nat.reduceLT, Nat.reduceLeDiff, Int.reduceToNat, Int.reduceSub, Int.reduceAdd, Int.reduceNeg]
  · rw [decide_eq_true_eq] at hk
    repeat (refine s_mg (by simp only [hk, go_sem, Nat.reduceEqDiff, reduceIte, Int.reduceEq, Int.reduceLT, Int.reduceLE, Nat.reduceAdd, Nat.reduceLT, Nat.reduceLeDiff, Int.reduceToNat, Int.reduceSub, Int.reduceAdd, Int.reduceNeg]; try rfl) ?_; simp only [cut_g, cut_t, cut_none, cut_out, memN_cons, memN_nil, Nat.reduceEqDiff, reduceIte, List.nil_append, List.cons_append, not_false_eq_true]; refine ex_merge rfl (by simp only [hk, go_sem, Nat.reduceEqDiff, reduceIte, Int.reduceEq, Int.reduceLT, Int.reduceLE, Nat.reduceAdd, Nat.reduceLT, Nat.reduceLeDiff, Int.reduceToNat, Int.reduceSub, Int.reduceAdd, Int.reduceNeg]) (by intro hb; simp only [hb, hk, go_sem, Nat.reduceEqDiff, reduceIte, Int.reduceEq, Int.reduceLT, Int.reduceLE, Nat.reduceAdd, Nat.reduceLT, Nat.reduceLeDiff, Int.reduceToNat, Int.reduceSub, Int.reduceAdd, Int.reduceNeg]; (repeat (refine s_mg (by simp only [hk, go_sem, Nat.reduceEqDiff, reduceIte, Int.reduceEq, Int.reduceLT, Int.reduceLE, Nat.reduceAdd, Nat.reduceLT, Nat.reduceLeDiff, Int.reduceToNat, Int.reduceSub, Int.reduceAdd, Int.reduceNeg]; try rfl) ?_; simp only [cut_g, cut_t, cut_none, cut_out, memN_cons, memN_nil, Nat.reduceEqDiff, reduceIte, List.nil_append, List.cons_append, not_false_eq_true]; refine ex_merge rfl (by simp only [hk, go_sem, Nat.reduceEqDiff, reduceIte, Int.reduceEq, Int.reduceLT, Int.reduceLE, Nat.reduceAdd, Nat.reduceLT, Nat.reduceLeDiff, Int.reduceToNat, Int.reduceSub, Int.reduceAdd, Int.reduceNeg]) (by intro hb; simp only [hb, hk, go_sem, Nat.reduceEqDiff, reduceIte, Int.reduceEq, Int.reduceLT, Int.reduceLE, Nat.reduceAdd, Nat.reduceLT, Nat.reduceLeDiff, Int.reduceToNat, Int.reduceSub, Int.reduceAdd, Int.reduceNeg]; (repeat (refine s_mg (by simp only [hk, go_sem, Nat.reduceEqDiff, reduceIte, Int.reduceEq, Int.reduceLT, Int.reduceLE, Nat.reduceAdd, Nat.reduceLT, Nat.reduceLeDiff, Int.reduceToNat, Int.reduceSub, Int.reduceAdd, Int.reduceNeg]; try rfl) ?_; simp only [cut_g, cut_t, cut_none, cut_out, memN_cons, memN_nil, Nat.reduceEqDiff, reduceIte, List.nil_append, List.cons_append, not_false_eq_true]; refine ex_merge rfl (by simp only [hk, go_sem, Nat.reduceEqDiff, reduceIte, Int.reduceEq, Int.reduceLT, Int.reduceLE, Nat.reduceAdd, Nat.reduceLT, Nat.reduceLeDiff, Int.reduceToNat, Int.reduceSub, Int.reduceAdd, Int.reduceNeg]) (by intro hb; simp only [hb, hk, go_sem, Nat.reduceEqDiff, reduceIte, Int.reduceEq, Int.reduceLT, Int.reduceLE, Nat.reduceAdd, Nat.reduceLT, Nat.reduceLeDiff, Int.reduceToNat, Int.reduceSub, Int.reduceAdd, Int.reduceNeg]; (repeat (refine s_mg (by simp only [hk, go_sem, Nat.reduceEqDiff, reduceIte, Int.reduceEq, Int.reduceLT, Int.reduceLE, Nat.reduceAdd, Nat.reduceLT, Nat.reduceLeDiff, Int.reduceToNat, Int.reduceSub, Int.reduceAdd, Int.reduceNeg]; try rfl) ?_; simp only [cut_g, cut_t, cut_none, cut_out, memN_cons, memN_nil, Nat.reduceEqDiff, reduceIte, List.nil_append, List.cons_append, not_false_eq_true]; refine ex_merge rfl (by simp only [hk, go_sem, Nat.reduceEqDiff, reduceIte, Int.reduceEq, Int.reduceLT, Int.reduceLE, Nat.reduceAdd, Nat.reduceLT, Nat.reduceLeDiff, Int.reduceToNat, Int.reduceSub, Int.reduceAdd, Int.reduceNeg]) (by intro hb; simp only [hb, hk, go_sem, Nat.reduceEqDiff, reduceIte, Int.reduceEq, Int.reduceLT, Int.reduceLE, Nat.reduceAdd, Nat.reduceLT, Nat.reduceLeDiff, Int.reduceToNat, Int.reduceSub, Int.reduceAdd, Int.reduceNeg]; (repeat (refine s_mg (by simp only [hk, go_sem, Nat.reduceEqDiff, reduceIte, Int.reduceEq, Int.reduceLT, Int.reduceLE, Nat.reduceAdd, Nat.reduceLT, Nat.reduceLeDiff, Int.reduceToNat, Int.reduceSub, Int.reduceAdd, Int.reduceNeg]; try rfl) ?_; simp only [cut_g, cut_t, cut_none, cut_out, memN_cons, memN_nil, Nat.reduceEqDiff, reduceIte, List.nil_append, List.cons_append, not_false_eq_true]; refine ex_merge rfl (by simp only [hk, go_sem, Nat.reduceEqDiff, reduceIte, Int.reduceEq, Int.reduceLT, Int.reduceLE, Nat.reduceAdd, Nat.reduceLT, Nat.reduceLeDiff, Int.reduceToNat, Int.reduceSub, Int.reduceAdd, Int.reduceNeg]) (by intro hb; simp only [hb, hk, go_sem, Nat.reduceEqDiff, reduceIte, Int.reduceEq, Int.reduceLT, Int.reduceLE, Nat.reduceAdd, Nat.reduceLT, Nat.reduceLeDiff, Int.reduceToNat, Int.reduceSub, Int.reduceAdd, Int.reduceNeg]; first | exact rfl | exact ⟨rfl, rfl⟩) (fun vs => ?_); simp only [hk, go_sem, Nat.reduceEqDiff, reduceIte, Int.reduceEq, Int.reduceLT, Int.reduceLE, Nat.reduceAdd, Nat.reduceLT, Nat.reduceLeDiff, Int.reduceToNat, Int.reduceSub, Int.reduceAdd, Int.reduceNeg])); first | exact rfl | exact ⟨rfl, rfl⟩) (fun vs => ?_); simp only [hk, go_sem, Nat.reduceEqDiff, reduceIte, Int.reduceEq, Int.reduceLT, Int.reduceLE, Nat.reduceAdd, Nat.reduceLT, Nat.reduceLeDiff, Int.reduceToNat, Int.reduceSub, Int.reduceAdd, Int.reduceNeg])); first | exact rfl | exact ⟨rfl, rfl⟩) (fun vs => ?_); simp only [hk, go_sem, Nat.reduceEqDiff, reduceIte, Int.reduceEq, Int.reduceLT, Int.reduceLE, Nat.reduceAdd, Nat.reduceLT, Nat.reduceLeDiff, Int.reduceToNat, Int.reduceSub, Int.reduceAdd, Int.reduceNeg])); first | exact rfl | exact ⟨rfl, rfl⟩) (fun vs => ?_); simp only [hk, go_sem, Nat.reduceEqDiff, reduceIte, Int.reduceEq, Int.reduceLT, Int.reduceLE, Nat.reduceAdd, Nat.reduceLT, Nat.reduceLeDiff, Int.reduceToNat, Int.reduceSub, Int.reduceAdd, Int.reduceNeg])); first | exact rfl | exact ⟨rfl, rfl⟩) (fun vs => ?_); simp only [hk, go_sem, Nat.reduceEqDiff, reduceIte, Int.reduceEq, Int.reduceLT, Int.reduceLE, Nat.reduceAdd, Nat.reduceLT, Nat.reduceLeDiff, Int.reduceToNat, Int.reduceSub, Int.reduceAdd, Int.reduceNeg])
    have hf : fitsB n = (((decide (n.delay = 0) || decide (0 < n.delay) && decide (n.delay ≤ 1000000)) && (decide (1 ≤ n.tries) && decide (n.tries ≤ 10))) && decide (n.to = [])) := by
      rw [fitsB, if_pos hk, hk]
      have e1 : decide ((1 : Int) = 2) = false := rfl
      have e2 : decide ((1 : Int) = 5) = false := rfl
      have e3 : decide ((1 : Int) = 1) = true := rfl
      have e4 : decide ((1 : Int) ≤ 1) = true := rfl
      have e5 : decide ((1 : Int) ≤ 5) = true := rfl
      rw [e1, e2, e3, e4, e5]
      simp only [Bool.true_and, Bool.true_or, Bool.and_true, Bool.not_false, Bool.false_or]
    rw [hf]
    rfl
  · rw [decide_eq_false_iff_not] at hk
    repeat (refine s_mg (by simp only [go_sem, Nat.reduceEqDiff, reduceIte, Int.reduceEq, Int.reduceLT, Int.reduceLE, Nat.reduceAdd, Nat.reduceLT, Nat.reduceLeDiff, Int.reduceToNat, Int.reduceSub, Int.reduceAdd, Int.reduceNeg]; try rfl) ?_; simp only [cut_g, cut_t, cut_none, cut_out, memN_cons, memN_nil, Nat.reduceEqDiff, reduceIte, List.nil_append, List.cons_append, not_false_eq_true]; refine ex_merge rfl (by simp only [go_sem, Nat.reduceEqDiff, reduceIte, Int.reduceEq, Int.reduceLT, Int.reduceLE, Nat.reduceAdd, Nat.reduceLT, Nat.reduceLeDiff, Int.reduceToNat, Int.reduceSub, Int.reduceAdd, Int.reduceNeg]) (by intro hb; simp only [hb, go_sem, Nat.reduceEqDiff, reduceIte, Int.reduceEq, Int.reduceLT, Int.reduceLE, Nat.reduceAdd, Nat.reduceLT, Nat.reduceLeDiff, Int.reduceToNat, Int.reduceSub, Int.reduceAdd, Int.reduceNeg]; (repeat (refine s_mg (by simp only [go_sem, Nat.reduceEqDiff, reduceIte, Int.reduceEq, Int.reduceLT, Int.reduceLE, Nat.reduceAdd, Nat.reduceLT, Nat.reduceLeDiff, Int.reduceToNat, Int.reduceSub, Int.reduceAdd, Int.reduceNeg]; try rfl) ?_; simp only [cut_g, cut_t, cut_none, cut_out, memN_cons, memN_nil, Nat.reduceEqDiff, reduceIte, List.nil_append, List.cons_append, not_false_eq_true]; refine ex_merge rfl (by simp only [go_sem, Nat.reduceEqDiff, reduceIte, Int.reduceEq, Int.reduceLT, Int.reduceLE, Nat.reduceAdd, Nat.reduceLT, Nat.reduceLeDiff, Int.reduceToNat, Int.reduceSub, Int.reduceAdd, Int.reduceNeg]) (by intro hb; simp only [hb, go_sem, Nat.reduceEqDiff, reduceIte, Int.reduceEq, Int.reduceLT, Int.reduceLE, Nat.reduceAdd, Nat.reduceLT, Nat.reduceLeDiff, Int.reduceToNat, Int.reduceSub, Int.reduceAdd, Int.reduceNeg]; (repeat (refine s_mg (by simp only [go_sem, Nat.reduceEqDiff, reduceIte, Int.reduceEq, Int.reduceLT, Int.reduceLE, Nat.reduceAdd, Nat.reduceLT, Nat.reduceLeDiff, Int.reduceToNat, Int.reduceSub, Int.reduceAdd, Int.reduceNeg]; try rfl) ?_; simp only [cut_g, cut_t, cut_none, cut_out, memN_cons, memN_nil, Nat.reduceEqDiff, reduceIte, List.nil_append, List.cons_append, not_false_eq_true]; refine ex_merge rfl (by simp only [go_sem, Nat.reduceEqDiff, reduceIte, Int.reduceEq, Int.reduceLT, Int.reduceLE, Nat.reduceAdd, Nat.reduceLT, Nat.reduceLeDiff, Int.reduceToNat, Int.reduceSub, Int.reduceAdd, Int.reduceNeg]) (by intro hb; simp only [hb, go_sem, Nat.reduceEqDiff, reduceIte, Int.reduceEq, Int.reduceLT, Int.reduceLE, Nat.reduceAdd, Nat.reduceLT, Nat.reduceLeDiff, Int.reduceToNat, Int.reduceSub, Int.reduceAdd, Int.reduceNeg]; (repeat (refine s_mg (by simp only [go_sem, Nat.reduceEqDiff, reduceIte, Int.reduceEq, Int.reduceLT, Int.reduceLE, Nat.reduceAdd, Nat.reduceLT, Nat.reduceLeDiff, Int.reduceToNat, Int.reduceSub, Int.reduceAdd, Int.reduceNeg]; try rfl) ?_; simp only [cut_g, cut_t, cut_none, cut_out, memN_cons, memN_nil, Nat.reduceEqDiff, reduceIte, List.nil_append, List.cons_append, not_false_eq_true]; refine ex_merge rfl (by simp only [go_sem, Nat.reduceEqDiff, reduceIte, Int.reduceEq, Int.reduceLT, Int.reduceLE, Nat.reduceAdd, Nat.reduceLT, Nat.reduceLeDiff, Int.reduceToNat, Int.reduceSub, Int.reduceAdd, Int.reduceNeg]) (by intro hb; simp only [hb, go_sem, Nat.reduceEqDiff, reduceIte, Int.reduceEq, Int.reduceLT, Int.reduceLE, Nat.reduceAdd, Nat.reduceLT, Nat.reduceLeDiff, Int.reduceToNat, Int.reduceSub, Int.reduceAdd, Int.reduceNeg]; (repeat (refine s_mg (by simp only [go_sem, Nat.reduceEqDiff, reduceIte, Int.reduceEq, Int.reduceLT, Int.reduceLE, Nat.reduceAdd, Nat.reduceLT, Nat.reduceLeDiff, Int.reduceToNat, Int.reduceSub, Int.reduceAdd, Int.reduceNeg]; try rfl) ?_; simp only [cut_g, cut_t, cut_none, cut_out, memN_cons, memN_nil, Nat.reduceEqDiff, reduceIte, List.nil_append, List.cons_append, not_false_eq_true]; refine ex_merge rfl (by simp only [go_sem, Nat.reduceEqDiff, reduceIte, Int.reduceEq, Int.reduceLT, Int.reduceLE, Nat.reduceAdd, Nat.reduceLT, Nat.reduceLeDiff, Int.reduceToNat, Int.reduceSub, Int.reduceAdd, Int.reduceNeg]) (by intro hb; simp only [hb, go_sem, Nat.reduceEqDiff, reduceIte, Int.reduceEq, Int.reduceLT, Int.reduceLE, Nat.reduceAdd, Nat.reduceLT, Nat.reduceLeDiff, Int.reduceToNat, Int.reduceSub, Int.reduceAdd, Int.reduceNeg]; first | exact rfl | exact ⟨rfl, rfl⟩) (fun vs => ?_); simp only [go_sem, Nat.reduceEqDiff, reduceIte, Int.reduceEq, Int.reduceLT, Int.reduceLE, Nat.reduceAdd, Nat.reduceLT, Nat.reduceLeDiff, Int.reduceToNat, Int.reduceSub, Int.reduceAdd, Int.reduceNeg])); first | exact rfl | exact ⟨rfl, rfl⟩) (fun vs => ?_); simp only [go_sem, Nat.reduceEqDiff, reduceIte, Int.reduceEq, Int.reduceLT, Int.reduceLE, Nat.reduceAdd, Nat.reduceLT, Nat.reduceLeDiff, Int.reduceToNat, Int.reduceSub, Int.reduceAdd, Int.reduceNeg])); first | exact rfl | exact ⟨rfl, rfl⟩) (fun vs => ?_); simp only [go_sem, Nat.reduceEqDiff, reduceIte, Int.reduceEq, Int.reduceLT, Int.reduceLE, Nat.reduceAdd, Nat.reduceLT, Nat.reduceLeDiff, Int.reduceToNat, Int.reduceSub, Int.reduceAdd, Int.reduceNeg])); first | exact rfl | exact ⟨rfl, rfl⟩) (fun vs => ?_); simp only [go_sem, Nat.reduceEqDiff, reduceIte, Int.reduceEq, Int.reduceLT, Int.reduceLE, Nat.reduceAdd, Nat.reduceLT, Nat.reduceLeDiff, Int.reduceToNat, Int.reduceSub, Int.reduceAdd, Int.reduceNeg])); first | exact rfl | exact ⟨rfl, rfl⟩) (fun vs => ?_); simp only [go_sem, Nat.reduceEqDiff, reduceIte, Int.reduceEq, Int.reduceLT, Int.reduceLE, Nat.reduceAdd, Nat.reduceLT, Nat.reduceLeDiff, Int.reduceToNat, Int.reduceSub, Int.reduceAdd, Int.reduceNeg])
    rw [fitsB, if_neg hk]
    rfl

theorem check1_pure (hP : E.P = Tryz.prog) (d : DefD) (s : List UInt8) (hd : d.nodes.length ≤ 9223372036854775807) : XPure E 29 [.str s, .iptr [[.str d.name, .isl (nodeRows d.nodes)]] 0 0] (.bool (!(d.find s).isSome)) := by
  refine xpure1 (n := Tryz.f29.ntmps) (c := x28) (t := 3) (by rw [hP]; rfl) (by rw [hP]; kernel_rfl) (by decide) (Nat.le_of_ble_eq_true rfl) ?_
  generalize hρ : entry _ = ρ
  have h0 : ρ 0 = .str s := by rw [← hρ]; rfl
  have h1 : ρ 1 = .iptr [[.str d.name, .isl (nodeRows d.nodes)]] 0 0 := by rw [← hρ]; rfl
  clear hρ
  unfold x28
  simp only [h0, h1, go_sem, Nat.reduceEqDiff, reduceIte, Int.reduceEq, Int.reduceLT, Int.reduceLE, Nat.reduceAdd, Nat.reduceLT, Nat.reduceLeDiff, Int.reduceToNat, Int.reduceSub, Int.reduceAdd, Int.reduceNeg]
  refine xcall_pure (args' := [d.iv, .str s]) rfl (dagFind_pure hP d s hd) rfl ?_
  try simp only [h0, h1, go_sem, Nat.reduceEqDiff, reduceIte, Int.reduceEq, Int.reduceLT, Int.reduceLE, Nat.reduceAdd, Nat.reduceLT, Nat.reduceLeDiff, Int.reduceToNat, Int.reduceSub, Int.reduceAdd, Int.reduceNeg]
  rfl
end
end Go.X.TryzW
end
section
open Go Go.X Go.Proofs
set_option maxRecDepth 100000
set_option maxHeartbeats 4000000
set_option linter.unusedSimpArgs false
set_option linter.unusedVariables false
namespace Go.X.TryzW
section
variable {E : Env}
def NodeD.ok (n : NodeD) : Prop := n.name.length ≤ 9223372036854775807 ∧ n.arg.length ≤ 9223372036854775807 ∧ n.to.length ≤ 9223372036854775807 ∧ n.after.length ≤ 9223372036854775807 ∧ ∀ s ∈ n.after, s.length ≤ 9223372036854775807
def DefD.ok (d : DefD) : Prop := d.name.length ≤ 9223372036854775807 ∧ ∀ n ∈ d.nodes, n.ok

def DefD.namedE (d : DefD) (i : Nat) : Int :=
  let n := d.nodes.getD i default
  if ((!namedS n.name false 64 || (!decide (n.kind = 2) && !namedS n.arg false 64)) || (decide (n.kind = 5) && !namedS n.to true 256)) = true then 17
  else if findN (d.find n.name) < (i : Int) then 16 else 0

theorem dagNamed_pure (hP : E.P = Tryz.prog) {m : Int} (hm : E.gl 0 = some [.int .i64 m]) (d : DefD) (i : Nat) (hi : i < d.nodes.length) (hd : d.nodes.length ≤ 9223372036854775807) (hok : d.ok) :
    XPure E 26 [d.iv, .int .i64 i] (.int .i64 (d.namedE i)) := by
  have hmem : d.nodes.getD i default ∈ d.nodes := by rw [List.getD_eq_getElem?_getD, List.getElem?_eq_getElem hi]; exact List.getElem_mem _
  replace hok := hok.2 _ hmem
  have hrow := nodeRows_get hi
  unfold DefD.namedE
  generalize hn : d.nodes.getD i default = n at *
  refine xpure1 (n := Tryz.f26.ntmps) (c := x25) (t := 4) (by rw [hP]; rfl) (by rw [hP]; kernel_rfl) (by decide) (Nat.le_of_ble_eq_true rfl) ?_
  generalize hρ : entry _ = ρ
  have h0 : ρ 0 = .agg [.str d.name, .isl (nodeRows d.nodes)] := by rw [← hρ]; rfl
  have h1 : ρ 1 = .int .i64 i := by rw [← hρ]; rfl
  clear hρ
  unfold x25
  simp only [h0, h1, nodeRows_len, rows_nodes, hrow, NodeD.row, go_sem, Nat.reduceEqDiff, reduceIte, Int.reduceEq, Int.reduceLT, Int.reduceLE, Nat.reduceAdd, Nat.reduceLT, Nat.reduceLeDiff, Int.reduceToNat, Int.reduceSub, Int.reduceAdd, Int.reduceNeg]
  refine ⟨by omega, hi, ?_⟩
  refine xcall_pure (args' := [.str n.name]) rfl (dagName_pure hP hm _ hok.1) rfl ?_
  try simp only [h0, h1, go_sem, Nat.reduceEqDiff, reduceIte, Int.reduceEq, Int.reduceLT, Int.reduceLE, Nat.reduceAdd, Nat.reduceLT, Nat.reduceLeDiff, Int.reduceToNat, Int.reduceSub, Int.reduceAdd, Int.reduceNeg]
  refine s_mg (by simp only [h0, h1, go_sem, Nat.reduceEqDiff, reduceIte, Int.reduceEq, Int.reduceLT, Int.reduceLE, Nat.reduceAdd, Nat.reduceLT, Nat.reduceLeDiff, Int.reduceToNat, Int.reduceSub, Int.reduceAdd, Int.reduceNeg]; try rfl) ?_; simp only [cut_g, cut_t, cut_none, cut_out, memN_cons, memN_nil, Nat.reduceEqDiff, reduceIte, List.nil_append, List.cons_append, not_false_eq_true]; refine ex_merge rfl (by simp only [h0, h1, go_sem, Nat.reduceEqDiff, reduceIte, Int.reduceEq, Int.reduceLT, Int.reduceLE, Nat.reduceAdd, Nat.reduceLT, Nat.reduceLeDiff, Int.reduceToNat, Int.reduceSub, Int.reduceAdd, Int.reduceNeg]) (by intro hb; simp only [hb, h0, h1, go_sem, Nat.reduceEqDiff, reduceIte, Int.reduceEq, Int.reduceLT, Int.reduceLE, Nat.reduceAdd, Nat.reduceLT, Nat.reduceLeDiff, Int.reduceToNat, Int.reduceSub, Int.reduceAdd, Int.reduceNeg]; (refine s_mg (by simp only [h0, h1, go_sem, Nat.reduceEqDiff, reduceIte, Int.reduceEq, Int.reduceLT, Int.reduceLE, Nat.reduceAdd, Nat.reduceLT, Nat.reduceLeDiff, Int.reduceToNat, Int.reduceSub, Int.reduceAdd, Int.reduceNeg]; try rfl) ?_; simp only [cut_g, cut_t, cut_none, cut_out, memN_cons, memN_nil, Nat.reduceEqDiff, reduceIte, List.nil_append, List.cons_append, not_false_eq_true]; refine ex_merge rfl (by simp only [h0, h1, go_sem, Nat.reduceEqDiff, reduceIte, Int.reduceEq, Int.reduceLT, Int.reduceLE, Nat.reduceAdd, Nat.reduceLT, Nat.reduceLeDiff, Int.reduceToNat, Int.reduceSub, Int.reduceAdd, Int.reduceNeg]) (by intro hb; simp only [hb, h0, h1, go_sem, Nat.reduceEqDiff, reduceIte, Int.reduceEq, Int.reduceLT, Int.reduceLE, Nat.reduceAdd, Nat.reduceLT, Nat.reduceLeDiff, Int.reduceToNat, Int.reduceSub, Int.reduceAdd, Int.reduceNeg]; refine xcall_pure (args' := [.str n.arg]) rfl (dagName_pure hP hm _ hok.2.1) rfl ?_; try simp only [h0, h1, go_sem, Nat.reduceEqDiff, reduceIte, Int.reduceEq, Int.reduceLT, Int.reduceLE, Nat.reduceAdd, Nat.reduceLT, Nat.reduceLeDiff, Int.reduceToNat, Int.reduceSub, Int.reduceAdd, Int.reduceNeg]; (try simp only [hb, h0, h1, go_sem, Nat.reduceEqDiff, reduceIte, Int.reduceEq, Int.reduceLT, Int.reduceLE, Nat.reduceAdd, Nat.reduceLT, Nat.reduceLeDiff, Int.reduceToNat, Int.reduceSub, Int.reduceAdd, Int.reduceNeg]); first | exact rfl | exact ⟨rfl, rfl⟩) (fun vs => ?_); simp only [h0, h1, go_sem, Nat.reduceEqDiff, reduceIte, Int.reduceEq, Int.reduceLT, Int.reduceLE, Nat.reduceAdd, Nat.reduceLT, Nat.reduceLeDiff, Int.reduceToNat, Int.reduceSub, Int.reduceAdd, Int.reduceNeg]); (try simp only [hb, h0, h1, go_sem, Nat.reduceEqDiff, reduceIte, Int.reduceEq, Int.reduceLT, Int.reduceLE, Nat.reduceAdd, Nat.reduceLT, Nat.reduceLeDiff, Int.reduceToNat, Int.reduceSub, Int.reduceAdd, Int.reduceNeg]); first | exact rfl | exact ⟨rfl, rfl⟩) (fun vs => ?_); simp only [h0, h1, go_sem, Nat.reduceEqDiff, reduceIte, Int.reduceEq, Int.reduceLT, Int.reduceLE, Nat.reduceAdd, Nat.reduceLT, Nat.reduceLeDiff, Int.reduceToNat, Int.reduceSub, Int.reduceAdd, Int.reduceNeg]
  refine s_mg (by simp only [h0, h1, go_sem, Nat.reduceEqDiff, reduceIte, Int.reduceEq, Int.reduceLT, Int.reduceLE, Nat.reduceAdd, Nat.reduceLT, Nat.reduceLeDiff, Int.reduceToNat, Int.reduceSub, Int.reduceAdd, Int.reduceNeg]; try rfl) ?_; simp only [cut_g, cut_t, cut_none, cut_out, memN_cons, memN_nil, Nat.reduceEqDiff, reduceIte, List.nil_append, List.cons_append, not_false_eq_true]; refine ex_merge rfl (by simp only [h0, h1, go_sem, Nat.reduceEqDiff, reduceIte, Int.reduceEq, Int.reduceLT, Int.reduceLE, Nat.reduceAdd, Nat.reduceLT, Nat.reduceLeDiff, Int.reduceToNat, Int.reduceSub, Int.reduceAdd, Int.reduceNeg]) (by intro hb; simp only [hb, h0, h1, go_sem, Nat.reduceEqDiff, reduceIte, Int.reduceEq, Int.reduceLT, Int.reduceLE, Nat.reduceAdd, Nat.reduceLT, Nat.reduceLeDiff, Int.reduceToNat, Int.reduceSub, Int.reduceAdd, Int.reduceNeg]; (refine s_mg (by simp only [h0, h1, go_sem, Nat.reduceEqDiff, reduceIte, Int.reduceEq, Int.reduceLT, Int.reduceLE, Nat.reduceAdd, Nat.reduceLT, Nat.reduceLeDiff, Int.reduceToNat, Int.reduceSub, Int.reduceAdd, Int.reduceNeg]; try rfl) ?_; simp only [cut_g, cut_t, cut_none, cut_out, memN_cons, memN_nil, Nat.reduceEqDiff, reduceIte, List.nil_append, List.cons_append, not_false_eq_true]; refine ex_merge rfl (by simp only [h0, h1, go_sem, Nat.reduceEqDiff, reduceIte, Int.reduceEq, Int.reduceLT, Int.reduceLE, Nat.reduceAdd, Nat.reduceLT, Nat.reduceLeDiff, Int.reduceToNat, Int.reduceSub, Int.reduceAdd, Int.reduceNeg]) (by intro hb; simp only [hb, h0, h1, go_sem, Nat.reduceEqDiff, reduceIte, Int.reduceEq, Int.reduceLT, Int.reduceLE, Nat.reduceAdd, Nat.reduceLT, Nat.reduceLeDiff, Int.reduceToNat, Int.reduceSub, Int.reduceAdd, Int.reduceNeg]; refine xcall_pure (args' := [.str n.to]) rfl (dagFlow_pure hP hm _ hok.2.2.1) rfl ?_; try simp only [h0, h1, go_sem, Nat.reduceEqDiff, reduceIte, Int.reduceEq, Int.reduceLT, Int.reduceLE, Nat.reduceAdd, Nat.reduceLT, Nat.reduceLeDiff, Int.reduceToNat, Int.reduceSub, Int.reduceAdd, Int.reduceNeg]; (try simp only [hb, h0, h1, go_sem, Nat.reduceEqDiff, reduceIte, Int.reduceEq, Int.reduceLT, Int.reduceLE, Nat.reduceAdd, Nat.reduceLT, Nat.reduceLeDiff, Int.reduceToNat, Int.reduceSub, Int.reduceAdd, Int.reduceNeg]); first | exact rfl | exact ⟨rfl, rfl⟩) (fun vs => ?_); simp only [h0, h1, go_sem, Nat.reduceEqDiff, reduceIte, Int.reduceEq, Int.reduceLT, Int.reduceLE, Nat.reduceAdd, Nat.reduceLT, Nat.reduceLeDiff, Int.reduceToNat, Int.reduceSub, Int.reduceAdd, Int.reduceNeg]); (try simp only [hb, h0, h1, go_sem, Nat.reduceEqDiff, reduceIte, Int.reduceEq, Int.reduceLT, Int.reduceLE, Nat.reduceAdd, Nat.reduceLT, Nat.reduceLeDiff, Int.reduceToNat, Int.reduceSub, Int.reduceAdd, Int.reduceNeg]); first | exact rfl | exact ⟨rfl, rfl⟩) (fun vs => ?_); simp only [h0, h1, go_sem, Nat.reduceEqDiff, reduceIte, Int.reduceEq, Int.reduceLT, Int.reduceLE, Nat.reduceAdd, Nat.reduceLT, Nat.reduceLeDiff, Int.reduceToNat, Int.reduceSub, Int.reduceAdd, Int.reduceNeg]
  refine s_cond (b := (!namedS n.name false 64 || (!decide (n.kind = 2) && !namedS n.arg false 64)) || (decide (n.kind = 5) && !namedS n.to true 256)) (by simp only [go_sem, Nat.reduceEqDiff, reduceIte, Int.reduceEq, Int.reduceLT, Int.reduceLE, Nat.reduceAdd, Nat.reduceLT, Nat.reduceLeDiff, Int.reduceToNat, Int.reduceSub, Int.reduceAdd, Int.reduceNeg]; try rfl) ?_ ?_ <;> intro hc <;> simp only [h0, h1, go_sem, Nat.reduceEqDiff, reduceIte, Int.reduceEq, Int.reduceLT, Int.reduceLE, Nat.reduceAdd, Nat.reduceLT, Nat.reduceLeDiff, Int.reduceToNat, Int.reduceSub, Int.reduceAdd, Int.reduceNeg]
  · rw [if_pos hc]; rfl
  · rw [if_neg (by rw [hc]; decide)]
    refine xcall_pure (args' := [d.iv, .str n.name]) rfl (dagFind_pure hP d _ hd) rfl ?_
    try simp only [h0, h1, go_sem, Nat.reduceEqDiff, reduceIte, Int.reduceEq, Int.reduceLT, Int.reduceLE, Nat.reduceAdd, Nat.reduceLT, Nat.reduceLeDiff, Int.reduceToNat, Int.reduceSub, Int.reduceAdd, Int.reduceNeg]
    refine s_cond (b := decide _) (by simp only [h0, h1, go_sem, Nat.reduceEqDiff, reduceIte, Int.reduceEq, Int.reduceLT, Int.reduceLE, Nat.reduceAdd, Nat.reduceLT, Nat.reduceLeDiff, Int.reduceToNat, Int.reduceSub, Int.reduceAdd, Int.reduceNeg]; try rfl) ?_ ?_ <;> intro hf <;> simp only [hf, h0, h1, go_sem, Nat.reduceEqDiff, reduceIte, Int.reduceEq, Int.reduceLT, Int.reduceLE, Nat.reduceAdd, Nat.reduceLT, Nat.reduceLeDiff, Int.reduceToNat, Int.reduceSub, Int.reduceAdd, Int.reduceNeg]
    · rw [decide_eq_true_eq] at hf
      rw [if_pos hf]; rfl
    · rw [decide_eq_false_iff_not] at hf
      rw [if_neg hf]; rfl
end
end Go.X.TryzW
end
section
open Go Go.X Go.Proofs
set_option maxRecDepth 100000
set_option maxHeartbeats 4000000
set_option linter.unusedSimpArgs false
set_option linter.unusedVariables false
namespace Go.X.TryzW
/- "tiller/dag.Check" params { toList := [28] } results { toList := [Go.ResultVar.tmp 2, Go.ResultVar.tmp 3] } -/
def x13 : XC :=
 (.seq
  (.ops [
    ⟨(some 1), (.box (.t 0)), none⟩,
    ⟨(some 2), (.mov (.c (.int .i64 0))), none⟩,
    ⟨(some 3), (.mov (.c (.int .i64 0))), none⟩])
  (.seq
   (.seq
    (.ops [
      ⟨(some 13), (.fldA 0 (.t 1)), none⟩,
      ⟨(some 14), (.load1 (.t 13)), none⟩,
      ⟨(some 15), (.call (.f 23) [(.t 14)]), none⟩,
      ⟨(some 16), (.un .not (.t 15)), none⟩])
    (.cond (.t 16)
     (.seq
      (.ops [
        ⟨(some 2), (.mov (.c (.int .i64 (-1)))), none⟩,
        ⟨(some 3), (.mov (.c (.int .i64 17))), none⟩])
      .ret)
     .skip))
   (.seq
    (.seq
     (.ops [
       ⟨(some 17), (.fldA 1 (.t 1)), none⟩,
       ⟨(some 18), (.load1 (.t 17)), none⟩,
       ⟨(some 19), (.len (.t 18)), none⟩,
       ⟨(some 20), (.bin .eql (.t 19) (.c (.int .i64 0))), none⟩,
       ⟨(some 21), (.mov (.t 20)), none⟩,
       ⟨(some 22), (.fldA 1 (.t 1)), (some (21, false))⟩,
       ⟨(some 23), (.load1 (.t 22)), (some (21, false))⟩,
       ⟨(some 24), (.len (.t 23)), (some (21, false))⟩,
       ⟨(some 25), (.bin .gtr (.t 24) (.c (.int .i64 32))), (some (21, false))⟩,
       ⟨(some 26), (.pick (.t 21) (.c (.bool true)) (.t 25)), none⟩])
     (.cond (.t 26)
      (.seq
       (.ops [
         ⟨(some 2), (.mov (.c (.int .i64 (-1)))), none⟩,
         ⟨(some 3), (.mov (.c (.int .i64 10))), none⟩])
       .ret)
      .skip))
    (.seq
     (.seq
      (.ops [
        ⟨(some 27), (.fldA 1 (.t 1)), none⟩,
        ⟨(some 28), (.load1 (.t 27)), none⟩,
        ⟨(some 29), (.len (.t 28)), none⟩,
        ⟨(some 30), (.mov (.c (.int .i64 0))), none⟩])
      (.block 0
       (.loop
        (.seq
         (.ops [
           ⟨(some 31), (.bin .lss (.t 30) (.t 29)), none⟩])
         (.seq
          (.cond (.t 31)
           .skip
           (.exit 0))
          (.seq
           (.block 1
            (.seq
             (.ops [
               ⟨(some 32), (.mov (.t 30)), none⟩,
               ⟨(some 33), (.idxS 7 (.t 28) (.t 30)), none⟩,
               ⟨(some 34), (.loadN 7 (.t 33)), none⟩,
               ⟨(some 5), (.alloc [(.str []), (.int .i64 0), (.str []), (.str []), (.int .i64 0), (.int .i64 0), .nsl]), none⟩,
               ⟨(some 4), (.mov (.t 32)), none⟩,
               ⟨none, (.store 7 (.t 5) (.t 34)), none⟩])
             (.seq
              (.seq
               (.ops [
                 ⟨(some 35), (.loadN 2 (.t 1)), none⟩,
                 ⟨(some 36), (.mov (.t 4)), none⟩,
                 ⟨(some 37), (.call (.f 26) [(.t 35), (.t 36)]), none⟩,
                 ⟨(some 6), (.mov (.t 37)), none⟩])
               (.seq
                (.ops [
                  ⟨(some 38), (.mov (.t 6)), none⟩,
                  ⟨(some 39), (.bin .neq (.t 38) (.c (.int .i64 0))), none⟩])
                (.cond (.t 39)
                 (.seq
                  (.ops [
                    ⟨(some 40), (.mov (.t 4)), none⟩,
                    ⟨(some 41), (.mov (.t 6)), none⟩,
                    ⟨(some 2), (.mov (.t 40)), none⟩,
                    ⟨(some 3), (.mov (.t 41)), none⟩])
                  .ret)
                 .skip)))
              (.seq
               (.ops [
                 ⟨(some 42), (.loadN 7 (.t 5)), none⟩,
                 ⟨(some 43), (.call (.f 27) [(.t 42)]), none⟩,
                 ⟨(some 44), (.un .not (.t 43)), none⟩])
               (.cond (.t 44)
                (.seq
                 (.ops [
                   ⟨(some 45), (.mov (.t 4)), none⟩,
                   ⟨(some 2), (.mov (.t 45)), none⟩,
                   ⟨(some 3), (.mov (.c (.int .i64 1))), none⟩])
                 .ret)
                .skip)))))
           (.ops [
             ⟨(some 46), (.bin .add (.t 30) (.c (.int .i64 1))), none⟩,
             ⟨(some 30), (.mov (.t 46)), none⟩])))))))
     (.seq
      (.seq
       (.ops [
         ⟨(some 47), (.fldA 1 (.t 1)), none⟩,
         ⟨(some 48), (.load1 (.t 47)), none⟩,
         ⟨(some 49), (.len (.t 48)), none⟩,
         ⟨(some 50), (.mov (.c (.int .i64 0))), none⟩])
       (.block 2
        (.loop
         (.seq
          (.ops [
            ⟨(some 51), (.bin .lss (.t 50) (.t 49)), none⟩])
          (.seq
           (.cond (.t 51)
            .skip
            (.exit 2))
           (.seq
            (.block 3
             (.seq
              (.ops [
                ⟨(some 52), (.mov (.t 50)), none⟩,
                ⟨(some 53), (.idxS 7 (.t 48) (.t 50)), none⟩,
                ⟨(some 54), (.loadN 7 (.t 53)), none⟩,
                ⟨(some 8), (.alloc [(.str []), (.int .i64 0), (.str []), (.str []), (.int .i64 0), (.int .i64 0), .nsl]), none⟩,
                ⟨(some 7), (.mov (.t 52)), none⟩,
                ⟨none, (.store 7 (.t 8) (.t 54)), none⟩])
              (.seq
               (.seq
                (.ops [
                  ⟨(some 55), (.fldA 6 (.t 8)), none⟩,
                  ⟨(some 56), (.load1 (.t 55)), none⟩,
                  ⟨(some 57), (.mkfn (.func 29) [] [(.t 1)]), none⟩,
                  ⟨(some 58), (.call (.f 28) [(.t 56), (.t 57)]), none⟩])
                (.cond (.t 58)
                 (.seq
                  (.ops [
                    ⟨(some 59), (.mov (.t 7)), none⟩,
                    ⟨(some 2), (.mov (.t 59)), none⟩,
                    ⟨(some 3), (.mov (.c (.int .i64 6))), none⟩])
                  .ret)
                 .skip))
               (.seq
                (.ops [
                  ⟨(some 60), (.fldA 6 (.t 8)), none⟩,
                  ⟨(some 61), (.load1 (.t 60)), none⟩,
                  ⟨(some 62), (.len (.t 61)), none⟩,
                  ⟨(some 63), (.mov (.c (.int .i64 0))), none⟩])
                (.block 4
                 (.loop
                  (.seq
                   (.ops [
                     ⟨(some 64), (.bin .lss (.t 63) (.t 62)), none⟩])
                   (.seq
                    (.cond (.t 64)
                     .skip
                     (.exit 4))
                    (.seq
                     (.block 5
                      (.seq
                       (.ops [
                         ⟨(some 65), (.mov (.t 63)), none⟩,
                         ⟨(some 66), (.idxS 1 (.t 61) (.t 63)), none⟩,
                         ⟨(some 67), (.load1 (.t 66)), none⟩,
                         ⟨(some 9), (.mov (.t 65)), none⟩,
                         ⟨(some 10), (.mov (.t 67)), none⟩])
                       (.seq
                        (.ops [
                          ⟨(some 68), (.fldA 6 (.t 8)), none⟩,
                          ⟨(some 69), (.load1 (.t 68)), none⟩,
                          ⟨(some 70), (.mov (.t 9)), none⟩,
                          ⟨(some 71), (.slice 1 (.t 69) none (some (.t 70))), none⟩,
                          ⟨(some 72), (.mov (.t 10)), none⟩,
                          ⟨(some 73), (.call (.f 31) [(.t 71), (.t 72)]), none⟩])
                        (.cond (.t 73)
                         (.seq
                          (.ops [
                            ⟨(some 74), (.mov (.t 7)), none⟩,
                            ⟨(some 2), (.mov (.t 74)), none⟩,
                            ⟨(some 3), (.mov (.c (.int .i64 16))), none⟩])
                          .ret)
                         .skip))))
                     (.ops [
                       ⟨(some 75), (.bin .add (.t 63) (.c (.int .i64 1))), none⟩,
                       ⟨(some 63), (.mov (.t 75)), none⟩]))))))))))
            (.ops [
              ⟨(some 76), (.bin .add (.t 50) (.c (.int .i64 1))), none⟩,
              ⟨(some 50), (.mov (.t 76)), none⟩])))))))
      (.seq
       (.seq
        (.ops [
          ⟨(some 78), (.loadN 2 (.t 1)), none⟩,
          ⟨(some 79), (.call (.f 18) [(.t 78)]), none⟩,
          ⟨(some 77), (.mov (.t 79)), none⟩,
          ⟨(some 80), (.ext (.t 77) 0), none⟩,
          ⟨(some 81), (.ext (.t 77) 1), none⟩,
          ⟨(some 11), (.mov (.t 80)), none⟩,
          ⟨(some 12), (.mov (.t 81)), none⟩])
        (.seq
         (.ops [
           ⟨(some 82), (.mov (.t 12)), none⟩,
           ⟨(some 83), (.un .not (.t 82)), none⟩])
         (.cond (.t 83)
          (.seq
           (.ops [
             ⟨(some 2), (.mov (.c (.int .i64 (-1)))), none⟩,
             ⟨(some 3), (.mov (.c (.int .i64 15))), none⟩])
           .ret)
          .skip)))
       (.seq
        (.ops [
          ⟨(some 2), (.mov (.c (.int .i64 (-1)))), none⟩,
          ⟨(some 3), (.mov (.c (.int .i64 0))), none⟩])
        .ret)))))))

section
variable {E : Env}
def DefD.nodeE (d : DefD) (i : Nat) : Int := if d.namedE i = 0 then (if fitsB (d.nodes.getD i default) = true then 0 else 1) else d.namedE i
def twiceB (l : List (List UInt8)) (k : Nat) : Bool := (firstI (fun x => decide (l.getD k [] = x)) (l.take k)).isSome
def DefD.depE (d : DefD) (i : Nat) : Int :=
  if (firstI (fun s => !(d.find s).isSome) (d.nodes.getD i default).after).isSome = true then 6
  else if (firstI (twiceB (d.nodes.getD i default).after) (List.range (d.nodes.getD i default).after.length)).isSome = true then 16 else 0
def DefD.check (d : DefD) : Int × Int :=
  if namedS d.name false 64 = false then (-1, 17)
  else if (decide ((d.nodes.length : Int) = 0) || decide (32 < (d.nodes.length : Int))) = true then (-1, 10)
  else match firstI (fun i => !decide (d.nodeE i = 0)) (List.range d.nodes.length) with
    | some i => (i, d.nodeE i)
    | none => match firstI (fun i => !decide (d.depE i = 0)) (List.range d.nodes.length) with
      | some i => (i, d.depE i)
      | none => if d.order.length = d.nodes.length then (-1, 0) else (-1, 15)

theorem firstI_range {p : Nat → Bool} {n i : Nat} (hi : i < n) (ha : (List.range i).all (fun k => !p k) = true) (hp : p i = true) : firstI p (List.range n) = some i := by
  refine firstI_some (d := 0) (by simpa using hi) ?_ ?_
  · rw [List.take_range, Nat.min_eq_left (by omega)]; exact ha
  · simpa [List.getD_eq_getElem?_getD, hi] using hp
theorem all_range_succ {p : Nat → Bool} {i : Nat} (ha : (List.range i).all p = true) (hp : p i = true) : (List.range (i + 1)).all p = true := by
  rw [List.range_succ, List.all_append, ha]; simpa using hp

theorem check_pure (hP : E.P = Tryz.prog) {m : Int} (hm : E.gl 0 = some [.int .i64 m]) (d : DefD) (hd : d.nodes.length ≤ 1000000) (hok : d.ok) :
    XPure E 12 [d.iv] (.tup [.int .i64 d.check.1, .int .i64 d.check.2]) := by
  refine xpure2 (n := Tryz.f12.ntmps) (c := x13) (t := 2) (t' := 3) (by rw [hP]; rfl) (by rw [hP]; kernel_rfl) (by decide) (Nat.le_of_ble_eq_true rfl) ?_
  generalize hρ : entry _ = ρ
  have h0 : ρ 0 = .agg [.str d.name, .isl (nodeRows d.nodes)] := by rw [← hρ]; rfl
  clear hρ
  unfold x13
  simp only [h0, go_sem, Nat.reduceEqDiff, reduceIte, Int.reduceEq, Int.reduceLT, Int.reduceLE, Nat.reduceAdd, Nat.reduceLT, Nat.reduceLeDiff, Int.reduceToNat, Int.reduceSub, Int.reduceAdd, Int.reduceNeg]
  refine xcall_pure (args' := [.str d.name]) rfl (dagName_pure hP hm _ hok.1) rfl ?_
  try simp only [h0, go_sem, Nat.reduceEqDiff, reduceIte, Int.reduceEq, Int.reduceLT, Int.reduceLE, Nat.reduceAdd, Nat.reduceLT, Nat.reduceLeDiff, Int.reduceToNat, Int.reduceSub, Int.reduceAdd, Int.reduceNeg]
  refine s_cond (b := !namedS d.name false 64) (by simp only [go_sem, Nat.reduceEqDiff, reduceIte, Int.reduceEq, Int.reduceLT, Int.reduceLE, Nat.reduceAdd, Nat.reduceLT, Nat.reduceLeDiff, Int.reduceToNat, Int.reduceSub, Int.reduceAdd, Int.reduceNeg]; try rfl) ?_ ?_ <;> intro hc0 <;> simp only [h0, nodeRows_len, go_sem, Nat.reduceEqDiff, reduceIte, Int.reduceEq, Int.reduceLT, Int.reduceLE, Nat.reduceAdd, Nat.reduceLT, Nat.reduceLeDiff, Int.reduceToNat, Int.reduceSub, Int.reduceAdd, Int.reduceNeg]
  · have hf : d.check = (-1, 17) := by rw [DefD.check, if_pos (by simpa using hc0)]
    rw [hf]; exact ⟨rfl, rfl⟩
  refine s_mg (by simp only [h0, nodeRows_len, go_sem, Nat.reduceEqDiff, reduceIte, Int.reduceEq, Int.reduceLT, Int.reduceLE, Nat.reduceAdd, Nat.reduceLT, Nat.reduceLeDiff, Int.reduceToNat, Int.reduceSub, Int.reduceAdd, Int.reduceNeg]; try rfl) ?_; simp only [cut_g, cut_t, cut_none, cut_out, memN_cons, memN_nil, Nat.reduceEqDiff, reduceIte, List.nil_append, List.cons_append, not_false_eq_true]; refine ex_merge rfl (by simp only [h0, nodeRows_len, go_sem, Nat.reduceEqDiff, reduceIte, Int.reduceEq, Int.reduceLT, Int.reduceLE, Nat.reduceAdd, Nat.reduceLT, Nat.reduceLeDiff, Int.reduceToNat, Int.reduceSub, Int.reduceAdd, Int.reduceNeg]) (by intro hb; simp only [hb, h0, nodeRows_len, go_sem, Nat.reduceEqDiff, reduceIte, Int.reduceEq, Int.reduceLT, Int.reduceLE, Nat.reduceAdd, Nat.reduceLT, Nat.reduceLeDiff, Int.reduceToNat, Int.reduceSub, Int.reduceAdd, Int.reduceNeg]; first | exact rfl | exact ⟨rfl, rfl⟩) (fun vs => ?_); simp only [h0, nodeRows_len, go_sem, Nat.reduceEqDiff, reduceIte, Int.reduceEq, Int.reduceLT, Int.reduceLE, Nat.reduceAdd, Nat.reduceLT, Nat.reduceLeDiff, Int.reduceToNat, Int.reduceSub, Int.reduceAdd, Int.reduceNeg]
  refine s_cond (b := decide ((d.nodes.length : Int) = 0) || decide (32 < (d.nodes.length : Int))) (by simp only [go_sem, Nat.reduceEqDiff, reduceIte, Int.reduceEq, Int.reduceLT, Int.reduceLE, Nat.reduceAdd, Nat.reduceLT, Nat.reduceLeDiff, Int.reduceToNat, Int.reduceSub, Int.reduceAdd, Int.reduceNeg]; try rfl) ?_ ?_ <;> intro hc1 <;> simp only [h0, nodeRows_len, go_sem, Nat.reduceEqDiff, reduceIte, Int.reduceEq, Int.reduceLT, Int.reduceLE, Nat.reduceAdd, Nat.reduceLT, Nat.reduceLeDiff, Int.reduceToNat, Int.reduceSub, Int.reduceAdd, Int.reduceNeg]
  · have hf : d.check = (-1, 10) := by rw [DefD.check, if_neg (by simpa using hc0), if_pos hc1]
    rw [hf]; exact ⟨rfl, rfl⟩
  have hcheck : d.check = match firstI (fun i => !decide (d.nodeE i = 0)) (List.range d.nodes.length) with
    | some i => ((i : Int), d.nodeE i)
    | none => match firstI (fun i => !decide (d.depE i = 0)) (List.range d.nodes.length) with
      | some i => ((i : Int), d.depE i)
      | none => if d.order.length = d.nodes.length then (-1, 0) else (-1, 15) := by
    rw [DefD.check, if_neg (by simpa using hc0), if_neg (by rw [hc1]; decide)]
  refine s_loop (fun n' ρ L => ∃ (i : Nat) (J : List Blk), i ≤ d.nodes.length ∧ n' = d.nodes.length - i ∧ L = .cells 2 [[.str d.name, .isl (nodeRows d.nodes)]] :: J ∧
      ρ 1 = .ptr 0 0 0 ∧ ρ 28 = .isl (nodeRows d.nodes) ∧ ρ 29 = .int .i64 d.nodes.length ∧ ρ 30 = .int .i64 i ∧ (List.range i).all (fun k => !!decide (d.nodeE k = 0)) = true)
    ⟨0, [], Nat.zero_le _, rfl, rfl, by simp only [go_sem, Nat.reduceEqDiff, reduceIte, Int.reduceEq, Int.reduceLT, Int.reduceLE, Nat.reduceAdd, Nat.reduceLT, Nat.reduceLeDiff, Int.reduceToNat, Int.reduceSub, Int.reduceAdd, Int.reduceNeg], by simp only [go_sem, Nat.reduceEqDiff, reduceIte, Int.reduceEq, Int.reduceLT, Int.reduceLE, Nat.reduceAdd, Nat.reduceLT, Nat.reduceLeDiff, Int.reduceToNat, Int.reduceSub, Int.reduceAdd, Int.reduceNeg], by simp only [go_sem, Nat.reduceEqDiff, reduceIte, Int.reduceEq, Int.reduceLT, Int.reduceLE, Nat.reduceAdd, Nat.reduceLT, Nat.reduceLeDiff, Int.reduceToNat, Int.reduceSub, Int.reduceAdd, Int.reduceNeg], by simp only [go_sem, Nat.reduceEqDiff, reduceIte, Int.reduceEq, Int.reduceLT, Int.reduceLE, Nat.reduceAdd, Nat.reduceLT, Nat.reduceLeDiff, Int.reduceToNat, Int.reduceSub, Int.reduceAdd, Int.reduceNeg]; try rfl, rfl⟩ ?_
  clear h0 ρ
  rintro n' ρ L ⟨i, J, hi, rfl, rfl, h1, h28, h29, h30, hall⟩
  simp only [h1, h28, h29, h30, go_sem, Nat.reduceEqDiff, reduceIte, Int.reduceEq, Int.reduceLT, Int.reduceLE, Nat.reduceAdd, Nat.reduceLT, Nat.reduceLeDiff, Int.reduceToNat, Int.reduceSub, Int.reduceAdd, Int.reduceNeg]
  refine s_cond (b := decide _) (by simp only [h1, h28, h29, h30, nodeRows_len, rows_nodes, go_sem, Nat.reduceEqDiff, reduceIte, Int.reduceEq, Int.reduceLT, Int.reduceLE, Nat.reduceAdd, Nat.reduceLT, Nat.reduceLeDiff, Int.reduceToNat, Int.reduceSub, Int.reduceAdd, Int.reduceNeg]; try rfl) ?_ ?_ <;> intro hb <;> simp only [hb, h1, h28, h29, h30, nodeRows_len, rows_nodes, go_sem, Nat.reduceEqDiff, reduceIte, Int.reduceEq, Int.reduceLT, Int.reduceLE, Nat.reduceAdd, Nat.reduceLT, Nat.reduceLeDiff, Int.reduceToNat, Int.reduceSub, Int.reduceAdd, Int.reduceNeg]
  · rw [decide_eq_true_eq] at hb
    have hi' : i < d.nodes.length := by omega
    have hrow := nodeRows_get hi'
    refine ⟨hb, ?_⟩
    simp only [h1, h28, h29, h30, hrow, NodeD.row, go_sem, Nat.reduceEqDiff, reduceIte, Int.reduceEq, Int.reduceLT, Int.reduceLE, Nat.reduceAdd, Nat.reduceLT, Nat.reduceLeDiff, Int.reduceToNat, Int.reduceSub, Int.reduceAdd, Int.reduceNeg]
    refine ⟨hi', ?_⟩
    refine xcall_pure (args' := [d.iv, .int .i64 i]) rfl (dagNamed_pure hP hm d i hi' (by omega) hok) rfl ?_
    try simp only [h1, h28, h29, h30, go_sem, Nat.reduceEqDiff, reduceIte, Int.reduceEq, Int.reduceLT, Int.reduceLE, Nat.reduceAdd, Nat.reduceLT, Nat.reduceLeDiff, Int.reduceToNat, Int.reduceSub, Int.reduceAdd, Int.reduceNeg]
    refine s_cond (b := !decide (d.namedE i = 0)) (by simp only [h1, h28, h29, h30, go_sem, Nat.reduceEqDiff, reduceIte, Int.reduceEq, Int.reduceLT, Int.reduceLE, Nat.reduceAdd, Nat.reduceLT, Nat.reduceLeDiff, Int.reduceToNat, Int.reduceSub, Int.reduceAdd, Int.reduceNeg]; try rfl) ?_ ?_ <;> intro hc2 <;> simp only [h1, h28, h29, h30, go_sem, Nat.reduceEqDiff, reduceIte, Int.reduceEq, Int.reduceLT, Int.reduceLE, Nat.reduceAdd, Nat.reduceLT, Nat.reduceLeDiff, Int.reduceToNat, Int.reduceSub, Int.reduceAdd, Int.reduceNeg]
    · have hne : d.namedE i ≠ 0 := by simpa using hc2
      have hnode : d.nodeE i = d.namedE i := by rw [DefD.nodeE, if_neg hne]
      have hf : d.check = ((i : Int), d.nodeE i) := by rw [hcheck, firstI_range hi' hall (by rw [hnode]; simpa using hne)]
      rw [hf, hnode]; exact ⟨rfl, rfl⟩
    have hz : d.namedE i = 0 := by simpa using hc2
    refine xcall_pure (args' := [.agg (d.nodes.getD i default).row]) rfl (fits_pure hP _) rfl ?_
    try simp only [h1, h28, h29, h30, go_sem, Nat.reduceEqDiff, reduceIte, Int.reduceEq, Int.reduceLT, Int.reduceLE, Nat.reduceAdd, Nat.reduceLT, Nat.reduceLeDiff, Int.reduceToNat, Int.reduceSub, Int.reduceAdd, Int.reduceNeg]
    refine s_cond (b := !fitsB (d.nodes.getD i default)) (by simp only [h1, h28, h29, h30, go_sem, Nat.reduceEqDiff, reduceIte, Int.reduceEq, Int.reduceLT, Int.reduceLE, Nat.reduceAdd, Nat.reduceLT, Nat.reduceLeDiff, Int.reduceToNat, Int.reduceSub, Int.reduceAdd, Int.reduceNeg]; try rfl) ?_ ?_ <;> intro hc3 <;> simp only [h1, h28, h29, h30, go_sem, Nat.reduceEqDiff, reduceIte, Int.reduceEq, Int.reduceLT, Int.reduceLE, Nat.reduceAdd, Nat.reduceLT, Nat.reduceLeDiff, Int.reduceToNat, Int.reduceSub, Int.reduceAdd, Int.reduceNeg]
    · have hnode : d.nodeE i = 1 := by rw [DefD.nodeE, if_pos hz, if_neg (by simpa using hc3)]
      have hf : d.check = ((i : Int), d.nodeE i) := by rw [hcheck, firstI_range hi' hall (by rw [hnode]; rfl)]
      rw [hf, hnode]; exact ⟨rfl, rfl⟩
    have hnode : d.nodeE i = 0 := by rw [DefD.nodeE, if_pos hz, if_pos (by simpa using hc3)]
    refine ⟨d.nodes.length - (i + 1), by omega, i + 1, _, by omega, rfl, rfl, by rw [wrap64 (by omega) (by omega)]; rfl, ?_⟩
    exact all_range_succ hall (by rw [hnode]; rfl)
  rw [decide_eq_false_iff_not] at hb
  have hi' : i = d.nodes.length := by omega
  subst hi'
  rw [firstI_none hall] at hcheck
  clear hall hb hi h28 h29 h30
  refine s_loop (fun n' ρ L => ∃ (i : Nat) (J : List Blk), i ≤ d.nodes.length ∧ n' = d.nodes.length - i ∧ L = .cells 2 [[.str d.name, .isl (nodeRows d.nodes)]] :: J ∧
      ρ 1 = .ptr 0 0 0 ∧ ρ 48 = .isl (nodeRows d.nodes) ∧ ρ 49 = .int .i64 d.nodes.length ∧ ρ 50 = .int .i64 i ∧ (List.range i).all (fun k => !!decide (d.depE k = 0)) = true)
    ⟨0, J, Nat.zero_le _, rfl, rfl, by simp only [h1, go_sem, Nat.reduceEqDiff, reduceIte, Int.reduceEq, Int.reduceLT, Int.reduceLE, Nat.reduceAdd, Nat.reduceLT, Nat.reduceLeDiff, Int.reduceToNat, Int.reduceSub, Int.reduceAdd, Int.reduceNeg], by simp only [go_sem, Nat.reduceEqDiff, reduceIte, Int.reduceEq, Int.reduceLT, Int.reduceLE, Nat.reduceAdd, Nat.reduceLT, Nat.reduceLeDiff, Int.reduceToNat, Int.reduceSub, Int.reduceAdd, Int.reduceNeg], by simp only [go_sem, Nat.reduceEqDiff, reduceIte, Int.reduceEq, Int.reduceLT, Int.reduceLE, Nat.reduceAdd, Nat.reduceLT, Nat.reduceLeDiff, Int.reduceToNat, Int.reduceSub, Int.reduceAdd, Int.reduceNeg], by simp only [go_sem, Nat.reduceEqDiff, reduceIte, Int.reduceEq, Int.reduceLT, Int.reduceLE, Nat.reduceAdd, Nat.reduceLT, Nat.reduceLeDiff, Int.reduceToNat, Int.reduceSub, Int.reduceAdd, Int.reduceNeg]; try rfl, rfl⟩ ?_
  clear h1 ρ
  rintro n' ρ L ⟨i, J, hi, rfl, rfl, h1, h48, h49, h50, hall⟩
  simp only [h1, h48, h49, h50, go_sem, Nat.reduceEqDiff, reduceIte, Int.reduceEq, Int.reduceLT, Int.reduceLE, Nat.reduceAdd, Nat.reduceLT, Nat.reduceLeDiff, Int.reduceToNat, Int.reduceSub, Int.reduceAdd, Int.reduceNeg]
  refine s_cond (b := decide _) (by simp only [h1, h48, h49, h50, nodeRows_len, rows_nodes, go_sem, Nat.reduceEqDiff, reduceIte, Int.reduceEq, Int.reduceLT, Int.reduceLE, Nat.reduceAdd, Nat.reduceLT, Nat.reduceLeDiff, Int.reduceToNat, Int.reduceSub, Int.reduceAdd, Int.reduceNeg]; try rfl) ?_ ?_ <;> intro hb <;> simp only [hb, h1, h48, h49, h50, nodeRows_len, rows_nodes, go_sem, Nat.reduceEqDiff, reduceIte, Int.reduceEq, Int.reduceLT, Int.reduceLE, Nat.reduceAdd, Nat.reduceLT, Nat.reduceLeDiff, Int.reduceToNat, Int.reduceSub, Int.reduceAdd, Int.reduceNeg]
  · rw [decide_eq_true_eq] at hb
    have hi' : i < d.nodes.length := by omega
    have hrow := nodeRows_get hi'
    have hmem : d.nodes.getD i default ∈ d.nodes := by rw [List.getD_eq_getElem?_getD, List.getElem?_eq_getElem hi']; exact List.getElem_mem _
    have hnok := hok.2 _ hmem
    have hlen := hnok.2.2.2.1
    have hdep : d.depE i = if (firstI (fun s => !(d.find s).isSome) (d.nodes.getD i default).after).isSome = true then 6
      else if (firstI (twiceB (d.nodes.getD i default).after) (List.range (d.nodes.getD i default).after.length)).isSome = true then 16 else 0 := rfl
    refine ⟨hb, ?_⟩
    simp only [h1, h48, h49, h50, hrow, NodeD.row, go_sem, Nat.reduceEqDiff, reduceIte, Int.reduceEq, Int.reduceLT, Int.reduceLE, Nat.reduceAdd, Nat.reduceLT, Nat.reduceLeDiff, Int.reduceToNat, Int.reduceSub, Int.reduceAdd, Int.reduceNeg]
    refine ⟨hi', ?_⟩
    generalize hn : d.nodes.getD i default = n at *
    refine xcall_lend (args' := [.isl (strRows n.after), .fn (.func 29) [] [.iptr [[.str d.name, .isl (nodeRows d.nodes)]] 0 0]])
      (mapO_cons rfl (mapO_cons (conv_fn rfl (mapO_cons (conv_ptr_free rfl rfl rfl) rfl)) rfl))
      (containsFuncS_pure hP n.after 29 _ (fun s => !(d.find s).isSome) hnok.2.2.2.1 rfl rfl (fun s _ => check1_pure hP d s (by omega))) rfl rfl ?_
    try simp only [h1, h48, h49, h50, go_sem, Nat.reduceEqDiff, reduceIte, Int.reduceEq, Int.reduceLT, Int.reduceLE, Nat.reduceAdd, Nat.reduceLT, Nat.reduceLeDiff, Int.reduceToNat, Int.reduceSub, Int.reduceAdd, Int.reduceNeg]
    refine s_cond (b := (firstI (fun s => !(d.find s).isSome) n.after).isSome) (by simp only [h1, h48, h49, h50, go_sem, Nat.reduceEqDiff, reduceIte, Int.reduceEq, Int.reduceLT, Int.reduceLE, Nat.reduceAdd, Nat.reduceLT, Nat.reduceLeDiff, Int.reduceToNat, Int.reduceSub, Int.reduceAdd, Int.reduceNeg]; try rfl) ?_ ?_ <;> intro hc2 <;> simp only [h1, h48, h49, h50, strRows_len, go_sem, Nat.reduceEqDiff, reduceIte, Int.reduceEq, Int.reduceLT, Int.reduceLE, Nat.reduceAdd, Nat.reduceLT, Nat.reduceLeDiff, Int.reduceToNat, Int.reduceSub, Int.reduceAdd, Int.reduceNeg]
    · rw [if_pos hc2] at hdep
      have hf : d.check = ((i : Int), d.depE i) := by rw [hcheck, firstI_range hi' hall (by rw [hdep]; rfl)]
      rw [hf, hdep]; exact ⟨rfl, rfl⟩
    rw [if_neg (by rw [hc2]; decide)] at hdep
    refine s_loop (fun n3 ρ L => ∃ (k : Nat), k ≤ n.after.length ∧ n3 = n.after.length - k ∧ L = .cells 2 [[.str d.name, .isl (nodeRows d.nodes)]] :: (J ++ [.cells 7 [n.row]]) ∧
        ρ 1 = .ptr 0 0 0 ∧ ρ 7 = .int .i64 i ∧ ρ 8 = .ptr (J.length + 1) 0 0 ∧ ρ 48 = .isl (nodeRows d.nodes) ∧ ρ 49 = .int .i64 d.nodes.length ∧ ρ 50 = .int .i64 i ∧
        ρ 61 = .isl (strRows n.after) ∧ ρ 62 = .int .i64 n.after.length ∧ ρ 63 = .int .i64 k ∧ (List.range k).all (fun k => !twiceB n.after k) = true)
      ⟨0, Nat.zero_le _, rfl, rfl, by simp only [h1, h48, h49, h50, go_sem, Nat.reduceEqDiff, reduceIte, Int.reduceEq, Int.reduceLT, Int.reduceLE, Nat.reduceAdd, Nat.reduceLT, Nat.reduceLeDiff, Int.reduceToNat, Int.reduceSub, Int.reduceAdd, Int.reduceNeg], by simp only [h1, h48, h49, h50, go_sem, Nat.reduceEqDiff, reduceIte, Int.reduceEq, Int.reduceLT, Int.reduceLE, Nat.reduceAdd, Nat.reduceLT, Nat.reduceLeDiff, Int.reduceToNat, Int.reduceSub, Int.reduceAdd, Int.reduceNeg], by simp only [h1, h48, h49, h50, go_sem, Nat.reduceEqDiff, reduceIte, Int.reduceEq, Int.reduceLT, Int.reduceLE, Nat.reduceAdd, Nat.reduceLT, Nat.reduceLeDiff, Int.reduceToNat, Int.reduceSub, Int.reduceAdd, Int.reduceNeg], by simp only [h1, h48, h49, h50, go_sem, Nat.reduceEqDiff, reduceIte, Int.reduceEq, Int.reduceLT, Int.reduceLE, Nat.reduceAdd, Nat.reduceLT, Nat.reduceLeDiff, Int.reduceToNat, Int.reduceSub, Int.reduceAdd, Int.reduceNeg], by simp only [h1, h48, h49, h50, go_sem, Nat.reduceEqDiff, reduceIte, Int.reduceEq, Int.reduceLT, Int.reduceLE, Nat.reduceAdd, Nat.reduceLT, Nat.reduceLeDiff, Int.reduceToNat, Int.reduceSub, Int.reduceAdd, Int.reduceNeg], by simp only [h1, h48, h49, h50, go_sem, Nat.reduceEqDiff, reduceIte, Int.reduceEq, Int.reduceLT, Int.reduceLE, Nat.reduceAdd, Nat.reduceLT, Nat.reduceLeDiff, Int.reduceToNat, Int.reduceSub, Int.reduceAdd, Int.reduceNeg], by simp only [h1, h48, h49, h50, go_sem, Nat.reduceEqDiff, reduceIte, Int.reduceEq, Int.reduceLT, Int.reduceLE, Nat.reduceAdd, Nat.reduceLT, Nat.reduceLeDiff, Int.reduceToNat, Int.reduceSub, Int.reduceAdd, Int.reduceNeg], by simp only [h1, h48, h49, h50, go_sem, Nat.reduceEqDiff, reduceIte, Int.reduceEq, Int.reduceLT, Int.reduceLE, Nat.reduceAdd, Nat.reduceLT, Nat.reduceLeDiff, Int.reduceToNat, Int.reduceSub, Int.reduceAdd, Int.reduceNeg], by simp only [h1, h48, h49, h50, go_sem, Nat.reduceEqDiff, reduceIte, Int.reduceEq, Int.reduceLT, Int.reduceLE, Nat.reduceAdd, Nat.reduceLT, Nat.reduceLeDiff, Int.reduceToNat, Int.reduceSub, Int.reduceAdd, Int.reduceNeg]; try rfl, rfl⟩ ?_
    clear h1 h48 h49 h50 ρ
    rintro n3 ρ L ⟨k, hk, rfl, rfl, h1, h7, h8, h48, h49, h50, h61, h62, h63, hall3⟩
    simp only [h1, h7, h8, h48, h49, h50, h61, h62, h63, go_sem, Nat.reduceEqDiff, reduceIte, Int.reduceEq, Int.reduceLT, Int.reduceLE, Nat.reduceAdd, Nat.reduceLT, Nat.reduceLeDiff, Int.reduceToNat, Int.reduceSub, Int.reduceAdd, Int.reduceNeg]
    refine s_cond (b := decide _) (by simp only [h1, h7, h8, h48, h49, h50, h61, h62, h63, strRows_len, rows_strs, go_sem, Nat.reduceEqDiff, reduceIte, Int.reduceEq, Int.reduceLT, Int.reduceLE, Nat.reduceAdd, Nat.reduceLT, Nat.reduceLeDiff, Int.reduceToNat, Int.reduceSub, Int.reduceAdd, Int.reduceNeg]; try rfl) ?_ ?_ <;> intro hb3 <;> simp only [hb3, h1, h7, h8, h48, h49, h50, h61, h62, h63, strRows_len, rows_strs, go_sem, Nat.reduceEqDiff, reduceIte, Int.reduceEq, Int.reduceLT, Int.reduceLE, Nat.reduceAdd, Nat.reduceLT, Nat.reduceLeDiff, Int.reduceToNat, Int.reduceSub, Int.reduceAdd, Int.reduceNeg]
    · rw [decide_eq_true_eq] at hb3
      have hk' : k < n.after.length := by omega
      have hrow3 := strRows_get hk'
      have htake : List.take k (strRows n.after) = strRows (n.after.take k) := by simp [strRows, List.map_take]
      refine ⟨hb3, ?_⟩
      simp only [h1, h7, h8, h48, h49, h50, h61, h62, h63, hrow3, NodeD.row, rows_strs, strRows_len, htake, go_sem, Nat.reduceEqDiff, reduceIte, Int.reduceEq, Int.reduceLT, Int.reduceLE, Nat.reduceAdd, Nat.reduceLT, Nat.reduceLeDiff, Int.reduceToNat, Int.reduceSub, Int.reduceAdd, Int.reduceNeg]
      refine ⟨hk', by omega, ?_⟩
      refine xcall_pure (args' := [.isl (strRows (n.after.take k)), .str (n.after.getD k [])]) rfl (containsS_pure hP _ _ (Nat.le_trans (List.length_take_le ..) (by have := hnok.2.2.2.1; omega))) rfl ?_
      try simp only [h1, h7, h8, h48, h49, h50, h61, h62, h63, go_sem, Nat.reduceEqDiff, reduceIte, Int.reduceEq, Int.reduceLT, Int.reduceLE, Nat.reduceAdd, Nat.reduceLT, Nat.reduceLeDiff, Int.reduceToNat, Int.reduceSub, Int.reduceAdd, Int.reduceNeg]
      refine s_cond (b := twiceB n.after k) (by simp only [h1, h7, h8, h48, h49, h50, h61, h62, h63, go_sem, Nat.reduceEqDiff, reduceIte, Int.reduceEq, Int.reduceLT, Int.reduceLE, Nat.reduceAdd, Nat.reduceLT, Nat.reduceLeDiff, Int.reduceToNat, Int.reduceSub, Int.reduceAdd, Int.reduceNeg]; try rfl) ?_ ?_ <;> intro hc4 <;> simp only [h1, h7, h8, h48, h49, h50, h61, h62, h63, go_sem, Nat.reduceEqDiff, reduceIte, Int.reduceEq, Int.reduceLT, Int.reduceLE, Nat.reduceAdd, Nat.reduceLT, Nat.reduceLeDiff, Int.reduceToNat, Int.reduceSub, Int.reduceAdd, Int.reduceNeg]
      · rw [firstI_range hk' hall3 hc4, if_pos (show (some k).isSome = true from rfl)] at hdep
        have hf : d.check = ((i : Int), d.depE i) := by rw [hcheck, firstI_range hi' hall (by rw [hdep]; rfl)]
        rw [hf, hdep]; exact ⟨rfl, rfl⟩
      · refine ⟨n.after.length - (k + 1), by omega, k + 1, by omega, rfl, rfl, by rw [wrap64 (by omega) (by omega)]; rfl, ?_⟩
        exact all_range_succ hall3 (by rw [hc4]; rfl)
    · rw [decide_eq_false_iff_not] at hb3
      have hk' : k = n.after.length := by omega
      subst hk'
      rw [firstI_none hall3, if_neg (by decide)] at hdep
      refine ⟨d.nodes.length - (i + 1), by omega, i + 1, _, by omega, rfl, rfl, by rw [wrap64 (by omega) (by omega)]; rfl, ?_⟩
      exact all_range_succ hall (by rw [hdep]; rfl)
  rw [decide_eq_false_iff_not] at hb
  have hi' : i = d.nodes.length := by omega
  subst hi'
  rw [firstI_none hall] at hcheck
  refine xcall_pure (args' := [d.iv]) rfl (order_pure hP d hd (fun n hn => (hok.2 n hn).2.2.2.1)) rfl ?_
  try simp only [h1, h48, h49, h50, go_sem, Nat.reduceEqDiff, reduceIte, Int.reduceEq, Int.reduceLT, Int.reduceLE, Nat.reduceAdd, Nat.reduceLT, Nat.reduceLeDiff, Int.reduceToNat, Int.reduceSub, Int.reduceAdd, Int.reduceNeg]
  refine s_cond (b := !decide (d.order.length = d.nodes.length)) (by simp only [h1, h48, h49, h50, go_sem, Nat.reduceEqDiff, reduceIte, Int.reduceEq, Int.reduceLT, Int.reduceLE, Nat.reduceAdd, Nat.reduceLT, Nat.reduceLeDiff, Int.reduceToNat, Int.reduceSub, Int.reduceAdd, Int.reduceNeg]; try rfl) ?_ ?_ <;> intro hc5 <;> simp only [h1, h48, h49, h50, go_sem, Nat.reduceEqDiff, reduceIte, Int.reduceEq, Int.reduceLT, Int.reduceLE, Nat.reduceAdd, Nat.reduceLT, Nat.reduceLeDiff, Int.reduceToNat, Int.reduceSub, Int.reduceAdd, Int.reduceNeg]
  · rw [if_neg (by simpa using hc5)] at hcheck
    rw [hcheck]; exact ⟨rfl, rfl⟩
  · rw [if_pos (by simpa using hc5)] at hcheck
    rw [hcheck]; exact ⟨rfl, rfl⟩
end
end Go.X.TryzW
end
section
open Go Go.X Go.Proofs
set_option maxRecDepth 100000
set_option maxHeartbeats 4000000
set_option linter.unusedSimpArgs false
set_option linter.unusedVariables false
namespace Go.X.TryzW
/- "tiller/dag.ReadyNodes" params { toList := [28, 44, 44] } results { toList := [Go.ResultVar.tmp 6] } -/
/- "tiller/dag.ReadyNodes$1" params { toList := [44, 3] } results { toList := [Go.ResultVar.tmp 4] } -/
/- "tiller/dag.ReadyNodes$2" params { toList := [3] } results { toList := [Go.ResultVar.tmp 4] } -/
section
variable {E : Env}
def atB (l : List Bool) (i : Nat) : Bool := l.getD i false
def DefD.isReady (d : DefD) (over begun : List Bool) (i : Nat) : Bool := !atB begun i && d.met i (atB over)
def DefD.ready (d : DefD) (over begun : List Bool) : List Nat := (List.range d.nodes.length).filter (d.isReady over begun)

end
end Go.X.TryzW
end
section
open Go Go.X Go.Proofs
set_option maxRecDepth 100000
set_option maxHeartbeats 4000000
set_option linter.unusedSimpArgs false
set_option linter.unusedVariables false
namespace Go.X.TryzW
/- "slices.Clone[[]tiller/api.Node,tiller/api.Node]" params { toList := [26] } results { toList := [Go.ResultVar.tmp 2] } -/
def x45 : XC :=
 (.seq
  (.ops [
    ⟨(some 2), (.mov (.c .nsl)), none⟩])
  (.seq
   (.seq
    (.ops [
      ⟨(some 3), (.mov (.t 0)), none⟩,
      ⟨(some 4), (.isNil 0 false (.t 3)), none⟩])
    (.cond (.t 4)
     (.seq
      (.ops [
        ⟨(some 2), (.mov (.c .nsl)), none⟩])
      .ret)
     .skip))
   (.seq
    (.ops [
      ⟨(some 5), (.bslice 7 [(.str []), (.int .i64 0), (.str []), (.str []), (.int .i64 0), (.int .i64 0), .nsl] 0 []), none⟩,
      ⟨(some 6), (.mov (.t 0)), none⟩,
      ⟨(some 7), (.append 7 96 (.t 5) (.t 6)), none⟩,
      ⟨(some 2), (.mov (.t 7)), none⟩])
    .ret)))

/- "slices.Clone[[]string,string]" params { toList := [22] } results { toList := [Go.ResultVar.tmp 2] } -/
def x46 : XC :=
 (.seq
  (.ops [
    ⟨(some 2), (.mov (.c .nsl)), none⟩])
  (.seq
   (.seq
    (.ops [
      ⟨(some 3), (.mov (.t 0)), none⟩,
      ⟨(some 4), (.isNil 0 false (.t 3)), none⟩])
    (.cond (.t 4)
     (.seq
      (.ops [
        ⟨(some 2), (.mov (.c .nsl)), none⟩])
      .ret)
     .skip))
   (.seq
    (.ops [
      ⟨(some 5), (.bslice 1 [(.str [])] 0 []), none⟩,
      ⟨(some 6), (.mov (.t 0)), none⟩,
      ⟨(some 7), (.append 1 16 (.t 5) (.t 6)), none⟩,
      ⟨(some 2), (.mov (.t 7)), none⟩])
    .ret)))

/- "tiller/dag.Walk" params { toList := [28] } results { toList := [Go.ResultVar.tmp 2] } -/
def x34 : XC :=
 (.seq
  (.ops [
    ⟨(some 1), (.box (.t 0)), none⟩,
    ⟨(some 2), (.mov (.c (.raw .nilFunc))), none⟩])
  (.seq
   (.ops [
     ⟨(some 4), (.fldA 1 (.t 1)), none⟩,
     ⟨(some 5), (.load1 (.t 4)), none⟩,
     ⟨(some 6), (.call (.f 61) [(.t 5)]), none⟩,
     ⟨(some 7), (.fldA 1 (.t 1)), none⟩,
     ⟨none, (.store 1 (.t 7) (.t 6)), none⟩])
   (.seq
    (.seq
     (.ops [
       ⟨(some 8), (.fldA 1 (.t 1)), none⟩,
       ⟨(some 9), (.load1 (.t 8)), none⟩,
       ⟨(some 10), (.len (.t 9)), none⟩,
       ⟨(some 11), (.mov (.c (.int .i64 0))), none⟩])
     (.block 0
      (.loop
       (.seq
        (.ops [
          ⟨(some 12), (.bin .lss (.t 11) (.t 10)), none⟩])
        (.seq
         (.cond (.t 12)
          .skip
          (.exit 0))
         (.seq
          (.block 1
           (.seq
            (.ops [
              ⟨(some 13), (.mov (.t 11)), none⟩,
              ⟨(some 3), (.mov (.t 13)), none⟩])
            (.drawE [
              ⟨(some 14), (.fldA 1 (.t 1)), none⟩,
              ⟨(some 15), (.load1 (.t 14)), none⟩,
              ⟨(some 16), (.mov (.t 3)), none⟩,
              ⟨(some 17), (.fldA 1 (.t 1)), none⟩,
              ⟨(some 18), (.load1 (.t 17)), none⟩,
              ⟨(some 19), (.mov (.t 3)), none⟩,
              ⟨(some 20), (.idxS 7 (.t 18) (.t 19)), none⟩,
              ⟨(some 21), (.fldA 6 (.t 20)), none⟩,
              ⟨(some 22), (.load1 (.t 21)), none⟩,
              ⟨(some 23), (.pcall (.f 48) [(.t 22)]), none⟩,
              ⟨(some 24), (.idxS 7 (.t 15) (.t 16)), none⟩,
              ⟨(some 25), (.fldA 6 (.t 24)), none⟩,
              ⟨none, (.store 1 (.t 25) (.t 23)), none⟩])))
          (.ops [
            ⟨(some 26), (.bin .add (.t 11) (.c (.int .i64 1))), none⟩,
            ⟨(some 11), (.mov (.t 26)), none⟩])))))))
    (.seq
     (.ops [
       ⟨(some 27), (.mkfn (.func 62) [] [(.t 1)]), none⟩,
       ⟨(some 2), (.mov (.t 27)), none⟩])
     .ret))))

section
variable {E : Env}
theorem strRows_cells (l : List (List UInt8)) : RowsC 1 (strRows l) := by
  intro row h
  obtain ⟨n, _, rfl⟩ := List.mem_map.1 h
  exact ⟨rfl, rfl⟩
theorem nodeRows_cells (l : List NodeD) : RowsC 7 (nodeRows l) := by
  intro row h
  obtain ⟨n, _, rfl⟩ := List.mem_map.1 h
  exact ⟨rfl, rfl⟩
theorem mapO_strs (L : List Blk) (n : Nat) (m : Ren) (l : List (List UInt8)) : mapO (mapO (conv L (n + 1) m)) (strRows l) = some (strRows l) := by
  refine mapO_same fun row h => ?_
  obtain ⟨b, _, rfl⟩ := List.mem_map.1 h
  rfl
theorem mapO_nodes (L : List Blk) (n : Nat) (m : Ren) (l : List NodeD) : mapO (mapO (conv L (n + 1) m)) (nodeRows l) = some (nodeRows l) := by
  refine mapO_same fun row h => ?_
  obtain ⟨b, _, rfl⟩ := List.mem_map.1 h
  rfl

theorem cloneS_pure (hP : E.P = Tryz.prog) (l : List (List UInt8)) (hl : l.length ≤ 1000000) : XPure E 48 [.isl (strRows l)] (.isl (strRows l)) := by
  refine xpure1 (n := Tryz.f48.ntmps) (c := x46) (t := 2) (by rw [hP]; rfl) (by rw [hP]; kernel_rfl) (by decide) (Nat.le_of_ble_eq_true rfl) ?_
  generalize hρ : entry _ = ρ
  have h0 : ρ 0 = .isl (strRows l) := by rw [← hρ]; rfl
  clear hρ
  unfold x46
  simp only [h0, go_sem, Nat.reduceEqDiff, reduceIte, Int.reduceEq, Int.reduceLT, Int.reduceLE, Nat.reduceAdd, Nat.reduceLT, Nat.reduceLeDiff, Int.reduceToNat, Int.reduceSub, Int.reduceAdd, Int.reduceNeg]
  have hlen : (strRows l).length = l.length := strRows_len l
  refine ⟨?_, fun hr => ?_⟩
  · try simp only [h0, go_sem, Nat.reduceEqDiff, reduceIte, Int.reduceEq, Int.reduceLT, Int.reduceLE, Nat.reduceAdd, Nat.reduceLT, Nat.reduceLeDiff, Int.reduceToNat, Int.reduceSub, Int.reduceAdd, Int.reduceNeg]
    refine append_all (s := 0) (by rfl) (strRows_cells l) (by omega) (fun hr => ?_) (fun hr => ?_)
    · try simp only [h0, go_sem, Nat.reduceEqDiff, reduceIte, Int.reduceEq, Int.reduceLT, Int.reduceLE, Nat.reduceAdd, Nat.reduceLT, Nat.reduceLeDiff, Int.reduceToNat, Int.reduceSub, Int.reduceAdd, Int.reduceNeg]
      rw [hr]; rfl
    · try simp only [h0, go_sem, Nat.reduceEqDiff, reduceIte, Int.reduceEq, Int.reduceLT, Int.reduceLE, Nat.reduceAdd, Nat.reduceLT, Nat.reduceLeDiff, Int.reduceToNat, Int.reduceSub, Int.reduceAdd, Int.reduceNeg]
      refine conv_sl_free rfl rfl (by simp) ?_
      rw [List.drop_zero, List.take_length]
      exact mapO_strs _ _ _ _
  · try simp only [h0, go_sem, Nat.reduceEqDiff, reduceIte, Int.reduceEq, Int.reduceLT, Int.reduceLE, Nat.reduceAdd, Nat.reduceLT, Nat.reduceLeDiff, Int.reduceToNat, Int.reduceSub, Int.reduceAdd, Int.reduceNeg]
    rw [hr]; rfl

theorem cloneN_own (hP : E.P = Tryz.prog) (l : List NodeD) (hl : l.length ≤ 1000000) : XT E 61 [.isl (nodeRows l)] [] fun r L' => (l = [] ∧ r = .isl [] ∧ L' = []) ∨ (l ≠ [] ∧ r = .sl 0 0 l.length l.length ∧ L' = [.cells 7 (nodeRows l)]) := by
  refine xown1 (n := Tryz.f61.ntmps) (c := x45) (t := 2) (by rw [hP]; rfl) (by rw [hP]; kernel_rfl) (by decide) (Nat.le_of_ble_eq_true rfl) ?_
  generalize hρ : entry _ = ρ
  have h0 : ρ 0 = .isl (nodeRows l) := by rw [← hρ]; rfl
  clear hρ
  unfold x45
  simp only [h0, go_sem, Nat.reduceEqDiff, reduceIte, Int.reduceEq, Int.reduceLT, Int.reduceLE, Nat.reduceAdd, Nat.reduceLT, Nat.reduceLeDiff, Int.reduceToNat, Int.reduceSub, Int.reduceAdd, Int.reduceNeg]
  have hlen : (nodeRows l).length = l.length := nodeRows_len l
  have hnil : nodeRows l = [] → l = [] := fun h => by
    have := congrArg List.length h
    rw [hlen] at this
    exact List.eq_nil_of_length_eq_zero this
  refine ⟨?_, fun hr => ?_⟩
  · try simp only [h0, go_sem, Nat.reduceEqDiff, reduceIte, Int.reduceEq, Int.reduceLT, Int.reduceLE, Nat.reduceAdd, Nat.reduceLT, Nat.reduceLeDiff, Int.reduceToNat, Int.reduceSub, Int.reduceAdd, Int.reduceNeg]
    refine append_all (s := 0) (by rfl) (nodeRows_cells l) (by omega) (fun hr => ?_) (fun hr => ?_)
    · try simp only [h0, go_sem, Nat.reduceEqDiff, reduceIte, Int.reduceEq, Int.reduceLT, Int.reduceLE, Nat.reduceAdd, Nat.reduceLT, Nat.reduceLeDiff, Int.reduceToNat, Int.reduceSub, Int.reduceAdd, Int.reduceNeg]
      exact leave_none rfl (.inl ⟨hnil hr, rfl, rfl⟩)
    · try simp only [h0, go_sem, Nat.reduceEqDiff, reduceIte, Int.reduceEq, Int.reduceLT, Int.reduceLE, Nat.reduceAdd, Nat.reduceLT, Nat.reduceLeDiff, Int.reduceToNat, Int.reduceSub, Int.reduceAdd, Int.reduceNeg]
      refine leave_one (s := 1) (r' := .sl 0 0 (nodeRows l).length (nodeRows l).length) (k := .cells 7 (nodeRows l)) (by simp) rfl ?_ (.inr ⟨fun h => hr (by rw [h]; rfl), by rw [hlen], rfl⟩)
      show (mapO (mapO (conv _ 12 _)) (nodeRows l)).map _ = _
      rw [mapO_nodes]; rfl
  · try simp only [h0, go_sem, Nat.reduceEqDiff, reduceIte, Int.reduceEq, Int.reduceLT, Int.reduceLE, Nat.reduceAdd, Nat.reduceLT, Nat.reduceLeDiff, Int.reduceToNat, Int.reduceSub, Int.reduceAdd, Int.reduceNeg]
    exact leave_none rfl (.inl ⟨hnil hr, rfl, rfl⟩)

theorem nodeRows_set (l : List NodeD) (i : Nat) (h : i < l.length) : (nodeRows l).set i ((l.getD i default).row) = nodeRows l := by
  apply List.ext_getElem?
  intro j
  rw [List.getElem?_set]
  by_cases hj : i = j
  · subst hj
    rw [if_pos rfl, nodeRows_len, if_pos h]
    simp [nodeRows, List.getElem?_eq_getElem h]
  · rw [if_neg hj]

theorem walk_pure (hP : E.P = Tryz.prog) (d : DefD) (hd : d.nodes.length ≤ 1000000) (ha : ∀ n ∈ d.nodes, n.after.length ≤ 1000000) :
    XPure E 41 [d.iv] (.fn (.func 62) [] [.iptr [[.str d.name, .isl (nodeRows d.nodes)]] 0 0]) := by
  refine xpure1 (n := Tryz.f41.ntmps) (c := x34) (t := 2) (by rw [hP]; rfl) (by rw [hP]; kernel_rfl) (by decide) (Nat.le_of_ble_eq_true rfl) ?_
  generalize hρ : entry _ = ρ
  have h0 : ρ 0 = .agg [.str d.name, .isl (nodeRows d.nodes)] := by rw [← hρ]; rfl
  clear hρ
  unfold x34
  simp only [h0, go_sem, Nat.reduceEqDiff, reduceIte, Int.reduceEq, Int.reduceLT, Int.reduceLE, Nat.reduceAdd, Nat.reduceLT, Nat.reduceLeDiff, Int.reduceToNat, Int.reduceSub, Int.reduceAdd, Int.reduceNeg]
  refine xcall_own (args' := [.isl (nodeRows d.nodes)]) rfl (cloneN_own hP d.nodes hd) ?_
  rintro r L1 (⟨hn, rfl, rfl⟩ | ⟨hn, rfl, rfl⟩)
  · refine ⟨.isl [], [], rfl, rfl, ?_⟩
    simp only [h0, go_sem, Nat.reduceEqDiff, reduceIte, Int.reduceEq, Int.reduceLT, Int.reduceLE, Nat.reduceAdd, Nat.reduceLT, Nat.reduceLeDiff, Int.reduceToNat, Int.reduceSub, Int.reduceAdd, Int.reduceNeg]
    refine s_loop1 ?_
    simp only [h0, go_sem, Nat.reduceEqDiff, reduceIte, Int.reduceEq, Int.reduceLT, Int.reduceLE, Nat.reduceAdd, Nat.reduceLT, Nat.reduceLeDiff, Int.reduceToNat, Int.reduceSub, Int.reduceAdd, Int.reduceNeg]
    try simp only [h0, go_sem, Nat.reduceEqDiff, reduceIte, Int.reduceEq, Int.reduceLT, Int.reduceLE, Nat.reduceAdd, Nat.reduceLT, Nat.reduceLeDiff, Int.reduceToNat, Int.reduceSub, Int.reduceAdd, Int.reduceNeg]
    rw [hn]; rfl
  · refine ⟨.sl 1 0 d.nodes.length d.nodes.length, [.cells 7 (nodeRows d.nodes)], rfl, ?_, ?_⟩
    · refine mapO_cons ?_ rfl
      show (mapO (mapO (conv _ 12 _)) (nodeRows d.nodes)).map _ = _
      rw [mapO_nodes]; rfl
    simp only [h0, go_sem, Nat.reduceEqDiff, reduceIte, Int.reduceEq, Int.reduceLT, Int.reduceLE, Nat.reduceAdd, Nat.reduceLT, Nat.reduceLeDiff, Int.reduceToNat, Int.reduceSub, Int.reduceAdd, Int.reduceNeg]
    refine s_loop (fun n' ρ L => ∃ i : Nat, i ≤ d.nodes.length ∧ n' = d.nodes.length - i ∧ L = [.cells 2 [[.str d.name, .sl 1 0 d.nodes.length d.nodes.length]], .cells 7 (nodeRows d.nodes)] ∧
        ρ 1 = .ptr 0 0 0 ∧ ρ 10 = .int .i64 d.nodes.length ∧ ρ 11 = .int .i64 i)
      ⟨0, Nat.zero_le _, rfl, rfl, by simp only [go_sem, Nat.reduceEqDiff, reduceIte, Int.reduceEq, Int.reduceLT, Int.reduceLE, Nat.reduceAdd, Nat.reduceLT, Nat.reduceLeDiff, Int.reduceToNat, Int.reduceSub, Int.reduceAdd, Int.reduceNeg], by simp only [go_sem, Nat.reduceEqDiff, reduceIte, Int.reduceEq, Int.reduceLT, Int.reduceLE, Nat.reduceAdd, Nat.reduceLT, Nat.reduceLeDiff, Int.reduceToNat, Int.reduceSub, Int.reduceAdd, Int.reduceNeg], by simp only [go_sem, Nat.reduceEqDiff, reduceIte, Int.reduceEq, Int.reduceLT, Int.reduceLE, Nat.reduceAdd, Nat.reduceLT, Nat.reduceLeDiff, Int.reduceToNat, Int.reduceSub, Int.reduceAdd, Int.reduceNeg]; try rfl⟩ ?_
    clear h0 ρ
    rintro n' ρ L ⟨i, hi, rfl, rfl, h1, h10, h11⟩
    simp only [h1, h10, h11, go_sem, Nat.reduceEqDiff, reduceIte, Int.reduceEq, Int.reduceLT, Int.reduceLE, Nat.reduceAdd, Nat.reduceLT, Nat.reduceLeDiff, Int.reduceToNat, Int.reduceSub, Int.reduceAdd, Int.reduceNeg]
    refine s_cond (b := decide _) (by simp only [h1, h10, h11, go_sem, Nat.reduceEqDiff, reduceIte, Int.reduceEq, Int.reduceLT, Int.reduceLE, Nat.reduceAdd, Nat.reduceLT, Nat.reduceLeDiff, Int.reduceToNat, Int.reduceSub, Int.reduceAdd, Int.reduceNeg]; try rfl) ?_ ?_ <;> intro hb <;> simp only [hb, h1, h10, h11, go_sem, Nat.reduceEqDiff, reduceIte, Int.reduceEq, Int.reduceLT, Int.reduceLE, Nat.reduceAdd, Nat.reduceLT, Nat.reduceLeDiff, Int.reduceToNat, Int.reduceSub, Int.reduceAdd, Int.reduceNeg]
    · rw [decide_eq_true_eq] at hb
      have hi' : i < d.nodes.length := by omega
      have hrow := nodeRows_get hi'
      have hmem : d.nodes.getD i default ∈ d.nodes := by rw [List.getD_eq_getElem?_getD, List.getElem?_eq_getElem hi']; exact List.getElem_mem _
      simp only [h1, h10, h11, hrow, nodeRows_len, NodeD.row, go_sem, Nat.reduceEqDiff, reduceIte, Int.reduceEq, Int.reduceLT, Int.reduceLE, Nat.reduceAdd, Nat.reduceLT, Nat.reduceLeDiff, Int.reduceToNat, Int.reduceSub, Int.reduceAdd, Int.reduceNeg]
      refine ⟨hb, hi', ?_⟩
      refine o_pcall (args' := [.isl (strRows (d.nodes.getD i default).after)]) rfl (cloneS_pure hP _ (ha _ hmem)) (fun m => rfl) ?_
      simp only [h1, h10, h11, hrow, nodeRows_len, NodeD.row, go_sem, Nat.reduceEqDiff, reduceIte, Int.reduceEq, Int.reduceLT, Int.reduceLE, Nat.reduceAdd, Nat.reduceLT, Nat.reduceLeDiff, Int.reduceToNat, Int.reduceSub, Int.reduceAdd, Int.reduceNeg]
      refine ⟨hb, hi', d.nodes.length - (i + 1), by omega, i + 1, by omega, rfl, ?_, by rw [wrap64 (by omega) (by omega)]; rfl⟩
      have h2 := nodeRows_set d.nodes i hi'
      simp only [NodeD.row] at h2
      rw [h2]
    · try simp only [h1, h10, h11, go_sem, Nat.reduceEqDiff, reduceIte, Int.reduceEq, Int.reduceLT, Int.reduceLE, Nat.reduceAdd, Nat.reduceLT, Nat.reduceLeDiff, Int.reduceToNat, Int.reduceSub, Int.reduceAdd, Int.reduceNeg]
      refine conv_fn rfl (mapO_cons (conv_ptr_free rfl rfl (mapO_cons (mapO_cons rfl (mapO_cons (conv_sl_free rfl rfl (by rw [nodeRows_len]; omega) ?_) rfl)) rfl)) rfl)
      rw [List.drop_zero, List.take_of_length_le (by rw [nodeRows_len]; omega)]
      exact mapO_nodes _ _ _ _
end
end Go.X.TryzW
end
