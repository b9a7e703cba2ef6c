/- Parts of the proof: Xgrepl1, Xgrepl2, Xgrepl3, Xgrepl4. -/
import Derived.Test.YtepkimlnaoaboabGreatDoorXP25
set_option linter.unusedVariables false
set_option linter.unusedSimpArgs false
set_option linter.unusedSectionVars false
section
open Go Go.X Go.Proofs
set_option maxRecDepth 100000
set_option maxHeartbeats 4000000
set_option linter.unusedSimpArgs false
set_option linter.unusedVariables false
namespace Go.X.TryzW
/- "tiller/tillerlaw13.short" params { toList := [9] } results { toList := [Go.ResultVar.tmp 2] } -/
def q5 : XC :=
 (.seq
  (.ops [
    ⟨(some 2), (.mov (.c (.str []))), none⟩])
  (.seq
   (.seq
    (.ops [
      ⟨(some 3), (.mov (.t 0)), none⟩,
      ⟨(some 4), (.lenS (.t 3)), none⟩,
      ⟨(some 5), (.bin .gtr (.t 4) (.c (.int .i64 1500))), none⟩])
    (.cond (.t 5)
     (.seq
      (.ops [
        ⟨(some 6), (.mov (.t 0)), none⟩,
        ⟨(some 7), (.sliceS (.t 6) none (some (.c (.int .i64 1500)))), none⟩,
        ⟨(some 2), (.mov (.t 7)), none⟩])
      .ret)
     .skip))
   (.seq
    (.ops [
      ⟨(some 8), (.mov (.t 0)), none⟩,
      ⟨(some 2), (.mov (.t 8)), none⟩])
    .ret)))

/- "tiller/front.Query" params { toList := [9] } results { toList := [Go.ResultVar.tmp 2, Go.ResultVar.tmp 3] } -/
def q11 : XC :=
 (.seq
  (.ops [
    ⟨(some 2), (.mov (.c (.str []))), none⟩,
    ⟨(some 3), (.mov (.c (.str []))), none⟩])
  (.seq
   (.ops [
     ⟨(some 8), (.mov (.t 0)), none⟩,
     ⟨(some 9), (.call (.f 27) [(.t 8), (.c (.str [63]))]), none⟩,
     ⟨(some 7), (.mov (.t 9)), none⟩,
     ⟨(some 10), (.ext (.t 7) 0), none⟩,
     ⟨(some 11), (.ext (.t 7) 1), none⟩,
     ⟨(some 12), (.ext (.t 7) 2), none⟩,
     ⟨(some 4), (.mov (.t 10)), none⟩,
     ⟨(some 5), (.mov (.t 11)), none⟩,
     ⟨(some 6), (.mov (.t 12)), none⟩])
   (.seq
    (.ops [
      ⟨(some 13), (.mov (.t 4)), none⟩,
      ⟨(some 14), (.mov (.t 5)), none⟩,
      ⟨(some 2), (.mov (.t 13)), none⟩,
      ⟨(some 3), (.mov (.t 14)), none⟩])
    .ret)))

/- "tiller/tillerref13.Query" params { toList := [9] } results { toList := [Go.ResultVar.tmp 2, Go.ResultVar.tmp 3] } -/
def q12 : XC :=
 (.seq
  (.ops [
    ⟨(some 2), (.mov (.c (.str []))), none⟩,
    ⟨(some 3), (.mov (.c (.str []))), none⟩])
  (.seq
   (.ops [
     ⟨(some 5), (.mov (.t 0)), none⟩,
     ⟨(some 6), (.call (.f 28) [(.t 5), (.c (.str [63]))]), none⟩,
     ⟨(some 4), (.mov (.t 6)), none⟩])
   (.seq
    (.seq
     (.ops [
       ⟨(some 7), (.mov (.t 4)), none⟩,
       ⟨(some 8), (.bin .lss (.t 7) (.c (.int .i64 0))), none⟩])
     (.cond (.t 8)
      (.seq
       (.ops [
         ⟨(some 9), (.mov (.t 0)), none⟩,
         ⟨(some 2), (.mov (.t 9)), none⟩,
         ⟨(some 3), (.mov (.c (.str []))), none⟩])
       .ret)
      .skip))
    (.seq
     (.draw [
       ⟨(some 10), (.mov (.t 0)), none⟩,
       ⟨(some 11), (.mov (.t 4)), none⟩,
       ⟨(some 12), (.sliceS (.t 10) none (some (.t 11))), none⟩,
       ⟨(some 13), (.mov (.t 0)), none⟩,
       ⟨(some 14), (.mov (.t 4)), none⟩,
       ⟨(some 15), (.bin .add (.t 14) (.c (.int .i64 1))), none⟩,
       ⟨(some 16), (.sliceS (.t 13) (some (.t 15)) none), none⟩,
       ⟨(some 2), (.mov (.t 12)), none⟩,
       ⟨(some 3), (.mov (.t 16)), none⟩])
     .ret))))

/- "tiller/front.word" params { toList := [3] } results { toList := [Go.ResultVar.tmp 2] } -/
def q19 : XC :=
 (.seq
  (.ops [
    ⟨(some 2), (.mov (.c (.str []))), none⟩])
  (.seq
   (.seq
    (.ops [
      ⟨(some 3), (.mov (.t 0)), none⟩])
    (.block 0
     (.seq
      (.ops [
        ⟨(some 5), (.bin .eql (.t 3) (.c (.int .i64 200))), none⟩,
        ⟨(some 4), (.mov (.t 5)), none⟩])
      (.cond (.t 4)
       (.seq
        (.ops [
          ⟨(some 2), (.mov (.c (.str [79, 75]))), none⟩])
        .ret)
       (.seq
        (.ops [
          ⟨(some 7), (.bin .eql (.t 3) (.c (.int .i64 307))), none⟩,
          ⟨(some 6), (.mov (.t 7)), none⟩])
        (.cond (.t 6)
         (.seq
          (.ops [
            ⟨(some 2), (.mov (.c (.str [84, 101, 109, 112, 111, 114, 97, 114, 121, 32, 82, 101, 100, 105, 114, 101, 99, 116]))), none⟩])
          .ret)
         (.seq
          (.ops [
            ⟨(some 9), (.bin .eql (.t 3) (.c (.int .i64 400))), none⟩,
            ⟨(some 8), (.mov (.t 9)), none⟩])
          (.cond (.t 8)
           (.seq
            (.ops [
              ⟨(some 2), (.mov (.c (.str [66, 97, 100, 32, 82, 101, 113, 117, 101, 115, 116]))), none⟩])
            .ret)
           (.seq
            (.ops [
              ⟨(some 11), (.bin .eql (.t 3) (.c (.int .i64 404))), none⟩,
              ⟨(some 10), (.mov (.t 11)), none⟩])
            (.cond (.t 10)
             (.seq
              (.ops [
                ⟨(some 2), (.mov (.c (.str [78, 111, 116, 32, 70, 111, 117, 110, 100]))), none⟩])
              .ret)
             (.seq
              (.ops [
                ⟨(some 13), (.bin .eql (.t 3) (.c (.int .i64 405))), none⟩,
                ⟨(some 12), (.mov (.t 13)), none⟩])
              (.cond (.t 12)
               (.seq
                (.ops [
                  ⟨(some 2), (.mov (.c (.str [77, 101, 116, 104, 111, 100, 32, 78, 111, 116, 32, 65, 108, 108, 111, 119, 101, 100]))), none⟩])
                .ret)
               (.seq
                (.ops [
                  ⟨(some 15), (.bin .eql (.t 3) (.c (.int .i64 409))), none⟩,
                  ⟨(some 14), (.mov (.t 15)), none⟩])
                (.cond (.t 14)
                 (.seq
                  (.ops [
                    ⟨(some 2), (.mov (.c (.str [67, 111, 110, 102, 108, 105, 99, 116]))), none⟩])
                  .ret)
                 (.seq
                  (.ops [
                    ⟨(some 17), (.bin .eql (.t 3) (.c (.int .i64 413))), none⟩,
                    ⟨(some 16), (.mov (.t 17)), none⟩])
                  (.cond (.t 16)
                   (.seq
                    (.ops [
                      ⟨(some 2), (.mov (.c (.str [67, 111, 110, 116, 101, 110, 116, 32, 84, 111, 111, 32, 76, 97, 114, 103, 101]))), none⟩])
                    .ret)
                   (.seq
                    (.ops [
                      ⟨(some 19), (.bin .eql (.t 3) (.c (.int .i64 429))), none⟩,
                      ⟨(some 18), (.mov (.t 19)), none⟩])
                    (.cond (.t 18)
                     (.seq
                      (.ops [
                        ⟨(some 2), (.mov (.c (.str [84, 111, 111, 32, 77, 97, 110, 121, 32, 82, 101, 113, 117, 101, 115, 116, 115]))), none⟩])
                      .ret)
                     (.seq
                      (.ops [
                        ⟨(some 21), (.bin .eql (.t 3) (.c (.int .i64 431))), none⟩,
                        ⟨(some 20), (.mov (.t 21)), none⟩])
                      (.cond (.t 20)
                       (.seq
                        (.ops [
                          ⟨(some 2), (.mov (.c (.str [82, 101, 113, 117, 101, 115, 116, 32, 72, 101, 97, 100, 101, 114, 32, 70, 105, 101, 108, 100, 115, 32, 84, 111, 111, 32, 76, 97, 114, 103, 101]))), none⟩])
                        .ret)
                       (.seq
                        (.ops [
                          ⟨(some 23), (.bin .eql (.t 3) (.c (.int .i64 503))), none⟩,
                          ⟨(some 22), (.mov (.t 23)), none⟩])
                        (.cond (.t 22)
                         (.seq
                          (.ops [
                            ⟨(some 2), (.mov (.c (.str [83, 101, 114, 118, 105, 99, 101, 32, 85, 110, 97, 118, 97, 105, 108, 97, 98, 108, 101]))), none⟩])
                          .ret)
                         .skip))))))))))))))))))))))
   (.seq
    (.ops [
      ⟨(some 2), (.mov (.c (.str [85, 110, 107, 110, 111, 119, 110]))), none⟩])
    .ret)))

def z9s : XC :=
 (.seq (.ops [ ⟨(some 6), (.mov (.t 0)), none⟩]) (.block 0 (.seq (.ops [ ⟨(some 8), (.bin .eql (.t 6) (.c (.int .i64 200))), none⟩, ⟨(some 7), (.mov (.t 8)), none⟩]) (.cond (.t 7) (.ops [ ⟨(some 5), (.mov (.c (.str [79, 75]))), none⟩]) (.seq (.ops [ ⟨(some 10), (.bin .eql (.t 6) (.c (.int .i64 307))), none⟩, ⟨(some 9), (.mov (.t 10)), none⟩]) (.cond (.t 9) (.ops [ ⟨(some 5), (.mov (.c (.str [84, 101, 109, 112, 111, 114, 97, 114, 121, 32, 82, 101, 100, 105, 114, 101, 99, 116]))), none⟩]) (.seq (.ops [ ⟨(some 12), (.bin .eql (.t 6) (.c (.int .i64 400))), none⟩, ⟨(some 11), (.mov (.t 12)), none⟩]) (.cond (.t 11) (.ops [ ⟨(some 5), (.mov (.c (.str [66, 97, 100, 32, 82, 101, 113, 117, 101, 115, 116]))), none⟩]) (.seq (.ops [ ⟨(some 14), (.bin .eql (.t 6) (.c (.int .i64 404))), none⟩, ⟨(some 13), (.mov (.t 14)), none⟩]) (.cond (.t 13) (.ops [ ⟨(some 5), (.mov (.c (.str [78, 111, 116, 32, 70, 111, 117, 110, 100]))), none⟩]) (.seq (.ops [ ⟨(some 16), (.bin .eql (.t 6) (.c (.int .i64 405))), none⟩, ⟨(some 15), (.mov (.t 16)), none⟩]) (.cond (.t 15) (.ops [ ⟨(some 5), (.mov (.c (.str [77, 101, 116, 104, 111, 100, 32, 78, 111, 116, 32, 65, 108, 108, 111, 119, 101, 100]))), none⟩]) (.seq (.ops [ ⟨(some 18), (.bin .eql (.t 6) (.c (.int .i64 409))), none⟩, ⟨(some 17), (.mov (.t 18)), none⟩]) (.cond (.t 17) (.ops [ ⟨(some 5), (.mov (.c (.str [67, 111, 110, 102, 108, 105, 99, 116]))), none⟩]) (.seq (.ops [ ⟨(some 20), (.bin .eql (.t 6) (.c (.int .i64 413))), none⟩, ⟨(some 19), (.mov (.t 20)), none⟩]) (.cond (.t 19) (.ops [ ⟨(some 5), (.mov (.c (.str [67, 111, 110, 116, 101, 110, 116, 32, 84, 111, 111, 32, 76, 97, 114, 103, 101]))), none⟩]) (.seq (.ops [ ⟨(some 22), (.bin .eql (.t 6) (.c (.int .i64 429))), none⟩, ⟨(some 21), (.mov (.t 22)), none⟩]) (.cond (.t 21) (.ops [ ⟨(some 5), (.mov (.c (.str [84, 111, 111, 32, 77, 97, 110, 121, 32, 82, 101, 113, 117, 101, 115, 116, 115]))), none⟩]) (.seq (.ops [ ⟨(some 24), (.bin .eql (.t 6) (.c (.int .i64 431))), none⟩, ⟨(some 23), (.mov (.t 24)), none⟩]) (.cond (.t 23) (.ops [ ⟨(some 5), (.mov (.c (.str [82, 101, 113, 117, 101, 115, 116, 32, 72, 101, 97, 100, 101, 114, 32, 70, 105, 101, 108, 100, 115, 32, 84, 111, 111, 32, 76, 97, 114, 103, 101]))), none⟩]) (.seq (.ops [ ⟨(some 26), (.bin .eql (.t 6) (.c (.int .i64 503))), none⟩, ⟨(some 25), (.mov (.t 26)), none⟩]) (.cond (.t 25) (.ops [ ⟨(some 5), (.mov (.c (.str [83, 101, 114, 118, 105, 99, 101, 32, 85, 110, 97, 118, 97, 105, 108, 97, 98, 108, 101]))), none⟩]) .skip))))))))))))))))))))))
/- "tiller/tillerref13.Reply" params { toList := [3, 9] } results { toList := [Go.ResultVar.tmp 4] } -/
def q9 : XC :=
 (.seq (.ops [ ⟨(some 4), (.mov (.c .nsl)), none⟩]) (.seq (.ops [ ⟨(some 5), (.mov (.c (.str [85, 110, 107, 110, 111, 119, 110]))), none⟩]) (.seq z9s (.seq (.ops [ ⟨(some 27), (.mov (.t 0)), none⟩, ⟨(some 28), (.call (.f 26) [(.t 27)]), none⟩, ⟨(some 29), (.bin .add (.c (.str [72, 84, 84, 80, 47, 49, 46, 49, 32])) (.t 28)), none⟩, ⟨(some 30), (.bin .add (.t 29) (.c (.str [32]))), none⟩, ⟨(some 31), (.mov (.t 5)), none⟩, ⟨(some 32), (.bin .add (.t 30) (.t 31)), none⟩, ⟨(some 33), (.bin .add (.t 32) (.c (.str [13, 10, 67, 111, 110, 116, 101, 110, 116, 45, 76, 101, 110, 103, 116, 104, 58, 32]))), none⟩, ⟨(some 34), (.mov (.t 1)), none⟩, ⟨(some 35), (.lenS (.t 34)), none⟩, ⟨(some 36), (.call (.f 26) [(.t 35)]), none⟩, ⟨(some 37), (.bin .add (.t 33) (.t 36)), none⟩, ⟨(some 38), (.bin .add (.t 37) (.c (.str [13, 10, 13, 10]))), none⟩, ⟨(some 39), (.mov (.t 1)), none⟩, ⟨(some 40), (.bin .add (.t 38) (.t 39)), none⟩, ⟨(some 41), (.ex (.strB 5) [(.t 40)]), none⟩, ⟨(some 4), (.mov (.t 41)), none⟩]) .ret))))
def z13s : XC :=
 (.seq (.ops [ ⟨(some 6), (.mov (.t 0)), none⟩]) (.block 0 (.seq (.ops [ ⟨(some 8), (.bin .eql (.t 6) (.c (.int .i64 6))), none⟩, ⟨(some 7), (.mov (.t 8)), none⟩]) (.cond (.t 7) (.ops [ ⟨(some 4), (.mov (.c (.int .i64 404))), none⟩, ⟨(some 5), (.mov (.c (.str [110, 111, 110, 101]))), none⟩]) (.seq (.ops [ ⟨(some 10), (.bin .eql (.t 6) (.c (.int .i64 7))), none⟩, ⟨(some 9), (.mov (.t 10)), none⟩]) (.cond (.t 9) (.ops [ ⟨(some 4), (.mov (.c (.int .i64 409))), none⟩, ⟨(some 5), (.mov (.c (.str [116, 104, 101, 114, 101]))), none⟩]) (.seq (.ops [ ⟨(some 12), (.bin .eql (.t 6) (.c (.int .i64 11))), none⟩, ⟨(some 11), (.mov (.t 12)), none⟩]) (.cond (.t 11) (.ops [ ⟨(some 4), (.mov (.c (.int .i64 409))), none⟩, ⟨(some 5), (.mov (.c (.str [99, 108, 111, 115, 101, 100]))), none⟩]) (.seq (.ops [ ⟨(some 14), (.bin .eql (.t 6) (.c (.int .i64 12))), none⟩, ⟨(some 13), (.mov (.t 14)), none⟩]) (.cond (.t 13) (.ops [ ⟨(some 4), (.mov (.c (.int .i64 409))), none⟩, ⟨(some 5), (.mov (.c (.str [115, 116, 97, 116, 101]))), none⟩]) (.seq (.ops [ ⟨(some 16), (.bin .eql (.t 6) (.c (.int .i64 8))), none⟩, ⟨(some 15), (.mov (.t 16)), none⟩]) (.cond (.t 15) (.ops [ ⟨(some 4), (.mov (.c (.int .i64 429))), none⟩, ⟨(some 5), (.mov (.c (.str [102, 117, 108, 108]))), none⟩]) (.seq (.ops [ ⟨(some 18), (.bin .eql (.t 6) (.c (.int .i64 9))), none⟩, ⟨(some 17), (.mov (.t 18)), none⟩]) (.cond (.t 17) (.ops [ ⟨(some 4), (.mov (.c (.int .i64 413))), none⟩, ⟨(some 5), (.mov (.c (.str [108, 97, 114, 103, 101]))), none⟩]) (.seq (.ops [ ⟨(some 20), (.bin .eql (.t 6) (.c (.int .i64 17))), none⟩, ⟨(some 19), (.mov (.t 20)), none⟩]) (.cond (.t 19) (.ops [ ⟨(some 5), (.mov (.c (.str [110, 97, 109, 101]))), none⟩]) (.seq (.ops [ ⟨(some 22), (.bin .eql (.t 6) (.c (.int .i64 2))), none⟩, ⟨(some 21), (.mov (.t 22)), none⟩]) (.cond (.t 21) (.ops [ ⟨(some 5), (.mov (.c (.str [102, 111, 114, 109]))), none⟩]) (.seq (.ops [ ⟨(some 24), (.bin .eql (.t 6) (.c (.int .i64 1))), none⟩, ⟨(some 23), (.mov (.t 24)), none⟩]) (.cond (.t 23) (.ops [ ⟨(some 5), (.mov (.c (.str [97, 114, 103, 117, 109, 101, 110, 116]))), none⟩]) (.seq (.seq (.ops [ ⟨(some 26), (.bin .eql (.t 6) (.c (.int .i64 3))), none⟩, ⟨(some 25), (.mov (.t 26)), none⟩]) (.cond (.t 25) .skip (.ops [ ⟨(some 27), (.bin .eql (.t 6) (.c (.int .i64 4))), none⟩, ⟨(some 25), (.mov (.t 27)), none⟩]))) (.cond (.t 25) (.ops [ ⟨(some 4), (.mov (.c (.int .i64 503))), none⟩, ⟨(some 5), (.mov (.c (.str [115, 116, 111, 114, 97, 103, 101]))), none⟩]) (.seq (.seq (.ops [ ⟨(some 29), (.bin .eql (.t 6) (.c (.int .i64 13))), none⟩, ⟨(some 28), (.mov (.t 29)), none⟩]) (.cond (.t 28) .skip (.ops [ ⟨(some 30), (.bin .eql (.t 6) (.c (.int .i64 5))), none⟩, ⟨(some 28), (.mov (.t 30)), none⟩]))) (.cond (.t 28) (.ops [ ⟨(some 4), (.mov (.c (.int .i64 307))), none⟩, ⟨(some 5), (.mov (.c (.str [111, 119, 110, 101, 114]))), none⟩]) .skip))))))))))))))))))))))))
/- "tiller/front.Error" params { toList := [32] } results { toList := [Go.ResultVar.tmp 2, Go.ResultVar.tmp 3] } -/
def q13 : XC :=
 (.seq (.ops [ ⟨(some 2), (.mov (.c (.int .i64 0))), none⟩, ⟨(some 3), (.mov (.c (.str []))), none⟩]) (.seq (.ops [ ⟨(some 4), (.mov (.c (.int .i64 400))), none⟩, ⟨(some 5), (.mov (.c (.str [114, 101, 102, 117, 115, 101, 100]))), none⟩]) (.seq z13s (.seq (.ops [ ⟨(some 31), (.mov (.t 4)), none⟩, ⟨(some 32), (.mov (.t 5)), none⟩, ⟨(some 33), (.call (.f 7) [(.t 32)]), none⟩, ⟨(some 34), (.bin .add (.c (.str [123, 34, 101, 114, 114, 111, 114, 34, 58])) (.t 33)), none⟩, ⟨(some 35), (.bin .add (.t 34) (.c (.str [125]))), none⟩, ⟨(some 2), (.mov (.t 31)), none⟩, ⟨(some 3), (.mov (.t 35)), none⟩]) .ret))))
def z14s : XC :=
 (.seq (.ops [ ⟨(some 6), (.mov (.t 0)), none⟩]) (.block 0 (.seq (.ops [ ⟨(some 8), (.bin .eql (.t 6) (.c (.int .i64 6))), none⟩, ⟨(some 7), (.mov (.t 8)), none⟩]) (.cond (.t 7) (.ops [ ⟨(some 4), (.mov (.c (.int .i64 404))), none⟩, ⟨(some 5), (.mov (.c (.str [110, 111, 110, 101]))), none⟩]) (.seq (.ops [ ⟨(some 10), (.bin .eql (.t 6) (.c (.int .i64 7))), none⟩, ⟨(some 9), (.mov (.t 10)), none⟩]) (.cond (.t 9) (.ops [ ⟨(some 4), (.mov (.c (.int .i64 409))), none⟩, ⟨(some 5), (.mov (.c (.str [116, 104, 101, 114, 101]))), none⟩]) (.seq (.ops [ ⟨(some 12), (.bin .eql (.t 6) (.c (.int .i64 11))), none⟩, ⟨(some 11), (.mov (.t 12)), none⟩]) (.cond (.t 11) (.ops [ ⟨(some 4), (.mov (.c (.int .i64 409))), none⟩, ⟨(some 5), (.mov (.c (.str [99, 108, 111, 115, 101, 100]))), none⟩]) (.seq (.ops [ ⟨(some 14), (.bin .eql (.t 6) (.c (.int .i64 12))), none⟩, ⟨(some 13), (.mov (.t 14)), none⟩]) (.cond (.t 13) (.ops [ ⟨(some 4), (.mov (.c (.int .i64 409))), none⟩, ⟨(some 5), (.mov (.c (.str [115, 116, 97, 116, 101]))), none⟩]) (.seq (.ops [ ⟨(some 16), (.bin .eql (.t 6) (.c (.int .i64 8))), none⟩, ⟨(some 15), (.mov (.t 16)), none⟩]) (.cond (.t 15) (.ops [ ⟨(some 4), (.mov (.c (.int .i64 429))), none⟩, ⟨(some 5), (.mov (.c (.str [102, 117, 108, 108]))), none⟩]) (.seq (.ops [ ⟨(some 18), (.bin .eql (.t 6) (.c (.int .i64 9))), none⟩, ⟨(some 17), (.mov (.t 18)), none⟩]) (.cond (.t 17) (.ops [ ⟨(some 4), (.mov (.c (.int .i64 413))), none⟩, ⟨(some 5), (.mov (.c (.str [108, 97, 114, 103, 101]))), none⟩]) (.seq (.ops [ ⟨(some 20), (.bin .eql (.t 6) (.c (.int .i64 17))), none⟩, ⟨(some 19), (.mov (.t 20)), none⟩]) (.cond (.t 19) (.ops [ ⟨(some 5), (.mov (.c (.str [110, 97, 109, 101]))), none⟩]) (.seq (.ops [ ⟨(some 22), (.bin .eql (.t 6) (.c (.int .i64 2))), none⟩, ⟨(some 21), (.mov (.t 22)), none⟩]) (.cond (.t 21) (.ops [ ⟨(some 5), (.mov (.c (.str [102, 111, 114, 109]))), none⟩]) (.seq (.ops [ ⟨(some 24), (.bin .eql (.t 6) (.c (.int .i64 1))), none⟩, ⟨(some 23), (.mov (.t 24)), none⟩]) (.cond (.t 23) (.ops [ ⟨(some 5), (.mov (.c (.str [97, 114, 103, 117, 109, 101, 110, 116]))), none⟩]) (.seq (.seq (.ops [ ⟨(some 26), (.bin .eql (.t 6) (.c (.int .i64 3))), none⟩, ⟨(some 25), (.mov (.t 26)), none⟩]) (.cond (.t 25) .skip (.ops [ ⟨(some 27), (.bin .eql (.t 6) (.c (.int .i64 4))), none⟩, ⟨(some 25), (.mov (.t 27)), none⟩]))) (.cond (.t 25) (.ops [ ⟨(some 4), (.mov (.c (.int .i64 503))), none⟩, ⟨(some 5), (.mov (.c (.str [115, 116, 111, 114, 97, 103, 101]))), none⟩]) (.seq (.seq (.ops [ ⟨(some 29), (.bin .eql (.t 6) (.c (.int .i64 13))), none⟩, ⟨(some 28), (.mov (.t 29)), none⟩]) (.cond (.t 28) .skip (.ops [ ⟨(some 30), (.bin .eql (.t 6) (.c (.int .i64 5))), none⟩, ⟨(some 28), (.mov (.t 30)), none⟩]))) (.cond (.t 28) (.ops [ ⟨(some 4), (.mov (.c (.int .i64 307))), none⟩, ⟨(some 5), (.mov (.c (.str [111, 119, 110, 101, 114]))), none⟩]) .skip))))))))))))))))))))))))
/- "tiller/tillerref13.Error" params { toList := [32] } results { toList := [Go.ResultVar.tmp 2, Go.ResultVar.tmp 3] } -/
def q14 : XC :=
 (.seq (.ops [ ⟨(some 2), (.mov (.c (.int .i64 0))), none⟩, ⟨(some 3), (.mov (.c (.str []))), none⟩]) (.seq (.ops [ ⟨(some 4), (.mov (.c (.int .i64 400))), none⟩, ⟨(some 5), (.mov (.c (.str [114, 101, 102, 117, 115, 101, 100]))), none⟩]) (.seq z14s (.seq (.ops [ ⟨(some 31), (.mov (.t 4)), none⟩, ⟨(some 32), (.mov (.t 5)), none⟩, ⟨(some 33), (.bin .add (.c (.str [123, 34, 101, 114, 114, 111, 114, 34, 58, 34])) (.t 32)), none⟩, ⟨(some 34), (.bin .add (.t 33) (.c (.str [34, 125]))), none⟩, ⟨(some 2), (.mov (.t 31)), none⟩, ⟨(some 3), (.mov (.t 34)), none⟩]) .ret))))
section
variable {E : Env} {L : List Blk} {K : IV → List Blk → Prop}
def shortF (s : List UInt8) : List UInt8 := s.take 1500
theorem short_pure (hP : E.P = Tryz.prog) (s : List UInt8) : XPure E 5 [.str s] (.str (shortF s)) := by
  refine xpure1 (n := Tryz.f5.ntmps) (c := q5) (t := 2) (by rw [hP]; rfl) (by rw [hP]; kernel_rfl) (by decide) (Nat.le_of_ble_eq_true rfl) ?_
  generalize hρ : entry _ = ρ
  have h0 : ρ 0 = .str s := by rw [← hρ]; rfl
  clear hρ
  unfold q5
  by_cases h : 1500 < s.length
  · have e1 : ((1500 : Int) < (s.length : Int)) = True := eq_true (by omega)
    simp only [h0, e1, go_sem, Nat.reduceEqDiff, reduceIte, Int.reduceEq, Int.reduceLT, Int.reduceLE, Nat.reduceAdd, Nat.reduceLT, Nat.reduceLeDiff, Int.reduceToNat, Int.reduceSub, Int.reduceAdd, Int.reduceNeg]
    exact ⟨by omega, rfl⟩
  · have e1 : ((1500 : Int) < (s.length : Int)) = False := eq_false (by omega)
    have : shortF s = s := List.take_of_length_le (by omega)
    rw [this]
    simp only [h0, e1, go_sem, Nat.reduceEqDiff, reduceIte, Int.reduceEq, Int.reduceLT, Int.reduceLE, Nat.reduceAdd, Nat.reduceLT, Nat.reduceLeDiff, Int.reduceToNat, Int.reduceSub, Int.reduceAdd, Int.reduceNeg]
    rfl
def wordF (z : Int) : List UInt8 :=
  if z = 200 then [79, 75] else
  if z = 307 then [84, 101, 109, 112, 111, 114, 97, 114, 121, 32, 82, 101, 100, 105, 114, 101, 99, 116] else
  if z = 400 then [66, 97, 100, 32, 82, 101, 113, 117, 101, 115, 116] else
  if z = 404 then [78, 111, 116, 32, 70, 111, 117, 110, 100] else
  if z = 405 then [77, 101, 116, 104, 111, 100, 32, 78, 111, 116, 32, 65, 108, 108, 111, 119, 101, 100] else
  if z = 409 then [67, 111, 110, 102, 108, 105, 99, 116] else
  if z = 413 then [67, 111, 110, 116, 101, 110, 116, 32, 84, 111, 111, 32, 76, 97, 114, 103, 101] else
  if z = 429 then [84, 111, 111, 32, 77, 97, 110, 121, 32, 82, 101, 113, 117, 101, 115, 116, 115] else
  if z = 431 then [82, 101, 113, 117, 101, 115, 116, 32, 72, 101, 97, 100, 101, 114, 32, 70, 105, 101, 108, 100, 115, 32, 84, 111, 111, 32, 76, 97, 114, 103, 101] else
  if z = 503 then [83, 101, 114, 118, 105, 99, 101, 32, 85, 110, 97, 118, 97, 105, 108, 97, 98, 108, 101] else
  [85, 110, 107, 110, 111, 119, 110]
def errF (z : Int) : Int × List UInt8 :=
  if z = 6 then (404, [110, 111, 110, 101]) else
  if z = 7 then (409, [116, 104, 101, 114, 101]) else
  if z = 11 then (409, [99, 108, 111, 115, 101, 100]) else
  if z = 12 then (409, [115, 116, 97, 116, 101]) else
  if z = 8 then (429, [102, 117, 108, 108]) else
  if z = 9 then (413, [108, 97, 114, 103, 101]) else
  if z = 17 then (400, [110, 97, 109, 101]) else
  if z = 2 then (400, [102, 111, 114, 109]) else
  if z = 1 then (400, [97, 114, 103, 117, 109, 101, 110, 116]) else
  if z = 3 then (503, [115, 116, 111, 114, 97, 103, 101]) else
  if z = 4 then (503, [115, 116, 111, 114, 97, 103, 101]) else
  if z = 13 then (307, [111, 119, 110, 101, 114]) else
  if z = 5 then (307, [111, 119, 110, 101, 114]) else
  (400, [114, 101, 102, 117, 115, 101, 100])
theorem word_pure (hP : E.P = Tryz.prog) (z : Int) : XPure E 19 [.int .i64 z] (.str (wordF z)) := by
  refine xpure1 (n := Tryz.f19.ntmps) (c := q19) (t := 2) (by rw [hP]; rfl) (by rw [hP]; kernel_rfl) (by decide) (Nat.le_of_ble_eq_true rfl) ?_
  generalize hρ : entry _ = ρ
  have h0 : ρ 0 = .int .i64 z := by rw [← hρ]; rfl
  clear hρ
  unfold q19
  by_cases k200 : z = 200
  · have e200 : (z = 200) = True := eq_true k200
    unfold wordF
    simp only [e200, if_true, if_false]
    simp only [h0, e200, go_sem, Nat.reduceEqDiff, reduceIte, Int.reduceEq, Int.reduceLT, Int.reduceLE, Nat.reduceAdd, Nat.reduceLT, Nat.reduceLeDiff, Int.reduceToNat, Int.reduceSub, Int.reduceAdd, Int.reduceNeg]
    rfl
  have e200 : (z = 200) = False := eq_false k200
  by_cases k307 : z = 307
  · have e307 : (z = 307) = True := eq_true k307
    unfold wordF
    simp only [e200, e307, if_true, if_false]
    simp only [h0, e200, e307, go_sem, Nat.reduceEqDiff, reduceIte, Int.reduceEq, Int.reduceLT, Int.reduceLE, Nat.reduceAdd, Nat.reduceLT, Nat.reduceLeDiff, Int.reduceToNat, Int.reduceSub, Int.reduceAdd, Int.reduceNeg]
    rfl
  have e307 : (z = 307) = False := eq_false k307
  by_cases k400 : z = 400
  · have e400 : (z = 400) = True := eq_true k400
    unfold wordF
    simp only [e200, e307, e400, if_true, if_false]
    simp only [h0, e200, e307, e400, go_sem, Nat.reduceEqDiff, reduceIte, Int.reduceEq, Int.reduceLT, Int.reduceLE, Nat.reduceAdd, Nat.reduceLT, Nat.reduceLeDiff, Int.reduceToNat, Int.reduceSub, Int.reduceAdd, Int.reduceNeg]
    rfl
  have e400 : (z = 400) = False := eq_false k400
  by_cases k404 : z = 404
  · have e404 : (z = 404) = True := eq_true k404
    unfold wordF
    simp only [e200, e307, e400, e404, if_true, if_false]
    simp only [h0, e200, e307, e400, e404, go_sem, Nat.reduceEqDiff, reduceIte, Int.reduceEq, Int.reduceLT, Int.reduceLE, Nat.reduceAdd, Nat.reduceLT, Nat.reduceLeDiff, Int.reduceToNat, Int.reduceSub, Int.reduceAdd, Int.reduceNeg]
    rfl
  have e404 : (z = 404) = False := eq_false k404
  by_cases k405 : z = 405
  · have e405 : (z = 405) = True := eq_true k405
    unfold wordF
    simp only [e200, e307, e400, e404, e405, if_true, if_false]
    simp only [h0, e200, e307, e400, e404, e405, go_sem, Nat.reduceEqDiff, reduceIte, Int.reduceEq, Int.reduceLT, Int.reduceLE, Nat.reduceAdd, Nat.reduceLT, Nat.reduceLeDiff, Int.reduceToNat, Int.reduceSub, Int.reduceAdd, Int.reduceNeg]
    rfl
  have e405 : (z = 405) = False := eq_false k405
  by_cases k409 : z = 409
  · have e409 : (z = 409) = True := eq_true k409
    unfold wordF
    simp only [e200, e307, e400, e404, e405, e409, if_true, if_false]
    simp only [h0, e200, e307, e400, e404, e405, e409, go_sem, Nat.reduceEqDiff, reduceIte, Int.reduceEq, Int.reduceLT, Int.reduceLE, Nat.reduceAdd, Nat.reduceLT, Nat.reduceLeDiff, Int.reduceToNat, Int.reduceSub, Int.reduceAdd, Int.reduceNeg]
    rfl
  have e409 : (z = 409) = False := eq_false k409
  by_cases k413 : z = 413
  · have e413 : (z = 413) = True := eq_true k413
    unfold wordF
    simp only [e200, e307, e400, e404, e405, e409, e413, if_true, if_false]
    simp only [h0, e200, e307, e400, e404, e405, e409, e413, go_sem, Nat.reduceEqDiff, reduceIte, Int.reduceEq, Int.reduceLT, Int.reduceLE, Nat.reduceAdd, Nat.reduceLT, Nat.reduceLeDiff, Int.reduceToNat, Int.reduceSub, Int.reduceAdd, Int.reduceNeg]
    rfl
  have e413 : (z = 413) = False := eq_false k413
  by_cases k429 : z = 429
  · have e429 : (z = 429) = True := eq_true k429
    unfold wordF
    simp only [e200, e307, e400, e404, e405, e409, e413, e429, if_true, if_false]
    simp only [h0, e200, e307, e400, e404, e405, e409, e413, e429, go_sem, Nat.reduceEqDiff, reduceIte, Int.reduceEq, Int.reduceLT, Int.reduceLE, Nat.reduceAdd, Nat.reduceLT, Nat.reduceLeDiff, Int.reduceToNat, Int.reduceSub, Int.reduceAdd, Int.reduceNeg]
    rfl
  have e429 : (z = 429) = False := eq_false k429
  by_cases k431 : z = 431
  · have e431 : (z = 431) = True := eq_true k431
    unfold wordF
    simp only [e200, e307, e400, e404, e405, e409, e413, e429, e431, if_true, if_false]
    simp only [h0, e200, e307, e400, e404, e405, e409, e413, e429, e431, go_sem, Nat.reduceEqDiff, reduceIte, Int.reduceEq, Int.reduceLT, Int.reduceLE, Nat.reduceAdd, Nat.reduceLT, Nat.reduceLeDiff, Int.reduceToNat, Int.reduceSub, Int.reduceAdd, Int.reduceNeg]
    rfl
  have e431 : (z = 431) = False := eq_false k431
  by_cases k503 : z = 503
  · have e503 : (z = 503) = True := eq_true k503
    unfold wordF
    simp only [e200, e307, e400, e404, e405, e409, e413, e429, e431, e503, if_true, if_false]
    simp only [h0, e200, e307, e400, e404, e405, e409, e413, e429, e431, e503, go_sem, Nat.reduceEqDiff, reduceIte, Int.reduceEq, Int.reduceLT, Int.reduceLE, Nat.reduceAdd, Nat.reduceLT, Nat.reduceLeDiff, Int.reduceToNat, Int.reduceSub, Int.reduceAdd, Int.reduceNeg]
    rfl
  have e503 : (z = 503) = False := eq_false k503
  unfold wordF
  simp only [e200, e307, e400, e404, e405, e409, e413, e429, e431, e503, if_false]
  simp only [h0, e200, e307, e400, e404, e405, e409, e413, e429, e431, e503, go_sem, Nat.reduceEqDiff, reduceIte, Int.reduceEq, Int.reduceLT, Int.reduceLE, Nat.reduceAdd, Nat.reduceLT, Nat.reduceLeDiff, Int.reduceToNat, Int.reduceSub, Int.reduceAdd, Int.reduceNeg]
  rfl
theorem z9s_run {ρ : Rho} (z : Int) (b : List UInt8) (h0 : ρ 0 = .int .i64 z) (h1 : ρ 1 = .str b) (h5 : ρ 5 = .str [85, 110, 107, 110, 111, 119, 110]) : xrun E z9s ρ L (Norm fun ρ' L' => L' = L ∧ ρ' 0 = .int .i64 z ∧ ρ' 1 = .str b ∧ ρ' 5 = .str (wordF z)) := by
  unfold z9s
  by_cases k200 : z = 200
  · have e200 : (z = 200) = True := eq_true k200
    unfold wordF
    simp only [e200, if_true, if_false]
    simp only [h0, h1, h5, e200, go_sem, Nat.reduceEqDiff, reduceIte, Int.reduceEq, Int.reduceLT, Int.reduceLE, Nat.reduceAdd, Nat.reduceLT, Nat.reduceLeDiff, Int.reduceToNat, Int.reduceSub, Int.reduceAdd, Int.reduceNeg]
  have e200 : (z = 200) = False := eq_false k200
  by_cases k307 : z = 307
  · have e307 : (z = 307) = True := eq_true k307
    unfold wordF
    simp only [e200, e307, if_true, if_false]
    simp only [h0, h1, h5, e200, e307, go_sem, Nat.reduceEqDiff, reduceIte, Int.reduceEq, Int.reduceLT, Int.reduceLE, Nat.reduceAdd, Nat.reduceLT, Nat.reduceLeDiff, Int.reduceToNat, Int.reduceSub, Int.reduceAdd, Int.reduceNeg]
  have e307 : (z = 307) = False := eq_false k307
  by_cases k400 : z = 400
  · have e400 : (z = 400) = True := eq_true k400
    unfold wordF
    simp only [e200, e307, e400, if_true, if_false]
    simp only [h0, h1, h5, e200, e307, e400, go_sem, Nat.reduceEqDiff, reduceIte, Int.reduceEq, Int.reduceLT, Int.reduceLE, Nat.reduceAdd, Nat.reduceLT, Nat.reduceLeDiff, Int.reduceToNat, Int.reduceSub, Int.reduceAdd, Int.reduceNeg]
  have e400 : (z = 400) = False := eq_false k400
  by_cases k404 : z = 404
  · have e404 : (z = 404) = True := eq_true k404
    unfold wordF
    simp only [e200, e307, e400, e404, if_true, if_false]
    simp only [h0, h1, h5, e200, e307, e400, e404, go_sem, Nat.reduceEqDiff, reduceIte, Int.reduceEq, Int.reduceLT, Int.reduceLE, Nat.reduceAdd, Nat.reduceLT, Nat.reduceLeDiff, Int.reduceToNat, Int.reduceSub, Int.reduceAdd, Int.reduceNeg]
  have e404 : (z = 404) = False := eq_false k404
  by_cases k405 : z = 405
  · have e405 : (z = 405) = True := eq_true k405
    unfold wordF
    simp only [e200, e307, e400, e404, e405, if_true, if_false]
    simp only [h0, h1, h5, e200, e307, e400, e404, e405, go_sem, Nat.reduceEqDiff, reduceIte, Int.reduceEq, Int.reduceLT, Int.reduceLE, Nat.reduceAdd, Nat.reduceLT, Nat.reduceLeDiff, Int.reduceToNat, Int.reduceSub, Int.reduceAdd, Int.reduceNeg]
  have e405 : (z = 405) = False := eq_false k405
  by_cases k409 : z = 409
  · have e409 : (z = 409) = True := eq_true k409
    unfold wordF
    simp only [e200, e307, e400, e404, e405, e409, if_true, if_false]
    simp only [h0, h1, h5, e200, e307, e400, e404, e405, e409, go_sem, Nat.reduceEqDiff, reduceIte, Int.reduceEq, Int.reduceLT, Int.reduceLE, Nat.reduceAdd, Nat.reduceLT, Nat.reduceLeDiff, Int.reduceToNat, Int.reduceSub, Int.reduceAdd, Int.reduceNeg]
  have e409 : (z = 409) = False := eq_false k409
  by_cases k413 : z = 413
  · have e413 : (z = 413) = True := eq_true k413
    unfold wordF
    simp only [e200, e307, e400, e404, e405, e409, e413, if_true, if_false]
    simp only [h0, h1, h5, e200, e307, e400, e404, e405, e409, e413, go_sem, Nat.reduceEqDiff, reduceIte, Int.reduceEq, Int.reduceLT, Int.reduceLE, Nat.reduceAdd, Nat.reduceLT, Nat.reduceLeDiff, Int.reduceToNat, Int.reduceSub, Int.reduceAdd, Int.reduceNeg]
  have e413 : (z = 413) = False := eq_false k413
  by_cases k429 : z = 429
  · have e429 : (z = 429) = True := eq_true k429
    unfold wordF
    simp only [e200, e307, e400, e404, e405, e409, e413, e429, if_true, if_false]
    simp only [h0, h1, h5, e200, e307, e400, e404, e405, e409, e413, e429, go_sem, Nat.reduceEqDiff, reduceIte, Int.reduceEq, Int.reduceLT, Int.reduceLE, Nat.reduceAdd, Nat.reduceLT, Nat.reduceLeDiff, Int.reduceToNat, Int.reduceSub, Int.reduceAdd, Int.reduceNeg]
  have e429 : (z = 429) = False := eq_false k429
  by_cases k431 : z = 431
  · have e431 : (z = 431) = True := eq_true k431
    unfold wordF
    simp only [e200, e307, e400, e404, e405, e409, e413, e429, e431, if_true, if_false]
    simp only [h0, h1, h5, e200, e307, e400, e404, e405, e409, e413, e429, e431, go_sem, Nat.reduceEqDiff, reduceIte, Int.reduceEq, Int.reduceLT, Int.reduceLE, Nat.reduceAdd, Nat.reduceLT, Nat.reduceLeDiff, Int.reduceToNat, Int.reduceSub, Int.reduceAdd, Int.reduceNeg]
  have e431 : (z = 431) = False := eq_false k431
  by_cases k503 : z = 503
  · have e503 : (z = 503) = True := eq_true k503
    unfold wordF
    simp only [e200, e307, e400, e404, e405, e409, e413, e429, e431, e503, if_true, if_false]
    simp only [h0, h1, h5, e200, e307, e400, e404, e405, e409, e413, e429, e431, e503, go_sem, Nat.reduceEqDiff, reduceIte, Int.reduceEq, Int.reduceLT, Int.reduceLE, Nat.reduceAdd, Nat.reduceLT, Nat.reduceLeDiff, Int.reduceToNat, Int.reduceSub, Int.reduceAdd, Int.reduceNeg]
  have e503 : (z = 503) = False := eq_false k503
  unfold wordF
  simp only [e200, e307, e400, e404, e405, e409, e413, e429, e431, e503, if_false]
  simp only [h0, h1, h5, e200, e307, e400, e404, e405, e409, e413, e429, e431, e503, go_sem, Nat.reduceEqDiff, reduceIte, Int.reduceEq, Int.reduceLT, Int.reduceLE, Nat.reduceAdd, Nat.reduceLT, Nat.reduceLeDiff, Int.reduceToNat, Int.reduceSub, Int.reduceAdd, Int.reduceNeg]
theorem z13s_run {ρ : Rho} (z : Int) (h0 : ρ 0 = .int .i64 z) (h4 : ρ 4 = .int .i64 400) (h5 : ρ 5 = .str [114, 101, 102, 117, 115, 101, 100]) : xrun E z13s ρ L (Norm fun ρ' L' => L' = L ∧ ρ' 4 = .int .i64 (errF z).1 ∧ ρ' 5 = .str (errF z).2) := by
  unfold z13s
  by_cases k6 : z = 6
  · have e6 : (z = 6) = True := eq_true k6
    unfold errF
    simp only [e6, if_true, if_false]
    simp only [h0, h4, h5, e6, go_sem, Nat.reduceEqDiff, reduceIte, Int.reduceEq, Int.reduceLT, Int.reduceLE, Nat.reduceAdd, Nat.reduceLT, Nat.reduceLeDiff, Int.reduceToNat, Int.reduceSub, Int.reduceAdd, Int.reduceNeg]
  have e6 : (z = 6) = False := eq_false k6
  by_cases k7 : z = 7
  · have e7 : (z = 7) = True := eq_true k7
    unfold errF
    simp only [e6, e7, if_true, if_false]
    simp only [h0, h4, h5, e6, e7, go_sem, Nat.reduceEqDiff, reduceIte, Int.reduceEq, Int.reduceLT, Int.reduceLE, Nat.reduceAdd, Nat.reduceLT, Nat.reduceLeDiff, Int.reduceToNat, Int.reduceSub, Int.reduceAdd, Int.reduceNeg]
  have e7 : (z = 7) = False := eq_false k7
  by_cases k11 : z = 11
  · have e11 : (z = 11) = True := eq_true k11
    unfold errF
    simp only [e6, e7, e11, if_true, if_false]
    simp only [h0, h4, h5, e6, e7, e11, go_sem, Nat.reduceEqDiff, reduceIte, Int.reduceEq, Int.reduceLT, Int.reduceLE, Nat.reduceAdd, Nat.reduceLT, Nat.reduceLeDiff, Int.reduceToNat, Int.reduceSub, Int.reduceAdd, Int.reduceNeg]
  have e11 : (z = 11) = False := eq_false k11
  by_cases k12 : z = 12
  · have e12 : (z = 12) = True := eq_true k12
    unfold errF
    simp only [e6, e7, e11, e12, if_true, if_false]
    simp only [h0, h4, h5, e6, e7, e11, e12, go_sem, Nat.reduceEqDiff, reduceIte, Int.reduceEq, Int.reduceLT, Int.reduceLE, Nat.reduceAdd, Nat.reduceLT, Nat.reduceLeDiff, Int.reduceToNat, Int.reduceSub, Int.reduceAdd, Int.reduceNeg]
  have e12 : (z = 12) = False := eq_false k12
  by_cases k8 : z = 8
  · have e8 : (z = 8) = True := eq_true k8
    unfold errF
    simp only [e6, e7, e11, e12, e8, if_true, if_false]
    simp only [h0, h4, h5, e6, e7, e11, e12, e8, go_sem, Nat.reduceEqDiff, reduceIte, Int.reduceEq, Int.reduceLT, Int.reduceLE, Nat.reduceAdd, Nat.reduceLT, Nat.reduceLeDiff, Int.reduceToNat, Int.reduceSub, Int.reduceAdd, Int.reduceNeg]
  have e8 : (z = 8) = False := eq_false k8
  by_cases k9 : z = 9
  · have e9 : (z = 9) = True := eq_true k9
    unfold errF
    simp only [e6, e7, e11, e12, e8, e9, if_true, if_false]
    simp only [h0, h4, h5, e6, e7, e11, e12, e8, e9, go_sem, Nat.reduceEqDiff, reduceIte, Int.reduceEq, Int.reduceLT, Int.reduceLE, Nat.reduceAdd, Nat.reduceLT, Nat.reduceLeDiff, Int.reduceToNat, Int.reduceSub, Int.reduceAdd, Int.reduceNeg]
  have e9 : (z = 9) = False := eq_false k9
  by_cases k17 : z = 17
  · have e17 : (z = 17) = True := eq_true k17
    unfold errF
    simp only [e6, e7, e11, e12, e8, e9, e17, if_true, if_false]
    simp only [h0, h4, h5, e6, e7, e11, e12, e8, e9, e17, go_sem, Nat.reduceEqDiff, reduceIte, Int.reduceEq, Int.reduceLT, Int.reduceLE, Nat.reduceAdd, Nat.reduceLT, Nat.reduceLeDiff, Int.reduceToNat, Int.reduceSub, Int.reduceAdd, Int.reduceNeg]
  have e17 : (z = 17) = False := eq_false k17
  by_cases k2 : z = 2
  · have e2 : (z = 2) = True := eq_true k2
    unfold errF
    simp only [e6, e7, e11, e12, e8, e9, e17, e2, if_true, if_false]
    simp only [h0, h4, h5, e6, e7, e11, e12, e8, e9, e17, e2, go_sem, Nat.reduceEqDiff, reduceIte, Int.reduceEq, Int.reduceLT, Int.reduceLE, Nat.reduceAdd, Nat.reduceLT, Nat.reduceLeDiff, Int.reduceToNat, Int.reduceSub, Int.reduceAdd, Int.reduceNeg]
  have e2 : (z = 2) = False := eq_false k2
  by_cases k1 : z = 1
  · have e1 : (z = 1) = True := eq_true k1
    unfold errF
    simp only [e6, e7, e11, e12, e8, e9, e17, e2, e1, if_true, if_false]
    simp only [h0, h4, h5, e6, e7, e11, e12, e8, e9, e17, e2, e1, go_sem, Nat.reduceEqDiff, reduceIte, Int.reduceEq, Int.reduceLT, Int.reduceLE, Nat.reduceAdd, Nat.reduceLT, Nat.reduceLeDiff, Int.reduceToNat, Int.reduceSub, Int.reduceAdd, Int.reduceNeg]
  have e1 : (z = 1) = False := eq_false k1
  by_cases k3 : z = 3
  · have e3 : (z = 3) = True := eq_true k3
    unfold errF
    simp only [e6, e7, e11, e12, e8, e9, e17, e2, e1, e3, if_true, if_false]
    simp only [h0, h4, h5, e6, e7, e11, e12, e8, e9, e17, e2, e1, e3, go_sem, Nat.reduceEqDiff, reduceIte, Int.reduceEq, Int.reduceLT, Int.reduceLE, Nat.reduceAdd, Nat.reduceLT, Nat.reduceLeDiff, Int.reduceToNat, Int.reduceSub, Int.reduceAdd, Int.reduceNeg]
  have e3 : (z = 3) = False := eq_false k3
  by_cases k4 : z = 4
  · have e4 : (z = 4) = True := eq_true k4
    unfold errF
    simp only [e6, e7, e11, e12, e8, e9, e17, e2, e1, e3, e4, if_true, if_false]
    simp only [h0, h4, h5, e6, e7, e11, e12, e8, e9, e17, e2, e1, e3, e4, go_sem, Nat.reduceEqDiff, reduceIte, Int.reduceEq, Int.reduceLT, Int.reduceLE, Nat.reduceAdd, Nat.reduceLT, Nat.reduceLeDiff, Int.reduceToNat, Int.reduceSub, Int.reduceAdd, Int.reduceNeg]
  have e4 : (z = 4) = False := eq_false k4
  by_cases k13 : z = 13
  · have e13 : (z = 13) = True := eq_true k13
    unfold errF
    simp only [e6, e7, e11, e12, e8, e9, e17, e2, e1, e3, e4, e13, if_true, if_false]
    simp only [h0, h4, h5, e6, e7, e11, e12, e8, e9, e17, e2, e1, e3, e4, e13, go_sem, Nat.reduceEqDiff, reduceIte, Int.reduceEq, Int.reduceLT, Int.reduceLE, Nat.reduceAdd, Nat.reduceLT, Nat.reduceLeDiff, Int.reduceToNat, Int.reduceSub, Int.reduceAdd, Int.reduceNeg]
  have e13 : (z = 13) = False := eq_false k13
  by_cases k5 : z = 5
  · have e5 : (z = 5) = True := eq_true k5
    unfold errF
    simp only [e6, e7, e11, e12, e8, e9, e17, e2, e1, e3, e4, e13, e5, if_true, if_false]
    simp only [h0, h4, h5, e6, e7, e11, e12, e8, e9, e17, e2, e1, e3, e4, e13, e5, go_sem, Nat.reduceEqDiff, reduceIte, Int.reduceEq, Int.reduceLT, Int.reduceLE, Nat.reduceAdd, Nat.reduceLT, Nat.reduceLeDiff, Int.reduceToNat, Int.reduceSub, Int.reduceAdd, Int.reduceNeg]
  have e5 : (z = 5) = False := eq_false k5
  unfold errF
  simp only [e6, e7, e11, e12, e8, e9, e17, e2, e1, e3, e4, e13, e5, if_false]
  simp only [h0, h4, h5, e6, e7, e11, e12, e8, e9, e17, e2, e1, e3, e4, e13, e5, go_sem, Nat.reduceEqDiff, reduceIte, Int.reduceEq, Int.reduceLT, Int.reduceLE, Nat.reduceAdd, Nat.reduceLT, Nat.reduceLeDiff, Int.reduceToNat, Int.reduceSub, Int.reduceAdd, Int.reduceNeg]
theorem z14s_run {ρ : Rho} (z : Int) (h0 : ρ 0 = .int .i64 z) (h4 : ρ 4 = .int .i64 400) (h5 : ρ 5 = .str [114, 101, 102, 117, 115, 101, 100]) : xrun E z14s ρ L (Norm fun ρ' L' => L' = L ∧ ρ' 4 = .int .i64 (errF z).1 ∧ ρ' 5 = .str (errF z).2) := by
  unfold z14s
  by_cases k6 : z = 6
  · have e6 : (z = 6) = True := eq_true k6
    unfold errF
    simp only [e6, if_true, if_false]
    simp only [h0, h4, h5, e6, go_sem, Nat.reduceEqDiff, reduceIte, Int.reduceEq, Int.reduceLT, Int.reduceLE, Nat.reduceAdd, Nat.reduceLT, Nat.reduceLeDiff, Int.reduceToNat, Int.reduceSub, Int.reduceAdd, Int.reduceNeg]
  have e6 : (z = 6) = False := eq_false k6
  by_cases k7 : z = 7
  · have e7 : (z = 7) = True := eq_true k7
    unfold errF
    simp only [e6, e7, if_true, if_false]
    simp only [h0, h4, h5, e6, e7, go_sem, Nat.reduceEqDiff, reduceIte, Int.reduceEq, Int.reduceLT, Int.reduceLE, Nat.reduceAdd, Nat.reduceLT, Nat.reduceLeDiff, Int.reduceToNat, Int.reduceSub, Int.reduceAdd, Int.reduceNeg]
  have e7 : (z = 7) = False := eq_false k7
  by_cases k11 : z = 11
  · have e11 : (z = 11) = True := eq_true k11
    unfold errF
    simp only [e6, e7, e11, if_true, if_false]
    simp only [h0, h4, h5, e6, e7, e11, go_sem, Nat.reduceEqDiff, reduceIte, Int.reduceEq, Int.reduceLT, Int.reduceLE, Nat.reduceAdd, Nat.reduceLT, Nat.reduceLeDiff, Int.reduceToNat, Int.reduceSub, Int.reduceAdd, Int.reduceNeg]
  have e11 : (z = 11) = False := eq_false k11
  by_cases k12 : z = 12
  · have e12 : (z = 12) = True := eq_true k12
    unfold errF
    simp only [e6, e7, e11, e12, if_true, if_false]
    simp only [h0, h4, h5, e6, e7, e11, e12, go_sem, Nat.reduceEqDiff, reduceIte, Int.reduceEq, Int.reduceLT, Int.reduceLE, Nat.reduceAdd, Nat.reduceLT, Nat.reduceLeDiff, Int.reduceToNat, Int.reduceSub, Int.reduceAdd, Int.reduceNeg]
  have e12 : (z = 12) = False := eq_false k12
  by_cases k8 : z = 8
  · have e8 : (z = 8) = True := eq_true k8
    unfold errF
    simp only [e6, e7, e11, e12, e8, if_true, if_false]
    simp only [h0, h4, h5, e6, e7, e11, e12, e8, go_sem, Nat.reduceEqDiff, reduceIte, Int.reduceEq, Int.reduceLT, Int.reduceLE, Nat.reduceAdd, Nat.reduceLT, Nat.reduceLeDiff, Int.reduceToNat, Int.reduceSub, Int.reduceAdd, Int.reduceNeg]
  have e8 : (z = 8) = False := eq_false k8
  by_cases k9 : z = 9
  · have e9 : (z = 9) = True := eq_true k9
    unfold errF
    simp only [e6, e7, e11, e12, e8, e9, if_true, if_false]
    simp only [h0, h4, h5, e6, e7, e11, e12, e8, e9, go_sem, Nat.reduceEqDiff, reduceIte, Int.reduceEq, Int.reduceLT, Int.reduceLE, Nat.reduceAdd, Nat.reduceLT, Nat.reduceLeDiff, Int.reduceToNat, Int.reduceSub, Int.reduceAdd, Int.reduceNeg]
  have e9 : (z = 9) = False := eq_false k9
  by_cases k17 : z = 17
  · have e17 : (z = 17) = True := eq_true k17
    unfold errF
    simp only [e6, e7, e11, e12, e8, e9, e17, if_true, if_false]
    simp only [h0, h4, h5, e6, e7, e11, e12, e8, e9, e17, go_sem, Nat.reduceEqDiff, reduceIte, Int.reduceEq, Int.reduceLT, Int.reduceLE, Nat.reduceAdd, Nat.reduceLT, Nat.reduceLeDiff, Int.reduceToNat, Int.reduceSub, Int.reduceAdd, Int.reduceNeg]
  have e17 : (z = 17) = False := eq_false k17
  by_cases k2 : z = 2
  · have e2 : (z = 2) = True := eq_true k2
    unfold errF
    simp only [e6, e7, e11, e12, e8, e9, e17, e2, if_true, if_false]
    simp only [h0, h4, h5, e6, e7, e11, e12, e8, e9, e17, e2, go_sem, Nat.reduceEqDiff, reduceIte, Int.reduceEq, Int.reduceLT, Int.reduceLE, Nat.reduceAdd, Nat.reduceLT, Nat.reduceLeDiff, Int.reduceToNat, Int.reduceSub, Int.reduceAdd, Int.reduceNeg]
  have e2 : (z = 2) = False := eq_false k2
  by_cases k1 : z = 1
  · have e1 : (z = 1) = True := eq_true k1
    unfold errF
    simp only [e6, e7, e11, e12, e8, e9, e17, e2, e1, if_true, if_false]
    simp only [h0, h4, h5, e6, e7, e11, e12, e8, e9, e17, e2, e1, go_sem, Nat.reduceEqDiff, reduceIte, Int.reduceEq, Int.reduceLT, Int.reduceLE, Nat.reduceAdd, Nat.reduceLT, Nat.reduceLeDiff, Int.reduceToNat, Int.reduceSub, Int.reduceAdd, Int.reduceNeg]
  have e1 : (z = 1) = False := eq_false k1
  by_cases k3 : z = 3
  · have e3 : (z = 3) = True := eq_true k3
    unfold errF
    simp only [e6, e7, e11, e12, e8, e9, e17, e2, e1, e3, if_true, if_false]
    simp only [h0, h4, h5, e6, e7, e11, e12, e8, e9, e17, e2, e1, e3, go_sem, Nat.reduceEqDiff, reduceIte, Int.reduceEq, Int.reduceLT, Int.reduceLE, Nat.reduceAdd, Nat.reduceLT, Nat.reduceLeDiff, Int.reduceToNat, Int.reduceSub, Int.reduceAdd, Int.reduceNeg]
  have e3 : (z = 3) = False := eq_false k3
  by_cases k4 : z = 4
  · have e4 : (z = 4) = True := eq_true k4
    unfold errF
    simp only [e6, e7, e11, e12, e8, e9, e17, e2, e1, e3, e4, if_true, if_false]
    simp only [h0, h4, h5, e6, e7, e11, e12, e8, e9, e17, e2, e1, e3, e4, go_sem, Nat.reduceEqDiff, reduceIte, Int.reduceEq, Int.reduceLT, Int.reduceLE, Nat.reduceAdd, Nat.reduceLT, Nat.reduceLeDiff, Int.reduceToNat, Int.reduceSub, Int.reduceAdd, Int.reduceNeg]
  have e4 : (z = 4) = False := eq_false k4
  by_cases k13 : z = 13
  · have e13 : (z = 13) = True := eq_true k13
    unfold errF
    simp only [e6, e7, e11, e12, e8, e9, e17, e2, e1, e3, e4, e13, if_true, if_false]
    simp only [h0, h4, h5, e6, e7, e11, e12, e8, e9, e17, e2, e1, e3, e4, e13, go_sem, Nat.reduceEqDiff, reduceIte, Int.reduceEq, Int.reduceLT, Int.reduceLE, Nat.reduceAdd, Nat.reduceLT, Nat.reduceLeDiff, Int.reduceToNat, Int.reduceSub, Int.reduceAdd, Int.reduceNeg]
  have e13 : (z = 13) = False := eq_false k13
  by_cases k5 : z = 5
  · have e5 : (z = 5) = True := eq_true k5
    unfold errF
    simp only [e6, e7, e11, e12, e8, e9, e17, e2, e1, e3, e4, e13, e5, if_true, if_false]
    simp only [h0, h4, h5, e6, e7, e11, e12, e8, e9, e17, e2, e1, e3, e4, e13, e5, go_sem, Nat.reduceEqDiff, reduceIte, Int.reduceEq, Int.reduceLT, Int.reduceLE, Nat.reduceAdd, Nat.reduceLT, Nat.reduceLeDiff, Int.reduceToNat, Int.reduceSub, Int.reduceAdd, Int.reduceNeg]
  have e5 : (z = 5) = False := eq_false k5
  unfold errF
  simp only [e6, e7, e11, e12, e8, e9, e17, e2, e1, e3, e4, e13, e5, if_false]
  simp only [h0, h4, h5, e6, e7, e11, e12, e8, e9, e17, e2, e1, e3, e4, e13, e5, go_sem, Nat.reduceEqDiff, reduceIte, Int.reduceEq, Int.reduceLT, Int.reduceLE, Nat.reduceAdd, Nat.reduceLT, Nat.reduceLeDiff, Int.reduceToNat, Int.reduceSub, Int.reduceAdd, Int.reduceNeg]
theorem errF_quote (z : Int) : quoteF (errF z).2 = 34 :: ((errF z).2 ++ [34]) ∧ (errF z).2.length ≤ 20 := by
  by_cases k6 : z = 6
  · have e6 : (z = 6) = True := eq_true k6
    unfold errF
    simp only [e6, if_true, if_false]
    exact ⟨by kernel_rfl, by simp⟩
  have e6 : (z = 6) = False := eq_false k6
  by_cases k7 : z = 7
  · have e7 : (z = 7) = True := eq_true k7
    unfold errF
    simp only [e6, e7, if_true, if_false]
    exact ⟨by kernel_rfl, by simp⟩
  have e7 : (z = 7) = False := eq_false k7
  by_cases k11 : z = 11
  · have e11 : (z = 11) = True := eq_true k11
    unfold errF
    simp only [e6, e7, e11, if_true, if_false]
    exact ⟨by kernel_rfl, by simp⟩
  have e11 : (z = 11) = False := eq_false k11
  by_cases k12 : z = 12
  · have e12 : (z = 12) = True := eq_true k12
    unfold errF
    simp only [e6, e7, e11, e12, if_true, if_false]
    exact ⟨by kernel_rfl, by simp⟩
  have e12 : (z = 12) = False := eq_false k12
  by_cases k8 : z = 8
  · have e8 : (z = 8) = True := eq_true k8
    unfold errF
    simp only [e6, e7, e11, e12, e8, if_true, if_false]
    exact ⟨by kernel_rfl, by simp⟩
  have e8 : (z = 8) = False := eq_false k8
  by_cases k9 : z = 9
  · have e9 : (z = 9) = True := eq_true k9
    unfold errF
    simp only [e6, e7, e11, e12, e8, e9, if_true, if_false]
    exact ⟨by kernel_rfl, by simp⟩
  have e9 : (z = 9) = False := eq_false k9
  by_cases k17 : z = 17
  · have e17 : (z = 17) = True := eq_true k17
    unfold errF
    simp only [e6, e7, e11, e12, e8, e9, e17, if_true, if_false]
    exact ⟨by kernel_rfl, by simp⟩
  have e17 : (z = 17) = False := eq_false k17
  by_cases k2 : z = 2
  · have e2 : (z = 2) = True := eq_true k2
    unfold errF
    simp only [e6, e7, e11, e12, e8, e9, e17, e2, if_true, if_false]
    exact ⟨by kernel_rfl, by simp⟩
  have e2 : (z = 2) = False := eq_false k2
  by_cases k1 : z = 1
  · have e1 : (z = 1) = True := eq_true k1
    unfold errF
    simp only [e6, e7, e11, e12, e8, e9, e17, e2, e1, if_true, if_false]
    exact ⟨by kernel_rfl, by simp⟩
  have e1 : (z = 1) = False := eq_false k1
  by_cases k3 : z = 3
  · have e3 : (z = 3) = True := eq_true k3
    unfold errF
    simp only [e6, e7, e11, e12, e8, e9, e17, e2, e1, e3, if_true, if_false]
    exact ⟨by kernel_rfl, by simp⟩
  have e3 : (z = 3) = False := eq_false k3
  by_cases k4 : z = 4
  · have e4 : (z = 4) = True := eq_true k4
    unfold errF
    simp only [e6, e7, e11, e12, e8, e9, e17, e2, e1, e3, e4, if_true, if_false]
    exact ⟨by kernel_rfl, by simp⟩
  have e4 : (z = 4) = False := eq_false k4
  by_cases k13 : z = 13
  · have e13 : (z = 13) = True := eq_true k13
    unfold errF
    simp only [e6, e7, e11, e12, e8, e9, e17, e2, e1, e3, e4, e13, if_true, if_false]
    exact ⟨by kernel_rfl, by simp⟩
  have e13 : (z = 13) = False := eq_false k13
  by_cases k5 : z = 5
  · have e5 : (z = 5) = True := eq_true k5
    unfold errF
    simp only [e6, e7, e11, e12, e8, e9, e17, e2, e1, e3, e4, e13, e5, if_true, if_false]
    exact ⟨by kernel_rfl, by simp⟩
  have e5 : (z = 5) = False := eq_false k5
  unfold errF
  simp only [e6, e7, e11, e12, e8, e9, e17, e2, e1, e3, e4, e13, e5, if_false]
  exact ⟨by kernel_rfl, by simp⟩
def errT (z : Int) : List UInt8 := [123, 34, 101, 114, 114, 111, 114, 34, 58, 34] ++ (errF z).2 ++ [34, 125]
theorem error_pure (hP : E.P = Tryz.prog) (ht : ∀ w, E.G w → Lib.Utf8Tabs 0 1 w) (z : Int) : XPure E 13 [.int .i64 z] (.tup [.int .i64 (errF z).1, .str (errT z)]) := by
  refine xpure2 (n := Tryz.f13.ntmps) (c := q13) (t := 2) (t' := 3) (by rw [hP]; rfl) (by rw [hP]; kernel_rfl) (by decide) (Nat.le_of_ble_eq_true rfl) ?_
  generalize hρ : entry _ = ρ
  have h0 : ρ 0 = .int .i64 z := by rw [← hρ]; rfl
  clear hρ
  unfold q13
  simp only [h0, go_sem, Nat.reduceEqDiff, reduceIte, Int.reduceEq, Int.reduceLT, Int.reduceLE, Nat.reduceAdd, Nat.reduceLT, Nat.reduceLeDiff, Int.reduceToNat, Int.reduceSub, Int.reduceAdd, Int.reduceNeg]
  refine xcut_norm _ (z13s_run z (by simp only [h0, go_sem, Nat.reduceEqDiff, reduceIte, Int.reduceEq, Int.reduceLT, Int.reduceLE, Nat.reduceAdd, Nat.reduceLT, Nat.reduceLeDiff, Int.reduceToNat, Int.reduceSub, Int.reduceAdd, Int.reduceNeg]) (by simp only [go_sem, Nat.reduceEqDiff, reduceIte, Int.reduceEq, Int.reduceLT, Int.reduceLE, Nat.reduceAdd, Nat.reduceLT, Nat.reduceLeDiff, Int.reduceToNat, Int.reduceSub, Int.reduceAdd, Int.reduceNeg]; try rfl) (by simp only [go_sem, Nat.reduceEqDiff, reduceIte, Int.reduceEq, Int.reduceLT, Int.reduceLE, Nat.reduceAdd, Nat.reduceLT, Nat.reduceLeDiff, Int.reduceToNat, Int.reduceSub, Int.reduceAdd, Int.reduceNeg]; try rfl)) (fun ρ' L' h => ?_)
  obtain ⟨rfl, h4, h5⟩ := h
  obtain ⟨hq, hl⟩ := errF_quote z
  simp only [h4, h5, go_sem, Nat.reduceEqDiff, reduceIte, Int.reduceEq, Int.reduceLT, Int.reduceLE, Nat.reduceAdd, Nat.reduceLT, Nat.reduceLeDiff, Int.reduceToNat, Int.reduceSub, Int.reduceAdd, Int.reduceNeg]
  refine xcall_pure (args' := [.str (errF z).2]) rfl (quote_pure (E := E.noPan) hP ht (errF z).2 (by omega)) rfl ?_
  rw [hq]
  simp only [h4, h5, go_sem, Nat.reduceEqDiff, reduceIte, Int.reduceEq, Int.reduceLT, Int.reduceLE, Nat.reduceAdd, Nat.reduceLT, Nat.reduceLeDiff, Int.reduceToNat, Int.reduceSub, Int.reduceAdd, Int.reduceNeg]
  refine ⟨by first | omega | (simp; omega), by first | omega | (simp; omega), ?_⟩
  unfold errT
  simp
  exact ⟨rfl, rfl⟩
theorem rerror_pure (hP : E.P = Tryz.prog) (z : Int) : XPure E 14 [.int .i64 z] (.tup [.int .i64 (errF z).1, .str (errT z)]) := by
  refine xpure2 (n := Tryz.f14.ntmps) (c := q14) (t := 2) (t' := 3) (by rw [hP]; rfl) (by rw [hP]; kernel_rfl) (by decide) (Nat.le_of_ble_eq_true rfl) ?_
  generalize hρ : entry _ = ρ
  have h0 : ρ 0 = .int .i64 z := by rw [← hρ]; rfl
  clear hρ
  unfold q14
  simp only [h0, go_sem, Nat.reduceEqDiff, reduceIte, Int.reduceEq, Int.reduceLT, Int.reduceLE, Nat.reduceAdd, Nat.reduceLT, Nat.reduceLeDiff, Int.reduceToNat, Int.reduceSub, Int.reduceAdd, Int.reduceNeg]
  refine xcut_norm _ (z14s_run z (by simp only [h0, go_sem, Nat.reduceEqDiff, reduceIte, Int.reduceEq, Int.reduceLT, Int.reduceLE, Nat.reduceAdd, Nat.reduceLT, Nat.reduceLeDiff, Int.reduceToNat, Int.reduceSub, Int.reduceAdd, Int.reduceNeg]) (by simp only [go_sem, Nat.reduceEqDiff, reduceIte, Int.reduceEq, Int.reduceLT, Int.reduceLE, Nat.reduceAdd, Nat.reduceLT, Nat.reduceLeDiff, Int.reduceToNat, Int.reduceSub, Int.reduceAdd, Int.reduceNeg]; try rfl) (by simp only [go_sem, Nat.reduceEqDiff, reduceIte, Int.reduceEq, Int.reduceLT, Int.reduceLE, Nat.reduceAdd, Nat.reduceLT, Nat.reduceLeDiff, Int.reduceToNat, Int.reduceSub, Int.reduceAdd, Int.reduceNeg]; try rfl)) (fun ρ' L' h => ?_)
  obtain ⟨rfl, h4, h5⟩ := h
  obtain ⟨hq, hl⟩ := errF_quote z
  simp only [h4, h5, go_sem, Nat.reduceEqDiff, reduceIte, Int.reduceEq, Int.reduceLT, Int.reduceLE, Nat.reduceAdd, Nat.reduceLT, Nat.reduceLeDiff, Int.reduceToNat, Int.reduceSub, Int.reduceAdd, Int.reduceNeg]
  refine ⟨by first | omega | (simp; omega), by first | omega | (simp; omega), ?_⟩
  unfold errT
  simp
  exact ⟨rfl, rfl⟩
def queryF (s : List UInt8) : List UInt8 × List UInt8 := ((Lib.cut s [63]).1, (Lib.cut s [63]).2.1)
theorem query_pure (hP : E.P = Tryz.prog) {m : Int} (hm : E.gl 2 = some [.int .i64 m]) (s : List UInt8) (hs : s.length < 4294967281) : XPure E 11 [.str s] (.tup [.str (queryF s).1, .str (queryF s).2]) := by
  refine xpure2 (n := Tryz.f11.ntmps) (c := q11) (t := 2) (t' := 3) (by rw [hP]; rfl) (by rw [hP]; kernel_rfl) (by decide) (Nat.le_of_ble_eq_true rfl) ?_
  generalize hρ : entry _ = ρ
  have h0 : ρ 0 = .str s := by rw [← hρ]; rfl
  clear hρ
  unfold q11
  simp only [h0, go_sem, Nat.reduceEqDiff, reduceIte, Int.reduceEq, Int.reduceLT, Int.reduceLE, Nat.reduceAdd, Nat.reduceLT, Nat.reduceLeDiff, Int.reduceToNat, Int.reduceSub, Int.reduceAdd, Int.reduceNeg]
  refine xcall_pure (args' := [.str s, .str [63]]) rfl (cut_pure (E := E.noPan) hP hm s [63] hs) rfl ?_
  simp only [h0, go_sem, Nat.reduceEqDiff, reduceIte, Int.reduceEq, Int.reduceLT, Int.reduceLE, Nat.reduceAdd, Nat.reduceLT, Nat.reduceLeDiff, Int.reduceToNat, Int.reduceSub, Int.reduceAdd, Int.reduceNeg]
  exact ⟨rfl, rfl⟩
theorem rquery_pure (hP : E.P = Tryz.prog) (s : List UInt8) (hs : s.length ≤ 1000000) : XPure E 12 [.str s] (.tup [.str (queryF s).1, .str (queryF s).2]) := by
  refine xpure2 (n := Tryz.f12.ntmps) (c := q12) (t := 2) (t' := 3) (by rw [hP]; rfl) (by rw [hP]; kernel_rfl) (by decide) (Nat.le_of_ble_eq_true rfl) ?_
  generalize hρ : entry _ = ρ
  have h0 : ρ 0 = .str s := by rw [← hρ]; rfl
  clear hρ
  unfold q12
  simp only [h0, go_sem, Nat.reduceEqDiff, reduceIte, Int.reduceEq, Int.reduceLT, Int.reduceLE, Nat.reduceAdd, Nat.reduceLT, Nat.reduceLeDiff, Int.reduceToNat, Int.reduceSub, Int.reduceAdd, Int.reduceNeg]
  refine xcall_pure (args' := [.str s, .str [63]]) rfl (rindex_pure (E := E.noPan) hP s [63] hs (by simp) (by simp)) rfl ?_
  rcases index_or s [63] with hi | ⟨i, hi, hil⟩
  · have hc := cutL_none hi
    have f1 : ((-1 : Int) < 0) = True := eq_true (by decide)
    have hq : queryF s = (s, []) := by unfold queryF; rw [hc]
    rw [hq, hi]
    simp only [h0, f1, go_sem, Nat.reduceEqDiff, reduceIte, Int.reduceEq, Int.reduceLT, Int.reduceLE, Nat.reduceAdd, Nat.reduceLT, Nat.reduceLeDiff, Int.reduceToNat, Int.reduceSub, Int.reduceAdd, Int.reduceNeg]
    exact ⟨rfl, rfl⟩
  · have hc := cutL_some hi
    have f1 : ((i : Int) < 0) = False := eq_false (by omega)
    have hq : queryF s = (s.take i, s.drop (i + 1)) := by unfold queryF; rw [hc]; rfl
    have hw : IntKind.i64.wrap ((i : Int) + 1) = ((i + 1 : Nat) : Int) := by rw [wrap64 (by omega) (by omega)]; rfl
    rw [hq, hi]
    simp only [h0, f1, hw, go_sem, Nat.reduceEqDiff, reduceIte, Int.reduceEq, Int.reduceLT, Int.reduceLE, Nat.reduceAdd, Nat.reduceLT, Nat.reduceLeDiff, Int.reduceToNat, Int.reduceSub, Int.reduceAdd, Int.reduceNeg]
    exact ⟨by rfl, by omega, by simpa using hil, rfl, rfl⟩
end
end Go.X.TryzW
end
section
open Go Go.X Go.Proofs
set_option maxRecDepth 100000
set_option maxHeartbeats 4000000
set_option linter.unusedSimpArgs false
set_option linter.unusedVariables false
namespace Go.X.TryzW
/- "tiller/front.Reply" params { toList := [3, 9] } results { toList := [Go.ResultVar.tmp 4] } -/
def q6 : XC :=
 (.seq
  (.ops [
    ⟨(some 4), (.mov (.c .nsl)), none⟩])
  (.seq
   (.ops [
     ⟨(some 5), (.mov (.t 0)), none⟩,
     ⟨(some 6), (.call (.f 18) [(.t 5)]), none⟩,
     ⟨(some 7), (.bin .add (.c (.str [72, 84, 84, 80, 47, 49, 46, 49, 32])) (.t 6)), none⟩,
     ⟨(some 8), (.bin .add (.t 7) (.c (.str [32]))), none⟩,
     ⟨(some 9), (.mov (.t 0)), none⟩,
     ⟨(some 10), (.call (.f 19) [(.t 9)]), none⟩,
     ⟨(some 11), (.bin .add (.t 8) (.t 10)), none⟩,
     ⟨(some 12), (.bin .add (.t 11) (.c (.str [13, 10, 67, 111, 110, 116, 101, 110, 116, 45, 76, 101, 110, 103, 116, 104, 58, 32]))), none⟩,
     ⟨(some 13), (.mov (.t 1)), none⟩,
     ⟨(some 14), (.lenS (.t 13)), none⟩,
     ⟨(some 15), (.call (.f 18) [(.t 14)]), none⟩,
     ⟨(some 16), (.bin .add (.t 12) (.t 15)), none⟩,
     ⟨(some 17), (.bin .add (.t 16) (.c (.str [13, 10, 13, 10]))), none⟩,
     ⟨(some 18), (.mov (.t 1)), none⟩,
     ⟨(some 19), (.bin .add (.t 17) (.t 18)), none⟩,
     ⟨(some 20), (.ex (.strB 5) [(.t 19)]), none⟩,
     ⟨(some 4), (.mov (.t 20)), none⟩])
   .ret))

/- "tiller/tillerkeep.SpoilBytes" params { toList := [25] } results { toList := [] } -/
def q10 : XC :=
 (.seq
  (.seq
   (.ops [
     ⟨(some 2), (.mov (.c (.int .i64 0))), none⟩])
   (.block 0
    (.loop
     (.seq
      (.seq
       (.ops [
         ⟨(some 4), (.mov (.t 2)), none⟩,
         ⟨(some 5), (.mov (.t 0)), none⟩,
         ⟨(some 6), (.len (.t 5)), none⟩,
         ⟨(some 7), (.bin .lss (.t 4) (.t 6)), none⟩])
       (.cond (.t 7)
        .skip
        (.exit 0)))
      (.seq
       (.block 1
        (.ops [
          ⟨(some 10), (.mov (.t 0)), none⟩,
          ⟨(some 11), (.mov (.t 2)), none⟩,
          ⟨(some 12), (.mov (.t 0)), none⟩,
          ⟨(some 13), (.mov (.t 2)), none⟩,
          ⟨(some 14), (.idxS 1 (.t 12) (.t 13)), none⟩,
          ⟨(some 15), (.load1 (.t 14)), none⟩,
          ⟨(some 16), (.bin .xor (.t 15) (.c (.int .u8 255))), none⟩,
          ⟨(some 17), (.idxS 1 (.t 10) (.t 11)), none⟩,
          ⟨none, (.store 1 (.t 17) (.t 16)), none⟩]))
       (.ops [
         ⟨(some 8), (.mov (.t 2)), none⟩,
         ⟨(some 9), (.bin .add (.t 8) (.c (.int .i64 1))), none⟩,
         ⟨(some 2), (.mov (.t 9)), none⟩]))))))
  (.seq
   (.ops [
     ⟨(some 3), (.mov (.c (.int .i64 0))), none⟩])
   (.block 2
    (.loop
     (.seq
      (.seq
       (.ops [
         ⟨(some 18), (.mov (.t 3)), none⟩,
         ⟨(some 19), (.bin .lss (.t 18) (.c (.int .i64 40))), none⟩])
       (.cond (.t 19)
        .skip
        (.exit 2)))
      (.seq
       (.block 3
        (.ops [
          ⟨(some 22), (.mov (.t 0)), none⟩,
          ⟨(some 23), (.bslice 1 [(.int .u8 0)] 1 [(0, (.c (.int .u8 85)))]), none⟩,
          ⟨(some 24), (.ex (.appT 5 1) [(.t 22), (.t 23)]), none⟩,
          ⟨(some 0), (.mov (.t 24)), none⟩]))
       (.ops [
         ⟨(some 20), (.mov (.t 3)), none⟩,
         ⟨(some 21), (.bin .add (.t 20) (.c (.int .i64 1))), none⟩,
         ⟨(some 3), (.mov (.t 21)), none⟩])))))))

section
variable {E : Env} {L : List Blk} {K : IV → List Blk → Prop}
theorem digits_any (hP : E.P = Tryz.prog) (z : Int) (h0 : -9223372036854775808 ≤ z) (h1 : z ≤ 9223372036854775807) : XPure E 26 [.int .i64 z] (.str (Lib.itoa z)) := by
  unfold Lib.itoa
  by_cases hz : z < 0
  · rw [if_pos hz]
    obtain ⟨N, hN⟩ : ∃ N : Nat, z = -((N : Nat) : Int) := ⟨(-z).toNat, by omega⟩
    subst hN
    have := digits_neg (E := E) hP N (by omega) (by omega)
    rwa [show (-((N : Nat) : Int)).natAbs = N by omega]
  · rw [if_neg hz]
    obtain ⟨N, rfl⟩ : ∃ N : Nat, z = N := ⟨z.toNat, by omega⟩
    have := digits_pure (E := E) hP N (by omega) (by omega)
    rwa [show ((N : Nat) : Int).toNat = N by omega]
theorem itoa_len (z : Int) (h0 : -9223372036854775808 ≤ z) (h1 : z ≤ 9223372036854775807) : (Lib.itoa z).length ≤ 21 := by
  unfold Lib.itoa
  split
  · have := dec_len20 (N := z.natAbs) (by omega)
    rw [List.length_cons]; omega
  · have := dec_len20 (N := z.toNat) (by omega)
    omega
theorem word_len (z : Int) : (wordF z).length ≤ 40 := by
  unfold wordF
  repeat' split
  all_goals simp
def replyF (z : Int) (b : List UInt8) : List UInt8 := [72, 84, 84, 80, 47, 49, 46, 49, 32] ++ Lib.itoa z ++ [32] ++ wordF z ++ [13, 10, 67, 111, 110, 116, 101, 110, 116, 45, 76, 101, 110, 103, 116, 104, 58, 32] ++ Lib.itoa b.length ++ [13, 10, 13, 10] ++ b
theorem reply_ne (z : Int) (b : List UInt8) : replyF z b ≠ [] := by unfold replyF; simp
theorem reply_len (z : Int) (b : List UInt8) (h0 : -9223372036854775808 ≤ z) (h1 : z ≤ 9223372036854775807) (hb : b.length ≤ 1000000) : (replyF z b).length ≤ 1000200 := by
  have a1 := itoa_len z h0 h1
  have a2 := word_len z
  have a3 := itoa_len (b.length : Int) (by omega) (by omega)
  unfold replyF
  simp only [List.length_append, List.length_cons, List.length_nil]
  omega
theorem reply_eq (z : Int) (b : List UInt8) : 72 :: 84 :: 84 :: 80 :: 47 :: 49 :: 46 :: 49 :: 32 :: (Lib.itoa z ++ [32] ++ wordF z ++ [13, 10, 67, 111, 110, 116, 101, 110, 116, 45, 76, 101, 110, 103, 116, 104, 58, 32] ++ Lib.itoa (b.length : Int) ++ [13, 10, 13, 10] ++ b) = replyF z b := by
  unfold replyF; simp
theorem conv_bytes1 {ty t n : Nat} {bs : List UInt8} (hn : n = bs.length) (hL : L[t]? = some (.tcells ty 1 (bytesRows bs))) : conv L fuel renFreeze (.sl t 0 n n) = some (.isl (bytesRows bs)) := by
  have h := conv_bytesT (L := L) hn hL
  simp only [mapO] at h
  cases hc : conv L fuel renFreeze (.sl t 0 n n) with
  | none => rw [hc] at h; cases h
  | some y => rw [hc] at h; simpa using h
theorem reply_own (hP : E.P = Tryz.prog) (ht : ∀ w, E.G w → Lib.TabIs Tryz.prog w "internal/strconv.uint64pow10" .u64 Lib.pow10Tab) (z : Int) (b : List UInt8) (h0' : -9223372036854775808 ≤ z) (h1' : z ≤ 9223372036854775807) (hb : b.length ≤ 1000000) :
    XT E 6 [.int .i64 z, .str b] [] fun r L1 => r = .sl 0 0 (replyF z b).length (replyF z b).length ∧ L1 = [.tcells 5 1 (bytesRows (replyF z b))] := by
  refine xown1 (n := Tryz.f6.ntmps) (c := q6) (t := 4) (by rw [hP]; rfl) (by rw [hP]; kernel_rfl) (by decide) (Nat.le_of_ble_eq_true rfl) ?_
  generalize hρ : entry _ = ρ
  have h0 : ρ 0 = .int .i64 z := by rw [← hρ]; rfl
  have h1 : ρ 1 = .str b := by rw [← hρ]; rfl
  clear hρ
  unfold q6
  have a1 := itoa_len z h0' h1'
  have a2 := word_len z
  have a3 := itoa_len (b.length : Int) (by omega) (by omega)
  simp only [h0, h1, go_sem, Nat.reduceEqDiff, reduceIte, Int.reduceEq, Int.reduceLT, Int.reduceLE, Nat.reduceAdd, Nat.reduceLT, Nat.reduceLeDiff, Int.reduceToNat, Int.reduceSub, Int.reduceAdd, Int.reduceNeg]
  refine xcall_pure (args' := [.int .i64 z]) rfl (itoa_pure (E := E.noPan) hP ht z h0' h1') rfl ?_
  simp only [h0, h1, go_sem, Nat.reduceEqDiff, reduceIte, Int.reduceEq, Int.reduceLT, Int.reduceLE, Nat.reduceAdd, Nat.reduceLT, Nat.reduceLeDiff, Int.reduceToNat, Int.reduceSub, Int.reduceAdd, Int.reduceNeg]
  refine ⟨by omega, by omega, ?_⟩
  refine xcall_pure (args' := [.int .i64 z]) rfl (word_pure (E := E.noPan) hP z) rfl ?_
  simp only [h0, h1, go_sem, Nat.reduceEqDiff, reduceIte, Int.reduceEq, Int.reduceLT, Int.reduceLE, Nat.reduceAdd, Nat.reduceLT, Nat.reduceLeDiff, Int.reduceToNat, Int.reduceSub, Int.reduceAdd, Int.reduceNeg]
  refine ⟨by first | omega | (simp; omega), by first | omega | (simp; omega), ?_⟩
  refine xcall_pure (args' := [.int .i64 (b.length : Int)]) rfl (itoa_pure (E := E.noPan) hP ht (b.length : Int) (by omega) (by omega)) rfl ?_
  simp only [h0, h1, go_sem, Nat.reduceEqDiff, reduceIte, Int.reduceEq, Int.reduceLT, Int.reduceLE, Nat.reduceAdd, Nat.reduceLT, Nat.reduceLeDiff, Int.reduceToNat, Int.reduceSub, Int.reduceAdd, Int.reduceNeg]
  refine ⟨by simp; omega, by simp; omega, by simp; omega, ?_⟩
  rw [reply_eq]
  refine leave_all (keep := [0]) (r' := .sl 0 0 (replyF z b).length (replyF z b).length) (L'' := [.tcells 5 1 (bytesRows (replyF z b))]) ?_ ?_ ?_ ?_ ?_
  · simp
  · simp
  · rfl
  case refine_5 => exact ⟨rfl, rfl⟩
  show mapO (convB _ 12 _) [.tcells 5 1 (bytesRows (replyF z b))] = _
  simp only [mapO, convB_bytes]
theorem rreply_pure (hP : E.P = Tryz.prog) (z : Int) (b : List UInt8) (h0' : -9223372036854775808 ≤ z) (h1' : z ≤ 9223372036854775807) (hb : b.length ≤ 1000000) : XPure E 9 [.int .i64 z, .str b] (.isl (bytesRows (replyF z b))) := by
  refine xpure1 (n := Tryz.f9.ntmps) (c := q9) (t := 4) (by rw [hP]; rfl) (by rw [hP]; kernel_rfl) (by decide) (Nat.le_of_ble_eq_true rfl) ?_
  generalize hρ : entry _ = ρ
  have h0 : ρ 0 = .int .i64 z := by rw [← hρ]; rfl
  have h1 : ρ 1 = .str b := by rw [← hρ]; rfl
  clear hρ
  unfold q9
  have a1 := itoa_len z h0' h1'
  have a2 := word_len z
  have a3 := itoa_len (b.length : Int) (by omega) (by omega)
  simp only [h0, h1, go_sem, Nat.reduceEqDiff, reduceIte, Int.reduceEq, Int.reduceLT, Int.reduceLE, Nat.reduceAdd, Nat.reduceLT, Nat.reduceLeDiff, Int.reduceToNat, Int.reduceSub, Int.reduceAdd, Int.reduceNeg]
  refine xcut_norm _ (z9s_run z b (by simp only [h0, h1, go_sem, Nat.reduceEqDiff, reduceIte, Int.reduceEq, Int.reduceLT, Int.reduceLE, Nat.reduceAdd, Nat.reduceLT, Nat.reduceLeDiff, Int.reduceToNat, Int.reduceSub, Int.reduceAdd, Int.reduceNeg]) (by simp only [h0, h1, go_sem, Nat.reduceEqDiff, reduceIte, Int.reduceEq, Int.reduceLT, Int.reduceLE, Nat.reduceAdd, Nat.reduceLT, Nat.reduceLeDiff, Int.reduceToNat, Int.reduceSub, Int.reduceAdd, Int.reduceNeg]) (by simp only [go_sem, Nat.reduceEqDiff, reduceIte, Int.reduceEq, Int.reduceLT, Int.reduceLE, Nat.reduceAdd, Nat.reduceLT, Nat.reduceLeDiff, Int.reduceToNat, Int.reduceSub, Int.reduceAdd, Int.reduceNeg]; try rfl)) (fun ρ' L' h => ?_)
  obtain ⟨rfl, k0, k1, k5⟩ := h
  simp only [k0, k1, k5, go_sem, Nat.reduceEqDiff, reduceIte, Int.reduceEq, Int.reduceLT, Int.reduceLE, Nat.reduceAdd, Nat.reduceLT, Nat.reduceLeDiff, Int.reduceToNat, Int.reduceSub, Int.reduceAdd, Int.reduceNeg]
  refine xcall_pure (args' := [.int .i64 z]) rfl (digits_any (E := E.noPan) hP z h0' h1') rfl ?_
  simp only [k0, k1, k5, go_sem, Nat.reduceEqDiff, reduceIte, Int.reduceEq, Int.reduceLT, Int.reduceLE, Nat.reduceAdd, Nat.reduceLT, Nat.reduceLeDiff, Int.reduceToNat, Int.reduceSub, Int.reduceAdd, Int.reduceNeg]
  refine ⟨by first | omega | (simp; omega), by first | omega | (simp; omega), by first | omega | (simp; omega), by first | omega | (simp; omega), ?_⟩
  refine xcall_pure (args' := [.int .i64 (b.length : Int)]) rfl (digits_any (E := E.noPan) hP (b.length : Int) (by omega) (by omega)) rfl ?_
  simp only [k0, k1, k5, go_sem, Nat.reduceEqDiff, reduceIte, Int.reduceEq, Int.reduceLT, Int.reduceLE, Nat.reduceAdd, Nat.reduceLT, Nat.reduceLeDiff, Int.reduceToNat, Int.reduceSub, Int.reduceAdd, Int.reduceNeg]
  refine ⟨by simp; omega, by simp; omega, by simp; omega, ?_⟩
  rw [reply_eq]
  exact conv_bytes1 (ty := 5) (by rw [← reply_eq]; rfl) rfl
end
end Go.X.TryzW
end
section
open Go Go.X Go.Proofs
set_option maxRecDepth 100000
set_option maxHeartbeats 4000000
set_option linter.unusedSimpArgs false
set_option linter.unusedVariables false
namespace Go.X.TryzW
/- "tiller/tillerref13.Quote" params { toList := [9] } results { toList := [Go.ResultVar.tmp 2] } -/
def q8 : XC :=
 (.seq
  (.ops [
    ⟨(some 2), (.mov (.c (.str []))), none⟩])
  (.seq
   (.ops [
     ⟨(some 7), (.bslice 1 [(.int .u8 0)] 1 [(0, (.c (.int .u8 34)))]), none⟩,
     ⟨(some 3), (.mov (.t 7)), none⟩])
   (.seq
    (.seq
     (.ops [
       ⟨(some 4), (.mov (.c (.int .i64 0))), none⟩])
     (.block 0
      (.loop
       (.seq
        (.seq
         (.ops [
           ⟨(some 8), (.mov (.t 4)), none⟩,
           ⟨(some 9), (.mov (.t 0)), none⟩,
           ⟨(some 10), (.lenS (.t 9)), none⟩,
           ⟨(some 11), (.bin .lss (.t 8) (.t 10)), none⟩])
         (.cond (.t 11)
          .skip
          (.exit 0)))
        (.block 1
         (.seq
          (.ops [
            ⟨(some 12), (.mov (.t 0)), none⟩,
            ⟨(some 13), (.mov (.t 4)), none⟩,
            ⟨(some 14), (.call (.f 25) [(.t 12), (.t 13)]), none⟩,
            ⟨(some 5), (.mov (.t 14)), none⟩])
          (.seq
           (.ops [
             ⟨(some 15), (.mov (.t 0)), none⟩,
             ⟨(some 16), (.mov (.t 4)), none⟩,
             ⟨(some 17), (.idx (.t 15) (.t 16)), none⟩,
             ⟨(some 6), (.mov (.t 17)), none⟩])
           (.seq
            (.block 2
             (.seq
              (.ops [
                ⟨(some 27), (.mov (.t 5)), none⟩,
                ⟨(some 28), (.bin .eql (.t 27) (.c (.int .i64 0))), none⟩,
                ⟨(some 26), (.mov (.t 28)), none⟩])
              (.cond (.t 26)
               (.seq
                (.ops [
                  ⟨(some 29), (.mov (.t 3)), none⟩,
                  ⟨(some 30), (.ex (.appT 5 1) [(.t 29), (.c (.str [92, 117, 102, 102, 102, 100]))]), none⟩,
                  ⟨(some 3), (.mov (.t 30)), none⟩])
                (.ops [
                  ⟨(some 5), (.mov (.c (.int .i64 1))), none⟩]))
               (.seq
                (.ops [
                  ⟨(some 32), (.mov (.t 6)), none⟩,
                  ⟨(some 33), (.bin .eql (.t 32) (.c (.int .u8 34))), none⟩,
                  ⟨(some 34), (.mov (.t 33)), none⟩,
                  ⟨(some 35), (.mov (.t 6)), (some (34, false))⟩,
                  ⟨(some 36), (.bin .eql (.t 35) (.c (.int .u8 92))), (some (34, false))⟩,
                  ⟨(some 37), (.pick (.t 34) (.c (.bool true)) (.t 36)), none⟩,
                  ⟨(some 31), (.mov (.t 37)), none⟩])
                (.cond (.t 31)
                 (.ops [
                   ⟨(some 38), (.mov (.t 3)), none⟩,
                   ⟨(some 39), (.mov (.t 6)), none⟩,
                   ⟨(some 40), (.bslice 1 [(.int .u8 0)] 2 [(0, (.c (.int .u8 92))), (1, (.t 39))]), none⟩,
                   ⟨(some 41), (.ex (.appT 5 1) [(.t 38), (.t 40)]), none⟩,
                   ⟨(some 3), (.mov (.t 41)), none⟩])
                 (.seq
                  (.ops [
                    ⟨(some 43), (.mov (.t 6)), none⟩,
                    ⟨(some 44), (.bin .eql (.t 43) (.c (.int .u8 8))), none⟩,
                    ⟨(some 42), (.mov (.t 44)), none⟩])
                  (.cond (.t 42)
                   (.ops [
                     ⟨(some 45), (.mov (.t 3)), none⟩,
                     ⟨(some 46), (.ex (.appT 5 1) [(.t 45), (.c (.str [92, 98]))]), none⟩,
                     ⟨(some 3), (.mov (.t 46)), none⟩])
                   (.seq
                    (.ops [
                      ⟨(some 48), (.mov (.t 6)), none⟩,
                      ⟨(some 49), (.bin .eql (.t 48) (.c (.int .u8 12))), none⟩,
                      ⟨(some 47), (.mov (.t 49)), none⟩])
                    (.cond (.t 47)
                     (.ops [
                       ⟨(some 50), (.mov (.t 3)), none⟩,
                       ⟨(some 51), (.ex (.appT 5 1) [(.t 50), (.c (.str [92, 102]))]), none⟩,
                       ⟨(some 3), (.mov (.t 51)), none⟩])
                     (.seq
                      (.ops [
                        ⟨(some 53), (.mov (.t 6)), none⟩,
                        ⟨(some 54), (.bin .eql (.t 53) (.c (.int .u8 10))), none⟩,
                        ⟨(some 52), (.mov (.t 54)), none⟩])
                      (.cond (.t 52)
                       (.ops [
                         ⟨(some 55), (.mov (.t 3)), none⟩,
                         ⟨(some 56), (.ex (.appT 5 1) [(.t 55), (.c (.str [92, 110]))]), none⟩,
                         ⟨(some 3), (.mov (.t 56)), none⟩])
                       (.seq
                        (.ops [
                          ⟨(some 58), (.mov (.t 6)), none⟩,
                          ⟨(some 59), (.bin .eql (.t 58) (.c (.int .u8 13))), none⟩,
                          ⟨(some 57), (.mov (.t 59)), none⟩])
                        (.cond (.t 57)
                         (.ops [
                           ⟨(some 60), (.mov (.t 3)), none⟩,
                           ⟨(some 61), (.ex (.appT 5 1) [(.t 60), (.c (.str [92, 114]))]), none⟩,
                           ⟨(some 3), (.mov (.t 61)), none⟩])
                         (.seq
                          (.ops [
                            ⟨(some 63), (.mov (.t 6)), none⟩,
                            ⟨(some 64), (.bin .eql (.t 63) (.c (.int .u8 9))), none⟩,
                            ⟨(some 62), (.mov (.t 64)), none⟩])
                          (.cond (.t 62)
                           (.ops [
                             ⟨(some 65), (.mov (.t 3)), none⟩,
                             ⟨(some 66), (.ex (.appT 5 1) [(.t 65), (.c (.str [92, 116]))]), none⟩,
                             ⟨(some 3), (.mov (.t 66)), none⟩])
                           (.seq
                            (.ops [
                              ⟨(some 68), (.mov (.t 6)), none⟩,
                              ⟨(some 69), (.bin .lss (.t 68) (.c (.int .u8 32))), none⟩,
                              ⟨(some 67), (.mov (.t 69)), none⟩])
                            (.cond (.t 67)
                             (.seq
                              (.ops [
                                ⟨(some 70), (.mov (.t 3)), none⟩,
                                ⟨(some 71), (.ex (.appT 5 1) [(.t 70), (.c (.str [92, 117, 48, 48]))]), none⟩,
                                ⟨(some 3), (.mov (.t 71)), none⟩])
                              (.drawE [
                                ⟨(some 72), (.mov (.t 3)), none⟩,
                                ⟨(some 73), (.mov (.t 6)), none⟩,
                                ⟨(some 74), (.bin .quo (.t 73) (.c (.int .u8 16))), none⟩,
                                ⟨(some 75), (.idx (.c (.str [48, 49, 50, 51, 52, 53, 54, 55, 56, 57, 97, 98, 99, 100, 101, 102])) (.t 74)), none⟩,
                                ⟨(some 76), (.mov (.t 6)), none⟩,
                                ⟨(some 77), (.bin .rem (.t 76) (.c (.int .u8 16))), none⟩,
                                ⟨(some 78), (.idx (.c (.str [48, 49, 50, 51, 52, 53, 54, 55, 56, 57, 97, 98, 99, 100, 101, 102])) (.t 77)), none⟩,
                                ⟨(some 79), (.bslice 1 [(.int .u8 0)] 2 [(0, (.t 75)), (1, (.t 78))]), none⟩,
                                ⟨(some 80), (.ex (.appT 5 1) [(.t 72), (.t 79)]), none⟩,
                                ⟨(some 3), (.mov (.t 80)), none⟩]))
                             (.ops [
                               ⟨(some 18), (.mov (.t 3)), none⟩,
                               ⟨(some 19), (.mov (.t 0)), none⟩,
                               ⟨(some 20), (.mov (.t 4)), none⟩,
                               ⟨(some 21), (.mov (.t 4)), none⟩,
                               ⟨(some 22), (.mov (.t 5)), none⟩,
                               ⟨(some 23), (.bin .add (.t 21) (.t 22)), none⟩,
                               ⟨(some 24), (.sliceS (.t 19) (some (.t 20)) (some (.t 23))), none⟩,
                               ⟨(some 25), (.ex (.appT 5 1) [(.t 18), (.t 24)]), none⟩,
                               ⟨(some 3), (.mov (.t 25)), none⟩]))))))))))))))))))
            (.ops [
              ⟨(some 81), (.mov (.t 4)), none⟩,
              ⟨(some 82), (.mov (.t 5)), none⟩,
              ⟨(some 83), (.bin .add (.t 81) (.t 82)), none⟩,
              ⟨(some 4), (.mov (.t 83)), none⟩])))))))))
    (.seq
     (.ops [
       ⟨(some 84), (.mov (.t 3)), none⟩,
       ⟨(some 85), (.bslice 1 [(.int .u8 0)] 1 [(0, (.c (.int .u8 34)))]), none⟩,
       ⟨(some 86), (.ex (.appT 5 1) [(.t 84), (.t 85)]), none⟩,
       ⟨(some 87), (.ex .bStr [(.t 86)]), none⟩,
       ⟨(some 2), (.mov (.t 87)), none⟩])
     .ret))))

section
variable {E : Env} {L : List Blk} {K : IV → List Blk → Prop}
theorem bytesRows_set (l : List UInt8) (i : Nat) (c : UInt8) : (bytesRows l).set i [.int .u8 (c.toNat : Int)] = bytesRows (l.set i c) := by simp [bytesRows, List.map_set]
theorem bytesRows_get {l : List UInt8} {i : Nat} (h : i < l.length) : (bytesRows l).getD i [] = [.int .u8 ((l.getD i 0).toNat : Int)] := by
  unfold bytesRows
  rw [List.getD_eq_getElem?_getD, List.getElem?_map, List.getElem?_eq_getElem h, List.getD_eq_getElem?_getD, List.getElem?_eq_getElem h]; rfl
theorem xor_byte (x : Int) : ∃ c : UInt8, IntKind.u8.wrap ((BitVec.ofInt 8 x ^^^ BitVec.ofInt 8 255).toNat : Int) = (c.toNat : Int) := by
  have hlt := (BitVec.ofInt 8 x ^^^ BitVec.ofInt 8 255).isLt
  refine ⟨UInt8.ofNat (BitVec.ofInt 8 x ^^^ BitVec.ofInt 8 255).toNat, ?_⟩
  rw [u8n _ (by omega), UInt8.toNat_ofNat', Nat.mod_eq_of_lt (by omega)]
/-- A slice of bytes of ours, full. -/
def Out (L : List Blk) (sv : IV) (bs : List UInt8) : Prop := ∃ t, sv = .sl t 0 bs.length bs.length ∧ t < L.length ∧ (L[t]? = some (.cells 1 (bytesRows bs)) ∨ L[t]? = some (.tcells 5 1 (bytesRows bs)))
theorem Out.app {sv : IV} {bs : List UInt8} {b : Blk} (h : Out L sv bs) : Out (L ++ [b]) sv bs := by
  obtain ⟨t, h1, h2, h3⟩ := h
  refine ⟨t, h1, by rw [List.length_append]; omega, ?_⟩
  rw [List.getElem?_append_left h2]; exact h3
theorem app_out {sv xv : IV} {bs x : List UInt8} {g : Nat} (h : Out L sv bs) (hx : rowsOf L xv = some (bytesRows x)) (hg : g = L.length) (hne : x ≠ []) (hb : bs.length + x.length ≤ 70368744177664)
    (hk : ∀ L' sv', Out L' sv' (bs ++ x) → (0 < L.length → ∀ k, L[0]? = some k → L'[0]? = some k ∨ L'[0]? = some .dead) → K sv' L') : xappT 5 1 sv xv g L K := by
  obtain ⟨t, rfl, ht, h3⟩ := h
  have hz : ∀ (b : Blk), 0 < L.length → ∀ k, L[0]? = some k → (L.set t .dead ++ [b])[0]? = some k ∨ (L.set t .dead ++ [b])[0]? = some .dead := fun b h0 k hk => by
    rw [List.getElem?_append_left (by rw [List.length_set]; exact h0)]
    by_cases h : t = 0
    · subst h; right; exact List.getElem?_set_self h0
    · left; rw [List.getElem?_set_ne h]; exact hk
  rcases h3 with h3 | h3
  · refine appG_cells rfl h3 hx hg hne hb (hk _ _ ⟨g, by rw [List.length_append], by rw [List.length_append, List.length_set, hg]; simp, .inl ?_⟩ (hz _))
    rw [hg, List.getElem?_append_right (by rw [List.length_set]; exact Nat.le_refl _), List.length_set, Nat.sub_self]; rfl
  · refine appG_used rfl h3 hx hg hne hb (hk _ _ ⟨g, by rw [List.length_append], by rw [List.length_append, List.length_set, hg]; simp, .inr ?_⟩ (hz _))
    rw [hg, List.getElem?_append_right (by rw [List.length_set]; exact Nat.le_refl _), List.length_set, Nat.sub_self]; rfl
theorem out_bytes {sv : IV} {bs : List UInt8} (h : Out L sv bs) : (rowsSl L sv).bind (mapO byteOf) = some bs := by
  obtain ⟨t, rfl, ht, h3⟩ := h
  have : rowsSl L (.sl t 0 bs.length bs.length) = some (bytesRows bs) := by
    unfold rowsSl rowsOf
    rcases h3 with h3 | h3
    · simp only [h3]
      rw [if_pos (by rw [bytesRows_len]; omega), List.drop_zero, List.take_of_length_le (by rw [bytesRows_len]; exact Nat.le_refl _)]
    · simp only [h3]
      rw [if_pos (by rw [bytesRows_len]; omega), List.drop_zero, List.take_of_length_le (by rw [bytesRows_len]; exact Nat.le_refl _)]
  rw [this]
  exact bytesRows_of bs
theorem spoil_own (hP : E.P = Tryz.prog) (bs : List UInt8) (hb : bs.length ≤ 2000000) : XT E 10 [.sl 0 0 bs.length bs.length] [.tcells 5 1 (bytesRows bs)] fun r L1 => r = .tup [] ∧ ∃ k, L1 = [k] ∧ ((∃ bs', k = .tcells 5 1 (bytesRows bs')) ∨ k = .dead) := by
  refine xt_of_fun (F := ⟨Tryz.f10.ntmps, [], q10⟩) (by rw [hP]; rfl) (by rw [hP]; kernel_rfl) (by decide) (Nat.le_of_ble_eq_true rfl) (xfun0 ?_)
  generalize hρ : entry _ = ρ
  have h0 : ρ 0 = .sl 0 0 bs.length bs.length := by rw [← hρ]; rfl
  clear hρ
  unfold q10
  simp only [h0, go_sem, Nat.reduceEqDiff, reduceIte, Int.reduceEq, Int.reduceLT, Int.reduceLE, Nat.reduceAdd, Nat.reduceLT, Nat.reduceLeDiff, Int.reduceToNat, Int.reduceSub, Int.reduceAdd, Int.reduceNeg]
  refine xrun_cut (fun e ρ' L' => e = .exit 0 ∧ ∃ bs' : List UInt8, bs'.length = bs.length ∧ ρ' 0 = .sl 0 0 bs.length bs.length ∧ L' = [.tcells 5 1 (bytesRows bs')]) ?_ ?_
  · refine s_loop (fun n ρ L => ∃ (i : Nat) (bs' : List UInt8), i ≤ bs.length ∧ n = bs.length - i ∧ bs'.length = bs.length ∧ ρ 0 = .sl 0 0 bs.length bs.length ∧ ρ 2 = .int .i64 i ∧ L = [.tcells 5 1 (bytesRows bs')]) (n := bs.length)
      ⟨0, bs, Nat.zero_le _, rfl, rfl, by simp only [h0, go_sem, Nat.reduceEqDiff, reduceIte, Int.reduceEq, Int.reduceLT, Int.reduceLE, Nat.reduceAdd, Nat.reduceLT, Nat.reduceLeDiff, Int.reduceToNat, Int.reduceSub, Int.reduceAdd, Int.reduceNeg], by simp only [go_sem, Nat.reduceEqDiff, reduceIte, Int.reduceEq, Int.reduceLT, Int.reduceLE, Nat.reduceAdd, Nat.reduceLT, Nat.reduceLeDiff, Int.reduceToNat, Int.reduceSub, Int.reduceAdd, Int.reduceNeg]; try rfl, rfl⟩ ?_
    clear h0 ρ
    rintro n ρ L ⟨i, bs', hi, rfl, hl, h0, h2, rfl⟩
    by_cases hil : i < bs.length
    case neg =>
      have e1 : ((i : Int) < (bs.length : Int)) = False := eq_false (by omega)
      simp only [h0, h2, e1, go_sem, Nat.reduceEqDiff, reduceIte, Int.reduceEq, Int.reduceLT, Int.reduceLE, Nat.reduceAdd, Nat.reduceLT, Nat.reduceLeDiff, Int.reduceToNat, Int.reduceSub, Int.reduceAdd, Int.reduceNeg]
      exact ⟨bs', hl, rfl⟩
    have e1 : ((i : Int) < (bs.length : Int)) = True := eq_true (by omega)
    have e0 : ((0 : Int) ≤ (i : Int)) = True := eq_true (by omega)
    have hg := bytesRows_get (l := bs') (i := i) (by omega)
    have hw : IntKind.i64.wrap ((i : Int) + 1) = ((i + 1 : Nat) : Int) := by rw [wrap64 (by omega) (by omega)]; rfl
    simp only [h0, h2, e0, e1, bytesRows_len, hg, go_sem, Nat.reduceEqDiff, reduceIte, Int.reduceEq, Int.reduceLT, Int.reduceLE, Nat.reduceAdd, Nat.reduceLT, Nat.reduceLeDiff, Int.reduceToNat, Int.reduceSub, Int.reduceAdd, Int.reduceNeg]
    obtain ⟨c, hc⟩ := xor_byte ((bs'.getD i 0).toNat : Int)
    first | refine ⟨by omega, by simp, ?_⟩ | refine ⟨by omega, ?_⟩
    have hc' : IntKind.u8.wrap ((BitVec.ofInt IntKind.u8.bits ((bs'.getD i 0).toNat : Int) ^^^ BitVec.ofInt IntKind.u8.bits 255).toNat : Int) = (c.toNat : Int) := hc
    simp only [h0, h2, e0, e1, bytesRows_len, hg, hc, hw, go_sem, Nat.reduceEqDiff, reduceIte, Int.reduceEq, Int.reduceLT, Int.reduceLE, Nat.reduceAdd, Nat.reduceLT, Nat.reduceLeDiff, Int.reduceToNat, Int.reduceSub, Int.reduceAdd, Int.reduceNeg]
    refine ⟨by omega, bs.length - (i + 1), by omega, i + 1, bs'.set i c, by omega, rfl, (by rw [List.length_set]; exact hl), rfl, ?_⟩
    exact (congrArg (fun r => [Blk.tcells 5 1 ((bytesRows bs').set i [IV.int IntKind.u8 r])]) hc).trans (by rw [bytesRows_set])
  rintro e ρ1 L1 ⟨rfl, bs', hl, k0, rfl⟩
  clear h0 ρ
  simp only [k0, go_sem, Nat.reduceEqDiff, reduceIte, Int.reduceEq, Int.reduceLT, Int.reduceLE, Nat.reduceAdd, Nat.reduceLT, Nat.reduceLeDiff, Int.reduceToNat, Int.reduceSub, Int.reduceAdd, Int.reduceNeg]
  refine xrun_cut (fun e ρ' L' => e = .exit 2 ∧ ∃ k, L'[0]? = some k ∧ (k = .tcells 5 1 (bytesRows bs') ∨ k = .dead)) ?_ ?_
  rotate_left
  · rintro e ρ L ⟨rfl, k, hk, hd⟩
    simp only [go_sem, Nat.reduceEqDiff, reduceIte, Int.reduceEq, Int.reduceLT, Int.reduceLE, Nat.reduceAdd, Nat.reduceLT, Nat.reduceLeDiff, Int.reduceToNat, Int.reduceSub, Int.reduceAdd, Int.reduceNeg]
    have htk : L.take 1 = [k] := by
      cases L with
      | nil => simp at hk
      | cons a l => simp at hk; subst hk; rfl
    refine leave_all (keep := []) (r' := .tup []) (L'' := [k]) .nil (by simp) rfl ?_ ⟨rfl, k, rfl, hd.imp (fun h => ⟨_, h⟩) id⟩
    rw [htk]
    show mapO (convB L 12 _) [k] = _
    rcases hd with rfl | rfl
    · simp only [mapO, convB_bytes]
    · rfl
  refine s_loop (fun n ρ L => ∃ (i : Nat) (sv : IV) (bs' : List UInt8) (k : Blk), i ≤ 40 ∧ n = 40 - i ∧ bs'.length ≤ 2000000 + i ∧ ρ 0 = sv ∧ ρ 3 = .int .i64 i ∧ Out L sv bs' ∧ L[0]? = some k ∧ (k = .tcells 5 1 (bytesRows _) ∨ k = .dead)) (n := 40)
    ⟨0, .sl 0 0 bs.length bs.length, bs', _, Nat.zero_le _, rfl, by omega, by simp only [k0, go_sem, Nat.reduceEqDiff, reduceIte, Int.reduceEq, Int.reduceLT, Int.reduceLE, Nat.reduceAdd, Nat.reduceLT, Nat.reduceLeDiff, Int.reduceToNat, Int.reduceSub, Int.reduceAdd, Int.reduceNeg], by simp only [go_sem, Nat.reduceEqDiff, reduceIte, Int.reduceEq, Int.reduceLT, Int.reduceLE, Nat.reduceAdd, Nat.reduceLT, Nat.reduceLeDiff, Int.reduceToNat, Int.reduceSub, Int.reduceAdd, Int.reduceNeg]; try rfl, ⟨0, by rw [hl], by simp, .inr rfl⟩, rfl, .inl rfl⟩ ?_
  clear k0 ρ1
  rintro n ρ L ⟨i, sv, bs2, k, hi, rfl, hl2, h0, h3, hO, hk, hd⟩
  by_cases hil : i < 40
  case neg =>
    have e1 : ((i : Int) < 40) = False := eq_false (by omega)
    simp only [h0, h3, e1, go_sem, Nat.reduceEqDiff, reduceIte, Int.reduceEq, Int.reduceLT, Int.reduceLE, Nat.reduceAdd, Nat.reduceLT, Nat.reduceLeDiff, Int.reduceToNat, Int.reduceSub, Int.reduceAdd, Int.reduceNeg]
    exact ⟨k, hk, hd⟩
  have e1 : ((i : Int) < 40) = True := eq_true (by omega)
  have hw : IntKind.i64.wrap ((i : Int) + 1) = ((i + 1 : Nat) : Int) := by rw [wrap64 (by omega) (by omega)]; rfl
  simp only [h0, h3, e1, go_sem, Nat.reduceEqDiff, reduceIte, Int.reduceEq, Int.reduceLT, Int.reduceLE, Nat.reduceAdd, Nat.reduceLT, Nat.reduceLeDiff, Int.reduceToNat, Int.reduceSub, Int.reduceAdd, Int.reduceNeg]
  have hlen0 : 0 < L.length := by cases L with
    | nil => simp at hk
    | cons => simp
  refine app_out (x := [85]) hO.app (by simp [rowsOf]; rfl) rfl (by simp) (by simp; omega) fun L3 sv3 hO3 hz3 => ?_
  have hk3 := hz3 (by simp) k (by rw [List.getElem?_append_left hlen0]; exact hk)
  rw [hw]
  rcases hk3 with hk3 | hk3
  · exact ⟨40 - (i + 1), by omega, i + 1, sv3, _, k, by omega, rfl, by rw [List.length_append]; simp; omega, rfl, rfl, hO3, hk3, hd⟩
  · exact ⟨40 - (i + 1), by omega, i + 1, sv3, _, .dead, by omega, rfl, by rw [List.length_append]; simp; omega, rfl, rfl, hO3, hk3, .inr rfl⟩

/-! ### The reference's Quote -/
def SQ (s : List UInt8) (i : Nat) (out : List UInt8) : Prop := out ++ quoteGo (s.drop i).length (s.drop i) = 34 :: quoteGo s.length s
theorem ch_none : ∀ c : Fin 32, ¬ (c.val = 8 ∨ c.val = 12 ∨ c.val = 10 ∨ c.val = 13 ∨ c.val = 9) → qL.findIdx? (fun b => decide (b.toNat = c.val)) = none := by decide +kernel
theorem hex_at : ∀ d : Fin 16, (([48, 49, 50, 51, 52, 53, 54, 55, 56, 57, 97, 98, 99, 100, 101, 102] : List UInt8).getD d.val 0) = Fr.hexD.getD d.val 0 := by decide
theorem rquote_pure (hP : E.P = Tryz.prog) (s : List UInt8) (hs : s.length ≤ 1000000) : XPure E 8 [.str s] (.str (quoteF s)) := by
  refine xpure1 (n := Tryz.f8.ntmps) (c := q8) (t := 2) (by rw [hP]; rfl) (by rw [hP]; kernel_rfl) (by decide) (Nat.le_of_ble_eq_true rfl) ?_
  generalize hρ : entry _ = ρ
  have h0 : ρ 0 = .str s := by rw [← hρ]; rfl
  clear hρ
  unfold q8
  simp only [h0, go_sem, Nat.reduceEqDiff, reduceIte, Int.reduceEq, Int.reduceLT, Int.reduceLE, Nat.reduceAdd, Nat.reduceLT, Nat.reduceLeDiff, Int.reduceToNat, Int.reduceSub, Int.reduceAdd, Int.reduceNeg]
  refine xrun_cut (fun e ρ' L' => e = .exit 0 ∧ ∃ sv, ρ' 3 = sv ∧ Out L' sv (34 :: quoteGo s.length s)) ?_ ?_
  rotate_left
  · rintro e ρ L ⟨rfl, sv, h3, hO⟩
    have hql := quoteGo_len _ s (Nat.le_refl _)
    simp only [h3, go_sem, Nat.reduceEqDiff, reduceIte, Int.reduceEq, Int.reduceLT, Int.reduceLE, Nat.reduceAdd, Nat.reduceLT, Nat.reduceLeDiff, Int.reduceToNat, Int.reduceSub, Int.reduceAdd, Int.reduceNeg]
    refine app_out (x := [34]) hO.app (by simp [rowsOf]; rfl) rfl (by simp) (by simp; omega) fun L3 sv3 hO3 _ => ?_
    have hob := out_bytes hO3
    simp only [h3, go_sem, Nat.reduceEqDiff, reduceIte, Int.reduceEq, Int.reduceLT, Int.reduceLE, Nat.reduceAdd, Nat.reduceLT, Nat.reduceLeDiff, Int.reduceToNat, Int.reduceSub, Int.reduceAdd, Int.reduceNeg]
    rw [hob]
    simp only [h3, go_sem, Nat.reduceEqDiff, reduceIte, Int.reduceEq, Int.reduceLT, Int.reduceLE, Nat.reduceAdd, Nat.reduceLT, Nat.reduceLeDiff, Int.reduceToNat, Int.reduceSub, Int.reduceAdd, Int.reduceNeg]
    rfl
  refine s_loop (fun n ρ L => ∃ (i : Nat) (out : List UInt8) (sv : IV), i ≤ s.length ∧ n = s.length - i ∧ ρ 0 = .str s ∧ ρ 3 = sv ∧ ρ 4 = .int .i64 i ∧ Out L sv out ∧ out.length ≤ 6 * i + 1 ∧ SQ s i out) (n := s.length)
    ⟨0, [34], .sl 0 0 1 1, Nat.zero_le _, rfl, by simp only [h0, go_sem, Nat.reduceEqDiff, reduceIte, Int.reduceEq, Int.reduceLT, Int.reduceLE, Nat.reduceAdd, Nat.reduceLT, Nat.reduceLeDiff, Int.reduceToNat, Int.reduceSub, Int.reduceAdd, Int.reduceNeg], by simp only [go_sem, Nat.reduceEqDiff, reduceIte, Int.reduceEq, Int.reduceLT, Int.reduceLE, Nat.reduceAdd, Nat.reduceLT, Nat.reduceLeDiff, Int.reduceToNat, Int.reduceSub, Int.reduceAdd, Int.reduceNeg]; try rfl, by simp only [go_sem, Nat.reduceEqDiff, reduceIte, Int.reduceEq, Int.reduceLT, Int.reduceLE, Nat.reduceAdd, Nat.reduceLT, Nat.reduceLeDiff, Int.reduceToNat, Int.reduceSub, Int.reduceAdd, Int.reduceNeg]; try rfl, ⟨0, rfl, by simp, .inl rfl⟩, by simp, rfl⟩ ?_
  clear h0 ρ
  rintro n ρ L ⟨i, out, sv, hi, rfl, h0, h3, h4, hO, hol, hq⟩
  by_cases hil : i < s.length
  case neg =>
    have e1 : ((i : Int) < (s.length : Int)) = False := eq_false (by omega)
    unfold SQ at hq
    rw [List.drop_of_length_le (by omega)] at hq
    simp only [h0, h3, h4, e1, go_sem, Nat.reduceEqDiff, reduceIte, Int.reduceEq, Int.reduceLT, Int.reduceLE, Nat.reduceAdd, Nat.reduceLT, Nat.reduceLeDiff, Int.reduceToNat, Int.reduceSub, Int.reduceAdd, Int.reduceNeg]
    refine ⟨sv, rfl, ?_⟩
    rw [← hq]; simpa [quoteGo] using hO
  have e1 : ((i : Int) < (s.length : Int)) = True := eq_true (by omega)
  have e0 : ((0 : Int) ≤ (i : Int)) = True := eq_true (by omega)
  have hne : s.drop i ≠ [] := fun h => by have := congrArg List.length h; rw [List.length_drop] at this; simp at this; omega
  have hw := decL_w (s.drop i) hne
  have h4m := decL_le4 (s.drop i)
  have hst := quoteGo_step (s.drop i) hne
  have hcl := quoteCh_len (Lib.decodeL (s.drop i)).1 (Lib.decodeL (s.drop i)).2 (s.drop i) hw.2 hw.1
  unfold SQ at hq
  rw [hst, ← List.append_assoc, List.drop_drop] at hq
  rw [List.length_drop] at hw
  have hut := utf_dec s i hil
  have hby : (s.drop i).getD 0 0 = s.getD i 0 := by rw [List.getD_eq_getElem?_getD, List.getElem?_drop, List.getD_eq_getElem?_getD]; rfl
  have hasc : (s.getD i 0).toNat < 128 → Lib.decodeL (s.drop i) = ((s.getD i 0).toNat, 1) := fun h => by rw [← hby] at h ⊢; exact dec_ascii _ hne h
  have hbig : 128 ≤ (s.getD i 0).toNat → 128 ≤ (Lib.decodeL (s.drop i)).1 := fun h => by
    by_cases hc : (Lib.decodeL (s.drop i)).1 < 128
    · have := dec_lt _ hne hc; rw [hby] at this; omega
    · omega
  simp only [h0, h3, h4, e1, go_sem, Nat.reduceEqDiff, reduceIte, Int.reduceEq, Int.reduceLT, Int.reduceLE, Nat.reduceAdd, Nat.reduceLT, Nat.reduceLeDiff, Int.reduceToNat, Int.reduceSub, Int.reduceAdd, Int.reduceNeg]
  refine xcall_pure (args' := [.str s, .int .i64 i]) rfl (utf8_pure (E := E.noPan) hP s i hil (by omega)) rfl ?_
  rw [hut]
  generalize hd : Lib.decodeL (s.drop i) = d at *
  obtain ⟨c, m⟩ := d
  dsimp only at *
  have hol2 : out.length + (quoteCh c m (s.drop i)).length ≤ 70368744177664 := by omega
  have hw1 : IntKind.i64.wrap ((i : Int) + 1) = ((i + 1 : Nat) : Int) := by rw [wrap64 (by omega) (by omega)]; rfl
  have hwi : IntKind.i64.wrap ((i : Int) + (m : Int)) = ((i + m : Nat) : Int) := by rw [wrap64 (by omega) (by omega)]; rfl
  generalize hbv : s.getD i 0 = b at *
  have hblt := b.toNat_lt
  by_cases hbad : c = 65533 ∧ m = 1
  · obtain ⟨rfl, rfl⟩ := hbad
    have hch : quoteCh 65533 1 (s.drop i) = [92, 117, 102, 102, 102, 100] := if_pos ⟨rfl, rfl⟩
    rw [hch] at hcl hol2 hq
    rw [if_pos ⟨rfl, rfl⟩]
    simp only [h0, h3, h4, e1, e0, hbv, go_sem, Nat.reduceEqDiff, reduceIte, Int.reduceEq, Int.reduceLT, Int.reduceLE, Nat.reduceAdd, Nat.reduceLT, Nat.reduceLeDiff, Int.reduceToNat, Int.reduceSub, Int.reduceAdd, Int.reduceNeg]
    refine app_out hO (rowsOf_str _ _) rfl (by simp) hol2 fun L3 sv3 hO3 _ => ?_
    exact ⟨s.length - (i + 1), by omega, i + 1, _, sv3, by omega, rfl, rfl, by rw [hw1], hO3, by rw [List.length_append]; simp; omega, hq⟩
  rw [if_neg hbad]
  have em : ((m : Int) = 0) = False := eq_false (by omega)
  by_cases k34 : b.toNat = 34
  · have e34 : ((b.toNat : Int) = 34) = True := eq_true (by omega)
    have hcm := hasc (by omega)
    rw [Prod.mk.injEq] at hcm
    obtain ⟨rfl, rfl⟩ := hcm
    have hch : quoteCh b.toNat 1 (s.drop i) = [92, 34] := by rw [k34]; rfl
    rw [hch] at hcl hol2 hq
    simp only [h0, h3, h4, e1, e0, hbv, em, e34, go_sem, Nat.reduceEqDiff, reduceIte, Int.reduceEq, Int.reduceLT, Int.reduceLE, Nat.reduceAdd, Nat.reduceLT, Nat.reduceLeDiff, Int.reduceToNat, Int.reduceSub, Int.reduceAdd, Int.reduceNeg]
    refine app_out (x := [92, 34]) hO.app (by simp [rowsOf, bytesRows, k34]) rfl (by simp) hol2 fun L3 sv3 hO3 _ => ?_
    exact ⟨s.length - (i + 1), by omega, i + 1, _, sv3, by omega, rfl, rfl, by rw [hw1], hO3, by rw [List.length_append]; simp; omega, hq⟩
  have e34 : ((b.toNat : Int) = 34) = False := eq_false (by omega)
  by_cases k92 : b.toNat = 92
  · have e92 : ((b.toNat : Int) = 92) = True := eq_true (by omega)
    have hcm := hasc (by omega)
    rw [Prod.mk.injEq] at hcm
    obtain ⟨rfl, rfl⟩ := hcm
    have hch : quoteCh b.toNat 1 (s.drop i) = [92, 92] := by rw [k92]; rfl
    rw [hch] at hcl hol2 hq
    simp only [h0, h3, h4, e1, e0, hbv, em, e34, e92, go_sem, Nat.reduceEqDiff, reduceIte, Int.reduceEq, Int.reduceLT, Int.reduceLE, Nat.reduceAdd, Nat.reduceLT, Nat.reduceLeDiff, Int.reduceToNat, Int.reduceSub, Int.reduceAdd, Int.reduceNeg]
    refine app_out (x := [92, 92]) hO.app (by simp [rowsOf, bytesRows, k92]) rfl (by simp) hol2 fun L3 sv3 hO3 _ => ?_
    exact ⟨s.length - (i + 1), by omega, i + 1, _, sv3, by omega, rfl, rfl, by rw [hw1], hO3, by rw [List.length_append]; simp; omega, hq⟩
  have e92 : ((b.toNat : Int) = 92) = False := eq_false (by omega)
  by_cases k8 : b.toNat = 8
  · have e8 : ((b.toNat : Int) = 8) = True := eq_true (by omega)
    have hcm := hasc (by omega)
    rw [Prod.mk.injEq] at hcm
    obtain ⟨rfl, rfl⟩ := hcm
    have hch : quoteCh b.toNat 1 (s.drop i) = [92, 98] := by rw [k8]; rfl
    rw [hch] at hcl hol2 hq
    simp only [h0, h3, h4, e1, e0, hbv, em, e34, e92, e8, go_sem, Nat.reduceEqDiff, reduceIte, Int.reduceEq, Int.reduceLT, Int.reduceLE, Nat.reduceAdd, Nat.reduceLT, Nat.reduceLeDiff, Int.reduceToNat, Int.reduceSub, Int.reduceAdd, Int.reduceNeg]
    refine app_out hO (rowsOf_str _ _) rfl (by simp) hol2 fun L3 sv3 hO3 _ => ?_
    exact ⟨s.length - (i + 1), by omega, i + 1, _, sv3, by omega, rfl, rfl, by rw [hw1], hO3, by rw [List.length_append]; simp; omega, hq⟩
  have e8 : ((b.toNat : Int) = 8) = False := eq_false (by omega)
  by_cases k12 : b.toNat = 12
  · have e12 : ((b.toNat : Int) = 12) = True := eq_true (by omega)
    have hcm := hasc (by omega)
    rw [Prod.mk.injEq] at hcm
    obtain ⟨rfl, rfl⟩ := hcm
    have hch : quoteCh b.toNat 1 (s.drop i) = [92, 102] := by rw [k12]; rfl
    rw [hch] at hcl hol2 hq
    simp only [h0, h3, h4, e1, e0, hbv, em, e34, e92, e8, e12, go_sem, Nat.reduceEqDiff, reduceIte, Int.reduceEq, Int.reduceLT, Int.reduceLE, Nat.reduceAdd, Nat.reduceLT, Nat.reduceLeDiff, Int.reduceToNat, Int.reduceSub, Int.reduceAdd, Int.reduceNeg]
    refine app_out hO (rowsOf_str _ _) rfl (by simp) hol2 fun L3 sv3 hO3 _ => ?_
    exact ⟨s.length - (i + 1), by omega, i + 1, _, sv3, by omega, rfl, rfl, by rw [hw1], hO3, by rw [List.length_append]; simp; omega, hq⟩
  have e12 : ((b.toNat : Int) = 12) = False := eq_false (by omega)
  by_cases k10 : b.toNat = 10
  · have e10 : ((b.toNat : Int) = 10) = True := eq_true (by omega)
    have hcm := hasc (by omega)
    rw [Prod.mk.injEq] at hcm
    obtain ⟨rfl, rfl⟩ := hcm
    have hch : quoteCh b.toNat 1 (s.drop i) = [92, 110] := by rw [k10]; rfl
    rw [hch] at hcl hol2 hq
    simp only [h0, h3, h4, e1, e0, hbv, em, e34, e92, e8, e12, e10, go_sem, Nat.reduceEqDiff, reduceIte, Int.reduceEq, Int.reduceLT, Int.reduceLE, Nat.reduceAdd, Nat.reduceLT, Nat.reduceLeDiff, Int.reduceToNat, Int.reduceSub, Int.reduceAdd, Int.reduceNeg]
    refine app_out hO (rowsOf_str _ _) rfl (by simp) hol2 fun L3 sv3 hO3 _ => ?_
    exact ⟨s.length - (i + 1), by omega, i + 1, _, sv3, by omega, rfl, rfl, by rw [hw1], hO3, by rw [List.length_append]; simp; omega, hq⟩
  have e10 : ((b.toNat : Int) = 10) = False := eq_false (by omega)
  by_cases k13 : b.toNat = 13
  · have e13 : ((b.toNat : Int) = 13) = True := eq_true (by omega)
    have hcm := hasc (by omega)
    rw [Prod.mk.injEq] at hcm
    obtain ⟨rfl, rfl⟩ := hcm
    have hch : quoteCh b.toNat 1 (s.drop i) = [92, 114] := by rw [k13]; rfl
    rw [hch] at hcl hol2 hq
    simp only [h0, h3, h4, e1, e0, hbv, em, e34, e92, e8, e12, e10, e13, go_sem, Nat.reduceEqDiff, reduceIte, Int.reduceEq, Int.reduceLT, Int.reduceLE, Nat.reduceAdd, Nat.reduceLT, Nat.reduceLeDiff, Int.reduceToNat, Int.reduceSub, Int.reduceAdd, Int.reduceNeg]
    refine app_out hO (rowsOf_str _ _) rfl (by simp) hol2 fun L3 sv3 hO3 _ => ?_
    exact ⟨s.length - (i + 1), by omega, i + 1, _, sv3, by omega, rfl, rfl, by rw [hw1], hO3, by rw [List.length_append]; simp; omega, hq⟩
  have e13 : ((b.toNat : Int) = 13) = False := eq_false (by omega)
  by_cases k9 : b.toNat = 9
  · have e9 : ((b.toNat : Int) = 9) = True := eq_true (by omega)
    have hcm := hasc (by omega)
    rw [Prod.mk.injEq] at hcm
    obtain ⟨rfl, rfl⟩ := hcm
    have hch : quoteCh b.toNat 1 (s.drop i) = [92, 116] := by rw [k9]; rfl
    rw [hch] at hcl hol2 hq
    simp only [h0, h3, h4, e1, e0, hbv, em, e34, e92, e8, e12, e10, e13, e9, go_sem, Nat.reduceEqDiff, reduceIte, Int.reduceEq, Int.reduceLT, Int.reduceLE, Nat.reduceAdd, Nat.reduceLT, Nat.reduceLeDiff, Int.reduceToNat, Int.reduceSub, Int.reduceAdd, Int.reduceNeg]
    refine app_out hO (rowsOf_str _ _) rfl (by simp) hol2 fun L3 sv3 hO3 _ => ?_
    exact ⟨s.length - (i + 1), by omega, i + 1, _, sv3, by omega, rfl, rfl, by rw [hw1], hO3, by rw [List.length_append]; simp; omega, hq⟩
  have e9 : ((b.toNat : Int) = 9) = False := eq_false (by omega)
  by_cases k32 : b.toNat < 32
  · have e32 : ((b.toNat : Int) < 32) = True := eq_true (by omega)
    have hcm := hasc (by omega)
    rw [Prod.mk.injEq] at hcm
    obtain ⟨rfl, rfl⟩ := hcm
    have hch : quoteCh b.toNat 1 (s.drop i) = [92, 117, 48, 48] ++ [Fr.hexD.getD (b.toNat / 16) 0, Fr.hexD.getD (b.toNat % 16) 0] := by
      unfold quoteCh
      rw [if_neg hbad, ch_none ⟨b.toNat, k32⟩ (by dsimp only; omega)]
      exact if_pos k32
    rw [hch] at hcl hol2 hq
    rw [← List.append_assoc] at hq
    have q1 : IntKind.u8.wrap ((b.toNat : Int).tdiv 16) = ((b.toNat / 16 : Nat) : Int) := by rw [Int.tdiv_eq_ediv_of_nonneg (by omega), show (b.toNat : Int) / 16 = ((b.toNat / 16 : Nat) : Int) by omega, u8n _ (by omega)]
    have q2 : (b.toNat : Int).tmod 16 = ((b.toNat % 16 : Nat) : Int) := by rw [Int.tmod_eq_emod_of_nonneg (by omega)]; omega
    have q3 : ((0 : Int) ≤ ((b.toNat / 16 : Nat) : Int)) = True := eq_true (by omega)
    have q4 : ((0 : Int) ≤ ((b.toNat % 16 : Nat) : Int)) = True := eq_true (by omega)
    have x1 := hex_at ⟨b.toNat / 16, by omega⟩
    have x2 := hex_at ⟨b.toNat % 16, by omega⟩
    dsimp only at x1 x2
    simp only [h0, h3, h4, e1, e0, hbv, em, e34, e92, e8, e12, e10, e13, e9, e32, go_sem, Nat.reduceEqDiff, reduceIte, Int.reduceEq, Int.reduceLT, Int.reduceLE, Nat.reduceAdd, Nat.reduceLT, Nat.reduceLeDiff, Int.reduceToNat, Int.reduceSub, Int.reduceAdd, Int.reduceNeg]
    refine app_out hO (rowsOf_str _ _) rfl (by simp) (by rw [List.length_append] at hol2; omega) fun L3 sv3 hO3 _ => ?_
    simp only [h0, h3, h4, e1, e0, hbv, em, e34, e92, e8, e12, e10, e13, e9, e32, q1, q2, q3, q4, x1, x2, go_sem, Nat.reduceEqDiff, reduceIte, Int.reduceEq, Int.reduceLT, Int.reduceLE, Nat.reduceAdd, Nat.reduceLT, Nat.reduceLeDiff, Int.reduceToNat, Int.reduceSub, Int.reduceAdd, Int.reduceNeg]
    refine ⟨by omega, by omega, by omega, by omega, ?_⟩
    refine app_out (x := [Fr.hexD.getD (b.toNat / 16) 0, Fr.hexD.getD (b.toNat % 16) 0]) hO3.app (by simp [rowsOf, bytesRows]) rfl (by simp) (by rw [List.length_append] at hol2 ⊢; simp at hol2 ⊢; omega) fun L4 sv4 hO4 _ => ?_
    exact ⟨s.length - (i + 1), by omega, i + 1, _, sv4, by omega, rfl, rfl, by rw [hw1], hO4, by rw [List.length_append, List.length_append]; simp; omega, hq⟩
  have e32 : ((b.toNat : Int) < 32) = False := eq_false (by omega)
  have hcc : 32 ≤ c ∧ c ≠ 34 ∧ c ≠ 92 := by
    by_cases h : b.toNat < 128
    · have hcm := hasc h
      rw [Prod.mk.injEq] at hcm
      omega
    · have := hbig (by omega)
      omega
  have hch : quoteCh c m (s.drop i) = (s.drop i).take m := quoteCh_big c m _ hbad hcc.1 hcc.2.1 hcc.2.2
  rw [hch] at hcl hol2 hq
  simp only [h0, h3, h4, e1, e0, hbv, em, e34, e92, e8, e12, e10, e13, e9, e32, hwi, go_sem, Nat.reduceEqDiff, reduceIte, Int.reduceEq, Int.reduceLT, Int.reduceLE, Nat.reduceAdd, Nat.reduceLT, Nat.reduceLeDiff, Int.reduceToNat, Int.reduceSub, Int.reduceAdd, Int.reduceNeg]
  refine ⟨by omega, by omega, ?_⟩
  have hcut : (s.take (i + m)).drop i = (s.drop i).take m := by rw [List.drop_take, show i + m - i = m by omega]
  rw [hcut]
  refine app_out hO (rowsOf_str _ _) rfl (fun h => by rw [h] at hcl; simp at hcl) hol2 fun L3 sv3 hO3 _ => ?_
  exact ⟨s.length - (i + m), by omega, i + m, _, sv3, by omega, rfl, rfl, rfl, hO3, by rw [List.length_append]; omega, hq⟩
end
end Go.X.TryzW
end
section
open Go Go.X Go.Proofs
set_option maxRecDepth 100000
set_option maxHeartbeats 4000000
set_option linter.unusedSimpArgs false
set_option linter.unusedVariables false
namespace Go.X.TryzW
/- "tiller/tillerlaw13.FrontReplies" params { toList := [22, 3, 23] } results { toList := [Go.ResultVar.tmp 6] } -/
def q3 : XC :=
 (.seq
  (.ops [
    ⟨(some 6), (.mov (.c (.bool false))), none⟩])
  (.seq
   (.seq
    (.ops [
      ⟨(some 7), (.mov (.c (.int .i64 0))), none⟩])
    (.block 0
     (.loop
      (.seq
       (.seq
        (.ops [
          ⟨(some 19), (.mov (.t 7)), none⟩,
          ⟨(some 20), (.mov (.t 0)), none⟩,
          ⟨(some 21), (.len (.t 20)), none⟩,
          ⟨(some 22), (.bin .lss (.t 19) (.t 21)), none⟩,
          ⟨(some 23), (.mov (.t 22)), none⟩,
          ⟨(some 24), (.mov (.t 7)), (some (23, true))⟩,
          ⟨(some 25), (.bin .lss (.t 24) (.c (.int .i64 12))), (some (23, true))⟩,
          ⟨(some 26), (.pick (.t 23) (.t 25) (.c (.bool false))), none⟩])
        (.cond (.t 26)
         .skip
         (.exit 0)))
       (.seq
        (.block 1
         (.seq
          (.ops [
            ⟨(some 29), (.mov (.t 0)), none⟩,
            ⟨(some 30), (.mov (.t 7)), none⟩,
            ⟨(some 31), (.idxS 1 (.t 29) (.t 30)), none⟩,
            ⟨(some 32), (.load1 (.t 31)), none⟩,
            ⟨(some 33), (.call (.f 5) [(.t 32)]), none⟩,
            ⟨(some 8), (.mov (.t 33)), none⟩])
          (.seq
           (.ops [
             ⟨(some 34), (.mov (.t 1)), none⟩,
             ⟨(some 35), (.mov (.t 8)), none⟩,
             ⟨(some 36), (.call (.f 6) [(.t 34), (.t 35)]), none⟩,
             ⟨(some 9), (.mov (.t 36)), none⟩])
           (.seq
            (.seq
             (.drawE [
               ⟨(some 37), (.mov (.t 8)), none⟩,
               ⟨(some 38), (.pcall (.f 7) [(.t 37)]), none⟩,
               ⟨(some 39), (.mov (.t 8)), none⟩,
               ⟨(some 40), (.pcall (.f 8) [(.t 39)]), none⟩,
               ⟨(some 41), (.bin .neq (.t 38) (.t 40)), none⟩,
               ⟨(some 42), (.mov (.t 41)), none⟩,
               ⟨(some 43), (.mov (.t 9)), (some (42, false))⟩,
               ⟨(some 44), (.ex .bStr [(.t 43)]), (some (42, false))⟩,
               ⟨(some 45), (.mov (.t 1)), (some (42, false))⟩,
               ⟨(some 46), (.mov (.t 8)), (some (42, false))⟩,
               ⟨(some 47), (.pcall (.f 9) [(.t 45), (.t 46)]), (some (42, false))⟩,
               ⟨(some 48), (.ex .bStr [(.t 47)]), (some (42, false))⟩,
               ⟨(some 49), (.bin .neq (.t 44) (.t 48)), (some (42, false))⟩,
               ⟨(some 50), (.pick (.t 42) (.c (.bool true)) (.t 49)), none⟩])
             (.cond (.t 50)
              (.seq
               (.ops [
                 ⟨(some 6), (.mov (.c (.bool false))), none⟩])
               .ret)
              .skip))
            (.seq
             (.ops [
               ⟨(some 51), (.mov (.t 9)), none⟩,
               ⟨(some 52), (.call (.f 10) [(.t 51)]), none⟩])
             (.seq
              (.ops [
                ⟨(some 54), (.mov (.t 8)), none⟩,
                ⟨(some 55), (.call (.f 11) [(.t 54)]), none⟩,
                ⟨(some 53), (.mov (.t 55)), none⟩,
                ⟨(some 56), (.ext (.t 53) 0), none⟩,
                ⟨(some 57), (.ext (.t 53) 1), none⟩,
                ⟨(some 10), (.mov (.t 56)), none⟩,
                ⟨(some 11), (.mov (.t 57)), none⟩])
              (.seq
               (.ops [
                 ⟨(some 59), (.mov (.t 8)), none⟩,
                 ⟨(some 60), (.call (.f 12) [(.t 59)]), none⟩,
                 ⟨(some 58), (.mov (.t 60)), none⟩,
                 ⟨(some 61), (.ext (.t 58) 0), none⟩,
                 ⟨(some 62), (.ext (.t 58) 1), none⟩,
                 ⟨(some 12), (.mov (.t 61)), none⟩,
                 ⟨(some 13), (.mov (.t 62)), none⟩])
               (.seq
                (.ops [
                  ⟨(some 63), (.mov (.t 10)), none⟩,
                  ⟨(some 64), (.mov (.t 12)), none⟩,
                  ⟨(some 65), (.bin .neq (.t 63) (.t 64)), none⟩,
                  ⟨(some 66), (.mov (.t 65)), none⟩,
                  ⟨(some 67), (.mov (.t 11)), (some (66, false))⟩,
                  ⟨(some 68), (.mov (.t 13)), (some (66, false))⟩,
                  ⟨(some 69), (.bin .neq (.t 67) (.t 68)), (some (66, false))⟩,
                  ⟨(some 70), (.pick (.t 66) (.c (.bool true)) (.t 69)), none⟩])
                (.cond (.t 70)
                 (.seq
                  (.ops [
                    ⟨(some 6), (.mov (.c (.bool false))), none⟩])
                  .ret)
                 .skip)))))))))
        (.ops [
          ⟨(some 27), (.mov (.t 7)), none⟩,
          ⟨(some 28), (.bin .add (.t 27) (.c (.int .i64 1))), none⟩,
          ⟨(some 7), (.mov (.t 28)), none⟩]))))))
   (.seq
    (.seq
     (.ops [
       ⟨(some 14), (.mov (.c (.int .i64 0))), none⟩])
     (.block 2
      (.loop
       (.seq
        (.seq
         (.ops [
           ⟨(some 71), (.mov (.t 14)), none⟩,
           ⟨(some 72), (.mov (.t 2)), none⟩,
           ⟨(some 73), (.len (.t 72)), none⟩,
           ⟨(some 74), (.bin .lss (.t 71) (.t 73)), none⟩,
           ⟨(some 75), (.mov (.t 74)), none⟩,
           ⟨(some 76), (.mov (.t 14)), (some (75, true))⟩,
           ⟨(some 77), (.bin .lss (.t 76) (.c (.int .i64 30))), (some (75, true))⟩,
           ⟨(some 78), (.pick (.t 75) (.t 77) (.c (.bool false))), none⟩])
         (.cond (.t 78)
          .skip
          (.exit 2)))
        (.seq
         (.block 3
          (.seq
           (.ops [
             ⟨(some 82), (.mov (.t 2)), none⟩,
             ⟨(some 83), (.mov (.t 14)), none⟩,
             ⟨(some 84), (.idxS 1 (.t 82) (.t 83)), none⟩,
             ⟨(some 85), (.load1 (.t 84)), none⟩,
             ⟨(some 86), (.call (.f 13) [(.t 85)]), none⟩,
             ⟨(some 81), (.mov (.t 86)), none⟩,
             ⟨(some 87), (.ext (.t 81) 0), none⟩,
             ⟨(some 88), (.ext (.t 81) 1), none⟩,
             ⟨(some 15), (.mov (.t 87)), none⟩,
             ⟨(some 16), (.mov (.t 88)), none⟩])
           (.seq
            (.ops [
              ⟨(some 90), (.mov (.t 2)), none⟩,
              ⟨(some 91), (.mov (.t 14)), none⟩,
              ⟨(some 92), (.idxS 1 (.t 90) (.t 91)), none⟩,
              ⟨(some 93), (.load1 (.t 92)), none⟩,
              ⟨(some 94), (.call (.f 14) [(.t 93)]), none⟩,
              ⟨(some 89), (.mov (.t 94)), none⟩,
              ⟨(some 95), (.ext (.t 89) 0), none⟩,
              ⟨(some 96), (.ext (.t 89) 1), none⟩,
              ⟨(some 17), (.mov (.t 95)), none⟩,
              ⟨(some 18), (.mov (.t 96)), none⟩])
            (.seq
             (.ops [
               ⟨(some 97), (.mov (.t 15)), none⟩,
               ⟨(some 98), (.mov (.t 17)), none⟩,
               ⟨(some 99), (.bin .neq (.t 97) (.t 98)), none⟩,
               ⟨(some 100), (.mov (.t 99)), none⟩,
               ⟨(some 101), (.mov (.t 16)), (some (100, false))⟩,
               ⟨(some 102), (.mov (.t 18)), (some (100, false))⟩,
               ⟨(some 103), (.bin .neq (.t 101) (.t 102)), (some (100, false))⟩,
               ⟨(some 104), (.pick (.t 100) (.c (.bool true)) (.t 103)), none⟩])
             (.cond (.t 104)
              (.seq
               (.ops [
                 ⟨(some 6), (.mov (.c (.bool false))), none⟩])
               .ret)
              .skip)))))
         (.ops [
           ⟨(some 79), (.mov (.t 14)), none⟩,
           ⟨(some 80), (.bin .add (.t 79) (.c (.int .i64 1))), none⟩,
           ⟨(some 14), (.mov (.t 80)), none⟩]))))))
    (.seq
     (.ops [
       ⟨(some 105), (.call (.f 15) []), none⟩,
       ⟨(some 6), (.mov (.t 105)), none⟩])
     .ret))))

section
variable {E : Env} {L : List Blk} {K : IV → List Blk → Prop}
theorem short_len (s : List UInt8) : (shortF s).length ≤ 1500 := by unfold shortF; rw [List.length_take]; omega
theorem replies_pure (hP : E.P = Tryz.prog) {m : Int} (hm : E.gl 2 = some [.int .i64 m]) (ht : ∀ w, E.G w → Lib.Utf8Tabs 0 1 w) (hp : ∀ w, E.G w → Lib.TabIs Tryz.prog w "internal/strconv.uint64pow10" .u64 Lib.pow10Tab)
    (tx : List (List UInt8)) (z : Int) (cs : List Int) (hz0 : -9223372036854775808 ≤ z) (hz1 : z ≤ 9223372036854775807) : XPure E 3 [.isl (sRows tx), .int .i64 z, .isl (iRows cs)] (.bool true) := by
  refine xpure1 (n := Tryz.f3.ntmps) (c := q3) (t := 6) (by rw [hP]; rfl) (by rw [hP]; kernel_rfl) (by decide) (Nat.le_of_ble_eq_true rfl) ?_
  generalize hρ : entry _ = ρ
  have h0 : ρ 0 = .isl (sRows tx) := by rw [← hρ]; rfl
  have h1 : ρ 1 = .int .i64 z := by rw [← hρ]; rfl
  have h2 : ρ 2 = .isl (iRows cs) := by rw [← hρ]; rfl
  clear hρ
  unfold q3
  simp only [h0, h1, h2, go_sem, Nat.reduceEqDiff, reduceIte, Int.reduceEq, Int.reduceLT, Int.reduceLE, Nat.reduceAdd, Nat.reduceLT, Nat.reduceLeDiff, Int.reduceToNat, Int.reduceSub, Int.reduceAdd, Int.reduceNeg]
  refine xrun_cut (fun e ρ' L' => e = .exit 0 ∧ ρ' 2 = .isl (iRows cs)) ?_ ?_
  · refine s_loop (fun n ρ L => ∃ i : Nat, i ≤ 12 ∧ n = 12 - i ∧ ρ 0 = .isl (sRows tx) ∧ ρ 1 = .int .i64 z ∧ ρ 2 = .isl (iRows cs) ∧ ρ 7 = .int .i64 i) (n := 12)
      ⟨0, Nat.zero_le _, rfl, by simp only [h0, go_sem, Nat.reduceEqDiff, reduceIte, Int.reduceEq, Int.reduceLT, Int.reduceLE, Nat.reduceAdd, Nat.reduceLT, Nat.reduceLeDiff, Int.reduceToNat, Int.reduceSub, Int.reduceAdd, Int.reduceNeg], by simp only [h1, go_sem, Nat.reduceEqDiff, reduceIte, Int.reduceEq, Int.reduceLT, Int.reduceLE, Nat.reduceAdd, Nat.reduceLT, Nat.reduceLeDiff, Int.reduceToNat, Int.reduceSub, Int.reduceAdd, Int.reduceNeg], by simp only [h2, go_sem, Nat.reduceEqDiff, reduceIte, Int.reduceEq, Int.reduceLT, Int.reduceLE, Nat.reduceAdd, Nat.reduceLT, Nat.reduceLeDiff, Int.reduceToNat, Int.reduceSub, Int.reduceAdd, Int.reduceNeg], by simp only [go_sem, Nat.reduceEqDiff, reduceIte, Int.reduceEq, Int.reduceLT, Int.reduceLE, Nat.reduceAdd, Nat.reduceLT, Nat.reduceLeDiff, Int.reduceToNat, Int.reduceSub, Int.reduceAdd, Int.reduceNeg]; try rfl⟩ ?_
    clear h0 h1 h2 ρ
    rintro n ρ L ⟨i, hi, rfl, h0, h1, h2, h7⟩
    by_cases hil : i < tx.length
    case neg =>
      have e1 : ((i : Int) < (tx.length : Int)) = False := eq_false (by omega)
      simp only [h0, h1, h2, h7, e1, sRows_len, go_sem, Nat.reduceEqDiff, reduceIte, Int.reduceEq, Int.reduceLT, Int.reduceLE, Nat.reduceAdd, Nat.reduceLT, Nat.reduceLeDiff, Int.reduceToNat, Int.reduceSub, Int.reduceAdd, Int.reduceNeg]
    have e1 : ((i : Int) < (tx.length : Int)) = True := eq_true (by omega)
    by_cases h12 : i < 12
    case neg =>
      have e2 : ((i : Int) < 12) = False := eq_false (by omega)
      simp only [h0, h1, h2, h7, e1, e2, sRows_len, go_sem, Nat.reduceEqDiff, reduceIte, Int.reduceEq, Int.reduceLT, Int.reduceLE, Nat.reduceAdd, Nat.reduceLT, Nat.reduceLeDiff, Int.reduceToNat, Int.reduceSub, Int.reduceAdd, Int.reduceNeg]
    have e2 : ((i : Int) < 12) = True := eq_true (by omega)
    have e0 : ((0 : Int) ≤ (i : Int)) = True := eq_true (by omega)
    have hg := sRows_get hil
    have hw : IntKind.i64.wrap ((i : Int) + 1) = ((i + 1 : Nat) : Int) := by rw [wrap64 (by omega) (by omega)]; rfl
    simp only [h0, h1, h2, h7, e0, e1, e2, sRows_len, rows_s, hg, go_sem, Nat.reduceEqDiff, reduceIte, Int.reduceEq, Int.reduceLT, Int.reduceLE, Nat.reduceAdd, Nat.reduceLT, Nat.reduceLeDiff, Int.reduceToNat, Int.reduceSub, Int.reduceAdd, Int.reduceNeg]
    refine ⟨hil, ?_⟩
    refine xcall_pure (args' := [.str (tx.getD i [])]) rfl (short_pure (E := E.noPan) hP _) rfl ?_
    have hsl := short_len (tx.getD i [])
    generalize shortF (tx.getD i []) = t at *
    simp only [h0, h1, h2, h7, go_sem, Nat.reduceEqDiff, reduceIte, Int.reduceEq, Int.reduceLT, Int.reduceLE, Nat.reduceAdd, Nat.reduceLT, Nat.reduceLeDiff, Int.reduceToNat, Int.reduceSub, Int.reduceAdd, Int.reduceNeg]
    refine xcall_own (args' := [.int .i64 z, .str t]) rfl (reply_own (E := E.noPan) hP hp z t hz0 hz1 (by omega)) ?_
    rintro v L1 ⟨rfl, rfl⟩
    have hrl := reply_len z t hz0 hz1 (by omega)
    have hrne := reply_ne z t
    generalize hR : replyF z t = R at *
    refine ⟨.sl L.length 0 R.length R.length, [.tcells 5 1 (bytesRows R)], ?_, ?_, ?_⟩
    · show conv _ 12 _ _ = _
      simp [conv, renShift]
    · show mapO (convB _ 12 _) _ = _
      simp only [mapO, convB_bytes]
    have hO : Out (L ++ [.tcells 5 1 (bytesRows R)]) (.sl L.length 0 R.length R.length) R := ⟨L.length, rfl, by simp, .inr (by simp)⟩
    simp only [h0, h1, h2, h7, go_sem, Nat.reduceEqDiff, reduceIte, Int.reduceEq, Int.reduceLT, Int.reduceLE, Nat.reduceAdd, Nat.reduceLT, Nat.reduceLeDiff, Int.reduceToNat, Int.reduceSub, Int.reduceAdd, Int.reduceNeg]
    refine o_pcall (args' := [.str t]) rfl (quote_pure (E := E.noPan) hP ht t (by omega)) (fun m => rfl) ?_
    simp only [h0, h1, h2, h7, go_sem, Nat.reduceEqDiff, reduceIte, Int.reduceEq, Int.reduceLT, Int.reduceLE, Nat.reduceAdd, Nat.reduceLT, Nat.reduceLeDiff, Int.reduceToNat, Int.reduceSub, Int.reduceAdd, Int.reduceNeg]
    refine o_pcall (args' := [.str t]) rfl (rquote_pure (E := E.noPan) hP t (by omega)) (fun m => rfl) ?_
    have q1 : (quoteF t = quoteF t) = True := eq_self _
    have hob := out_bytes hO
    simp only [h0, h1, h2, h7, q1, decide_true, hob, go_sem, Nat.reduceEqDiff, reduceIte, Int.reduceEq, Int.reduceLT, Int.reduceLE, Nat.reduceAdd, Nat.reduceLT, Nat.reduceLeDiff, Int.reduceToNat, Int.reduceSub, Int.reduceAdd, Int.reduceNeg]
    have hrr := rreply_pure (E := E.noPan) hP z t hz0 hz1 (by omega)
    rw [hR] at hrr
    refine o_pcall (args' := [.int .i64 z, .str t]) rfl hrr (fun m => rfl) ?_
    have hob2 : (rowsSl (L ++ [Blk.tcells 5 1 (bytesRows R)]) (.isl (bytesRows R))).bind (mapO byteOf) = some R := bytesRows_of R
    have q2 : (R = R) = True := eq_self _
    simp only [h0, h1, h2, h7, q2, decide_true, hob2, go_sem, Nat.reduceEqDiff, reduceIte, Int.reduceEq, Int.reduceLT, Int.reduceLE, Nat.reduceAdd, Nat.reduceLT, Nat.reduceLeDiff, Int.reduceToNat, Int.reduceSub, Int.reduceAdd, Int.reduceNeg]
    have hgd : (L ++ [Blk.tcells 5 1 (bytesRows R)]).getD L.length .dead = .tcells 5 1 (bytesRows R) := by rw [List.getD_eq_getElem?_getD, List.getElem?_append_right (Nat.le_refl _), Nat.sub_self]; rfl
    have hrn : renSel [L.length] [] false L.length = some (some 0) := by simp [renSel, pos]
    refine xcall_sel [L.length] (by simp) (fun q hq => ?_) (args' := [.sl 0 0 R.length R.length]) ?_ (L0 := [.tcells 5 1 (bytesRows R)]) ?_ (spoil_own (E := E.noPan) hP R (by omega)) ?_
    · rw [List.mem_singleton] at hq; subst hq; exact ⟨_, by rw [List.getElem?_append_right (Nat.le_refl _), Nat.sub_self]; rfl, rfl⟩
    · show mapO (conv _ 12 _) _ = _
      simp only [mapO, conv, hrn]
    · rw [List.map_cons, List.map_nil, hgd]
      show mapO (convB _ 12 _) [.tcells 5 1 (bytesRows R)] = _
      simp only [mapO, convB_bytes]
    rintro v L1 ⟨rfl, k, rfl, hk⟩
    refine ⟨.tup [], [k], rfl, ?_, ?_⟩
    · show mapO (convB _ 12 _) [k] = _
      rcases hk with ⟨bs', rfl⟩ | rfl
      · simp only [mapO, convB_bytes]
      · rfl
    generalize putL [L.length] [k] (L ++ [Blk.tcells 5 1 (bytesRows R)]) ++ [k].drop [L.length].length = L2
    simp only [h0, h1, h2, h7, go_sem, Nat.reduceEqDiff, reduceIte, Int.reduceEq, Int.reduceLT, Int.reduceLE, Nat.reduceAdd, Nat.reduceLT, Nat.reduceLeDiff, Int.reduceToNat, Int.reduceSub, Int.reduceAdd, Int.reduceNeg]
    refine xcall_pure (args' := [.str t]) rfl (query_pure (E := E.noPan) hP hm t (by omega)) rfl ?_
    simp only [h0, h1, h2, h7, go_sem, Nat.reduceEqDiff, reduceIte, Int.reduceEq, Int.reduceLT, Int.reduceLE, Nat.reduceAdd, Nat.reduceLT, Nat.reduceLeDiff, Int.reduceToNat, Int.reduceSub, Int.reduceAdd, Int.reduceNeg]
    refine xcall_pure (args' := [.str t]) rfl (rquery_pure (E := E.noPan) hP t (by omega)) rfl ?_
    generalize queryF t = qq at *
    have q3 : (qq.1 = qq.1) = True := eq_self _
    have q4 : (qq.2 = qq.2) = True := eq_self _
    simp only [h0, h1, h2, h7, q3, q4, decide_true, hw, go_sem, Nat.reduceEqDiff, reduceIte, Int.reduceEq, Int.reduceLT, Int.reduceLE, Nat.reduceAdd, Nat.reduceLT, Nat.reduceLeDiff, Int.reduceToNat, Int.reduceSub, Int.reduceAdd, Int.reduceNeg]
    exact ⟨12 - (i + 1), by omega, i + 1, by omega, rfl, rfl⟩
  rintro e ρ1 L1 ⟨rfl, k2⟩
  clear h0 h1 h2 ρ
  simp only [k2, go_sem, Nat.reduceEqDiff, reduceIte, Int.reduceEq, Int.reduceLT, Int.reduceLE, Nat.reduceAdd, Nat.reduceLT, Nat.reduceLeDiff, Int.reduceToNat, Int.reduceSub, Int.reduceAdd, Int.reduceNeg]
  refine xrun_cut (fun e ρ' L' => e = .exit 2) ?_ ?_
  · refine s_loop (fun n ρ L => ∃ i : Nat, i ≤ 30 ∧ n = 30 - i ∧ ρ 2 = .isl (iRows cs) ∧ ρ 14 = .int .i64 i) (n := 30)
      ⟨0, Nat.zero_le _, rfl, by simp only [k2, go_sem, Nat.reduceEqDiff, reduceIte, Int.reduceEq, Int.reduceLT, Int.reduceLE, Nat.reduceAdd, Nat.reduceLT, Nat.reduceLeDiff, Int.reduceToNat, Int.reduceSub, Int.reduceAdd, Int.reduceNeg], by simp only [go_sem, Nat.reduceEqDiff, reduceIte, Int.reduceEq, Int.reduceLT, Int.reduceLE, Nat.reduceAdd, Nat.reduceLT, Nat.reduceLeDiff, Int.reduceToNat, Int.reduceSub, Int.reduceAdd, Int.reduceNeg]; try rfl⟩ ?_
    clear k2 ρ1
    rintro n ρ L ⟨i, hi, rfl, h2, h14⟩
    by_cases hil : i < cs.length
    case neg =>
      have e1 : ((i : Int) < (cs.length : Int)) = False := eq_false (by omega)
      simp only [h2, h14, e1, iRows_len, go_sem, Nat.reduceEqDiff, reduceIte, Int.reduceEq, Int.reduceLT, Int.reduceLE, Nat.reduceAdd, Nat.reduceLT, Nat.reduceLeDiff, Int.reduceToNat, Int.reduceSub, Int.reduceAdd, Int.reduceNeg]
    have e1 : ((i : Int) < (cs.length : Int)) = True := eq_true (by omega)
    by_cases h12 : i < 30
    case neg =>
      have e2 : ((i : Int) < 30) = False := eq_false (by omega)
      simp only [h2, h14, e1, e2, iRows_len, go_sem, Nat.reduceEqDiff, reduceIte, Int.reduceEq, Int.reduceLT, Int.reduceLE, Nat.reduceAdd, Nat.reduceLT, Nat.reduceLeDiff, Int.reduceToNat, Int.reduceSub, Int.reduceAdd, Int.reduceNeg]
    have e2 : ((i : Int) < 30) = True := eq_true (by omega)
    have e0 : ((0 : Int) ≤ (i : Int)) = True := eq_true (by omega)
    have hg := iRows_get hil
    have hw : IntKind.i64.wrap ((i : Int) + 1) = ((i + 1 : Nat) : Int) := by rw [wrap64 (by omega) (by omega)]; rfl
    simp only [h2, h14, e0, e1, e2, iRows_len, rows_i, hg, go_sem, Nat.reduceEqDiff, reduceIte, Int.reduceEq, Int.reduceLT, Int.reduceLE, Nat.reduceAdd, Nat.reduceLT, Nat.reduceLeDiff, Int.reduceToNat, Int.reduceSub, Int.reduceAdd, Int.reduceNeg]
    refine ⟨hil, ?_⟩
    refine xcall_pure (args' := [.int .i64 (cs.getD i 0)]) rfl (error_pure (E := E.noPan) hP ht _) rfl ?_
    simp only [h2, h14, e0, e1, e2, iRows_len, rows_i, hg, go_sem, Nat.reduceEqDiff, reduceIte, Int.reduceEq, Int.reduceLT, Int.reduceLE, Nat.reduceAdd, Nat.reduceLT, Nat.reduceLeDiff, Int.reduceToNat, Int.reduceSub, Int.reduceAdd, Int.reduceNeg]
    refine ⟨hil, ?_⟩
    refine xcall_pure (args' := [.int .i64 (cs.getD i 0)]) rfl (rerror_pure (E := E.noPan) hP _) rfl ?_
    generalize errF (cs.getD i 0) = q at *
    generalize errT (cs.getD i 0) = qt at *
    have q3 : (q.1 = q.1) = True := eq_self _
    have q4 : (qt = qt) = True := eq_self _
    simp only [h2, h14, q3, q4, decide_true, hw, go_sem, Nat.reduceEqDiff, reduceIte, Int.reduceEq, Int.reduceLT, Int.reduceLE, Nat.reduceAdd, Nat.reduceLT, Nat.reduceLeDiff, Int.reduceToNat, Int.reduceSub, Int.reduceAdd, Int.reduceNeg]
    exact ⟨30 - (i + 1), by omega, i + 1, by omega, rfl, rfl⟩
  rintro e ρ L rfl
  simp only [go_sem, Nat.reduceEqDiff, reduceIte, Int.reduceEq, Int.reduceLT, Int.reduceLE, Nat.reduceAdd, Nat.reduceLT, Nat.reduceLeDiff, Int.reduceToNat, Int.reduceSub, Int.reduceAdd, Int.reduceNeg]
  refine xcall_pure (args' := []) rfl (wakes_pure (E := E.noPan) hP hm ht) rfl ?_
  simp only [go_sem, Nat.reduceEqDiff, reduceIte, Int.reduceEq, Int.reduceLT, Int.reduceLE, Nat.reduceAdd, Nat.reduceLT, Nat.reduceLeDiff, Int.reduceToNat, Int.reduceSub, Int.reduceAdd, Int.reduceNeg]
  rfl
end
end Go.X.TryzW
end
