/- Parts of the proof: Xgfread. -/
import Derived.Test.YtepkimlnaoaboabGreatDoorXP23
import Derived.Lib.SplitLaws
set_option linter.unusedVariables false
set_option linter.unusedSimpArgs false
set_option linter.unusedSectionVars false
section
open Go Go.X Go.Proofs
set_option maxRecDepth 100000
set_option maxHeartbeats 4000000
set_option linter.unusedSimpArgs false
set_option linter.unusedVariables false
namespace Go.X.TryzW
/- "tiller/front.Read" params { toList := [23] } results { toList := [Go.ResultVar.tmp 2, Go.ResultVar.tmp 3, Go.ResultVar.tmp 4, Go.ResultVar.tmp 5] } -/
def y11 : XC :=
 (.seq
  (.ops [
    ⟨(some 2), (.mov (.c (.str []))), none⟩,
    ⟨(some 3), (.mov (.c (.str []))), none⟩,
    ⟨(some 4), (.mov (.c (.str []))), none⟩,
    ⟨(some 5), (.mov (.c (.int .i64 0))), none⟩])
  (.seq
   (.ops [
     ⟨(some 13), (.mov (.t 0)), none⟩,
     ⟨(some 14), (.ex .bStr [(.t 13)]), none⟩,
     ⟨(some 15), (.call (.f 27) [(.t 14), (.c (.str [13, 10, 13, 10]))]), none⟩,
     ⟨(some 12), (.mov (.t 15)), none⟩,
     ⟨(some 16), (.ext (.t 12) 0), none⟩,
     ⟨(some 17), (.ext (.t 12) 1), none⟩,
     ⟨(some 18), (.ext (.t 12) 2), none⟩,
     ⟨(some 6), (.mov (.t 16)), none⟩,
     ⟨(some 4), (.mov (.t 17)), none⟩,
     ⟨(some 7), (.mov (.t 18)), none⟩])
   (.seq
    (.seq
     (.ops [
       ⟨(some 19), (.mov (.t 7)), none⟩,
       ⟨(some 20), (.un .not (.t 19)), none⟩,
       ⟨(some 21), (.mov (.t 20)), none⟩,
       ⟨(some 22), (.mov (.t 6)), (some (21, false))⟩,
       ⟨(some 23), (.lenS (.t 22)), (some (21, false))⟩,
       ⟨(some 24), (.bin .add (.t 23) (.c (.int .i64 4))), (some (21, false))⟩,
       ⟨(some 25), (.bin .gtr (.t 24) (.c (.int .i64 4096))), (some (21, false))⟩,
       ⟨(some 26), (.pick (.t 21) (.c (.bool true)) (.t 25)), none⟩,
       ⟨(some 27), (.mov (.t 26)), none⟩,
       ⟨(some 28), (.mov (.t 0)), (some (27, true))⟩,
       ⟨(some 29), (.len (.t 28)), (some (27, true))⟩,
       ⟨(some 30), (.bin .geq (.t 29) (.c (.int .i64 4096))), (some (27, true))⟩,
       ⟨(some 31), (.pick (.t 27) (.t 30) (.c (.bool false))), none⟩])
     (.cond (.t 31)
      (.seq
       (.ops [
         ⟨(some 2), (.mov (.c (.str []))), none⟩,
         ⟨(some 3), (.mov (.c (.str []))), none⟩,
         ⟨(some 4), (.mov (.c (.str []))), none⟩,
         ⟨(some 5), (.mov (.c (.int .i64 431))), none⟩])
       .ret)
      .skip))
    (.seq
     (.ops [
       ⟨(some 32), (.mov (.t 6)), none⟩,
       ⟨(some 33), (.call (.f 46) [(.t 32), (.c (.str [13, 10]))]), none⟩,
       ⟨(some 8), (.mov (.t 33)), none⟩])
     (.seq
      (.ops [
        ⟨(some 35), (.mov (.t 8)), none⟩,
        ⟨(some 36), (.idxS 1 (.t 35) (.c (.int .i64 0))), none⟩,
        ⟨(some 37), (.load1 (.t 36)), none⟩,
        ⟨(some 38), (.call (.f 47) [(.t 37)]), none⟩,
        ⟨(some 34), (.mov (.t 38)), none⟩,
        ⟨(some 39), (.ext (.t 34) 0), none⟩,
        ⟨(some 40), (.ext (.t 34) 1), none⟩,
        ⟨(some 41), (.ext (.t 34) 2), none⟩,
        ⟨(some 2), (.mov (.t 39)), none⟩,
        ⟨(some 3), (.mov (.t 40)), none⟩,
        ⟨(some 9), (.mov (.t 41)), none⟩])
      (.seq
       (.ops [
         ⟨(some 43), (.mov (.t 8)), none⟩,
         ⟨(some 44), (.slice 1 (.t 43) (some (.c (.int .i64 1))) none), none⟩,
         ⟨(some 45), (.call (.f 48) [(.t 44)]), none⟩,
         ⟨(some 42), (.mov (.t 45)), none⟩,
         ⟨(some 46), (.ext (.t 42) 0), none⟩,
         ⟨(some 47), (.ext (.t 42) 1), none⟩,
         ⟨(some 10), (.mov (.t 46)), none⟩,
         ⟨(some 11), (.mov (.t 47)), none⟩])
       (.seq
        (.block 0
         (.seq
          (.ops [
            ⟨(some 49), (.mov (.t 7)), none⟩,
            ⟨(some 50), (.un .not (.t 49)), none⟩,
            ⟨(some 51), (.mov (.t 50)), none⟩,
            ⟨(some 52), (.mov (.t 9)), (some (51, false))⟩,
            ⟨(some 53), (.un .not (.t 52)), (some (51, false))⟩,
            ⟨(some 54), (.pick (.t 51) (.c (.bool true)) (.t 53)), none⟩,
            ⟨(some 55), (.mov (.t 54)), none⟩,
            ⟨(some 56), (.mov (.t 11)), (some (55, false))⟩,
            ⟨(some 57), (.un .not (.t 56)), (some (55, false))⟩,
            ⟨(some 58), (.pick (.t 55) (.c (.bool true)) (.t 57)), none⟩,
            ⟨(some 48), (.mov (.t 58)), none⟩])
          (.cond (.t 48)
           (.seq
            (.ops [
              ⟨(some 2), (.mov (.c (.str []))), none⟩,
              ⟨(some 3), (.mov (.c (.str []))), none⟩,
              ⟨(some 4), (.mov (.c (.str []))), none⟩,
              ⟨(some 5), (.mov (.c (.int .i64 400))), none⟩])
            .ret)
           (.seq
            (.ops [
              ⟨(some 60), (.mov (.t 2)), none⟩,
              ⟨(some 61), (.bin .neq (.t 60) (.c (.str [71, 69, 84]))), none⟩,
              ⟨(some 62), (.mov (.t 61)), none⟩,
              ⟨(some 63), (.mov (.t 2)), (some (62, true))⟩,
              ⟨(some 64), (.bin .neq (.t 63) (.c (.str [80, 79, 83, 84]))), (some (62, true))⟩,
              ⟨(some 65), (.pick (.t 62) (.t 64) (.c (.bool false))), none⟩,
              ⟨(some 59), (.mov (.t 65)), none⟩])
            (.cond (.t 59)
             (.seq
              (.ops [
                ⟨(some 2), (.mov (.c (.str []))), none⟩,
                ⟨(some 3), (.mov (.c (.str []))), none⟩,
                ⟨(some 4), (.mov (.c (.str []))), none⟩,
                ⟨(some 5), (.mov (.c (.int .i64 405))), none⟩])
              .ret)
             (.seq
              (.ops [
                ⟨(some 67), (.mov (.t 10)), none⟩,
                ⟨(some 68), (.bin .gtr (.t 67) (.c (.int .i64 4096))), none⟩,
                ⟨(some 66), (.mov (.t 68)), none⟩])
              (.cond (.t 66)
               (.seq
                (.ops [
                  ⟨(some 2), (.mov (.c (.str []))), none⟩,
                  ⟨(some 3), (.mov (.c (.str []))), none⟩,
                  ⟨(some 4), (.mov (.c (.str []))), none⟩,
                  ⟨(some 5), (.mov (.c (.int .i64 413))), none⟩])
                .ret)
               (.seq
                (.ops [
                  ⟨(some 70), (.mov (.t 10)), none⟩,
                  ⟨(some 71), (.mov (.t 4)), none⟩,
                  ⟨(some 72), (.lenS (.t 71)), none⟩,
                  ⟨(some 73), (.bin .neq (.t 70) (.t 72)), none⟩,
                  ⟨(some 74), (.mov (.t 73)), none⟩,
                  ⟨(some 75), (.mov (.t 4)), (some (74, false))⟩,
                  ⟨(some 76), (.call (.f 49) [(.t 75)]), (some (74, false))⟩,
                  ⟨(some 77), (.un .not (.t 76)), (some (74, false))⟩,
                  ⟨(some 78), (.pick (.t 74) (.c (.bool true)) (.t 77)), none⟩,
                  ⟨(some 69), (.mov (.t 78)), none⟩])
                (.cond (.t 69)
                 (.seq
                  (.ops [
                    ⟨(some 2), (.mov (.c (.str []))), none⟩,
                    ⟨(some 3), (.mov (.c (.str []))), none⟩,
                    ⟨(some 4), (.mov (.c (.str []))), none⟩,
                    ⟨(some 5), (.mov (.c (.int .i64 400))), none⟩])
                  .ret)
                 .skip)))))))))
        (.seq
         (.ops [
           ⟨(some 79), (.mov (.t 2)), none⟩,
           ⟨(some 80), (.mov (.t 3)), none⟩,
           ⟨(some 81), (.mov (.t 4)), none⟩,
           ⟨(some 2), (.mov (.t 79)), none⟩,
           ⟨(some 3), (.mov (.t 80)), none⟩,
           ⟨(some 4), (.mov (.t 81)), none⟩,
           ⟨(some 5), (.mov (.c (.int .i64 200))), none⟩])
         .ret))))))))

section
variable {E : Env}
theorem splitK_len (sep : List UInt8) : ∀ (k : Nat) (s : List UInt8), ∀ l ∈ Lib.splitK sep 0 k s, l.length ≤ s.length
  | 0, s, l, h => by rw [Lib.splitK, List.mem_singleton] at h; rw [h]; exact Nat.le_refl _
  | k + 1, s, l, h => by
    rw [Lib.splitK] at h
    split at h
    · rw [List.mem_singleton] at h; rw [h]; exact Nat.le_refl _
    · rcases List.mem_cons.1 h with h | h
      · rw [h, List.length_take]; omega
      · have := splitK_len sep k _ l h
        rw [List.length_drop] at this; omega
theorem splitL_bound (sep s : List UInt8) (h1 : 1 ≤ sep.length) : 1 ≤ (splitL sep s).length ∧ (splitL sep s).length ≤ s.length + 1 ∧ ∀ l ∈ splitL sep s, l.length ≤ s.length := by
  have hn : (splitL sep s).length = Lib.countB ⟨s.toArray⟩ ⟨sep.toArray⟩ + 1 := by
    unfold splitL
    rw [List.length_map]
    exact Lib.splitB_all _ (by simpa [ByteArray.size] using h1) 0 _ _ rfl
  have hc : Lib.countB ⟨s.toArray⟩ ⟨sep.toArray⟩ ≤ s.length := by
    have := Lib.countB_le (⟨sep.toArray⟩ : ByteArray) (by simpa [ByteArray.size] using h1) s.length ⟨s.toArray⟩ (by simp [ByteArray.size])
    simpa [ByteArray.size] using this
  refine ⟨by omega, by omega, fun l hl => ?_⟩
  unfold splitL at hl
  rw [Lib.splitB_data] at hl
  exact splitK_len _ _ _ l hl
structure Req where
  m : List UInt8
  p : List UInt8
  b : List UInt8
  st : Int
def Req.iv (r : Req) : IV := .tup [.str r.m, .str r.p, .str r.b, .int .i64 r.st]
def endL : List UInt8 := [13, 10, 13, 10]
def readF (valid : List UInt8 → Bool) (raw : List UInt8) : Req :=
  let c := Lib.cut raw endL
  if (!c.2.2 || decide (4096 < (c.1.length : Int) + 4)) && decide (4096 ≤ (raw.length : Int)) then ⟨[], [], [], 431⟩
  else
    let ls := splitL [13, 10] c.1
    let l0 := ls.getD 0 []
    let g := lengthGo (ls.drop 1) 0 false
    if (!c.2.2 || !firstOk l0) || !g.2 then ⟨[], [], [], 400⟩
    else if !decide ((cut1 l0).1 = [71, 69, 84]) && !decide ((cut1 l0).1 = [80, 79, 83, 84]) then ⟨[], [], [], 405⟩
    else if 4096 < g.1 then ⟨[], [], [], 413⟩
    else if !decide (g.1 = (c.2.1.length : Int)) || !valid c.2.1 then ⟨[], [], [], 400⟩
    else ⟨(cut1 l0).1, (cut1 (cut1 l0).2.1).1, c.2.1, 200⟩
theorem read_pure (hP : E.P = Tryz.prog) {m : Int} (hm : E.gl 2 = some [.int .i64 m]) (valid : List UInt8 → Bool) (hv : ∀ s : List UInt8, s.length ≤ 1000000 → XPure E.noPan 49 [.str s] (.bool (valid s))) (raw : List UInt8) (hr : raw.length ≤ 100000) :
    XPure E 29 [.isl (bytesRows raw)] (readF valid raw).iv := by
  refine xpure_t4 (n := Tryz.f29.ntmps) (c := y11) (t := 2) (t' := 3) (t'' := 4) (t4 := 5) (by rw [hP]; rfl) (by rw [hP]; kernel_rfl) (by decide) (Nat.le_of_ble_eq_true rfl) ?_
  generalize hρ : entry _ = ρ
  have h0 : ρ 0 = .isl (bytesRows raw) := by rw [← hρ]; rfl
  clear hρ
  unfold y11
  simp only [h0, go_sem, Nat.reduceEqDiff, reduceIte, Int.reduceEq, Int.reduceLT, Int.reduceLE, Nat.reduceAdd, Nat.reduceLT, Nat.reduceLeDiff, Int.reduceToNat, Int.reduceSub, Int.reduceAdd, Int.reduceNeg]
  have hbs : (rowsSl [] (IV.isl (bytesRows raw))).bind (mapO byteOf) = some raw := bytesRows_of raw
  rw [hbs]
  have hct := cut_pure (E := E.noPan) hP hm raw endL (by omega)
  have hcl := cut_len raw endL
  unfold readF
  generalize Lib.cut raw endL = c at *
  simp only [h0, go_sem, Nat.reduceEqDiff, reduceIte, Int.reduceEq, Int.reduceLT, Int.reduceLE, Nat.reduceAdd, Nat.reduceLT, Nat.reduceLeDiff, Int.reduceToNat, Int.reduceSub, Int.reduceAdd, Int.reduceNeg]
  refine xcall_pure (args' := [.str raw, .str endL]) rfl hct rfl ?_
  have hwr : IntKind.i64.wrap ((c.1.length : Int) + 4) = (c.1.length : Int) + 4 := wrap64 (by omega) (by omega)
  simp only [h0, hwr, go_sem, Nat.reduceEqDiff, reduceIte, Int.reduceEq, Int.reduceLT, Int.reduceLE, Nat.reduceAdd, Nat.reduceLT, Nat.reduceLeDiff, Int.reduceToNat, Int.reduceSub, Int.reduceAdd, Int.reduceNeg]
  refine s_mg (by simp only [h0, hwr, go_sem, Nat.reduceEqDiff, reduceIte, Int.reduceEq, Int.reduceLT, Int.reduceLE, Nat.reduceAdd, Nat.reduceLT, Nat.reduceLeDiff, Int.reduceToNat, Int.reduceSub, Int.reduceAdd, Int.reduceNeg]; try rfl) ?_; simp only [cut_g, cut_t, cut_none, cut_out, memN_cons, memN_nil, Nat.reduceEqDiff, reduceIte, List.nil_append, List.cons_append, not_false_eq_true]; refine ex_merge rfl (by simp only [h0, hwr, go_sem, Nat.reduceEqDiff, reduceIte, Int.reduceEq, Int.reduceLT, Int.reduceLE, Nat.reduceAdd, Nat.reduceLT, Nat.reduceLeDiff, Int.reduceToNat, Int.reduceSub, Int.reduceAdd, Int.reduceNeg]) (by intro hb; simp only [hb, h0, hwr, go_sem, Nat.reduceEqDiff, reduceIte, Int.reduceEq, Int.reduceLT, Int.reduceLE, Nat.reduceAdd, Nat.reduceLT, Nat.reduceLeDiff, Int.reduceToNat, Int.reduceSub, Int.reduceAdd, Int.reduceNeg]; first | exact rfl | exact ⟨rfl, rfl⟩) (fun vs => ?_); simp only [h0, hwr, go_sem, Nat.reduceEqDiff, reduceIte, Int.reduceEq, Int.reduceLT, Int.reduceLE, Nat.reduceAdd, Nat.reduceLT, Nat.reduceLeDiff, Int.reduceToNat, Int.reduceSub, Int.reduceAdd, Int.reduceNeg]
  refine s_mg (by simp only [h0, hwr, bytesRows_len, go_sem, Nat.reduceEqDiff, reduceIte, Int.reduceEq, Int.reduceLT, Int.reduceLE, Nat.reduceAdd, Nat.reduceLT, Nat.reduceLeDiff, Int.reduceToNat, Int.reduceSub, Int.reduceAdd, Int.reduceNeg]; try rfl) ?_; simp only [cut_g, cut_t, cut_none, cut_out, memN_cons, memN_nil, Nat.reduceEqDiff, reduceIte, List.nil_append, List.cons_append, not_false_eq_true]; refine ex_merge rfl (by simp only [h0, hwr, bytesRows_len, go_sem, Nat.reduceEqDiff, reduceIte, Int.reduceEq, Int.reduceLT, Int.reduceLE, Nat.reduceAdd, Nat.reduceLT, Nat.reduceLeDiff, Int.reduceToNat, Int.reduceSub, Int.reduceAdd, Int.reduceNeg]) (by intro hb; simp only [hb, h0, hwr, bytesRows_len, go_sem, Nat.reduceEqDiff, reduceIte, Int.reduceEq, Int.reduceLT, Int.reduceLE, Nat.reduceAdd, Nat.reduceLT, Nat.reduceLeDiff, Int.reduceToNat, Int.reduceSub, Int.reduceAdd, Int.reduceNeg]; first | exact rfl | exact ⟨rfl, rfl⟩) (fun vs => ?_); simp only [h0, hwr, bytesRows_len, go_sem, Nat.reduceEqDiff, reduceIte, Int.reduceEq, Int.reduceLT, Int.reduceLE, Nat.reduceAdd, Nat.reduceLT, Nat.reduceLeDiff, Int.reduceToNat, Int.reduceSub, Int.reduceAdd, Int.reduceNeg]
  refine s_cond (b := (!c.2.2 || decide (4096 < (c.1.length : Int) + 4)) && decide (4096 ≤ (raw.length : Int))) (by simp only [h0, go_sem, Nat.reduceEqDiff, reduceIte, Int.reduceEq, Int.reduceLT, Int.reduceLE, Nat.reduceAdd, Nat.reduceLT, Nat.reduceLeDiff, Int.reduceToNat, Int.reduceSub, Int.reduceAdd, Int.reduceNeg]; try rfl) ?_ ?_ <;> intro hbig <;> simp only [hbig, h0, go_sem, Nat.reduceEqDiff, reduceIte, Int.reduceEq, Int.reduceLT, Int.reduceLE, Nat.reduceAdd, Nat.reduceLT, Nat.reduceLeDiff, Int.reduceToNat, Int.reduceSub, Int.reduceAdd, Int.reduceNeg]
  · rfl
  have hsp := split_pure (E := E.noPan) hP hm c.1 [13, 10] (by omega) (by decide)
  refine xcall_pure (args' := [.str c.1, .str [13, 10]]) rfl hsp rfl ?_
  obtain ⟨hls1, hls2, hls3⟩ : 1 ≤ (splitL [13, 10] c.1).length ∧ (splitL [13, 10] c.1).length ≤ 200000 ∧ ∀ l ∈ splitL [13, 10] c.1, l.length ≤ 200000 := by
    obtain ⟨q1, q2, q3⟩ := splitL_bound [13, 10] c.1 (by decide)
    exact ⟨q1, by omega, fun l hl => by have := q3 l hl; omega⟩
  generalize splitL [13, 10] c.1 = ls at *
  have hsr := sRows_get (l := ls) (i := 0) (by omega)
  have hm0 : (ls.getD 0 []).length ≤ 200000 := hls3 _ (by rw [List.getD_eq_getElem?_getD, List.getElem?_eq_getElem (by omega)]; exact List.getElem_mem _)
  have hfi := first_pure (E := E.noPan) hP hm (ls.getD 0 []) (by omega)
  have hdr : (sRows ls).drop 1 = sRows (ls.drop 1) := by simp [sRows, List.map_drop]
  have hlg := length_pure (E := E.noPan) hP hm (ls.drop 1) (by rw [List.length_drop]; omega) (fun l hl => by have := hls3 l (List.mem_of_mem_drop hl); omega)
  simp only [h0, sRows_len, rows_s, hsr, go_sem, Nat.reduceEqDiff, reduceIte, Int.reduceEq, Int.reduceLT, Int.reduceLE, Nat.reduceAdd, Nat.reduceLT, Nat.reduceLeDiff, Int.reduceToNat, Int.reduceSub, Int.reduceAdd, Int.reduceNeg]
  refine ⟨by omega, by omega, ?_⟩
  generalize ls.getD 0 [] = l0 at *
  refine xcall_pure (args' := [.str l0]) rfl hfi rfl ?_
  simp only [h0, sRows_len, rows_s, hdr, go_sem, Nat.reduceEqDiff, reduceIte, Int.reduceEq, Int.reduceLT, Int.reduceLE, Nat.reduceAdd, Nat.reduceLT, Nat.reduceLeDiff, Int.reduceToNat, Int.reduceSub, Int.reduceAdd, Int.reduceNeg]
  refine ⟨by omega, ?_⟩
  refine xcall_pure (args' := [.isl (sRows (ls.drop 1))]) rfl hlg rfl ?_
  generalize lengthGo (ls.drop 1) 0 false = g at *
  simp only [h0, go_sem, Nat.reduceEqDiff, reduceIte, Int.reduceEq, Int.reduceLT, Int.reduceLE, Nat.reduceAdd, Nat.reduceLT, Nat.reduceLeDiff, Int.reduceToNat, Int.reduceSub, Int.reduceAdd, Int.reduceNeg]
  refine s_mg (by simp only [h0, go_sem, Nat.reduceEqDiff, reduceIte, Int.reduceEq, Int.reduceLT, Int.reduceLE, Nat.reduceAdd, Nat.reduceLT, Nat.reduceLeDiff, Int.reduceToNat, Int.reduceSub, Int.reduceAdd, Int.reduceNeg]; try rfl) ?_; simp only [cut_g, cut_t, cut_none, cut_out, memN_cons, memN_nil, Nat.reduceEqDiff, reduceIte, List.nil_append, List.cons_append, not_false_eq_true]; refine ex_merge rfl (by simp only [h0, go_sem, Nat.reduceEqDiff, reduceIte, Int.reduceEq, Int.reduceLT, Int.reduceLE, Nat.reduceAdd, Nat.reduceLT, Nat.reduceLeDiff, Int.reduceToNat, Int.reduceSub, Int.reduceAdd, Int.reduceNeg]) (by intro hb; simp only [hb, h0, go_sem, Nat.reduceEqDiff, reduceIte, Int.reduceEq, Int.reduceLT, Int.reduceLE, Nat.reduceAdd, Nat.reduceLT, Nat.reduceLeDiff, Int.reduceToNat, Int.reduceSub, Int.reduceAdd, Int.reduceNeg]; first | exact rfl | exact ⟨rfl, rfl⟩) (fun vs => ?_); simp only [h0, go_sem, Nat.reduceEqDiff, reduceIte, Int.reduceEq, Int.reduceLT, Int.reduceLE, Nat.reduceAdd, Nat.reduceLT, Nat.reduceLeDiff, Int.reduceToNat, Int.reduceSub, Int.reduceAdd, Int.reduceNeg]
  refine s_mg (by simp only [h0, go_sem, Nat.reduceEqDiff, reduceIte, Int.reduceEq, Int.reduceLT, Int.reduceLE, Nat.reduceAdd, Nat.reduceLT, Nat.reduceLeDiff, Int.reduceToNat, Int.reduceSub, Int.reduceAdd, Int.reduceNeg]; try rfl) ?_; simp only [cut_g, cut_t, cut_none, cut_out, memN_cons, memN_nil, Nat.reduceEqDiff, reduceIte, List.nil_append, List.cons_append, not_false_eq_true]; refine ex_merge rfl (by simp only [h0, go_sem, Nat.reduceEqDiff, reduceIte, Int.reduceEq, Int.reduceLT, Int.reduceLE, Nat.reduceAdd, Nat.reduceLT, Nat.reduceLeDiff, Int.reduceToNat, Int.reduceSub, Int.reduceAdd, Int.reduceNeg]) (by intro hb; simp only [hb, h0, go_sem, Nat.reduceEqDiff, reduceIte, Int.reduceEq, Int.reduceLT, Int.reduceLE, Nat.reduceAdd, Nat.reduceLT, Nat.reduceLeDiff, Int.reduceToNat, Int.reduceSub, Int.reduceAdd, Int.reduceNeg]; first | exact rfl | exact ⟨rfl, rfl⟩) (fun vs => ?_); simp only [h0, go_sem, Nat.reduceEqDiff, reduceIte, Int.reduceEq, Int.reduceLT, Int.reduceLE, Nat.reduceAdd, Nat.reduceLT, Nat.reduceLeDiff, Int.reduceToNat, Int.reduceSub, Int.reduceAdd, Int.reduceNeg]
  refine s_cond (b := (!c.2.2 || !firstOk l0) || !g.2) (by simp only [h0, go_sem, Nat.reduceEqDiff, reduceIte, Int.reduceEq, Int.reduceLT, Int.reduceLE, Nat.reduceAdd, Nat.reduceLT, Nat.reduceLeDiff, Int.reduceToNat, Int.reduceSub, Int.reduceAdd, Int.reduceNeg]; try rfl) ?_ ?_ <;> intro hb1 <;> simp only [hb1, h0, go_sem, Nat.reduceEqDiff, reduceIte, Int.reduceEq, Int.reduceLT, Int.reduceLE, Nat.reduceAdd, Nat.reduceLT, Nat.reduceLeDiff, Int.reduceToNat, Int.reduceSub, Int.reduceAdd, Int.reduceNeg]
  · simp only [hbig, hb1, Bool.false_eq_true, reduceIte]; rfl
  refine s_mg (by simp only [h0, go_sem, Nat.reduceEqDiff, reduceIte, Int.reduceEq, Int.reduceLT, Int.reduceLE, Nat.reduceAdd, Nat.reduceLT, Nat.reduceLeDiff, Int.reduceToNat, Int.reduceSub, Int.reduceAdd, Int.reduceNeg]; try rfl) ?_; simp only [cut_g, cut_t, cut_none, cut_out, memN_cons, memN_nil, Nat.reduceEqDiff, reduceIte, List.nil_append, List.cons_append, not_false_eq_true]; refine ex_merge rfl (by simp only [h0, go_sem, Nat.reduceEqDiff, reduceIte, Int.reduceEq, Int.reduceLT, Int.reduceLE, Nat.reduceAdd, Nat.reduceLT, Nat.reduceLeDiff, Int.reduceToNat, Int.reduceSub, Int.reduceAdd, Int.reduceNeg]) (by intro hb; simp only [hb, h0, go_sem, Nat.reduceEqDiff, reduceIte, Int.reduceEq, Int.reduceLT, Int.reduceLE, Nat.reduceAdd, Nat.reduceLT, Nat.reduceLeDiff, Int.reduceToNat, Int.reduceSub, Int.reduceAdd, Int.reduceNeg]; first | exact rfl | exact ⟨rfl, rfl⟩) (fun vs => ?_); simp only [h0, go_sem, Nat.reduceEqDiff, reduceIte, Int.reduceEq, Int.reduceLT, Int.reduceLE, Nat.reduceAdd, Nat.reduceLT, Nat.reduceLeDiff, Int.reduceToNat, Int.reduceSub, Int.reduceAdd, Int.reduceNeg]
  refine s_cond (b := !decide ((cut1 l0).1 = [71, 69, 84]) && !decide ((cut1 l0).1 = [80, 79, 83, 84])) (by simp only [h0, go_sem, Nat.reduceEqDiff, reduceIte, Int.reduceEq, Int.reduceLT, Int.reduceLE, Nat.reduceAdd, Nat.reduceLT, Nat.reduceLeDiff, Int.reduceToNat, Int.reduceSub, Int.reduceAdd, Int.reduceNeg]; try rfl) ?_ ?_ <;> intro hb2 <;> simp only [hb2, h0, go_sem, Nat.reduceEqDiff, reduceIte, Int.reduceEq, Int.reduceLT, Int.reduceLE, Nat.reduceAdd, Nat.reduceLT, Nat.reduceLeDiff, Int.reduceToNat, Int.reduceSub, Int.reduceAdd, Int.reduceNeg]
  · simp only [hbig, hb1, hb2, Bool.false_eq_true, reduceIte]; rfl
  by_cases h413 : 4096 < g.1
  · have e4 : (4096 < g.1) = True := eq_true h413
    simp only [h0, e4, decide_true, go_sem, Nat.reduceEqDiff, reduceIte, Int.reduceEq, Int.reduceLT, Int.reduceLE, Nat.reduceAdd, Nat.reduceLT, Nat.reduceLeDiff, Int.reduceToNat, Int.reduceSub, Int.reduceAdd, Int.reduceNeg]
    simp only [hbig, hb1, hb2, Bool.false_eq_true, reduceIte]; rfl
  have e4 : (4096 < g.1) = False := eq_false h413
  simp only [h0, e4, decide_false, go_sem, Nat.reduceEqDiff, reduceIte, Int.reduceEq, Int.reduceLT, Int.reduceLE, Nat.reduceAdd, Nat.reduceLT, Nat.reduceLeDiff, Int.reduceToNat, Int.reduceSub, Int.reduceAdd, Int.reduceNeg]
  refine s_mg (by simp only [h0, go_sem, Nat.reduceEqDiff, reduceIte, Int.reduceEq, Int.reduceLT, Int.reduceLE, Nat.reduceAdd, Nat.reduceLT, Nat.reduceLeDiff, Int.reduceToNat, Int.reduceSub, Int.reduceAdd, Int.reduceNeg]; try rfl) ?_; simp only [cut_g, cut_t, cut_none, cut_out, memN_cons, memN_nil, Nat.reduceEqDiff, reduceIte, List.nil_append, List.cons_append, not_false_eq_true]; refine ex_merge rfl (by simp only [h0, go_sem, Nat.reduceEqDiff, reduceIte, Int.reduceEq, Int.reduceLT, Int.reduceLE, Nat.reduceAdd, Nat.reduceLT, Nat.reduceLeDiff, Int.reduceToNat, Int.reduceSub, Int.reduceAdd, Int.reduceNeg]) (by intro hb; simp only [hb, h0, go_sem, Nat.reduceEqDiff, reduceIte, Int.reduceEq, Int.reduceLT, Int.reduceLE, Nat.reduceAdd, Nat.reduceLT, Nat.reduceLeDiff, Int.reduceToNat, Int.reduceSub, Int.reduceAdd, Int.reduceNeg]; refine xcall_pure (args' := [.str c.2.1]) rfl (hv c.2.1 (by omega)) rfl ?_; (try simp only [h0, go_sem, Nat.reduceEqDiff, reduceIte, Int.reduceEq, Int.reduceLT, Int.reduceLE, Nat.reduceAdd, Nat.reduceLT, Nat.reduceLeDiff, Int.reduceToNat, Int.reduceSub, Int.reduceAdd, Int.reduceNeg]); (try simp only [hb, h0, go_sem, Nat.reduceEqDiff, reduceIte, Int.reduceEq, Int.reduceLT, Int.reduceLE, Nat.reduceAdd, Nat.reduceLT, Nat.reduceLeDiff, Int.reduceToNat, Int.reduceSub, Int.reduceAdd, Int.reduceNeg]); first | exact rfl | exact ⟨rfl, rfl⟩) (fun vs => ?_); simp only [h0, go_sem, Nat.reduceEqDiff, reduceIte, Int.reduceEq, Int.reduceLT, Int.reduceLE, Nat.reduceAdd, Nat.reduceLT, Nat.reduceLeDiff, Int.reduceToNat, Int.reduceSub, Int.reduceAdd, Int.reduceNeg]
  refine s_cond (b := !decide (g.1 = (c.2.1.length : Int)) || !valid c.2.1) (by simp only [h0, go_sem, Nat.reduceEqDiff, reduceIte, Int.reduceEq, Int.reduceLT, Int.reduceLE, Nat.reduceAdd, Nat.reduceLT, Nat.reduceLeDiff, Int.reduceToNat, Int.reduceSub, Int.reduceAdd, Int.reduceNeg]; try rfl) ?_ ?_ <;> intro hb3 <;> simp only [hb3, h0, go_sem, Nat.reduceEqDiff, reduceIte, Int.reduceEq, Int.reduceLT, Int.reduceLE, Nat.reduceAdd, Nat.reduceLT, Nat.reduceLeDiff, Int.reduceToNat, Int.reduceSub, Int.reduceAdd, Int.reduceNeg]
  · simp only [hbig, hb1, hb2, hb3, e4, Bool.false_eq_true, reduceIte]; rfl
  · simp only [hbig, hb1, hb2, hb3, e4, Bool.false_eq_true, reduceIte]; rfl
end
end Go.X.TryzW
end
