/- Parts of the proof: Xgflength. -/
import Derived.Test.YtepkimlnaoaboabGreatDoorXP22
import Derived.Lib.Atoi
set_option linter.unusedVariables false
set_option linter.unusedSimpArgs false
set_option linter.unusedSectionVars false
section
open Go Go.X Go.Proofs
set_option maxRecDepth 100000
set_option maxHeartbeats 4000000
set_option linter.unusedSimpArgs false
set_option linter.unusedVariables false
namespace Go.X.TryzW
/- "tiller/front.length" params { toList := [33] } results { toList := [Go.ResultVar.tmp 2, Go.ResultVar.tmp 3] } -/
def y28 : XC :=
 (.seq
  (.ops [
    ⟨(some 2), (.mov (.c (.int .i64 0))), none⟩,
    ⟨(some 3), (.mov (.c (.bool false))), none⟩])
  (.seq
   (.ops [
     ⟨(some 4), (.mov (.c (.int .i64 0))), none⟩,
     ⟨(some 5), (.mov (.c (.bool false))), none⟩])
   (.seq
    (.seq
     (.ops [
       ⟨(some 11), (.mov (.t 0)), none⟩,
       ⟨(some 12), (.len (.t 11)), none⟩,
       ⟨(some 13), (.mov (.c (.int .i64 0))), none⟩])
     (.block 0
      (.loop
       (.seq
        (.ops [
          ⟨(some 14), (.bin .lss (.t 13) (.t 12)), none⟩])
        (.seq
         (.cond (.t 14)
          .skip
          (.exit 0))
         (.seq
          (.block 1
           (.seq
            (.ops [
              ⟨(some 15), (.idxS 1 (.t 11) (.t 13)), none⟩,
              ⟨(some 16), (.load1 (.t 15)), none⟩,
              ⟨(some 7), (.mov (.t 16)), none⟩])
            (.seq
             (.ops [
               ⟨(some 18), (.mov (.t 7)), none⟩,
               ⟨(some 19), (.call (.f 27) [(.t 18), (.c (.str [58]))]), none⟩,
               ⟨(some 17), (.mov (.t 19)), none⟩,
               ⟨(some 20), (.ext (.t 17) 0), none⟩,
               ⟨(some 21), (.ext (.t 17) 1), none⟩,
               ⟨(some 22), (.ext (.t 17) 2), none⟩,
               ⟨(some 8), (.mov (.t 20)), none⟩,
               ⟨(some 9), (.mov (.t 21)), none⟩,
               ⟨(some 10), (.mov (.t 22)), none⟩])
             (.seq
              (.seq
               (.ops [
                 ⟨(some 23), (.mov (.t 10)), none⟩,
                 ⟨(some 24), (.un .not (.t 23)), none⟩,
                 ⟨(some 25), (.mov (.t 24)), none⟩,
                 ⟨(some 26), (.mov (.t 8)), (some (25, false))⟩,
                 ⟨(some 27), (.call (.f 61) [(.t 26), (.f 64)]), (some (25, false))⟩,
                 ⟨(some 28), (.un .not (.t 27)), (some (25, false))⟩,
                 ⟨(some 29), (.pick (.t 25) (.c (.bool true)) (.t 28)), none⟩,
                 ⟨(some 30), (.mov (.t 29)), none⟩,
                 ⟨(some 31), (.mov (.t 9)), (some (30, false))⟩,
                 ⟨(some 32), (.bin .neq (.t 31) (.c (.str []))), (some (30, false))⟩,
                 ⟨(some 33), (.mov (.t 32)), (some (30, false))⟩,
                 ⟨(some 34), (.mov (.t 9)), (some (33, true))⟩,
                 ⟨(some 35), (.call (.f 61) [(.t 34), (.f 67)]), (some (33, true))⟩,
                 ⟨(some 36), (.un .not (.t 35)), (some (33, true))⟩,
                 ⟨(some 37), (.pick (.t 33) (.t 36) (.c (.bool false))), (some (30, false))⟩,
                 ⟨(some 38), (.pick (.t 30) (.c (.bool true)) (.t 37)), none⟩])
               (.cond (.t 38)
                (.seq
                 (.ops [
                   ⟨(some 2), (.mov (.c (.int .i64 0))), none⟩,
                   ⟨(some 3), (.mov (.c (.bool false))), none⟩])
                 .ret)
                .skip))
              (.seq
               (.seq
                (.ops [
                  ⟨(some 39), (.mov (.t 8)), none⟩,
                  ⟨(some 40), (.call (.f 68) [(.t 39), (.c (.str [99, 111, 110, 116, 101, 110, 116, 45, 108, 101, 110, 103, 116, 104]))]), none⟩,
                  ⟨(some 41), (.un .not (.t 40)), none⟩])
                (.cond (.t 41)
                 (.exit 1)
                 .skip))
               (.seq
                (.ops [
                  ⟨(some 42), (.mov (.t 9)), none⟩,
                  ⟨(some 43), (.call (.f 69) [(.t 42), (.c (.str [32]))]), none⟩,
                  ⟨(some 9), (.mov (.t 43)), none⟩])
                (.seq
                 (.seq
                  (.ops [
                    ⟨(some 44), (.mov (.t 5)), none⟩,
                    ⟨(some 45), (.mov (.t 44)), none⟩,
                    ⟨(some 46), (.mov (.t 9)), (some (45, false))⟩,
                    ⟨(some 47), (.call (.f 70) [(.t 46), (.c (.int .i64 9))]), (some (45, false))⟩,
                    ⟨(some 48), (.un .not (.t 47)), (some (45, false))⟩,
                    ⟨(some 49), (.pick (.t 45) (.c (.bool true)) (.t 48)), none⟩])
                  (.cond (.t 49)
                   (.seq
                    (.ops [
                      ⟨(some 2), (.mov (.c (.int .i64 0))), none⟩,
                      ⟨(some 3), (.mov (.c (.bool false))), none⟩])
                    .ret)
                   .skip))
                 (.seq
                  (.ops [
                    ⟨(some 51), (.mov (.t 9)), none⟩,
                    ⟨(some 52), (.call (.f 71) [(.t 51)]), none⟩,
                    ⟨(some 50), (.mov (.t 52)), none⟩,
                    ⟨(some 53), (.ext (.t 50) 0), none⟩,
                    ⟨(some 54), (.ext (.t 50) 1), none⟩,
                    ⟨(some 4), (.mov (.t 53)), none⟩])
                  (.ops [
                    ⟨(some 5), (.mov (.c (.bool true))), none⟩])))))))))
          (.ops [
            ⟨(some 55), (.bin .add (.t 13) (.c (.int .i64 1))), none⟩,
            ⟨(some 13), (.mov (.t 55)), none⟩])))))))
    (.seq
     (.ops [
       ⟨(some 56), (.mov (.t 4)), none⟩,
       ⟨(some 2), (.mov (.t 56)), none⟩,
       ⟨(some 3), (.mov (.c (.bool true))), none⟩])
     .ret))))

section
variable {E : Env}
def clL : List UInt8 := [99, 111, 110, 116, 101, 110, 116, 45, 108, 101, 110, 103, 116, 104]
def headBad (l : List UInt8) : Bool := (!(Lib.cut l [58]).2.2 || !madeF nameF (Lib.cut l [58]).1) || (!decide ((Lib.cut l [58]).2.1 = []) && !madeF valueF (Lib.cut l [58]).2.1)
def headVal (l : List UInt8) : List UInt8 := Lib.trimB (Lib.cut l [58]).2.1 32
def lengthGo : List (List UInt8) → Int → Bool → Int × Bool
  | [], n, _ => (n, true)
  | l :: r, n, said =>
    if headBad l then (0, false)
    else if !Lib.equalFold (Lib.cut l [58]).1 clL then lengthGo r n said
    else if said || !wholeF (headVal l) 9 then (0, false)
    else lengthGo r ((Lib.atoi (headVal l)).getD 0) true
theorem digits_from : ∀ (l : List UInt8) (a : Nat), l.all digitF = true → ∃ n, Lib.decFrom a l = some n
  | [], a, _ => ⟨a, rfl⟩
  | b :: l, a, h => by
    rw [List.all_cons, Bool.and_eq_true] at h
    have hb : 48 ≤ b.toNat ∧ b.toNat ≤ 57 := by
      have := h.1
      unfold digitF at this
      simp only [Bool.and_eq_true, decide_eq_true_eq] at this
      omega
    simp only [Lib.decFrom, Lib.digitVal, if_pos hb]
    exact digits_from l _ h.2
theorem whole_atoi {v : List UInt8} {k : Int} (h : wholeF v k = true) : ∃ n : Nat, Lib.atoi v = some (n : Int) ∧ (v.length : Int) ≤ k := by
  unfold wholeF madeF at h
  simp only [Bool.and_eq_true, decide_eq_true_eq, Bool.not_eq_true', decide_eq_false_iff_not] at h
  obtain ⟨⟨⟨h1, h2⟩, h3⟩, _⟩ := h
  obtain ⟨n, hn⟩ := digits_from v 0 h1
  refine ⟨n, ?_, h3⟩
  cases v with
  | nil => exact absurd rfl h2
  | cons b l =>
    have hb : 48 ≤ b.toNat ∧ b.toNat ≤ 57 := by
      rw [List.all_cons, Bool.and_eq_true] at h1
      have := h1.1
      unfold digitF at this
      simp only [Bool.and_eq_true, decide_eq_true_eq] at this
      omega
    have e1 : (b == 45) = false := by rw [beq_eq_false_iff_ne]; intro h; subst h; revert hb; decide
    have e2 : (b == 43) = false := by rw [beq_eq_false_iff_ne]; intro h; subst h; revert hb; decide
    unfold Lib.atoi
    simp only [e1, e2, Bool.false_eq_true, if_false]
    unfold Lib.decNat
    rw [hn]; rfl
theorem sRows_len (l : List (List UInt8)) : (sRows l).length = l.length := List.length_map ..
theorem rows_s (l : List (List UInt8)) : Rows 1 (sRows l) := by
  intro row h
  obtain ⟨s, _, rfl⟩ := List.mem_map.1 h
  rfl
theorem sRows_get {l : List (List UInt8)} {i : Nat} (h : i < l.length) : (sRows l).getD i [] = [.str (l.getD i [])] := by
  unfold sRows
  rw [List.getD_eq_getElem?_getD, List.getElem?_map, List.getElem?_eq_getElem h, List.getD_eq_getElem?_getD, List.getElem?_eq_getElem h]; rfl
theorem trimB_len (l : List UInt8) (c : UInt8) : (Lib.trimB l c).length ≤ l.length := by
  unfold Lib.trimB Lib.trimLeftB Lib.trimRightB
  have h1 : ∀ (p : UInt8 → Bool) (l : List UInt8), (l.dropWhile p).length ≤ l.length := fun p l => (List.dropWhile_sublist p).length_le
  refine Nat.le_trans (h1 _ _) ?_
  simpa using h1 _ l.reverse
theorem name_ascii {s : List UInt8} (h : madeF nameF s = true) : ∀ b ∈ s, b.toNat < 128 := by
  intro b hb
  unfold madeF at h
  rw [Bool.and_eq_true, List.all_eq_true] at h
  have := h.1 b hb
  unfold nameF letterF digitF at this
  simp only [Bool.or_eq_true, Bool.and_eq_true, decide_eq_true_eq] at this
  omega
theorem length_pure (hP : E.P = Tryz.prog) {m : Int} (hm : E.gl 2 = some [.int .i64 m]) (ls : List (List UInt8)) (hn : ls.length ≤ 1000000) (hl : ∀ l ∈ ls, l.length ≤ 1000000) : XPure E 48 [.isl (sRows ls)] (.tup [.int .i64 (lengthGo ls 0 false).1, .bool (lengthGo ls 0 false).2]) := by
  refine xpure2 (n := Tryz.f48.ntmps) (c := y28) (t := 2) (t' := 3) (by rw [hP]; rfl) (by rw [hP]; kernel_rfl) (by decide) (Nat.le_of_ble_eq_true rfl) ?_
  generalize hρ : entry _ = ρ
  have h0 : ρ 0 = .isl (sRows ls) := by rw [← hρ]; rfl
  clear hρ
  unfold y28
  simp only [h0, sRows_len, go_sem, Nat.reduceEqDiff, reduceIte, Int.reduceEq, Int.reduceLT, Int.reduceLE, Nat.reduceAdd, Nat.reduceLT, Nat.reduceLeDiff, Int.reduceToNat, Int.reduceSub, Int.reduceAdd, Int.reduceNeg]
  refine s_loop (fun n' ρ L => ∃ (j : Nat) (n : Int) (said : Bool), j ≤ ls.length ∧ n' = ls.length - j ∧ L = [] ∧ lengthGo (ls.drop j) n said = lengthGo ls 0 false ∧ ρ 4 = .int .i64 n ∧ ρ 5 = .bool said ∧ ρ 11 = .isl (sRows ls) ∧ ρ 12 = .int .i64 ls.length ∧ ρ 13 = .int .i64 j)
    ⟨0, 0, false, Nat.zero_le _, rfl, rfl, rfl, by simp only [go_sem, Nat.reduceEqDiff, reduceIte, Int.reduceEq, Int.reduceLT, Int.reduceLE, Nat.reduceAdd, Nat.reduceLT, Nat.reduceLeDiff, Int.reduceToNat, Int.reduceSub, Int.reduceAdd, Int.reduceNeg], by simp only [go_sem, Nat.reduceEqDiff, reduceIte, Int.reduceEq, Int.reduceLT, Int.reduceLE, Nat.reduceAdd, Nat.reduceLT, Nat.reduceLeDiff, Int.reduceToNat, Int.reduceSub, Int.reduceAdd, Int.reduceNeg], by simp only [h0, go_sem, Nat.reduceEqDiff, reduceIte, Int.reduceEq, Int.reduceLT, Int.reduceLE, Nat.reduceAdd, Nat.reduceLT, Nat.reduceLeDiff, Int.reduceToNat, Int.reduceSub, Int.reduceAdd, Int.reduceNeg], by simp only [go_sem, Nat.reduceEqDiff, reduceIte, Int.reduceEq, Int.reduceLT, Int.reduceLE, Nat.reduceAdd, Nat.reduceLT, Nat.reduceLeDiff, Int.reduceToNat, Int.reduceSub, Int.reduceAdd, Int.reduceNeg], by simp only [go_sem, Nat.reduceEqDiff, reduceIte, Int.reduceEq, Int.reduceLT, Int.reduceLE, Nat.reduceAdd, Nat.reduceLT, Nat.reduceLeDiff, Int.reduceToNat, Int.reduceSub, Int.reduceAdd, Int.reduceNeg]; try rfl⟩ ?_
  clear h0 ρ
  rintro n' ρ L ⟨j, n, said, hj, rfl, rfl, hgo, h4, h5, h11, h12, h13⟩
  simp only [h4, h5, h11, h12, h13, go_sem, Nat.reduceEqDiff, reduceIte, Int.reduceEq, Int.reduceLT, Int.reduceLE, Nat.reduceAdd, Nat.reduceLT, Nat.reduceLeDiff, Int.reduceToNat, Int.reduceSub, Int.reduceAdd, Int.reduceNeg]
  refine s_cond (b := decide _) (by simp only [h4, h5, h11, h12, h13, go_sem, Nat.reduceEqDiff, reduceIte, Int.reduceEq, Int.reduceLT, Int.reduceLE, Nat.reduceAdd, Nat.reduceLT, Nat.reduceLeDiff, Int.reduceToNat, Int.reduceSub, Int.reduceAdd, Int.reduceNeg]; try rfl) ?_ ?_ <;> intro hb <;> simp only [hb, h4, h5, h11, h12, h13, sRows_len, rows_s, go_sem, Nat.reduceEqDiff, reduceIte, Int.reduceEq, Int.reduceLT, Int.reduceLE, Nat.reduceAdd, Nat.reduceLT, Nat.reduceLeDiff, Int.reduceToNat, Int.reduceSub, Int.reduceAdd, Int.reduceNeg]
  · rw [decide_eq_true_eq] at hb
    have hj' : j < ls.length := by omega
    have hsr := sRows_get hj'
    have hmem : ls.getD j [] ∈ ls := by rw [List.getD_eq_getElem?_getD, List.getElem?_eq_getElem hj']; exact List.getElem_mem _
    have hdr : ls.drop j = ls.getD j [] :: ls.drop (j + 1) := by rw [List.getD_eq_getElem?_getD, List.getElem?_eq_getElem hj']; exact List.drop_eq_getElem_cons hj'
    rw [hdr] at hgo
    have hll := hl _ hmem
    generalize hlj : ls.getD j [] = l at *
    have hwr : IntKind.i64.wrap ((j : Int) + 1) = ((j + 1 : Nat) : Int) := by rw [wrap64 (by omega) (by omega)]; rfl
    try simp only [h4, h5, h11, h12, h13, rows_s, hsr, go_sem, Nat.reduceEqDiff, reduceIte, Int.reduceEq, Int.reduceLT, Int.reduceLE, Nat.reduceAdd, Nat.reduceLT, Nat.reduceLeDiff, Int.reduceToNat, Int.reduceSub, Int.reduceAdd, Int.reduceNeg]
    refine ⟨by omega, hj', ?_⟩
    have hct := cut_pure (E := E.noPan) hP hm l [58] (by omega)
    have hcl := cut_len l [58]
    rw [lengthGo] at hgo
    unfold headBad headVal at hgo
    generalize Lib.cut l [58] = c at *
    have hnm : XPure E.noPan 61 [.str c.1, .fn (.func 64) [] []] (.bool (madeF nameF c.1)) := made_pure (E := E.noPan) hP c.1 (by omega) 64 nameF (fun b => name_pure (E := E.noPan) hP b)
    have hvl : XPure E.noPan 61 [.str c.2.1, .fn (.func 67) [] []] (.bool (madeF valueF c.2.1)) := made_pure (E := E.noPan) hP c.2.1 (by omega) 67 valueF (fun b => value_pure (E := E.noPan) hP b)
    refine xcall_pure (args' := [.str l, .str [58]]) rfl hct rfl ?_
    simp only [h4, h5, h11, h12, h13, go_sem, Nat.reduceEqDiff, reduceIte, Int.reduceEq, Int.reduceLT, Int.reduceLE, Nat.reduceAdd, Nat.reduceLT, Nat.reduceLeDiff, Int.reduceToNat, Int.reduceSub, Int.reduceAdd, Int.reduceNeg]
    refine s_mg (by simp only [h4, h5, h11, h12, h13, go_sem, Nat.reduceEqDiff, reduceIte, Int.reduceEq, Int.reduceLT, Int.reduceLE, Nat.reduceAdd, Nat.reduceLT, Nat.reduceLeDiff, Int.reduceToNat, Int.reduceSub, Int.reduceAdd, Int.reduceNeg]; try rfl) ?_; simp only [cut_g, cut_t, cut_none, cut_out, memN_cons, memN_nil, Nat.reduceEqDiff, reduceIte, List.nil_append, List.cons_append, not_false_eq_true]; refine ex_merge rfl (by simp only [h4, h5, h11, h12, h13, go_sem, Nat.reduceEqDiff, reduceIte, Int.reduceEq, Int.reduceLT, Int.reduceLE, Nat.reduceAdd, Nat.reduceLT, Nat.reduceLeDiff, Int.reduceToNat, Int.reduceSub, Int.reduceAdd, Int.reduceNeg]) (by intro hb; simp only [hb, h4, h5, h11, h12, h13, go_sem, Nat.reduceEqDiff, reduceIte, Int.reduceEq, Int.reduceLT, Int.reduceLE, Nat.reduceAdd, Nat.reduceLT, Nat.reduceLeDiff, Int.reduceToNat, Int.reduceSub, Int.reduceAdd, Int.reduceNeg]; refine xcall_pure (args' := [.str c.1, .fn (.func 64) [] []]) rfl hnm rfl ?_; (try simp only [h4, h5, h11, h12, h13, go_sem, Nat.reduceEqDiff, reduceIte, Int.reduceEq, Int.reduceLT, Int.reduceLE, Nat.reduceAdd, Nat.reduceLT, Nat.reduceLeDiff, Int.reduceToNat, Int.reduceSub, Int.reduceAdd, Int.reduceNeg]); (try simp only [hb, h4, h5, h11, h12, h13, go_sem, Nat.reduceEqDiff, reduceIte, Int.reduceEq, Int.reduceLT, Int.reduceLE, Nat.reduceAdd, Nat.reduceLT, Nat.reduceLeDiff, Int.reduceToNat, Int.reduceSub, Int.reduceAdd, Int.reduceNeg]); first | exact rfl | exact ⟨rfl, rfl⟩) (fun vs => ?_); simp only [h4, h5, h11, h12, h13, go_sem, Nat.reduceEqDiff, reduceIte, Int.reduceEq, Int.reduceLT, Int.reduceLE, Nat.reduceAdd, Nat.reduceLT, Nat.reduceLeDiff, Int.reduceToNat, Int.reduceSub, Int.reduceAdd, Int.reduceNeg]
    refine s_mg (by simp only [h4, h5, h11, h12, h13, go_sem, Nat.reduceEqDiff, reduceIte, Int.reduceEq, Int.reduceLT, Int.reduceLE, Nat.reduceAdd, Nat.reduceLT, Nat.reduceLeDiff, Int.reduceToNat, Int.reduceSub, Int.reduceAdd, Int.reduceNeg]; try rfl) ?_; simp only [cut_g, cut_t, cut_none, cut_out, memN_cons, memN_nil, Nat.reduceEqDiff, reduceIte, List.nil_append, List.cons_append, not_false_eq_true]; refine ex_merge rfl (by simp only [h4, h5, h11, h12, h13, go_sem, Nat.reduceEqDiff, reduceIte, Int.reduceEq, Int.reduceLT, Int.reduceLE, Nat.reduceAdd, Nat.reduceLT, Nat.reduceLeDiff, Int.reduceToNat, Int.reduceSub, Int.reduceAdd, Int.reduceNeg]) (by intro hb; simp only [hb, h4, h5, h11, h12, h13, go_sem, Nat.reduceEqDiff, reduceIte, Int.reduceEq, Int.reduceLT, Int.reduceLE, Nat.reduceAdd, Nat.reduceLT, Nat.reduceLeDiff, Int.reduceToNat, Int.reduceSub, Int.reduceAdd, Int.reduceNeg]; (refine s_mg (by simp only [h4, h5, h11, h12, h13, go_sem, Nat.reduceEqDiff, reduceIte, Int.reduceEq, Int.reduceLT, Int.reduceLE, Nat.reduceAdd, Nat.reduceLT, Nat.reduceLeDiff, Int.reduceToNat, Int.reduceSub, Int.reduceAdd, Int.reduceNeg]; try rfl) ?_; simp only [cut_g, cut_t, cut_none, cut_out, memN_cons, memN_nil, Nat.reduceEqDiff, reduceIte, List.nil_append, List.cons_append, not_false_eq_true]; refine ex_merge rfl (by simp only [h4, h5, h11, h12, h13, go_sem, Nat.reduceEqDiff, reduceIte, Int.reduceEq, Int.reduceLT, Int.reduceLE, Nat.reduceAdd, Nat.reduceLT, Nat.reduceLeDiff, Int.reduceToNat, Int.reduceSub, Int.reduceAdd, Int.reduceNeg]) (by intro hb; simp only [hb, h4, h5, h11, h12, h13, go_sem, Nat.reduceEqDiff, reduceIte, Int.reduceEq, Int.reduceLT, Int.reduceLE, Nat.reduceAdd, Nat.reduceLT, Nat.reduceLeDiff, Int.reduceToNat, Int.reduceSub, Int.reduceAdd, Int.reduceNeg]; refine xcall_pure (args' := [.str c.2.1, .fn (.func 67) [] []]) rfl hvl rfl ?_; (try simp only [h4, h5, h11, h12, h13, go_sem, Nat.reduceEqDiff, reduceIte, Int.reduceEq, Int.reduceLT, Int.reduceLE, Nat.reduceAdd, Nat.reduceLT, Nat.reduceLeDiff, Int.reduceToNat, Int.reduceSub, Int.reduceAdd, Int.reduceNeg]); (try simp only [hb, h4, h5, h11, h12, h13, go_sem, Nat.reduceEqDiff, reduceIte, Int.reduceEq, Int.reduceLT, Int.reduceLE, Nat.reduceAdd, Nat.reduceLT, Nat.reduceLeDiff, Int.reduceToNat, Int.reduceSub, Int.reduceAdd, Int.reduceNeg]); first | exact rfl | exact ⟨rfl, rfl⟩) (fun vs => ?_); simp only [h4, h5, h11, h12, h13, go_sem, Nat.reduceEqDiff, reduceIte, Int.reduceEq, Int.reduceLT, Int.reduceLE, Nat.reduceAdd, Nat.reduceLT, Nat.reduceLeDiff, Int.reduceToNat, Int.reduceSub, Int.reduceAdd, Int.reduceNeg]); (try simp only [hb, h4, h5, h11, h12, h13, go_sem, Nat.reduceEqDiff, reduceIte, Int.reduceEq, Int.reduceLT, Int.reduceLE, Nat.reduceAdd, Nat.reduceLT, Nat.reduceLeDiff, Int.reduceToNat, Int.reduceSub, Int.reduceAdd, Int.reduceNeg]); first | exact rfl | exact ⟨rfl, rfl⟩) (fun vs => ?_); simp only [h4, h5, h11, h12, h13, go_sem, Nat.reduceEqDiff, reduceIte, Int.reduceEq, Int.reduceLT, Int.reduceLE, Nat.reduceAdd, Nat.reduceLT, Nat.reduceLeDiff, Int.reduceToNat, Int.reduceSub, Int.reduceAdd, Int.reduceNeg]
    refine s_cond (b := (!c.2.2 || !madeF nameF c.1) || (!decide (c.2.1 = []) && !madeF valueF c.2.1)) (by simp only [h4, h5, h11, h12, h13, go_sem, Nat.reduceEqDiff, reduceIte, Int.reduceEq, Int.reduceLT, Int.reduceLE, Nat.reduceAdd, Nat.reduceLT, Nat.reduceLeDiff, Int.reduceToNat, Int.reduceSub, Int.reduceAdd, Int.reduceNeg]; try rfl) ?_ ?_ <;> intro hbad <;> simp only [hbad, h4, h5, h11, h12, h13, go_sem, Nat.reduceEqDiff, reduceIte, Int.reduceEq, Int.reduceLT, Int.reduceLE, Nat.reduceAdd, Nat.reduceLT, Nat.reduceLeDiff, Int.reduceToNat, Int.reduceSub, Int.reduceAdd, Int.reduceNeg]
    · rw [if_pos hbad] at hgo
      rw [← hgo]; exact ⟨rfl, rfl⟩
    rw [if_neg (by rw [hbad]; decide)] at hgo
    have hasc : ∀ b ∈ c.1, b.toNat < 128 := by
      have : madeF nameF c.1 = true := by
        revert hbad
        cases c.2.2 <;> cases madeF nameF c.1 <;> simp
      exact name_ascii this
    have hef := equalFold_pure (E := E.noPan) hP c.1 clL (by omega) hasc (by decide)
    refine xcall_pure (args' := [.str c.1, .str clL]) rfl hef rfl ?_
    simp only [h4, h5, h11, h12, h13, go_sem, Nat.reduceEqDiff, reduceIte, Int.reduceEq, Int.reduceLT, Int.reduceLE, Nat.reduceAdd, Nat.reduceLT, Nat.reduceLeDiff, Int.reduceToNat, Int.reduceSub, Int.reduceAdd, Int.reduceNeg]
    refine s_cond (b := !Lib.equalFold c.1 clL) (by simp only [h4, h5, h11, h12, h13, go_sem, Nat.reduceEqDiff, reduceIte, Int.reduceEq, Int.reduceLT, Int.reduceLE, Nat.reduceAdd, Nat.reduceLT, Nat.reduceLeDiff, Int.reduceToNat, Int.reduceSub, Int.reduceAdd, Int.reduceNeg]; try rfl) ?_ ?_ <;> intro heq <;> simp only [heq, h4, h5, h11, h12, h13, hwr, go_sem, Nat.reduceEqDiff, reduceIte, Int.reduceEq, Int.reduceLT, Int.reduceLE, Nat.reduceAdd, Nat.reduceLT, Nat.reduceLeDiff, Int.reduceToNat, Int.reduceSub, Int.reduceAdd, Int.reduceNeg]
    · rw [if_pos heq] at hgo
      exact ⟨ls.length - (j + 1), by omega, j + 1, n, said, by omega, rfl, hgo, rfl, rfl, rfl⟩
    rw [if_neg (by rw [heq]; decide)] at hgo
    have htr := trim_pure (E := E.noPan) hP c.2.1 32 (by decide) (by omega)
    have htl : (Lib.trimB c.2.1 32).length ≤ c.2.1.length := trimB_len _ _
    refine xcall_pure (args' := [.str c.2.1, .str [32]]) rfl htr rfl ?_
    generalize Lib.trimB c.2.1 32 = v at *
    simp only [h4, h5, h11, h12, h13, go_sem, Nat.reduceEqDiff, reduceIte, Int.reduceEq, Int.reduceLT, Int.reduceLE, Nat.reduceAdd, Nat.reduceLT, Nat.reduceLeDiff, Int.reduceToNat, Int.reduceSub, Int.reduceAdd, Int.reduceNeg]
    have hwh := whole_pure (E := E.noPan) hP v 9 (by omega)
    refine s_mg (by simp only [h4, h5, h11, h12, h13, go_sem, Nat.reduceEqDiff, reduceIte, Int.reduceEq, Int.reduceLT, Int.reduceLE, Nat.reduceAdd, Nat.reduceLT, Nat.reduceLeDiff, Int.reduceToNat, Int.reduceSub, Int.reduceAdd, Int.reduceNeg]; try rfl) ?_; simp only [cut_g, cut_t, cut_none, cut_out, memN_cons, memN_nil, Nat.reduceEqDiff, reduceIte, List.nil_append, List.cons_append, not_false_eq_true]; refine ex_merge rfl (by simp only [h4, h5, h11, h12, h13, go_sem, Nat.reduceEqDiff, reduceIte, Int.reduceEq, Int.reduceLT, Int.reduceLE, Nat.reduceAdd, Nat.reduceLT, Nat.reduceLeDiff, Int.reduceToNat, Int.reduceSub, Int.reduceAdd, Int.reduceNeg]) (by intro hb; simp only [hb, h4, h5, h11, h12, h13, go_sem, Nat.reduceEqDiff, reduceIte, Int.reduceEq, Int.reduceLT, Int.reduceLE, Nat.reduceAdd, Nat.reduceLT, Nat.reduceLeDiff, Int.reduceToNat, Int.reduceSub, Int.reduceAdd, Int.reduceNeg]; refine xcall_pure (args' := [.str v, .int .i64 9]) rfl hwh rfl ?_; (try simp only [h4, h5, h11, h12, h13, go_sem, Nat.reduceEqDiff, reduceIte, Int.reduceEq, Int.reduceLT, Int.reduceLE, Nat.reduceAdd, Nat.reduceLT, Nat.reduceLeDiff, Int.reduceToNat, Int.reduceSub, Int.reduceAdd, Int.reduceNeg]); (try simp only [hb, h4, h5, h11, h12, h13, go_sem, Nat.reduceEqDiff, reduceIte, Int.reduceEq, Int.reduceLT, Int.reduceLE, Nat.reduceAdd, Nat.reduceLT, Nat.reduceLeDiff, Int.reduceToNat, Int.reduceSub, Int.reduceAdd, Int.reduceNeg]); first | exact rfl | exact ⟨rfl, rfl⟩) (fun vs => ?_); simp only [h4, h5, h11, h12, h13, go_sem, Nat.reduceEqDiff, reduceIte, Int.reduceEq, Int.reduceLT, Int.reduceLE, Nat.reduceAdd, Nat.reduceLT, Nat.reduceLeDiff, Int.reduceToNat, Int.reduceSub, Int.reduceAdd, Int.reduceNeg]
    refine s_cond (b := said || !wholeF v 9) (by simp only [h4, h5, h11, h12, h13, go_sem, Nat.reduceEqDiff, reduceIte, Int.reduceEq, Int.reduceLT, Int.reduceLE, Nat.reduceAdd, Nat.reduceLT, Nat.reduceLeDiff, Int.reduceToNat, Int.reduceSub, Int.reduceAdd, Int.reduceNeg]; try rfl) ?_ ?_ <;> intro hwf <;> simp only [hwf, h4, h5, h11, h12, h13, go_sem, Nat.reduceEqDiff, reduceIte, Int.reduceEq, Int.reduceLT, Int.reduceLE, Nat.reduceAdd, Nat.reduceLT, Nat.reduceLeDiff, Int.reduceToNat, Int.reduceSub, Int.reduceAdd, Int.reduceNeg]
    · rw [if_pos hwf] at hgo
      rw [← hgo]; exact ⟨rfl, rfl⟩
    rw [if_neg (by rw [hwf]; decide)] at hgo
    have hwt : wholeF v 9 = true := by
      revert hwf
      cases said <;> cases wholeF v 9 <;> simp
    obtain ⟨N, hat, hvl9⟩ := whole_atoi hwt
    rw [hat] at hgo
    refine xcall_pure (args' := [.str v]) rfl (atoi_pure (E := E.noPan) hP v N (by omega) hat) rfl ?_
    simp only [h4, h5, h11, h12, h13, hwr, go_sem, Nat.reduceEqDiff, reduceIte, Int.reduceEq, Int.reduceLT, Int.reduceLE, Nat.reduceAdd, Nat.reduceLT, Nat.reduceLeDiff, Int.reduceToNat, Int.reduceSub, Int.reduceAdd, Int.reduceNeg]
    exact ⟨ls.length - (j + 1), by omega, j + 1, N, true, by omega, rfl, hgo, rfl, rfl, rfl⟩
  · rw [decide_eq_false_iff_not] at hb
    have hjl : j = ls.length := by omega
    rw [hjl, List.drop_length] at hgo
    rw [← hgo]; exact ⟨rfl, rfl⟩
end
end Go.X.TryzW
end
