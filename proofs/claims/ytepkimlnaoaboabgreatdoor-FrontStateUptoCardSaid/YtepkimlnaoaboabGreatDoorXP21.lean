/- Parts of the proof: Xgftext, Xgfrfield, Xgfobject. -/
import Derived.Test.YtepkimlnaoaboabGreatDoorXP20
import Derived.Lib.TrimUEq
set_option linter.unusedVariables false
set_option linter.unusedSimpArgs false
set_option linter.unusedSectionVars false
section
open Go Go.X Go.Proofs
set_option maxRecDepth 100000
set_option maxHeartbeats 4000000
set_option linter.unusedSimpArgs false
set_option linter.unusedVariables false
namespace Go.X.TryzW
/- "(*tiller/front.reader).text" params { toList := [63] } results { toList := [Go.ResultVar.tmp 2] } -/
def y97 : XC :=
 (.seq
  (.ops [
    ⟨(some 2), (.mov (.c (.str []))), none⟩])
  (.seq
   (.ops [
     ⟨(some 6), (.mov (.t 0)), none⟩,
     ⟨(some 7), (.call (.f 74) [(.t 6), (.c (.int .u8 34))]), none⟩])
   (.seq
    (.ops [
      ⟨(some 3), (.ex (.allocT 47 [(.raw (.pointer none)), (.raw (.slice none 0 0))]) []), none⟩])
    (.seq
     (.block 0
      (.loop
       (.seq
        (.seq
         (.ops [
           ⟨(some 8), (.mov (.t 0)), none⟩,
           ⟨(some 9), (.call (.f 75) [(.t 8), (.c (.int .u8 34))]), none⟩,
           ⟨(some 10), (.un .not (.t 9)), none⟩])
         (.cond (.t 10)
          .skip
          (.exit 0)))
        (.block 1
         (.seq
          (.seq
           (.draw [
             ⟨(some 11), (.mov (.t 0)), none⟩,
             ⟨(some 12), (.nilck (.t 11)), none⟩,
             ⟨(some 13), (.fldA 1 (.t 12)), none⟩,
             ⟨(some 14), (.load1 (.t 13)), none⟩,
             ⟨(some 15), (.mov (.t 0)), none⟩,
             ⟨(some 16), (.nilck (.t 15)), none⟩,
             ⟨(some 17), (.fldA 0 (.t 16)), none⟩,
             ⟨(some 18), (.load1 (.t 17)), none⟩,
             ⟨(some 19), (.lenS (.t 18)), none⟩,
             ⟨(some 20), (.bin .eql (.t 14) (.t 19)), none⟩,
             ⟨(some 21), (.mov (.t 20)), none⟩,
             ⟨(some 22), (.mov (.t 0)), (some (21, false))⟩,
             ⟨(some 23), (.nilck (.t 22)), (some (21, false))⟩,
             ⟨(some 24), (.fldA 0 (.t 23)), (some (21, false))⟩,
             ⟨(some 25), (.load1 (.t 24)), (some (21, false))⟩,
             ⟨(some 26), (.mov (.t 0)), (some (21, false))⟩,
             ⟨(some 27), (.nilck (.t 26)), (some (21, false))⟩,
             ⟨(some 28), (.fldA 1 (.t 27)), (some (21, false))⟩,
             ⟨(some 29), (.load1 (.t 28)), (some (21, false))⟩,
             ⟨(some 30), (.idx (.t 25) (.t 29)), (some (21, false))⟩,
             ⟨(some 31), (.bin .lss (.t 30) (.c (.int .u8 32))), (some (21, false))⟩,
             ⟨(some 32), (.pick (.t 21) (.c (.bool true)) (.t 31)), none⟩])
           (.cond (.t 32)
            (.ops [
              ⟨(some 33), (.mov (.t 0)), none⟩,
              ⟨(some 34), (.nilck (.t 33)), none⟩,
              ⟨(some 35), (.fldA 1 (.t 34)), none⟩,
              ⟨(some 36), (.load1 (.t 35)), none⟩,
              ⟨(some 37), (.call (.f 77) [(.t 36), (.c (.int .i64 2))]), none⟩])
            .skip))
          (.seq
           (.seq
            (.ops [
              ⟨(some 38), (.mov (.t 0)), none⟩,
              ⟨(some 39), (.call (.f 75) [(.t 38), (.c (.int .u8 92))]), none⟩])
            (.cond (.t 39)
             (.seq
              (.ops [
                ⟨(some 40), (.mov (.t 0)), none⟩,
                ⟨(some 41), (.call (.f 122) [(.t 40)]), none⟩,
                ⟨(some 42), (.call (.f 121) [(.t 3), (.t 41)]), none⟩])
              (.exit 1))
             .skip))
           (.seq
            (.drawE [
              ⟨(some 44), (.mov (.t 0)), none⟩,
              ⟨(some 45), (.nilck (.t 44)), none⟩,
              ⟨(some 46), (.fldA 0 (.t 45)), none⟩,
              ⟨(some 47), (.load1 (.t 46)), none⟩,
              ⟨(some 48), (.mov (.t 0)), none⟩,
              ⟨(some 49), (.nilck (.t 48)), none⟩,
              ⟨(some 50), (.fldA 1 (.t 49)), none⟩,
              ⟨(some 51), (.load1 (.t 50)), none⟩,
              ⟨(some 52), (.sliceS (.t 47) (some (.t 51)) none), none⟩,
              ⟨(some 53), (.pcall (.f 21) [(.t 52)]), none⟩,
              ⟨(some 43), (.mov (.t 53)), none⟩,
              ⟨(some 54), (.ext (.t 43) 0), none⟩,
              ⟨(some 55), (.ext (.t 43) 1), none⟩,
              ⟨(some 4), (.mov (.t 54)), none⟩,
              ⟨(some 5), (.mov (.t 55)), none⟩])
            (.seq
             (.seq
              (.ops [
                ⟨(some 56), (.mov (.t 4)), none⟩,
                ⟨(some 57), (.bin .eql (.t 56) (.c (.int .i32 65533))), none⟩,
                ⟨(some 58), (.mov (.t 57)), none⟩,
                ⟨(some 59), (.mov (.t 5)), (some (58, true))⟩,
                ⟨(some 60), (.bin .eql (.t 59) (.c (.int .i64 1))), (some (58, true))⟩,
                ⟨(some 61), (.pick (.t 58) (.t 60) (.c (.bool false))), none⟩])
              (.cond (.t 61)
               (.ops [
                 ⟨(some 62), (.mov (.t 0)), none⟩,
                 ⟨(some 63), (.nilck (.t 62)), none⟩,
                 ⟨(some 64), (.fldA 1 (.t 63)), none⟩,
                 ⟨(some 65), (.load1 (.t 64)), none⟩,
                 ⟨(some 66), (.call (.f 77) [(.t 65), (.c (.int .i64 2))]), none⟩])
               .skip))
             (.seq
              (.ops [
                ⟨(some 67), (.mov (.t 4)), none⟩,
                ⟨(some 68), (.call (.f 121) [(.t 3), (.t 67)]), none⟩])
              (.ops [
                ⟨(some 69), (.mov (.t 0)), none⟩,
                ⟨(some 70), (.nilck (.t 69)), none⟩,
                ⟨(some 71), (.fldA 1 (.t 70)), none⟩,
                ⟨(some 72), (.load1 (.t 71)), none⟩,
                ⟨(some 73), (.mov (.t 5)), none⟩,
                ⟨(some 74), (.bin .add (.t 72) (.t 73)), none⟩,
                ⟨(some 75), (.nilck (.t 69)), none⟩,
                ⟨(some 76), (.fldA 1 (.t 75)), none⟩,
                ⟨none, (.store 1 (.t 76) (.t 74)), none⟩]))))))))))
     (.seq
      (.ops [
        ⟨(some 77), (.mov (.t 0)), none⟩,
        ⟨(some 78), (.nilck (.t 77)), none⟩,
        ⟨(some 79), (.fldA 1 (.t 78)), none⟩,
        ⟨(some 80), (.load1 (.t 79)), none⟩,
        ⟨(some 81), (.bin .add (.t 80) (.c (.int .i64 1))), none⟩,
        ⟨(some 82), (.nilck (.t 77)), none⟩,
        ⟨(some 83), (.fldA 1 (.t 82)), none⟩,
        ⟨none, (.store 1 (.t 83) (.t 81)), none⟩])
      (.seq
       (.ops [
         ⟨(some 84), (.call (.f 24) [(.t 3)]), none⟩,
         ⟨(some 2), (.mov (.t 84)), none⟩])
       .ret))))))

section
variable {E : Env} {L : List Blk} {K : IV → List Blk → Prop}
theorem dec_bnd (l : List UInt8) (h : l ≠ []) : 1 ≤ (Lib.decodeL l).2 ∧ (Lib.decodeL l).2 ≤ l.length ∧ (Lib.decodeL l).1 ≤ 1114111 := by
  rw [Lib.decodeL_N]
  have h0 : 1 ≤ l.length := by cases l with | nil => exact absurd rfl h | cons => simp
  have b0 := (l.getD 0 0).toNat_lt
  unfold Lib.decodeN
  repeat' split
  all_goals simp only
  all_goals omega
theorem Bld.set0 {s : Nat} {bs : List UInt8} {sz : Nat} {rows : List (List IV)} {b : Blk} (h0 : L[0]? = some (.cells sz rows)) (h : Bld L s bs) : Bld (L.set 0 b) s bs := by
  have hn : ∀ {i : Nat} {t n : Nat} {r : List (List IV)}, L[i]? = some (.tcells t n r) → (L.set 0 b)[i]? = some (.tcells t n r) := fun {i t n r} hi => by
    have : 0 ≠ i := fun he => by subst he; rw [h0] at hi; cases hi
    rw [List.getElem?_set_ne this]; exact hi
  rcases h with ⟨h1, h2⟩ | ⟨k, h1, h2, h3⟩
  · exact .inl ⟨h1, hn h2⟩
  · exact .inr ⟨k, hn h1, hn h2, h3⟩
theorem set0_get {sz : Nat} {rows : List (List IV)} {b : Blk} (h0 : L[0]? = some (.cells sz rows)) : (L.set 0 b)[0]? = some b := List.getElem?_set_self (lt_of_get h0)
theorem leave_rd {L : List Blk} {s : List UInt8} {j : Nat} {r : IV} {R : IV → List Blk → Prop} (hL : L[0]? = some (rdB s j)) (hr : plainD fuel r = true) (h : R r [rdB s j]) : Leave 1 r L R := by
  refine leave_all (keep := []) .nil (by simp) (plainD_conv hr) ?_ h
  have : L.take 1 = [rdB s j] := by
    cases L with
    | nil => simp at hL
    | cons a l => simp at hL; subst hL; rfl
  rw [this]; rfl
theorem rd_callQ {Q0 : IV → List Blk → Prop} {f : FuncId} {s : List UInt8} {i : Nat} {xs : List IV} {R Q : IV → List Blk → Prop} (hL : L[0]? = some (rdB s i)) (hx : xs.all (plainD fuel) = true) (h : XTP (E.withPan Q0) f (.ptr 0 0 0 :: xs) [rdB s i] R Q)
    (hk : ∀ r L1, R r L1 → ∃ j, L1 = [rdB s j] ∧ plainD fuel r = true ∧ K r (L.set 0 (rdB s j))) (hq : ∀ r L1, Q r L1 → ∃ j, L1 = [rdB s j] ∧ plainD fuel r = true ∧ Q0 r (L.set 0 (rdB s j))) : xcall (E.withPan Q0) f (.ptr 0 0 0 :: xs) L K := rd_call (E := E.withPan Q0) hL hx h hk hq
theorem text_tp (hP : E.P = Tryz.prog) (ht : ∀ w, E.G w → Lib.Utf8Tabs 0 1 w) (s : List UInt8) (o : Nat) (hs : s.length ≤ 1000000) (ho : o ≤ s.length) : XTP E 100 [.ptr 0 0 0] [rdB s o]
    (fun r L' => ∃ v i, Fr.text s o = .ok (v, i) ∧ o < i ∧ i ≤ s.length ∧ v.length ≤ 4 * i ∧ r = .str v ∧ L' = [rdB s i])
    (fun r L' => ∃ p w j, Fr.text s o = .error (p, w) ∧ r = stopV p w ∧ L' = [rdB s j]) := by
  have hpq : ∀ x L', (∃ p w j, Fr.text s o = .error (p, w) ∧ x = stopV p w ∧ L'[0]? = some (rdB s j)) → Leave 1 x L' (fun r L' => ∃ p w j, Fr.text s o = .error (p, w) ∧ r = stopV p w ∧ L' = [rdB s j]) := by
    rintro x L' ⟨p, w, j, h1, rfl, h3⟩
    exact leave_rd h3 rfl ⟨p, w, j, h1, rfl, rfl⟩
  refine xtp_of_fun (F := ⟨Tryz.f100.ntmps, [.tmp 2], y97⟩) (pq := fun x L' => ∃ p w j, Fr.text s o = .error (p, w) ∧ x = stopV p w ∧ L'[0]? = some (rdB s j)) hpq (by rw [hP]; rfl) (by rw [hP]; kernel_rfl) (by decide) (Nat.le_of_ble_eq_true rfl) ?_
  refine xfun1 (xrun_mono (K := doneK fun ρ L' => ∃ v i, Fr.text s o = .ok (v, i) ∧ o < i ∧ i ≤ s.length ∧ v.length ≤ 4 * i ∧ ρ 2 = .str v ∧ L'[0]? = some (rdB s i)) _ (fun e ρ L h => ?_) ?_)
  · cases e with
    | normal => obtain ⟨v, i, h1, g1, g2, g3, h2, h3⟩ := h; exact leave_rd h3 (by rw [h2]; rfl) ⟨v, i, h1, g1, g2, g3, h2, rfl⟩
    | ret => obtain ⟨v, i, h1, g1, g2, g3, h2, h3⟩ := h; exact leave_rd h3 (by rw [h2]; rfl) ⟨v, i, h1, g1, g2, g3, h2, rfl⟩
    | exit => exact h.elim
    | goto => exact h.elim
  generalize hρ : entry _ = ρ
  have h0 : ρ 0 = .ptr 0 0 0 := by rw [← hρ]; rfl
  clear hρ
  unfold y97
  simp only [h0, go_sem, Nat.reduceEqDiff, reduceIte, Int.reduceEq, Int.reduceLT, Int.reduceLE, Nat.reduceAdd, Nat.reduceLT, Nat.reduceLeDiff, Int.reduceToNat, Int.reduceSub, Int.reduceAdd, Int.reduceNeg]
  refine rd_callQ (xs := [.int .u8 (34 : UInt8).toNat]) rfl rfl (must_tp (E := E.withPan _) hP s o hs 34) ?_ ?_
  rotate_left
  · rintro r L1 ⟨hat, rfl, rfl⟩
    exact ⟨o, rfl, rfl, o, 2, o, by unfold Fr.text Fr.must; rw [hat]; rfl, rfl, rfl⟩
  rintro r L1 ⟨hat, rfl, rfl⟩
  refine ⟨o + 1, rfl, rfl, ?_⟩
  have hlt0 := isAt_lt hat
  have htx : Fr.text s o = Fr.textGo s (s.length + 1 - (o + 1)) (o + 1) [] := by unfold Fr.text Fr.must; rw [hat]; rfl
  show xops _ _ _ [rdB s (o + 1)] _
  simp only [h0, rdB, go_sem, Nat.reduceEqDiff, reduceIte, Int.reduceEq, Int.reduceLT, Int.reduceLE, Nat.reduceAdd, Nat.reduceLT, Nat.reduceLeDiff, Int.reduceToNat, Int.reduceSub, Int.reduceAdd, Int.reduceNeg]
  refine xrun_cut (fun e ρ' L' => e = .exit 0 ∧ ∃ v i, Fr.textGo s (s.length + 1 - (o + 1)) (o + 1) [] = .ok (v, i + 1) ∧ o < i ∧ i < s.length ∧ v.length ≤ 4 * i ∧ ρ' 0 = .ptr 0 0 0 ∧ ρ' 3 = .ptr 1 0 0 ∧ L'[0]? = some (.cells 2 [[.str s, .int .i64 i]]) ∧ Bld L' 1 v) ?_ ?_
  rotate_left
  · rintro e ρ L ⟨rfl, v, i, g1, g2, g3, g4, h0, h3, hL, hB⟩
    have hw : IntKind.i64.wrap ((i : Int) + 1) = ((i + 1 : Nat) : Int) := by rw [wrap64 (by omega) (by omega)]; rfl
    simp only [h0, h3, hL, hw, go_sem, Nat.reduceEqDiff, reduceIte, Int.reduceEq, Int.reduceLT, Int.reduceLE, Nat.reduceAdd, Nat.reduceLT, Nat.reduceLeDiff, Int.reduceToNat, Int.reduceSub, Int.reduceAdd, Int.reduceNeg]
    refine str_callQ hP (Bld.set0 hL hB) (by omega) fun L' hk => ?_
    simp only [h0, go_sem, Nat.reduceEqDiff, reduceIte, Int.reduceEq, Int.reduceLT, Int.reduceLE, Nat.reduceAdd, Nat.reduceLT, Nat.reduceLeDiff, Int.reduceToNat, Int.reduceSub, Int.reduceAdd, Int.reduceNeg]
    exact ⟨v, i + 1, by rw [htx, g1], by omega, by omega, by omega, rfl, hk 0 2 _ (set0_get hL)⟩
  refine s_loop (fun n ρ L => ∃ i out f, n = s.length - i ∧ o < i ∧ i ≤ s.length ∧ s.length + 1 - i ≤ f ∧ out.length ≤ 4 * i ∧ Fr.textGo s f i out = Fr.textGo s (s.length + 1 - (o + 1)) (o + 1) [] ∧ ρ 0 = .ptr 0 0 0 ∧ ρ 3 = .ptr 1 0 0 ∧ L[0]? = some (.cells 2 [[.str s, .int .i64 i]]) ∧ Bld L 1 out)
    ⟨o + 1, [], _, rfl, by omega, by omega, Nat.le_refl _, by simp, rfl, by simp only [h0, go_sem, Nat.reduceEqDiff, reduceIte, Int.reduceEq, Int.reduceLT, Int.reduceLE, Nat.reduceAdd, Nat.reduceLT, Nat.reduceLeDiff, Int.reduceToNat, Int.reduceSub, Int.reduceAdd, Int.reduceNeg], by simp only [go_sem, Nat.reduceEqDiff, reduceIte, Int.reduceEq, Int.reduceLT, Int.reduceLE, Nat.reduceAdd, Nat.reduceLT, Nat.reduceLeDiff, Int.reduceToNat, Int.reduceSub, Int.reduceAdd, Int.reduceNeg]; try rfl, rfl, .inl ⟨rfl, rfl⟩⟩ ?_
  clear h0 ρ
  rintro n ρ L ⟨i, out, f, rfl, hoi, hil, hf, hout, hgo, h0, h3, hL, hB⟩
  obtain ⟨f, rfl⟩ : ∃ k, f = k + 1 := ⟨f - 1, by omega⟩
  rw [Fr.textGo] at hgo
  have hL' : L[0]? = some (rdB s i) := hL
  simp only [h0, go_sem, Nat.reduceEqDiff, reduceIte, Int.reduceEq, Int.reduceLT, Int.reduceLE, Nat.reduceAdd, Nat.reduceLT, Nat.reduceLeDiff, Int.reduceToNat, Int.reduceSub, Int.reduceAdd, Int.reduceNeg]
  refine is_callQ (b := 34) hP rfl hs hL' ?_
  cases hq : Fr.isAt s i 34 with
  | true =>
    rw [hq, if_pos rfl] at hgo
    simp only [h0, go_sem, Nat.reduceEqDiff, reduceIte, Int.reduceEq, Int.reduceLT, Int.reduceLE, Nat.reduceAdd, Nat.reduceLT, Nat.reduceLeDiff, Int.reduceToNat, Int.reduceSub, Int.reduceAdd, Int.reduceNeg]
    exact ⟨out, i, hgo.symm, hoi, isAt_lt hq, hout, h3, hL, hB⟩
  | false =>
  rw [hq, if_neg (by decide)] at hgo
  by_cases hie : i = s.length
  · rw [if_pos hie] at hgo
    have f1 : ((i : Int) = (s.length : Int)) = True := eq_true (by omega)
    simp only [h0, hL, f1, go_sem, Nat.reduceEqDiff, reduceIte, Int.reduceEq, Int.reduceLT, Int.reduceLE, Nat.reduceAdd, Nat.reduceLT, Nat.reduceLeDiff, Int.reduceToNat, Int.reduceSub, Int.reduceAdd, Int.reduceNeg]
    refine ⟨by rfl, ?_⟩
    refine fail_callQ hP _ _ ?_
    exact ⟨i, 2, i, by rw [htx, ← hgo]; rfl, rfl, hL⟩
  rw [if_neg hie] at hgo
  have hlt : i < s.length := by omega
  have f1 : ((i : Int) = (s.length : Int)) = False := eq_false (by omega)
  have e1 : ((i : Int) < (s.length : Int)) = True := eq_true (by omega)
  have e0 : ((0 : Int) ≤ (i : Int)) = True := eq_true (by omega)
  have g32 : (s.getD i 0 < 32) = ((s.getD i 0).toNat < 32) := propext UInt8.lt_iff_toNat_lt
  by_cases hc : s.getD i 0 < 32
  · rw [if_pos hc] at hgo
    rw [g32] at hc
    have f2 : (((s.getD i 0).toNat : Int) < 32) = True := eq_true (by omega)
    simp only [h0, hL, f1, e1, e0, f2, go_sem, Nat.reduceEqDiff, reduceIte, Int.reduceEq, Int.reduceLT, Int.reduceLE, Nat.reduceAdd, Nat.reduceLT, Nat.reduceLeDiff, Int.reduceToNat, Int.reduceSub, Int.reduceAdd, Int.reduceNeg]
    refine ⟨by rfl, ?_⟩
    refine fail_callQ hP _ _ ?_
    exact ⟨i, 2, i, by rw [htx, ← hgo]; rfl, rfl, hL⟩
  rw [if_neg hc] at hgo
  rw [g32] at hc
  have f2 : (((s.getD i 0).toNat : Int) < 32) = False := eq_false (by omega)
  simp only [h0, hL, f1, e1, e0, f2, go_sem, Nat.reduceEqDiff, reduceIte, Int.reduceEq, Int.reduceLT, Int.reduceLE, Nat.reduceAdd, Nat.reduceLT, Nat.reduceLeDiff, Int.reduceToNat, Int.reduceSub, Int.reduceAdd, Int.reduceNeg]
  refine ⟨by rfl, ?_⟩
  
  refine is_callQ (b := 92) hP rfl hs hL' ?_
  cases hb : Fr.isAt s i 92 with
  | true =>
    rw [hb, if_pos rfl] at hgo
    simp only [h0, go_sem, Nat.reduceEqDiff, reduceIte, Int.reduceEq, Int.reduceLT, Int.reduceLE, Nat.reduceAdd, Nat.reduceLT, Nat.reduceLeDiff, Int.reduceToNat, Int.reduceSub, Int.reduceAdd, Int.reduceNeg]
    refine rd_callQ (xs := []) hL' rfl (escape_tp (E := E.withPan _) hP s i hs hlt) ?_ ?_
    rotate_left
    · rintro r L1 ⟨p, w, j, he, rfl, rfl⟩
      rw [he] at hgo
      exact ⟨j, rfl, rfl, p, w, j, by rw [htx, ← hgo], rfl, set0_get hL⟩
    rintro r L1 ⟨c, j, he, g1, g2, g3, rfl, rfl⟩
    rw [he] at hgo
    simp only at hgo
    refine ⟨j, rfl, rfl, ?_⟩
    simp only [h0, h3, go_sem, Nat.reduceEqDiff, reduceIte, Int.reduceEq, Int.reduceLT, Int.reduceLE, Nat.reduceAdd, Nat.reduceLT, Nat.reduceLeDiff, Int.reduceToNat, Int.reduceSub, Int.reduceAdd, Int.reduceNeg]
    have hel := enc_len (c : Int)
    refine wr_callQ (writeRune_ok (E := E.withPan _) hP c (by omega)) rfl rfl (Bld.set0 hL hB) (enc_ne _) (by omega) fun L' hB' hk => ?_
    simp only [h0, h3, go_sem, Nat.reduceEqDiff, reduceIte, Int.reduceEq, Int.reduceLT, Int.reduceLE, Nat.reduceAdd, Nat.reduceLT, Nat.reduceLeDiff, Int.reduceToNat, Int.reduceSub, Int.reduceAdd, Int.reduceNeg]
    refine ⟨s.length - j, by omega, j, _, f, rfl, by omega, g2, by omega, ?_, hgo, hk 0 2 _ (set0_get hL), hB'⟩
    rw [List.length_append]; omega
  | false =>
    rw [hb, if_neg (by decide)] at hgo
    simp only [h0, hL, go_sem, Nat.reduceEqDiff, reduceIte, Int.reduceEq, Int.reduceLT, Int.reduceLE, Nat.reduceAdd, Nat.reduceLT, Nat.reduceLeDiff, Int.reduceToNat, Int.reduceSub, Int.reduceAdd, Int.reduceNeg]
    refine ⟨hil, ?_⟩
    have hne : s.drop i ≠ [] := fun h => by have := congrArg List.length h; rw [List.length_drop] at this; simp at this; omega
    obtain ⟨d1, d2, d3⟩ := dec_bnd (s.drop i) hne
    rw [List.length_drop] at d2
    refine o_pcall (args' := [.str (s.drop i)]) rfl (decode_pure (E := E.withPan _) hP ht (s.drop i) hne) (fun m => rfl) ?_
    generalize Lib.decodeL (s.drop i) = d at *
    have g1 : ((d.1 : Int) = 65533) = (d.1 = 65533) := propext ⟨fun h => by omega, fun h => by omega⟩
    have g2 : ((d.2 : Int) = 1) = (d.2 = 1) := propext ⟨fun h => by omega, fun h => by omega⟩
    have hel := enc_len (d.1 : Int)
    have hw : IntKind.i64.wrap ((i : Int) + (d.2 : Int)) = ((i + d.2 : Nat) : Int) := by rw [wrap64 (by omega) (by omega)]; omega
    by_cases k1 : d.1 = 65533
    · have f3 := g1.trans (eq_true k1)
      by_cases k2 : d.2 = 1
      · have f4 := g2.trans (eq_true k2)
        rw [if_pos ⟨k1, k2⟩] at hgo
        simp only [h0, hL, f3, f4, go_sem, Nat.reduceEqDiff, reduceIte, Int.reduceEq, Int.reduceLT, Int.reduceLE, Nat.reduceAdd, Nat.reduceLT, Nat.reduceLeDiff, Int.reduceToNat, Int.reduceSub, Int.reduceAdd, Int.reduceNeg]
        refine fail_callQ hP _ _ ?_
        exact ⟨i, 2, i, by rw [htx, ← hgo]; rfl, rfl, hL⟩
      · have f4 := g2.trans (eq_false k2)
        rw [if_neg (fun h => k2 h.2)] at hgo
        simp only [h0, h3, hL, f3, f4, go_sem, Nat.reduceEqDiff, reduceIte, Int.reduceEq, Int.reduceLT, Int.reduceLE, Nat.reduceAdd, Nat.reduceLT, Nat.reduceLeDiff, Int.reduceToNat, Int.reduceSub, Int.reduceAdd, Int.reduceNeg]
        refine wr_callQ (writeRune_ok (E := E.withPan _) hP d.1 (by omega)) rfl rfl hB (enc_ne _) (by omega) fun L' hB' hk => ?_
        have hL2 := hk 0 2 _ hL
        simp only [h0, h3, hL2, hw, go_sem, Nat.reduceEqDiff, reduceIte, Int.reduceEq, Int.reduceLT, Int.reduceLE, Nat.reduceAdd, Nat.reduceLT, Nat.reduceLeDiff, Int.reduceToNat, Int.reduceSub, Int.reduceAdd, Int.reduceNeg]
        refine ⟨s.length - (i + d.2), by omega, i + d.2, _, f, rfl, by omega, by omega, by omega, ?_, hgo, set0_get hL2, Bld.set0 hL2 hB'⟩
        rw [List.length_append]; omega
    · have f3 := g1.trans (eq_false k1)
      rw [if_neg (fun h => k1 h.1)] at hgo
      simp only [h0, h3, hL, f3, go_sem, Nat.reduceEqDiff, reduceIte, Int.reduceEq, Int.reduceLT, Int.reduceLE, Nat.reduceAdd, Nat.reduceLT, Nat.reduceLeDiff, Int.reduceToNat, Int.reduceSub, Int.reduceAdd, Int.reduceNeg]
      refine wr_callQ (writeRune_ok (E := E.withPan _) hP d.1 (by omega)) rfl rfl hB (enc_ne _) (by omega) fun L' hB' hk => ?_
      have hL2 := hk 0 2 _ hL
      simp only [h0, h3, hL2, hw, go_sem, Nat.reduceEqDiff, reduceIte, Int.reduceEq, Int.reduceLT, Int.reduceLE, Nat.reduceAdd, Nat.reduceLT, Nat.reduceLeDiff, Int.reduceToNat, Int.reduceSub, Int.reduceAdd, Int.reduceNeg]
      refine ⟨s.length - (i + d.2), by omega, i + d.2, _, f, rfl, by omega, by omega, by omega, ?_, hgo, set0_get hL2, Bld.set0 hL2 hB'⟩
      rw [List.length_append]; omega
end
end Go.X.TryzW
end
section
open Go Go.X Go.Proofs
set_option maxRecDepth 100000
set_option maxHeartbeats 4000000
set_option linter.unusedSimpArgs false
set_option linter.unusedVariables false
namespace Go.X.TryzW
/- "(*tiller/front.reader).field" params { toList := [63, 38] } results { toList := [Go.ResultVar.cell 4 47] } -/
def y71 : XC :=
 (.seq
  (.ops [
    ⟨(some 4), (.alloc [(.str []), (.str [])]), none⟩])
  (.seq
   (.ops [
     ⟨(some 9), (.mov (.t 0)), none⟩,
     ⟨(some 10), (.nilck (.t 9)), none⟩,
     ⟨(some 11), (.fldA 1 (.t 10)), none⟩,
     ⟨(some 12), (.load1 (.t 11)), none⟩,
     ⟨(some 5), (.mov (.t 12)), none⟩])
   (.seq
    (.ops [
      ⟨(some 13), (.mov (.t 0)), none⟩,
      ⟨(some 14), (.call (.f 100) [(.t 13)]), none⟩,
      ⟨(some 15), (.build [(.str []), (.str [])] [(0, (1, (.t 14)))]), none⟩,
      ⟨(some 6), (.alloc [(.str []), (.str [])]), none⟩,
      ⟨none, (.store 2 (.t 6) (.t 15)), none⟩])
    (.seq
     (.seq
      (.ops [
        ⟨(some 17), (.mov (.t 1)), none⟩,
        ⟨(some 18), (.fldA 0 (.t 6)), none⟩,
        ⟨(some 19), (.load1 (.t 18)), none⟩,
        ⟨(some 20), (.call (.f 52) [(.t 17), (.t 19)]), none⟩,
        ⟨(some 16), (.mov (.t 20)), none⟩,
        ⟨(some 21), (.ext (.t 16) 0), none⟩,
        ⟨(some 22), (.ext (.t 16) 1), none⟩,
        ⟨(some 7), (.mov (.t 21)), none⟩,
        ⟨(some 8), (.mov (.t 22)), none⟩])
      (.block 0
       (.seq
        (.ops [
          ⟨(some 24), (.mov (.t 8)), none⟩,
          ⟨(some 23), (.mov (.t 24)), none⟩])
        (.cond (.t 23)
         (.ops [
           ⟨(some 25), (.mov (.t 5)), none⟩,
           ⟨(some 26), (.call (.f 77) [(.t 25), (.c (.int .i64 16))]), none⟩])
         (.seq
          (.ops [
            ⟨(some 28), (.mov (.t 1)), none⟩,
            ⟨(some 29), (.len (.t 28)), none⟩,
            ⟨(some 30), (.bin .eql (.t 29) (.c (.int .i64 16))), none⟩,
            ⟨(some 27), (.mov (.t 30)), none⟩])
          (.cond (.t 27)
           (.ops [
             ⟨(some 31), (.mov (.t 5)), none⟩,
             ⟨(some 32), (.call (.f 77) [(.t 31), (.c (.int .i64 10))]), none⟩])
           .skip))))))
     (.seq
      (.ops [
        ⟨(some 33), (.mov (.t 0)), none⟩,
        ⟨(some 34), (.call (.f 73) [(.t 33)]), none⟩])
      (.seq
       (.ops [
         ⟨(some 35), (.mov (.t 0)), none⟩,
         ⟨(some 36), (.call (.f 74) [(.t 35), (.c (.int .u8 58))]), none⟩])
       (.seq
        (.ops [
          ⟨(some 37), (.mov (.t 0)), none⟩,
          ⟨(some 38), (.call (.f 73) [(.t 37)]), none⟩])
        (.seq
         (.seq
          (.ops [
            ⟨(some 39), (.mov (.t 0)), none⟩,
            ⟨(some 40), (.call (.f 75) [(.t 39), (.c (.int .u8 34))]), none⟩])
          (.cond (.t 40)
           (.ops [
             ⟨(some 41), (.mov (.t 0)), none⟩,
             ⟨(some 42), (.call (.f 100) [(.t 41)]), none⟩,
             ⟨(some 43), (.bin .add (.c (.str [34])) (.t 42)), none⟩,
             ⟨(some 44), (.fldA 1 (.t 6)), none⟩,
             ⟨none, (.store 1 (.t 44) (.t 43)), none⟩])
           (.ops [
             ⟨(some 45), (.mov (.t 0)), none⟩,
             ⟨(some 46), (.call (.f 101) [(.t 45)]), none⟩,
             ⟨(some 47), (.fldA 1 (.t 6)), none⟩,
             ⟨none, (.store 1 (.t 47) (.t 46)), none⟩])))
         (.seq
          (.ops [
            ⟨(some 48), (.loadN 2 (.t 6)), none⟩,
            ⟨none, (.store 2 (.t 4) (.t 48)), none⟩])
          .ret)))))))))

section
variable {E : Env} {L : List Blk} {K : IV → List Blk → Prop}
theorem xfunC {n a k : Nat} {c : XC} {args : List IV} {R : IV → List Blk → Prop} (h : xrun E c (entry args) L (doneK fun ρ L' => xop E (.loadN k (.t a)) (Opd.ev ρ) L' fun r _ => Leave L.length r L' R)) : xfun E ⟨n, [.cellN a k], c⟩ args L R := by
  refine xrun_mono _ (fun e ρ L h => ?_) h
  cases e with
  | normal => exact ⟨Or.inr rfl, h⟩
  | ret => exact ⟨Or.inl rfl, h⟩
  | exit => exact h.elim
  | goto => exact h.elim
theorem fieldP_any (l : List Fr.Pair) (k : List UInt8) : (fieldP l k).2 = l.any fun p => decide (p.key = k) := by
  induction l with
  | nil => rfl
  | cons p l ih =>
    unfold fieldP
    rw [List.any_cons]
    by_cases h : p.key = k
    · rw [if_pos h, decide_eq_true h]; rfl
    · rw [if_neg h, decide_eq_false h, Bool.false_or, ih]
theorem blanks_bnd (s : List UInt8) : ∀ (f i : Nat), i ≤ s.length → i ≤ Fr.blanksGo s f i ∧ Fr.blanksGo s f i ≤ s.length
  | 0, i, h => ⟨Nat.le_refl _, h⟩
  | f + 1, i, h => by
    unfold Fr.blanksGo
    split
    · rename_i hc
      rw [Bool.and_eq_true, decide_eq_true_eq] at hc
      have := blanks_bnd s f (i + 1) hc.1; omega
    · exact ⟨Nat.le_refl _, h⟩
theorem blanks_le (s : List UInt8) (i : Nat) (h : i ≤ s.length) : i ≤ Fr.blanks s i ∧ Fr.blanks s i ≤ s.length := blanks_bnd s _ i h
theorem rd_blanks {Q0 : IV → List Blk → Prop} (hP : E.P = Tryz.prog) {s : List UInt8} {i : Nat} (hs : s.length ≤ 1000000) (hL : L[0]? = some (rdB s i)) (hk : K (.tup []) (L.set 0 (rdB s (Fr.blanks s i)))) : xcall (E.withPan Q0) 73 [.ptr 0 0 0] L K :=
  rd_callQ (xs := []) hL rfl (xt_xtp (Q := fun _ _ => False) (blanks_t (E := E.withPan Q0) hP s i hs)) (fun r L1 ⟨h1, h2⟩ => by subst h1 h2; exact ⟨_, rfl, rfl, hk⟩) (fun _ _ h => h.elim)
theorem rd_must {Q0 : IV → List Blk → Prop} (hP : E.P = Tryz.prog) {s : List UInt8} {i : Nat} {b : UInt8} {n : Int} (hn : n = (b.toNat : Int)) (hs : s.length ≤ 1000000) (hL : L[0]? = some (rdB s i)) (hk : Fr.isAt s i b = true → K (.tup []) (L.set 0 (rdB s (i + 1))))
    (hq : Fr.isAt s i b = false → Q0 (stopV i 2) (L.set 0 (rdB s i))) : xcall (E.withPan Q0) 74 [.ptr 0 0 0, .int .u8 n] L K := by
  subst hn
  exact rd_callQ (xs := [.int .u8 b.toNat]) hL rfl (must_tp (E := E.withPan Q0) hP s i hs b) (fun r L1 ⟨h0, h1, h2⟩ => by subst h1 h2; exact ⟨_, rfl, rfl, hk h0⟩) (fun r L1 ⟨h0, h1, h2⟩ => by subst h1 h2; exact ⟨_, rfl, rfl, hq h0⟩)
theorem number_bnd {s : List UInt8} {o i : Nat} {v : List UInt8} (ho : o ≤ s.length) (h : Fr.number s o = .ok (v, i)) : o < i ∧ i ≤ s.length ∧ v.length ≤ i := by
  unfold Fr.number at h
  simp only at h
  have hf : o ≤ (if Fr.isAt s o 45 then o + 1 else o) ∧ (if Fr.isAt s o 45 then o + 1 else o) ≤ s.length := by
    split
    · rename_i hc; have := isAt_lt hc; omega
    · omega
  generalize (if Fr.isAt s o 45 then o + 1 else o) = f at *
  have hb := numGo_bnd s o f (s.length - f) f hf.2
  generalize Fr.numGo s o f (s.length - f) f = g at *
  split at h
  · cases h
  · cases h
    refine ⟨by omega, by omega, ?_⟩
    rw [List.length_drop, List.length_take]; omega
theorem field_tp (hP : E.P = Tryz.prog) (ht : ∀ w, E.G w → Lib.Utf8Tabs 0 1 w) (s : List UInt8) (l : List Fr.Pair) (o : Nat) (hs : s.length ≤ 1000000) (hl : l.length ≤ 1000) (ho : o ≤ s.length) : XTP E 76 [.ptr 0 0 0, .isl (pRows l)] [rdB s o]
    (fun r L' => ∃ p i, Fr.field s l o = .ok (p, i) ∧ o < i ∧ i ≤ s.length ∧ r = .agg (pRow p) ∧ L' = [rdB s i])
    (fun r L' => ∃ p w j, Fr.field s l o = .error (p, w) ∧ r = stopV p w ∧ L' = [rdB s j]) := by
  have hpq : ∀ x L', (∃ p w j, Fr.field s l o = .error (p, w) ∧ x = stopV p w ∧ L'[0]? = some (rdB s j)) → Leave 1 x L' (fun r L' => ∃ p w j, Fr.field s l o = .error (p, w) ∧ r = stopV p w ∧ L' = [rdB s j]) := by
    rintro x L' ⟨p, w, j, h1, rfl, h3⟩
    exact leave_rd h3 rfl ⟨p, w, j, h1, rfl, rfl⟩
  refine xtp_of_fun (F := ⟨Tryz.f76.ntmps, [.cellN 4 2], y71⟩) (pq := fun x L' => ∃ p w j, Fr.field s l o = .error (p, w) ∧ x = stopV p w ∧ L'[0]? = some (rdB s j)) hpq (by rw [hP]; rfl) (by rw [hP]; kernel_rfl) (by decide) (Nat.le_of_ble_eq_true rfl) ?_
  refine xfunC (xrun_mono (K := doneK fun ρ L' => ∃ p i, Fr.field s l o = .ok (p, i) ∧ o < i ∧ i ≤ s.length ∧ ρ 4 = .ptr 1 0 0 ∧ L'[0]? = some (rdB s i) ∧ L'[1]? = some (.cells 2 [pRow p])) _ (fun e ρ L h => ?_) ?_)
  · have key : ∀ E' : Env, (∃ p i, Fr.field s l o = .ok (p, i) ∧ o < i ∧ i ≤ s.length ∧ ρ 4 = .ptr 1 0 0 ∧ L[0]? = some (rdB s i) ∧ L[1]? = some (.cells 2 [pRow p])) → xop E' (.loadN 2 (.t 4)) (Opd.ev ρ) L fun r _ => Leave [rdB s o].length r L fun r L' => ∃ p i, Fr.field s l o = .ok (p, i) ∧ o < i ∧ i ≤ s.length ∧ r = .agg (pRow p) ∧ L' = [rdB s i] := by
      rintro E' ⟨p, i, h1, g1, g2, h2, h3, h4⟩
      simp only [xop, Opd.ev, h2, rowsAt, h4]
      refine ⟨by simp, by simp [pRow], ?_⟩
      exact leave_rd h3 rfl ⟨p, i, h1, g1, g2, rfl, rfl⟩
    cases e with
    | normal => exact key _ h
    | ret => exact key _ h
    | exit => exact h.elim
    | goto => exact h.elim
  generalize hρ : entry _ = ρ
  have h0 : ρ 0 = .ptr 0 0 0 := by rw [← hρ]; rfl
  have h1 : ρ 1 = .isl (pRows l) := by rw [← hρ]; rfl
  clear hρ
  unfold y71
  simp only [h0, h1, rdB, go_sem, Nat.reduceEqDiff, reduceIte, Int.reduceEq, Int.reduceLT, Int.reduceLE, Nat.reduceAdd, Nat.reduceLT, Nat.reduceLeDiff, Int.reduceToNat, Int.reduceSub, Int.reduceAdd, Int.reduceNeg]
  refine rd_callQ (xs := []) rfl rfl (text_tp (E := E.withPan _) hP ht s o hs ho) ?_ ?_
  rotate_left
  · rintro r L1 ⟨p, w, j, he, rfl, rfl⟩
    exact ⟨j, rfl, rfl, p, w, j, by unfold Fr.field; rw [he], rfl, rfl⟩
  rintro r L1 ⟨k, j, he, g1, g2, g3, rfl, rfl⟩
  refine ⟨j, rfl, rfl, ?_⟩
  have hfd : Fr.field s l o = (if l.any fun p => decide (p.key = k) then .error (o, Fr.twice)
    else if l.length = 16 then .error (o, Fr.many)
    else match Fr.must s (Fr.blanks s j) 58 with
      | .error e => .error e
      | .ok j =>
        if Fr.isAt s (Fr.blanks s j) 34 then (match Fr.text s (Fr.blanks s j) with
          | .error e => .error e
          | .ok (v, m) => .ok (⟨k, 34 :: v⟩, m))
        else (match Fr.number s (Fr.blanks s j) with
          | .error e => .error e
          | .ok (v, m) => .ok (⟨k, v⟩, m))) := by unfold Fr.field; rw [he]; rfl
  show xops _ _ _ [rdB s j, .cells 2 [[.str [], .str []]]] _
  simp only [h0, h1, rdB, go_sem, Nat.reduceEqDiff, reduceIte, Int.reduceEq, Int.reduceLT, Int.reduceLE, Nat.reduceAdd, Nat.reduceLT, Nat.reduceLeDiff, Int.reduceToNat, Int.reduceSub, Int.reduceAdd, Int.reduceNeg]
  refine xcall_pure (args' := [.isl (pRows l), .str k]) rfl (field_pure (E := E.withPan _) hP l (by omega) k) rfl ?_
  rw [fieldP_any]
  simp only [h0, h1, go_sem, Nat.reduceEqDiff, reduceIte, Int.reduceEq, Int.reduceLT, Int.reduceLE, Nat.reduceAdd, Nat.reduceLT, Nat.reduceLeDiff, Int.reduceToNat, Int.reduceSub, Int.reduceAdd, Int.reduceNeg]
  cases hany : (l.any fun p => decide (p.key = k)) with
  | true =>
    rw [hany, if_pos rfl] at hfd
    simp only [h0, h1, go_sem, Nat.reduceEqDiff, reduceIte, Int.reduceEq, Int.reduceLT, Int.reduceLE, Nat.reduceAdd, Nat.reduceLT, Nat.reduceLeDiff, Int.reduceToNat, Int.reduceSub, Int.reduceAdd, Int.reduceNeg]
    refine fail_callQ hP _ _ ?_
    exact ⟨o, 16, j, by rw [hfd]; rfl, rfl, rfl⟩
  | false =>
  rw [hany, if_neg (by decide)] at hfd
  have hlen := pRows_len l
  by_cases h16 : l.length = 16
  · rw [if_pos h16] at hfd
    have f1 : (((pRows l).length : Int) = 16) = True := eq_true (by omega)
    simp only [h0, h1, f1, go_sem, Nat.reduceEqDiff, reduceIte, Int.reduceEq, Int.reduceLT, Int.reduceLE, Nat.reduceAdd, Nat.reduceLT, Nat.reduceLeDiff, Int.reduceToNat, Int.reduceSub, Int.reduceAdd, Int.reduceNeg]
    refine fail_callQ hP _ _ ?_
    exact ⟨o, 10, j, by rw [hfd]; rfl, rfl, rfl⟩
  rw [if_neg h16] at hfd
  have f1 : (((pRows l).length : Int) = 16) = False := eq_false (by omega)
  simp only [h0, h1, f1, go_sem, Nat.reduceEqDiff, reduceIte, Int.reduceEq, Int.reduceLT, Int.reduceLE, Nat.reduceAdd, Nat.reduceLT, Nat.reduceLeDiff, Int.reduceToNat, Int.reduceSub, Int.reduceAdd, Int.reduceNeg]
  refine rd_blanks hP hs rfl ?_
  have hb1 := blanks_le s j (by omega)
  show xops _ _ _ [rdB s (Fr.blanks s j), .cells 2 [[.str [], .str []]], .cells 2 [[.str k, .str []]]] _
  simp only [h0, h1, go_sem, Nat.reduceEqDiff, reduceIte, Int.reduceEq, Int.reduceLT, Int.reduceLE, Nat.reduceAdd, Nat.reduceLT, Nat.reduceLeDiff, Int.reduceToNat, Int.reduceSub, Int.reduceAdd, Int.reduceNeg]
  refine rd_must (b := 58) hP rfl hs rfl ?_ ?_
  rotate_left
  · intro hm
    exact ⟨Fr.blanks s j, 2, Fr.blanks s j, by rw [hfd]; unfold Fr.must; rw [hm]; rfl, rfl, rfl⟩
  intro hm
  have hmlt := isAt_lt hm
  rw [show Fr.must s (Fr.blanks s j) 58 = .ok (Fr.blanks s j + 1) from by unfold Fr.must; rw [hm]; rfl] at hfd
  simp only at hfd
  show xops _ _ _ [rdB s (Fr.blanks s j + 1), .cells 2 [[.str [], .str []]], .cells 2 [[.str k, .str []]]] _
  simp only [h0, h1, go_sem, Nat.reduceEqDiff, reduceIte, Int.reduceEq, Int.reduceLT, Int.reduceLE, Nat.reduceAdd, Nat.reduceLT, Nat.reduceLeDiff, Int.reduceToNat, Int.reduceSub, Int.reduceAdd, Int.reduceNeg]
  refine rd_blanks hP hs rfl ?_
  have hb2 := blanks_le s (Fr.blanks s j + 1) (by omega)
  generalize Fr.blanks s (Fr.blanks s j + 1) = m at *
  show xops _ _ _ [rdB s m, .cells 2 [[.str [], .str []]], .cells 2 [[.str k, .str []]]] _
  simp only [h0, h1, go_sem, Nat.reduceEqDiff, reduceIte, Int.reduceEq, Int.reduceLT, Int.reduceLE, Nat.reduceAdd, Nat.reduceLT, Nat.reduceLeDiff, Int.reduceToNat, Int.reduceSub, Int.reduceAdd, Int.reduceNeg]
  refine is_callQ (b := 34) hP rfl hs rfl ?_
  cases hq : Fr.isAt s m 34 with
  | true =>
    rw [hq, if_pos rfl] at hfd
    simp only [h0, h1, go_sem, Nat.reduceEqDiff, reduceIte, Int.reduceEq, Int.reduceLT, Int.reduceLE, Nat.reduceAdd, Nat.reduceLT, Nat.reduceLeDiff, Int.reduceToNat, Int.reduceSub, Int.reduceAdd, Int.reduceNeg]
    refine rd_callQ (xs := []) rfl rfl (text_tp (E := E.withPan _) hP ht s m hs (by omega)) ?_ ?_
    rotate_left
    · rintro r L1 ⟨p, w, i, he2, rfl, rfl⟩
      rw [he2] at hfd
      exact ⟨i, rfl, rfl, p, w, i, hfd, rfl, rfl⟩
    rintro r L1 ⟨v, i, he2, q1, q2, q3, rfl, rfl⟩
    rw [he2] at hfd
    refine ⟨i, rfl, rfl, ?_⟩
    show xops _ _ _ [rdB s i, .cells 2 [[.str [], .str []]], .cells 2 [[.str k, .str []]]] _
    simp only [h0, h1, rdB, go_sem, Nat.reduceEqDiff, reduceIte, Int.reduceEq, Int.reduceLT, Int.reduceLE, Nat.reduceAdd, Nat.reduceLT, Nat.reduceLeDiff, Int.reduceToNat, Int.reduceSub, Int.reduceAdd, Int.reduceNeg]
    exact ⟨by omega, ⟨k, 34 :: v⟩, i, hfd, by omega, q2, rfl, rfl⟩
  | false =>
    rw [hq, if_neg (by decide)] at hfd
    simp only [h0, h1, go_sem, Nat.reduceEqDiff, reduceIte, Int.reduceEq, Int.reduceLT, Int.reduceLE, Nat.reduceAdd, Nat.reduceLT, Nat.reduceLeDiff, Int.reduceToNat, Int.reduceSub, Int.reduceAdd, Int.reduceNeg]
    refine rd_callQ (xs := []) rfl rfl (number_tp (E := E.withPan _) hP s m hs (by omega)) ?_ ?_
    rotate_left
    · rintro r L1 ⟨p, w, i, he2, rfl, rfl⟩
      rw [he2] at hfd
      exact ⟨i, rfl, rfl, p, w, i, hfd, rfl, rfl⟩
    rintro r L1 ⟨v, i, he2, rfl, rfl⟩
    rw [he2] at hfd
    obtain ⟨q1, q2, q3⟩ := number_bnd (by omega) he2
    refine ⟨i, rfl, rfl, ?_⟩
    show xops _ _ _ [rdB s i, .cells 2 [[.str [], .str []]], .cells 2 [[.str k, .str []]]] _
    simp only [h0, h1, rdB, go_sem, Nat.reduceEqDiff, reduceIte, Int.reduceEq, Int.reduceLT, Int.reduceLE, Nat.reduceAdd, Nat.reduceLT, Nat.reduceLeDiff, Int.reduceToNat, Int.reduceSub, Int.reduceAdd, Int.reduceNeg]
    exact ⟨⟨k, v⟩, i, hfd, by omega, q2, rfl, rfl⟩
end
end Go.X.TryzW
end
section
open Go Go.X Go.Proofs
set_option maxRecDepth 100000
set_option maxHeartbeats 4000000
set_option linter.unusedSimpArgs false
set_option linter.unusedVariables false
namespace Go.X.TryzW
def z39t : XC :=
 (.seq (.ops [ ⟨(some 31), (.mov (.t 0)), none⟩, ⟨(some 32), (.call (.f 74) [(.t 31), (.c (.int .u8 125))]), none⟩]) (.seq (.ops [ ⟨(some 33), (.mov (.t 0)), none⟩, ⟨(some 34), (.call (.f 73) [(.t 33)]), none⟩]) (.seq (.seq (.draw [ ⟨(some 35), (.mov (.t 0)), none⟩, ⟨(some 36), (.nilck (.t 35)), none⟩, ⟨(some 37), (.fldA 1 (.t 36)), none⟩, ⟨(some 38), (.load1 (.t 37)), none⟩, ⟨(some 39), (.mov (.t 0)), none⟩, ⟨(some 40), (.nilck (.t 39)), none⟩, ⟨(some 41), (.fldA 0 (.t 40)), none⟩, ⟨(some 42), (.load1 (.t 41)), none⟩, ⟨(some 43), (.lenS (.t 42)), none⟩, ⟨(some 44), (.bin .lss (.t 38) (.t 43)), none⟩]) (.cond (.t 44) (.ops [ ⟨(some 45), (.mov (.t 0)), none⟩, ⟨(some 46), (.nilck (.t 45)), none⟩, ⟨(some 47), (.fldA 1 (.t 46)), none⟩, ⟨(some 48), (.load1 (.t 47)), none⟩, ⟨(some 49), (.call (.f 77) [(.t 48), (.c (.int .i64 2))]), none⟩]) .skip)) (.seq (.ops [ ⟨(some 50), (.mov (.t 3)), none⟩, ⟨(some 2), (.mov (.t 50)), none⟩]) .ret))))
def z39b : XC :=
 (.seq (.ops [ ⟨(some 12), (.mov (.t 3)), none⟩, ⟨(some 13), (.mov (.t 0)), none⟩, ⟨(some 14), (.mov (.t 3)), none⟩, ⟨(some 15), (.call (.f 76) [(.t 13), (.t 14)]), none⟩, ⟨(some 16), (.bslice 2 [(.str []), (.str [])] 1 [(0, (.t 15))]), none⟩, ⟨(some 17), (.append 2 32 (.t 12) (.t 16)), none⟩, ⟨(some 3), (.mov (.t 17)), none⟩]) (.seq (.ops [ ⟨(some 18), (.mov (.t 0)), none⟩, ⟨(some 19), (.call (.f 73) [(.t 18)]), none⟩]) (.seq (.seq (.ops [ ⟨(some 20), (.mov (.t 0)), none⟩, ⟨(some 21), (.call (.f 75) [(.t 20), (.c (.int .u8 44))]), none⟩]) (.cond (.t 21) (.seq (.ops [ ⟨(some 22), (.mov (.t 0)), none⟩, ⟨(some 23), (.nilck (.t 22)), none⟩, ⟨(some 24), (.fldA 1 (.t 23)), none⟩, ⟨(some 25), (.load1 (.t 24)), none⟩, ⟨(some 26), (.bin .add (.t 25) (.c (.int .i64 1))), none⟩, ⟨(some 27), (.nilck (.t 22)), none⟩, ⟨(some 28), (.fldA 1 (.t 27)), none⟩, ⟨none, (.store 1 (.t 28) (.t 26)), none⟩]) (.seq (.ops [ ⟨(some 29), (.mov (.t 0)), none⟩, ⟨(some 30), (.call (.f 73) [(.t 29)]), none⟩]) (.goto 1))) .skip)) (.seq (.label 0) z39t))))
/- "(*tiller/front.reader).object" params { toList := [63] } results { toList := [Go.ResultVar.tmp 2] } -/
def y39 : XC :=
 (.seq (.ops [ ⟨(some 2), (.mov (.c .nsl)), none⟩]) (.scope (.seq (.ops [ ⟨(some 3), (.mov (.c .nsl)), none⟩]) (.seq (.ops [ ⟨(some 4), (.mov (.t 0)), none⟩, ⟨(some 5), (.call (.f 73) [(.t 4)]), none⟩]) (.seq (.ops [ ⟨(some 6), (.mov (.t 0)), none⟩, ⟨(some 7), (.call (.f 74) [(.t 6), (.c (.int .u8 123))]), none⟩]) (.seq (.ops [ ⟨(some 8), (.mov (.t 0)), none⟩, ⟨(some 9), (.call (.f 73) [(.t 8)]), none⟩]) (.seq (.seq (.ops [ ⟨(some 10), (.mov (.t 0)), none⟩, ⟨(some 11), (.call (.f 75) [(.t 10), (.c (.int .u8 125))]), none⟩]) (.cond (.t 11) (.goto 0) .skip)) (.seq (.label 1) z39b)))))) (.cons 1 (.seq .skip z39b) (.cons 0 (.seq .skip z39t) .nil))))
section
variable {E : Env} {ρ : Rho} {L : List Blk} {K : IV → List Blk → Prop} {KX : XE → Rho → List Blk → Prop}
/-- Behind a run that may go to the labels a, b. -/
def gotoK2 (a b : Nat) (Ia Ib : Nat → Rho → List Blk → Prop) (n : Nat) (K : XE → Rho → List Blk → Prop) : XE → Rho → List Blk → Prop
  | .goto l, ρ, L => if l = a then ∃ m, m < n ∧ Ia m ρ L else if l = b then ∃ m, m < n ∧ Ib m ρ L else K (.goto l) ρ L
  | e, ρ, L => K e ρ L
@[go_sem ↓] theorem s_gotoK2a {a b : Nat} {Ia Ib : Nat → Rho → List Blk → Prop} {n : Nat} {K : XE → Rho → List Blk → Prop} {l : Nat} : gotoK2 a b Ia Ib n K (.goto l) ρ L = if l = a then ∃ m, m < n ∧ Ia m ρ L else if l = b then ∃ m, m < n ∧ Ib m ρ L else K (.goto l) ρ L := nr rfl
@[go_sem ↓] theorem s_gotoK2r {a b : Nat} {Ia Ib : Nat → Rho → List Blk → Prop} {n : Nat} {K : XE → Rho → List Blk → Prop} : gotoK2 a b Ia Ib n K .ret ρ L = K .ret ρ L := nr rfl
@[go_sem ↓] theorem s_gotoK2n {a b : Nat} {Ia Ib : Nat → Rho → List Blk → Prop} {n : Nat} {K : XE → Rho → List Blk → Prop} : gotoK2 a b Ia Ib n K .normal ρ L = K .normal ρ L := nr rfl
theorem s_scope2 {b0 ca cb : XC} {a b : Nat} (hab : a ≠ b) (Ia Ib : Nat → Rho → List Blk → Prop) (N : Nat) (h0 : xrun E b0 ρ L (gotoK2 a b Ia Ib N KX)) (hsa : ∀ n ρ L, Ia n ρ L → xrun E ca ρ L (gotoK2 a b Ia Ib n KX)) (hsb : ∀ n ρ L, Ib n ρ L → xrun E cb ρ L (gotoK2 a b Ia Ib n KX)) :
    xrun E (.scope b0 (.cons a ca (.cons b cb .nil))) ρ L KX := by
  simp only [xrun]
  have hga : xlabs E (.cons a ca (.cons b cb .nil)) a = some (xrun E ca) := by simp [xlabs]
  have hgb : xlabs E (.cons a ca (.cons b cb .nil)) b = some (xrun E cb) := by simp [xlabs, Ne.symm hab]
  have hg' : ∀ l', l' ≠ a → l' ≠ b → xlabs E (.cons a ca (.cons b cb .nil)) l' = none := fun l' h h' => by simp [xlabs, h, h']
  have key : ∀ n, (∀ m ρ L, m < n → Ia m ρ L → xgoto (xlabs E (.cons a ca (.cons b cb .nil))) n (.goto a) ρ L KX) ∧ (∀ m ρ L, m < n → Ib m ρ L → xgoto (xlabs E (.cons a ca (.cons b cb .nil))) n (.goto b) ρ L KX) ∧ (∀ e ρ L, gotoK2 a b Ia Ib n KX e ρ L → xgoto (xlabs E (.cons a ca (.cons b cb .nil))) n e ρ L KX) := by
    intro n
    have third : ∀ n, (∀ m ρ L, m < n → Ia m ρ L → xgoto (xlabs E (.cons a ca (.cons b cb .nil))) n (.goto a) ρ L KX) → (∀ m ρ L, m < n → Ib m ρ L → xgoto (xlabs E (.cons a ca (.cons b cb .nil))) n (.goto b) ρ L KX) → (∀ e ρ L, gotoK2 a b Ia Ib n KX e ρ L → xgoto (xlabs E (.cons a ca (.cons b cb .nil))) n e ρ L KX) := by
      intro n h1 h2 e ρ L h
      cases e with
      | normal => simp only [xgoto]; exact h
      | ret => simp only [xgoto]; exact h
      | exit i => simp only [xgoto]; exact h
      | goto l' =>
        rw [s_gotoK2a] at h
        by_cases hl : l' = a
        · subst hl; rw [if_pos rfl] at h; obtain ⟨m, hm, h3⟩ := h; exact h1 m ρ L hm h3
        · rw [if_neg hl] at h
          by_cases hl' : l' = b
          · subst hl'; rw [if_pos rfl] at h; obtain ⟨m, hm, h3⟩ := h; exact h2 m ρ L hm h3
          · rw [if_neg hl'] at h; unfold xgoto; rw [hg' l' hl hl']; exact h
    induction n with
    | zero => exact ⟨fun m ρ L h => by omega, fun m ρ L h => by omega, third 0 (fun m ρ L h => by omega) (fun m ρ L h => by omega)⟩
    | succ n ih =>
      have mono : ∀ m, m ≤ n → ∀ e ρ L, gotoK2 a b Ia Ib m KX e ρ L → gotoK2 a b Ia Ib n KX e ρ L := by
        intro m hm e ρ L h
        cases e with
        | goto l =>
          rw [s_gotoK2a] at h ⊢
          split
          · rename_i hl; rw [if_pos hl] at h; obtain ⟨k, h1, h2⟩ := h; exact ⟨k, by omega, h2⟩
          · rename_i hl; rw [if_neg hl] at h
            split
            · rename_i hl'; rw [if_pos hl'] at h; obtain ⟨k, h1, h2⟩ := h; exact ⟨k, by omega, h2⟩
            · rename_i hl'; rw [if_neg hl'] at h; exact h
        | normal => exact h
        | ret => exact h
        | exit => exact h
      have h1 : ∀ m ρ L, m < n + 1 → Ia m ρ L → xgoto (xlabs E (.cons a ca (.cons b cb .nil))) (n + 1) (.goto a) ρ L KX := fun m ρ L hm h => by
        unfold xgoto; rw [hga]
        exact xrun_mono ca (fun e ρ L h => ih.2.2 e ρ L (mono m (by omega) e ρ L h)) (hsa m ρ L h)
      have h2 : ∀ m ρ L, m < n + 1 → Ib m ρ L → xgoto (xlabs E (.cons a ca (.cons b cb .nil))) (n + 1) (.goto b) ρ L KX := fun m ρ L hm h => by
        unfold xgoto; rw [hgb]
        exact xrun_mono cb (fun e ρ L h => ih.2.2 e ρ L (mono m (by omega) e ρ L h)) (hsb m ρ L h)
      exact ⟨h1, h2, third (n + 1) h1 h2⟩
  exact ⟨N, xrun_mono b0 (fun e ρ L h => (key N).2.2 e ρ L h) h0⟩

/-- A call on the reader's block; the rest is lent. -/
theorem rd_lend {Q0 : IV → List Blk → Prop} {f : FuncId} {s : List UInt8} {i : Nat} {xs xs' : List IV} {R Q : IV → List Blk → Prop} (hL : L[0]? = some (rdB s i)) (hx : mapO (conv L fuel (renSel [0] [] true)) xs = some xs') (h : XTP (E.withPan Q0) f (.ptr 0 0 0 :: xs') [rdB s i] R Q)
    (hk : ∀ r L1, R r L1 → ∃ j, L1 = [rdB s j] ∧ plainD fuel r = true ∧ noTree r = true ∧ K r (L.set 0 (rdB s j))) (hq : ∀ r L1, Q r L1 → ∃ j, L1 = [rdB s j] ∧ plainD fuel r = true ∧ noTree r = true ∧ Q0 r (L.set 0 (rdB s j))) : xcall (E.withPan Q0) f (.ptr 0 0 0 :: xs) L K := by
  have hg : L.getD 0 .dead = rdB s i := by rw [List.getD_eq_getElem?_getD, hL]; rfl
  refine .inr (.inr ⟨[0], [], true, .ptr 0 0 0 :: xs', [rdB s i], by simp, fun t ht => ?_, fun _ => rfl, ?_, ?_, h.mono (fun r L1 hr => ?_) (fun r L1 hr => ?_)⟩)
  · rw [List.mem_singleton] at ht; subst ht; exact ⟨⟨_, hL, rfl⟩, by simp⟩
  · simp only [mapO, hx]; rfl
  · rw [List.map_cons, List.map_nil, hg]; rfl
  · obtain ⟨j, rfl, h2, h3, h4⟩ := hk r L1 hr
    refine ⟨fun _ => ⟨h3, rfl⟩, r, [rdB s j], plainD_conv h2, rfl, ?_⟩
    show K r (L.set 0 (rdB s j) ++ [])
    rw [List.append_nil]; exact h4
  · obtain ⟨j, rfl, h2, h3, h4⟩ := hq r L1 hr
    refine ⟨fun _ => ⟨h3, rfl⟩, r, [rdB s j], plainD_conv h2, rfl, ?_⟩
    show Q0 r (L.set 0 (rdB s j) ++ [])
    rw [List.append_nil]; exact h4

/-- A list of ours. -/
def LstOk (L : List Blk) (sv : IV) (l : List Fr.Pair) : Prop := (l = [] ∧ sv = .nsl) ∨ ∃ k, 0 < k ∧ sv = .sl k 0 l.length l.length ∧ L[k]? = some (.cells 2 (pRows l))
theorem conv_pRows {L : List Blk} {n : Nat} {m : Ren} (l : List Fr.Pair) : mapO (mapO (conv L (n + 1) m)) (pRows l) = some (pRows l) := by
  refine mapO_same fun row hr => ?_
  unfold pRows at hr
  obtain ⟨b, _, rfl⟩ := List.mem_map.1 hr
  rfl
theorem LstOk.conv {sv : IV} {l : List Fr.Pair} {m : Ren} (h : LstOk L sv l) (hm : ∀ k, 0 < k → m k = some none) : conv L fuel m sv = some (.isl (pRows l)) := by
  rcases h with ⟨rfl, rfl⟩ | ⟨k, h1, rfl, h3⟩
  · rfl
  · show Go.X.conv L 12 m _ = _
    simp only [Go.X.conv, hm k h1, h3]
    rw [if_pos (by rw [pRows_len]; omega), List.drop_zero, List.take_of_length_le (by rw [pRows_len]; exact Nat.le_refl _), conv_pRows]
    rfl
theorem LstOk.set0 {sv : IV} {l : List Fr.Pair} {b : Blk} (h : LstOk L sv l) : LstOk (L.set 0 b) sv l := by
  rcases h with ⟨rfl, rfl⟩ | ⟨k, h1, rfl, h3⟩
  · exact .inl ⟨rfl, rfl⟩
  · exact .inr ⟨k, h1, rfl, by rw [List.getElem?_set_ne (by omega)]; exact h3⟩
theorem LstOk.app {sv : IV} {l : List Fr.Pair} {b : Blk} (h : LstOk L sv l) : LstOk (L ++ [b]) sv l := by
  rcases h with ⟨rfl, rfl⟩ | ⟨k, h1, rfl, h3⟩
  · exact .inl ⟨rfl, rfl⟩
  · exact .inr ⟨k, h1, rfl, by rw [List.getElem?_append_left (lt_of_get h3)]; exact h3⟩
theorem pRows_app (a b : List Fr.Pair) : pRows (a ++ b) = pRows a ++ pRows b := by simp [pRows]
theorem app_row {sv x : IV} {l : List Fr.Pair} {p : Fr.Pair} (hl : LstOk L sv l) (hx : rowsOf L x = some [pRow p]) (hb : l.length ≤ 1000) (h0 : 0 < L.length)
    (hk : ∀ L' sv', LstOk L' sv' (l ++ [p]) → (∀ i, i = 0 → L'[i]? = L[i]?) → K sv' L') : xop E (.append 2 32 (.c sv) (.c x)) cev L K := by
  show xappend 2 32 sv x L K
  unfold xappend
  rw [hx]
  refine ⟨fun row hr => by rw [List.mem_singleton] at hr; subst hr; exact ⟨rfl, rfl⟩, ?_⟩
  rcases hl with ⟨rfl, rfl⟩ | ⟨k, h1, rfl, h3⟩
  · refine ⟨fun h => by simp at h, fun _ => ⟨by simp, ?_⟩⟩
    refine hk _ _ (.inr ⟨L.length, h0, rfl, by simp [pRows]⟩) fun i hi => ?_
    subst hi
    rw [List.getElem?_append_left h0]
  · simp only [h3]
    refine ⟨trivial, by rw [pRows_len]; omega, ?_⟩
    rw [if_neg (by simp)]
    refine ⟨by simp only [List.length_cons, List.length_nil]; omega, ?_⟩
    refine hk _ _ (.inr ⟨L.length, h0, by rw [List.length_append]; rfl, ?_⟩) fun i hi => ?_
    · rw [List.getElem?_append_right (by rw [List.length_set]; exact Nat.le_refl _), List.length_set, Nat.sub_self, pRows_app, List.drop_zero, List.take_of_length_le (by rw [pRows_len]; exact Nat.le_refl _)]; rfl
    · subst hi
      rw [List.getElem?_append_left (by rw [List.length_set]; exact h0), List.getElem?_set_ne (by omega)]
/-! ### The whole -/
/-- What is left to be done at the label behind the fields. -/
def endF (s : List UInt8) (l : List Fr.Pair) (i : Nat) : Except Fr.Bad (List Fr.Pair) :=
  match Fr.must s i 125 with
  | .error e => .error e
  | .ok i => if Fr.blanks s i < s.length then .error (Fr.blanks s i, Fr.form) else .ok l
def contF (s : List UInt8) (x : Except Fr.Bad (List Fr.Pair × Nat)) : Except Fr.Bad (List Fr.Pair) :=
  match x with
  | .error e => .error e
  | .ok (l, i) => endF s l i
theorem body_eq (s : List UInt8) : Fr.body s = (match Fr.must s (Fr.blanks s 0) 123 with
  | .error e => .error e
  | .ok i => contF s (if Fr.isAt s (Fr.blanks s i) 125 then .ok ([], Fr.blanks s i) else Fr.fields s 18 [] (Fr.blanks s i))) := by
  unfold Fr.body contF endF
  cases Fr.must s (Fr.blanks s 0) 123 with
  | error e => rfl
  | ok i => rfl
theorem field_not16 {s : List UInt8} {l : List Fr.Pair} {o : Nat} {x : Fr.Pair × Nat} (h : Fr.field s l o = .ok x) : l.length ≠ 16 := by
  intro h16
  unfold Fr.field at h
  split at h
  · cases h
  · split at h
    · cases h
    · first | (rw [if_pos h16] at h; cases h) | cases h
section
def PanO (s : List UInt8) : IV → List Blk → Prop := fun x L' => ∃ p w j, Fr.body s = .error (p, w) ∧ x = stopV p w ∧ L'[0]? = some (rdB s j)
theorem tail_run (hP : E.P = Tryz.prog) (s : List UInt8) (hs : s.length ≤ 1000000) (l : List Fr.Pair) (i : Nat) (hi : i ≤ s.length) (sv : IV) (hb : Fr.body s = endF s l i) (h0 : ρ 0 = .ptr 0 0 0) (h3 : ρ 3 = sv) (hL : L[0]? = some (rdB s i)) (hl : LstOk L sv l)
    (hk : ∀ ρ' L' j, Fr.body s = .ok l → ρ' 2 = sv → L'[0]? = some (rdB s j) → LstOk L' sv l → KX .ret ρ' L') : xrun (E.withPan (PanO s)) z39t ρ L KX := by
  unfold z39t
  simp only [h0, go_sem, Nat.reduceEqDiff, reduceIte, Int.reduceEq, Int.reduceLT, Int.reduceLE, Nat.reduceAdd, Nat.reduceLT, Nat.reduceLeDiff, Int.reduceToNat, Int.reduceSub, Int.reduceAdd, Int.reduceNeg]
  refine rd_must (b := 125) hP rfl hs hL ?_ ?_
  rotate_left
  · intro hm
    exact ⟨i, 2, i, by rw [hb]; unfold endF Fr.must; rw [hm]; rfl, rfl, set0_get hL⟩
  intro hm
  have hmlt := isAt_lt hm
  have hb2 : Fr.body s = if Fr.blanks s (i + 1) < s.length then .error (Fr.blanks s (i + 1), Fr.form) else .ok l := by
    rw [hb]; unfold endF Fr.must; rw [hm]; rfl
  simp only [h0, go_sem, Nat.reduceEqDiff, reduceIte, Int.reduceEq, Int.reduceLT, Int.reduceLE, Nat.reduceAdd, Nat.reduceLT, Nat.reduceLeDiff, Int.reduceToNat, Int.reduceSub, Int.reduceAdd, Int.reduceNeg]
  refine rd_blanks hP hs (set0_get hL) ?_
  have hL2 : (List.set (List.set L 0 (rdB s (i + 1))) 0 (rdB s (Fr.blanks s (i + 1))))[0]? = some (.cells 2 [[.str s, .int .i64 (Fr.blanks s (i + 1))]]) := set0_get (b := rdB s (Fr.blanks s (i + 1))) (set0_get hL)
  have hl2 : LstOk (List.set (List.set L 0 (rdB s (i + 1))) 0 (rdB s (Fr.blanks s (i + 1)))) sv l := hl.set0.set0
  generalize List.set (List.set L 0 (rdB s (i + 1))) 0 (rdB s (Fr.blanks s (i + 1))) = L2 at *
  generalize Fr.blanks s (i + 1) = m at *
  by_cases hlt : m < s.length
  · rw [if_pos hlt] at hb2
    have f1 : ((m : Int) < (s.length : Int)) = True := eq_true (by omega)
    simp only [h0, hL2, f1, go_sem, Nat.reduceEqDiff, reduceIte, Int.reduceEq, Int.reduceLT, Int.reduceLE, Nat.reduceAdd, Nat.reduceLT, Nat.reduceLeDiff, Int.reduceToNat, Int.reduceSub, Int.reduceAdd, Int.reduceNeg]
    refine ⟨by rfl, ?_⟩
    refine fail_callQ hP _ _ ?_
    exact ⟨m, 2, m, hb2, rfl, hL2⟩
  · rw [if_neg hlt] at hb2
    have f1 : ((m : Int) < (s.length : Int)) = False := eq_false (by omega)
    simp only [h0, h3, hL2, f1, go_sem, Nat.reduceEqDiff, reduceIte, Int.reduceEq, Int.reduceLT, Int.reduceLE, Nat.reduceAdd, Nat.reduceLT, Nat.reduceLeDiff, Int.reduceToNat, Int.reduceSub, Int.reduceAdd, Int.reduceNeg]
    refine ⟨by rfl, ?_⟩
    exact hk _ _ m hb2 (by simp only [go_sem, Nat.reduceEqDiff, reduceIte, Int.reduceEq, Int.reduceLT, Int.reduceLE, Nat.reduceAdd, Nat.reduceLT, Nat.reduceLeDiff, Int.reduceToNat, Int.reduceSub, Int.reduceAdd, Int.reduceNeg]) hL2 hl2
theorem fields_run (hP : E.P = Tryz.prog) (ht : ∀ w, E.G w → Lib.Utf8Tabs 0 1 w) (s : List UInt8) (hs : s.length ≤ 1000000) (l : List Fr.Pair) (i : Nat) (hi : i ≤ s.length) (h16 : l.length ≤ 16) (sv : IV) (hb : Fr.body s = contF s (Fr.fields s (18 - l.length) l i)) (h0 : ρ 0 = .ptr 0 0 0) (h3 : ρ 3 = sv) (hL : L[0]? = some (rdB s i)) (hl : LstOk L sv l)
    (hk : ∀ ρ' L' sv' l' j, Fr.body s = .ok l' → ρ' 2 = sv' → L'[0]? = some (rdB s j) → LstOk L' sv' l' → KX .ret ρ' L')
    (hg : ∀ ρ' L' sv' (l' : List Fr.Pair) j, j ≤ s.length → l'.length ≤ 16 → l'.length = l.length + 1 → Fr.body s = contF s (Fr.fields s (18 - l'.length) l' j) → ρ' 0 = .ptr 0 0 0 → ρ' 3 = sv' → L'[0]? = some (rdB s j) → LstOk L' sv' l' → KX (.goto 1) ρ' L') : xrun (E.withPan (PanO s)) z39b ρ L KX := by
  unfold z39b
  simp only [h0, h3, go_sem, Nat.reduceEqDiff, reduceIte, Int.reduceEq, Int.reduceLT, Int.reduceLE, Nat.reduceAdd, Nat.reduceLT, Nat.reduceLeDiff, Int.reduceToNat, Int.reduceSub, Int.reduceAdd, Int.reduceNeg]
  refine rd_lend (xs' := [.isl (pRows l)]) hL ?_ (field_tp (E := E.withPan _) hP ht s l i hs (by omega) hi) ?_ ?_
  · have := hl.conv (m := renSel [0] [] true) fun k hk => by
      have hp : pos [0] k 0 = none := by simp [pos]; omega
      unfold renSel; rw [hp]; rfl
    simp only [mapO, this]
  rotate_left
  · rintro r L1 ⟨p, w, j, he, rfl, rfl⟩
    refine ⟨j, rfl, rfl, rfl, p, w, j, ?_, rfl, set0_get hL⟩
    rw [hb, show 18 - l.length = (17 - l.length) + 1 by omega, Fr.fields, he]; rfl
  rintro r L1 ⟨p, j, he, g1, g2, rfl, rfl⟩
  have h15 := field_not16 he
  rw [show 18 - l.length = (17 - l.length) + 1 by omega, Fr.fields, he] at hb
  simp only at hb
  refine ⟨j, rfl, rfl, rfl, ?_⟩
  have hlen0 : 0 < L.length := lt_of_get hL
  have hL1 : (List.set L 0 (rdB s j))[0]? = some (rdB s j) := set0_get hL
  have hl1 : LstOk (List.set L 0 (rdB s j)) sv l := hl.set0
  have hlen1 : 0 < (List.set L 0 (rdB s j)).length := by rw [List.length_set]; exact hlen0
  generalize List.set L 0 (rdB s j) = L1 at *
  simp only [h0, h3, pRow, go_sem, Nat.reduceEqDiff, reduceIte, Int.reduceEq, Int.reduceLT, Int.reduceLE, Nat.reduceAdd, Nat.reduceLT, Nat.reduceLeDiff, Int.reduceToNat, Int.reduceSub, Int.reduceAdd, Int.reduceNeg]
  refine app_row (l := l) (p := p) hl1.app ?_ (by omega) (by simp) fun L2 sv2 hl2 hk2 => ?_
  · show rowsOf (L1 ++ [_]) (.sl L1.length 0 1 1) = _
    simp [rowsOf, pRow]
  have hL2 : L2[0]? = some (rdB s j) := by rw [hk2 0 rfl, List.getElem?_append_left hlen1]; exact hL1
  simp only [h0, go_sem, Nat.reduceEqDiff, reduceIte, Int.reduceEq, Int.reduceLT, Int.reduceLE, Nat.reduceAdd, Nat.reduceLT, Nat.reduceLeDiff, Int.reduceToNat, Int.reduceSub, Int.reduceAdd, Int.reduceNeg]
  refine rd_blanks hP hs hL2 ?_
  have hb1 := blanks_le s j (by omega)
  have hL3 : (L2.set 0 (rdB s (Fr.blanks s j)))[0]? = some (rdB s (Fr.blanks s j)) := set0_get hL2
  have hl3 : LstOk (L2.set 0 (rdB s (Fr.blanks s j))) sv2 (l ++ [p]) := hl2.set0
  generalize L2.set 0 (rdB s (Fr.blanks s j)) = L3 at *
  generalize Fr.blanks s j = m at *
  simp only [h0, go_sem, Nat.reduceEqDiff, reduceIte, Int.reduceEq, Int.reduceLT, Int.reduceLE, Nat.reduceAdd, Nat.reduceLT, Nat.reduceLeDiff, Int.reduceToNat, Int.reduceSub, Int.reduceAdd, Int.reduceNeg]
  refine is_callQ (b := 44) hP rfl hs hL3 ?_
  cases hq : Fr.isAt s m 44 with
  | true =>
    have hlt := isAt_lt hq
    have hw : IntKind.i64.wrap ((m : Int) + 1) = ((m + 1 : Nat) : Int) := by rw [wrap64 (by omega) (by omega)]; rfl
    rw [hq, if_pos rfl] at hb
    have hL3' : L3[0]? = some (.cells 2 [[.str s, .int .i64 m]]) := hL3
    simp only [h0, hL3, rdB, hw, go_sem, Nat.reduceEqDiff, reduceIte, Int.reduceEq, Int.reduceLT, Int.reduceLE, Nat.reduceAdd, Nat.reduceLT, Nat.reduceLeDiff, Int.reduceToNat, Int.reduceSub, Int.reduceAdd, Int.reduceNeg]
    have hL4 : (L3.set 0 (.cells 2 [[.str s, .int .i64 ((m + 1 : Nat) : Int)]]))[0]? = some (rdB s (m + 1)) := set0_get hL3
    refine rd_blanks hP hs hL4 ?_
    have hb2 := blanks_le s (m + 1) (by omega)
    simp only [h0, go_sem, Nat.reduceEqDiff, reduceIte, Int.reduceEq, Int.reduceLT, Int.reduceLE, Nat.reduceAdd, Nat.reduceLT, Nat.reduceLeDiff, Int.reduceToNat, Int.reduceSub, Int.reduceAdd, Int.reduceNeg]
    refine hg _ _ sv2 (l ++ [p]) (Fr.blanks s (m + 1)) hb2.2 (by rw [List.length_append]; simp; omega) (by rw [List.length_append]; rfl) ?_ (by simp only [h0, go_sem, Nat.reduceEqDiff, reduceIte, Int.reduceEq, Int.reduceLT, Int.reduceLE, Nat.reduceAdd, Nat.reduceLT, Nat.reduceLeDiff, Int.reduceToNat, Int.reduceSub, Int.reduceAdd, Int.reduceNeg]) (by simp only [go_sem, Nat.reduceEqDiff, reduceIte, Int.reduceEq, Int.reduceLT, Int.reduceLE, Nat.reduceAdd, Nat.reduceLT, Nat.reduceLeDiff, Int.reduceToNat, Int.reduceSub, Int.reduceAdd, Int.reduceNeg]) (set0_get hL4) hl3.set0.set0
    rw [hb, List.length_append, List.length_singleton, show 18 - (l.length + 1) = 17 - l.length by omega]
  | false =>
    rw [hq, if_neg (by decide)] at hb
    simp only [h0, go_sem, Nat.reduceEqDiff, reduceIte, Int.reduceEq, Int.reduceLT, Int.reduceLE, Nat.reduceAdd, Nat.reduceLT, Nat.reduceLeDiff, Int.reduceToNat, Int.reduceSub, Int.reduceAdd, Int.reduceNeg]
    refine tail_run hP s hs (l ++ [p]) m (by omega) sv2 hb (by simp only [h0, go_sem, Nat.reduceEqDiff, reduceIte, Int.reduceEq, Int.reduceLT, Int.reduceLE, Nat.reduceAdd, Nat.reduceLT, Nat.reduceLeDiff, Int.reduceToNat, Int.reduceSub, Int.reduceAdd, Int.reduceNeg]) (by simp only [go_sem, Nat.reduceEqDiff, reduceIte, Int.reduceEq, Int.reduceLT, Int.reduceLE, Nat.reduceAdd, Nat.reduceLT, Nat.reduceLeDiff, Int.reduceToNat, Int.reduceSub, Int.reduceAdd, Int.reduceNeg]) hL3 hl3 fun ρ' L' j h1 h2 h4 h5 => ?_
    exact hk ρ' L' sv2 _ j h1 h2 h4 h5
theorem object_tp (hP : E.P = Tryz.prog) (ht : ∀ w, E.G w → Lib.Utf8Tabs 0 1 w) (s : List UInt8) (hs : s.length ≤ 1000000) : XTP E 51 [.ptr 0 0 0] [rdB s 0]
    (fun r L' => ∃ l j, Fr.body s = .ok l ∧ r = .isl (pRows l) ∧ L' = [rdB s j])
    (fun r L' => ∃ p w j, Fr.body s = .error (p, w) ∧ r = stopV p w ∧ L' = [rdB s j]) := by
  have hpq : ∀ x L', PanO s x L' → Leave 1 x L' (fun r L' => ∃ p w j, Fr.body s = .error (p, w) ∧ r = stopV p w ∧ L' = [rdB s j]) := by
    rintro x L' ⟨p, w, j, h1, rfl, h3⟩
    exact leave_rd h3 rfl ⟨p, w, j, h1, rfl, rfl⟩
  refine xtp_of_fun (F := ⟨Tryz.f51.ntmps, [.tmp 2], y39⟩) (pq := PanO s) hpq (by rw [hP]; rfl) (by rw [hP]; kernel_rfl) (by decide) (Nat.le_of_ble_eq_true rfl) ?_
  refine xfun1 (xrun_mono (K := doneK fun ρ L' => ∃ l sv j, Fr.body s = .ok l ∧ ρ 2 = sv ∧ L'[0]? = some (rdB s j) ∧ LstOk L' sv l) _ (fun e ρ L h => ?_) ?_)
  · have key : (∃ l sv j, Fr.body s = .ok l ∧ ρ 2 = sv ∧ L[0]? = some (rdB s j) ∧ LstOk L sv l) → Leave [rdB s 0].length (ρ 2) L fun r L' => ∃ l j, Fr.body s = .ok l ∧ r = .isl (pRows l) ∧ L' = [rdB s j] := by
      rintro ⟨l, sv, j, h1, h2, h3, h4⟩
      rw [h2]
      refine leave_all (keep := []) (r' := .isl (pRows l)) (L'' := [rdB s j]) .nil (by simp) (h4.conv fun k hk => ?_) ?_ ⟨l, j, h1, rfl, rfl⟩
      · unfold renLeave
        rw [if_neg (by simp; omega)]; rfl
      · have : L.take 1 = [rdB s j] := by
          cases L with
          | nil => simp at h3
          | cons a l => simp at h3; subst h3; rfl
        show mapO _ (L.take 1 ++ []) = _
        rw [this]; rfl
    cases e with
    | normal => exact key h
    | ret => exact key h
    | exit => exact h.elim
    | goto => exact h.elim
  generalize hρ : entry _ = ρ
  have h0 : ρ 0 = .ptr 0 0 0 := by rw [← hρ]; rfl
  clear hρ
  unfold y39
  simp only [h0, go_sem, Nat.reduceEqDiff, reduceIte, Int.reduceEq, Int.reduceLT, Int.reduceLE, Nat.reduceAdd, Nat.reduceLT, Nat.reduceLeDiff, Int.reduceToNat, Int.reduceSub, Int.reduceAdd, Int.reduceNeg]
  refine s_scope2 (a := 1) (b := 0) (by decide) (fun n ρ L => ∃ l sv i, n = 17 - l.length ∧ i ≤ s.length ∧ l.length ≤ 16 ∧ Fr.body s = contF s (Fr.fields s (18 - l.length) l i) ∧ ρ 0 = .ptr 0 0 0 ∧ ρ 3 = sv ∧ L[0]? = some (rdB s i) ∧ LstOk L sv l)
    (fun n ρ L => ∃ l sv i, i ≤ s.length ∧ Fr.body s = endF s l i ∧ ρ 0 = .ptr 0 0 0 ∧ ρ 3 = sv ∧ L[0]? = some (rdB s i) ∧ LstOk L sv l) 20 ?_ ?_ ?_
  · simp only [h0, go_sem, Nat.reduceEqDiff, reduceIte, Int.reduceEq, Int.reduceLT, Int.reduceLE, Nat.reduceAdd, Nat.reduceLT, Nat.reduceLeDiff, Int.reduceToNat, Int.reduceSub, Int.reduceAdd, Int.reduceNeg]
    refine rd_blanks hP hs rfl ?_
    have hb1 := blanks_le s 0 (by omega)
    have hbody := body_eq s
    generalize Fr.blanks s 0 = m at *
    show xops _ _ _ [rdB s m] _
    simp only [h0, go_sem, Nat.reduceEqDiff, reduceIte, Int.reduceEq, Int.reduceLT, Int.reduceLE, Nat.reduceAdd, Nat.reduceLT, Nat.reduceLeDiff, Int.reduceToNat, Int.reduceSub, Int.reduceAdd, Int.reduceNeg]
    refine rd_must (b := 123) hP rfl hs rfl ?_ ?_
    rotate_left
    · intro hm
      exact ⟨m, 2, m, by rw [hbody]; unfold Fr.must; rw [hm]; rfl, rfl, rfl⟩
    intro hm
    have hmlt := isAt_lt hm
    rw [show Fr.must s m 123 = .ok (m + 1) from by unfold Fr.must; rw [hm]; rfl] at hbody
    simp only at hbody
    show xops _ _ _ [rdB s (m + 1)] _
    simp only [h0, go_sem, Nat.reduceEqDiff, reduceIte, Int.reduceEq, Int.reduceLT, Int.reduceLE, Nat.reduceAdd, Nat.reduceLT, Nat.reduceLeDiff, Int.reduceToNat, Int.reduceSub, Int.reduceAdd, Int.reduceNeg]
    refine rd_blanks hP hs rfl ?_
    have hb2 := blanks_le s (m + 1) (by omega)
    generalize Fr.blanks s (m + 1) = q at *
    show xops _ _ _ [rdB s q] _
    simp only [h0, go_sem, Nat.reduceEqDiff, reduceIte, Int.reduceEq, Int.reduceLT, Int.reduceLE, Nat.reduceAdd, Nat.reduceLT, Nat.reduceLeDiff, Int.reduceToNat, Int.reduceSub, Int.reduceAdd, Int.reduceNeg]
    refine is_callQ (b := 125) hP rfl hs rfl ?_
    cases hq : Fr.isAt s q 125 with
    | true =>
      rw [hq, if_pos rfl] at hbody
      simp only [h0, go_sem, Nat.reduceEqDiff, reduceIte, Int.reduceEq, Int.reduceLT, Int.reduceLE, Nat.reduceAdd, Nat.reduceLT, Nat.reduceLeDiff, Int.reduceToNat, Int.reduceSub, Int.reduceAdd, Int.reduceNeg]
      exact ⟨0, by omega, [], .nsl, q, hb2.2, hbody, rfl, rfl, .inl ⟨rfl, rfl⟩⟩
    | false =>
      rw [hq, if_neg (by decide)] at hbody
      simp only [h0, go_sem, Nat.reduceEqDiff, reduceIte, Int.reduceEq, Int.reduceLT, Int.reduceLE, Nat.reduceAdd, Nat.reduceLT, Nat.reduceLeDiff, Int.reduceToNat, Int.reduceSub, Int.reduceAdd, Int.reduceNeg]
      refine fields_run hP ht s hs [] q hb2.2 (by simp) .nsl hbody (by simp only [h0, go_sem, Nat.reduceEqDiff, reduceIte, Int.reduceEq, Int.reduceLT, Int.reduceLE, Nat.reduceAdd, Nat.reduceLT, Nat.reduceLeDiff, Int.reduceToNat, Int.reduceSub, Int.reduceAdd, Int.reduceNeg]) (by simp only [go_sem, Nat.reduceEqDiff, reduceIte, Int.reduceEq, Int.reduceLT, Int.reduceLE, Nat.reduceAdd, Nat.reduceLT, Nat.reduceLeDiff, Int.reduceToNat, Int.reduceSub, Int.reduceAdd, Int.reduceNeg]) rfl (.inl ⟨rfl, rfl⟩) (fun ρ' L' sv' l' j h1 h2 h3 h4 => ?_) (fun ρ' L' sv' l' j h1 h2 h2' h3 h4 h5 h6 h7 => ?_)
      · show ∃ l sv j, _
        exact ⟨l', sv', j, h1, h2, h3, h4⟩
      · rw [s_gotoK2a, if_pos rfl]
        exact ⟨17 - l'.length, by omega, l', sv', j, rfl, h1, h2, h3, h4, h5, h6, h7⟩
  · rintro n ρ L ⟨l, sv, i, rfl, g1, g2, g3, h0, h3, hL, hl⟩
    simp only [h0, go_sem, Nat.reduceEqDiff, reduceIte, Int.reduceEq, Int.reduceLT, Int.reduceLE, Nat.reduceAdd, Nat.reduceLT, Nat.reduceLeDiff, Int.reduceToNat, Int.reduceSub, Int.reduceAdd, Int.reduceNeg]
    refine fields_run hP ht s hs l i g1 g2 sv g3 h0 h3 hL hl (fun ρ' L' sv' l' j h1 h2 h3 h4 => ?_) (fun ρ' L' sv' l' j h1 h2 h2' h3 h4 h5 h6 h7 => ?_)
    · show ∃ l sv j, _
      exact ⟨l', sv', j, h1, h2, h3, h4⟩
    · rw [s_gotoK2a, if_pos rfl]
      exact ⟨17 - l'.length, by omega, l', sv', j, rfl, h1, h2, h3, h4, h5, h6, h7⟩
  · rintro n ρ L ⟨l, sv, i, g1, g3, h0, h3, hL, hl⟩
    simp only [h0, go_sem, Nat.reduceEqDiff, reduceIte, Int.reduceEq, Int.reduceLT, Int.reduceLE, Nat.reduceAdd, Nat.reduceLT, Nat.reduceLeDiff, Int.reduceToNat, Int.reduceSub, Int.reduceAdd, Int.reduceNeg]
    refine tail_run hP s hs l i g1 sv g3 h0 h3 hL hl (fun ρ' L' j h1 h2 h3 h4 => ?_)
    show ∃ l sv j, _
    exact ⟨l, sv, j, h1, h2, h3, h4⟩
end
end
end Go.X.TryzW
end
