/- Parts of the proof: Xgfdigits, Xgfref2. -/
import Derived.Test.YtepkimlnaoaboabGreatDoorXP26
import Derived.Lib.ItoaMem
set_option linter.unusedVariables false
set_option linter.unusedSimpArgs false
set_option linter.unusedSectionVars false
section
open Go Go.X Go.Proofs
set_option maxRecDepth 100000
set_option maxHeartbeats 4000000
set_option linter.unusedSimpArgs false
set_option linter.unusedVariables false
namespace Go.X.TryzW
/- "tiller/tillerref13.Digits" params { toList := [3] } results { toList := [Go.ResultVar.tmp 2] } -/
def y16 : XC :=
 (.seq
  (.ops [
    ⟨(some 2), (.mov (.c (.str []))), none⟩])
  (.seq
   (.ops [
     ⟨(some 3), (.mov (.c (.str []))), none⟩])
   (.seq
    (.ops [
      ⟨(some 4), (.mov (.c (.int .i64 1))), none⟩])
    (.seq
     (.seq
      (.ops [
        ⟨(some 5), (.mov (.t 0)), none⟩,
        ⟨(some 6), (.bin .lss (.t 5) (.c (.int .i64 0))), none⟩])
      (.cond (.t 6)
       (.ops [
         ⟨(some 4), (.mov (.c (.int .i64 (-1)))), none⟩])
       .skip))
     (.seq
      (.block 0
       (.loop
        (.block 1
         (.seq
          (.ops [
            ⟨(some 7), (.mov (.t 4)), none⟩,
            ⟨(some 8), (.mov (.t 0)), none⟩,
            ⟨(some 9), (.bin .rem (.t 8) (.c (.int .i64 10))), none⟩,
            ⟨(some 10), (.bin .mul (.t 7) (.t 9)), none⟩,
            ⟨(some 11), (.bin .add (.c (.int .i64 48)) (.t 10)), none⟩,
            ⟨(some 12), (.cvInt .u8 (.t 11)), none⟩,
            ⟨(some 13), (.bslice 1 [(.int .u8 0)] 1 [(0, (.t 12))]), none⟩,
            ⟨(some 14), (.ex .bStr [(.t 13)]), none⟩,
            ⟨(some 15), (.mov (.t 3)), none⟩,
            ⟨(some 16), (.bin .add (.t 14) (.t 15)), none⟩,
            ⟨(some 3), (.mov (.t 16)), none⟩])
          (.seq
           (.ops [
             ⟨(some 17), (.mov (.t 0)), none⟩,
             ⟨(some 18), (.bin .quo (.t 17) (.c (.int .i64 10))), none⟩,
             ⟨(some 0), (.mov (.t 18)), none⟩])
           (.seq
            (.ops [
              ⟨(some 19), (.mov (.t 0)), none⟩,
              ⟨(some 20), (.bin .eql (.t 19) (.c (.int .i64 0))), none⟩])
            (.cond (.t 20)
             (.exit 0)
             .skip)))))))
      (.seq
       (.seq
        (.ops [
          ⟨(some 21), (.mov (.t 4)), none⟩,
          ⟨(some 22), (.bin .lss (.t 21) (.c (.int .i64 0))), none⟩])
        (.cond (.t 22)
         (.seq
          (.ops [
            ⟨(some 23), (.mov (.t 3)), none⟩,
            ⟨(some 24), (.bin .add (.c (.str [45])) (.t 23)), none⟩,
            ⟨(some 2), (.mov (.t 24)), none⟩])
          .ret)
         .skip))
       (.seq
        (.ops [
          ⟨(some 25), (.mov (.t 3)), none⟩,
          ⟨(some 2), (.mov (.t 25)), none⟩])
        .ret)))))))

section
variable {E : Env}
theorem byteOf_small (u : Nat) (h : u < 10) : byteOf [.int .u8 (IntKind.u8.wrap (IntKind.i64.wrap (48 + ((u : Nat) : Int))))] = some (UInt8.ofNat (48 + u)) := by
  have : ∀ v : Fin 10, byteOf [.int .u8 (IntKind.u8.wrap (IntKind.i64.wrap (48 + ((v.val : Nat) : Int))))] = some (UInt8.ofNat (48 + v.val)) := by decide +kernel
  exact this ⟨u, h⟩
theorem dec_len20 {N : Nat} (h : N ≤ 9223372036854775808) : (Lib.decDigits N).length ≤ 20 := by
  have : ∀ (k : Nat) (N : Nat), N < 10 ^ (k + 1) → (Lib.decDigits N).length ≤ k + 1 := by
    intro k
    induction k with
    | zero => intro N hN; rw [Lib.decDigits, dif_pos (by simpa using hN)]; simp
    | succ k ih =>
      intro N hN
      rw [Lib.decDigits]
      split
      · simp
      · rw [List.length_append]
        have := ih (N / 10) (by rw [Nat.div_lt_iff_lt_mul (by omega)]; rw [Nat.pow_succ] at hN; exact hN)
        simp only [List.length_cons, List.length_nil]; omega
  exact this 19 N (by omega)
theorem digits_pure (hP : E.P = Tryz.prog) (N : Nat) (hN : N ≤ 9223372036854775807) (h1 : 0 ≤ N) : XPure E 26 [.int .i64 ((N : Nat) : Int)] (.str (Lib.decDigits N)) := by
  refine xpure1 (n := Tryz.f26.ntmps) (c := y16) (t := 2) (by rw [hP]; rfl) (by rw [hP]; kernel_rfl) (by decide) (Nat.le_of_ble_eq_true rfl) ?_
  generalize hρ : entry _ = ρ
  have h0 : ρ 0 = .int .i64 ((N : Nat) : Int) := by rw [← hρ]; rfl
  clear hρ
  unfold y16
  have f0 : (((N : Nat) : Int) < 0) = False := eq_false (by omega)
  simp only [h0, f0, go_sem, Nat.reduceEqDiff, reduceIte, Int.reduceEq, Int.reduceLT, Int.reduceLE, Nat.reduceAdd, Nat.reduceLT, Nat.reduceLeDiff, Int.reduceToNat, Int.reduceSub, Int.reduceAdd, Int.reduceNeg]
  refine s_loop (fun n' ρ L => ∃ (u : Nat) (suf : List UInt8), u ≤ N ∧ n' = u ∧ ρ 0 = .int .i64 ((u : Nat) : Int) ∧ ρ 3 = .str suf ∧ ρ 4 = .int .i64 1 ∧ Lib.decDigits N = Lib.decDigits u ++ suf ∧ suf.length ≤ 20)
    ⟨N, [], Nat.le_refl _, rfl, by simp only [h0, go_sem, Nat.reduceEqDiff, reduceIte, Int.reduceEq, Int.reduceLT, Int.reduceLE, Nat.reduceAdd, Nat.reduceLT, Nat.reduceLeDiff, Int.reduceToNat, Int.reduceSub, Int.reduceAdd, Int.reduceNeg], by simp only [go_sem, Nat.reduceEqDiff, reduceIte, Int.reduceEq, Int.reduceLT, Int.reduceLE, Nat.reduceAdd, Nat.reduceLT, Nat.reduceLeDiff, Int.reduceToNat, Int.reduceSub, Int.reduceAdd, Int.reduceNeg]; try rfl, by simp only [go_sem, Nat.reduceEqDiff, reduceIte, Int.reduceEq, Int.reduceLT, Int.reduceLE, Nat.reduceAdd, Nat.reduceLT, Nat.reduceLeDiff, Int.reduceToNat, Int.reduceSub, Int.reduceAdd, Int.reduceNeg]; try rfl, by simp, by simp⟩ ?_
  have h20 := dec_len20 (N := N) (by omega)
  clear h0 f0 ρ
  rintro n' ρ L ⟨u, suf, hu, rfl, h0, h3, h4, hd, hl⟩
  have hmod : ((n' : Nat) : Int).tmod 10 = ((n' % 10 : Nat) : Int) := by
    rw [Int.tmod_eq_emod_of_nonneg (by omega)]; omega
  have hdiv : IntKind.i64.wrap (((n' : Nat) : Int).tdiv 10) = ((n' / 10 : Nat) : Int) := by
    rw [Int.tdiv_eq_ediv_of_nonneg (by omega), wrap64 (by omega) (by omega)]; omega
  have hmul : IntKind.i64.wrap (1 * ((n' % 10 : Nat) : Int)) = ((n' % 10 : Nat) : Int) := by rw [wrap64 (by omega) (by omega)]; omega
  simp only [h0, h3, h4, hmod, hmul, go_sem, Nat.reduceEqDiff, reduceIte, Int.reduceEq, Int.reduceLT, Int.reduceLE, Nat.reduceAdd, Nat.reduceLT, Nat.reduceLeDiff, Int.reduceToNat, Int.reduceSub, Int.reduceAdd, Int.reduceNeg]
  refine ⟨by decide, ?_⟩
  have hr : rowsSl (L ++ [Blk.cells 1 [[IV.int .u8 (IntKind.u8.wrap (IntKind.i64.wrap (48 + ((n' % 10 : Nat) : Int))))]]]) (IV.sl L.length 0 1 1) = some [[IV.int .u8 (IntKind.u8.wrap (IntKind.i64.wrap (48 + ((n' % 10 : Nat) : Int))))]] := by
    simp [rowsSl, rowsOf]
  have hb := byteOf_small (n' % 10) (Nat.mod_lt _ (by omega))
  rw [hr, Option.bind_some]
  simp only [mapO, hb]
  simp only [h0, h3, h4, hmod, hmul, go_sem, Nat.reduceEqDiff, reduceIte, Int.reduceEq, Int.reduceLT, Int.reduceLE, Nat.reduceAdd, Nat.reduceLT, Nat.reduceLeDiff, Int.reduceToNat, Int.reduceSub, Int.reduceAdd, Int.reduceNeg]
  have h10 : Lib.decDigits n' ++ suf = (if n' < 10 then [] else Lib.decDigits (n' / 10)) ++ (UInt8.ofNat (48 + n' % 10) :: suf) := by
    rw [Lib.decDigits]
    by_cases hc : n' < 10
    · rw [dif_pos hc, if_pos hc, Nat.mod_eq_of_lt hc]; rfl
    · rw [dif_neg hc, if_neg hc]; simp
  have hnew : (UInt8.ofNat (48 + n' % 10) :: suf).length ≤ 20 := by
    have := congrArg List.length (hd.trans h10)
    rw [List.length_append] at this
    omega
  refine ⟨by omega, by decide, ?_⟩
  rw [hdiv]
  simp only [h0, h3, h4, hmod, hmul, go_sem, Nat.reduceEqDiff, reduceIte, Int.reduceEq, Int.reduceLT, Int.reduceLE, Nat.reduceAdd, Nat.reduceLT, Nat.reduceLeDiff, Int.reduceToNat, Int.reduceSub, Int.reduceAdd, Int.reduceNeg]
  by_cases hc : n' / 10 = 0
  · have e0 : (((n' / 10 : Nat) : Int) = 0) = True := eq_true (by omega)
    simp only [e0, h3, h4, go_sem, Nat.reduceEqDiff, reduceIte, Int.reduceEq, Int.reduceLT, Int.reduceLE, Nat.reduceAdd, Nat.reduceLT, Nat.reduceLeDiff, Int.reduceToNat, Int.reduceSub, Int.reduceAdd, Int.reduceNeg]
    rw [if_pos (by omega)] at h10
    skip
    skip
    rw [hd, h10]; rfl
  · have e0 : (((n' / 10 : Nat) : Int) = 0) = False := eq_false (by omega)
    simp only [e0, go_sem, Nat.reduceEqDiff, reduceIte, Int.reduceEq, Int.reduceLT, Int.reduceLE, Nat.reduceAdd, Nat.reduceLT, Nat.reduceLeDiff, Int.reduceToNat, Int.reduceSub, Int.reduceAdd, Int.reduceNeg]
    rw [if_neg (by omega)] at h10
    refine ⟨n' / 10, by omega, n' / 10, UInt8.ofNat (48 + n' % 10) :: suf, by omega, rfl, rfl, rfl, h4, by rw [hd, h10], hnew⟩
theorem digits_neg (hP : E.P = Tryz.prog) (N : Nat) (hN : N ≤ 9223372036854775808) (h1 : 1 ≤ N) : XPure E 26 [.int .i64 (-((N : Nat) : Int))] (.str (45 :: Lib.decDigits N)) := by
  refine xpure1 (n := Tryz.f26.ntmps) (c := y16) (t := 2) (by rw [hP]; rfl) (by rw [hP]; kernel_rfl) (by decide) (Nat.le_of_ble_eq_true rfl) ?_
  generalize hρ : entry _ = ρ
  have h0 : ρ 0 = .int .i64 (-((N : Nat) : Int)) := by rw [← hρ]; rfl
  clear hρ
  unfold y16
  have f0 : (-((N : Nat) : Int) < 0) = True := eq_true (by omega)
  simp only [h0, f0, go_sem, Nat.reduceEqDiff, reduceIte, Int.reduceEq, Int.reduceLT, Int.reduceLE, Nat.reduceAdd, Nat.reduceLT, Nat.reduceLeDiff, Int.reduceToNat, Int.reduceSub, Int.reduceAdd, Int.reduceNeg]
  refine s_loop (fun n' ρ L => ∃ (u : Nat) (suf : List UInt8), u ≤ N ∧ n' = u ∧ ρ 0 = .int .i64 (-((u : Nat) : Int)) ∧ ρ 3 = .str suf ∧ ρ 4 = .int .i64 (-1) ∧ Lib.decDigits N = Lib.decDigits u ++ suf ∧ suf.length ≤ 20)
    ⟨N, [], Nat.le_refl _, rfl, by simp only [h0, go_sem, Nat.reduceEqDiff, reduceIte, Int.reduceEq, Int.reduceLT, Int.reduceLE, Nat.reduceAdd, Nat.reduceLT, Nat.reduceLeDiff, Int.reduceToNat, Int.reduceSub, Int.reduceAdd, Int.reduceNeg], by simp only [go_sem, Nat.reduceEqDiff, reduceIte, Int.reduceEq, Int.reduceLT, Int.reduceLE, Nat.reduceAdd, Nat.reduceLT, Nat.reduceLeDiff, Int.reduceToNat, Int.reduceSub, Int.reduceAdd, Int.reduceNeg]; try rfl, by simp only [go_sem, Nat.reduceEqDiff, reduceIte, Int.reduceEq, Int.reduceLT, Int.reduceLE, Nat.reduceAdd, Nat.reduceLT, Nat.reduceLeDiff, Int.reduceToNat, Int.reduceSub, Int.reduceAdd, Int.reduceNeg]; try rfl, by simp, by simp⟩ ?_
  have h20 := dec_len20 (N := N) (by omega)
  clear h0 f0 ρ
  rintro n' ρ L ⟨u, suf, hu, rfl, h0, h3, h4, hd, hl⟩
  have hmod : (-((n' : Nat) : Int)).tmod 10 = (-((n' % 10 : Nat) : Int)) := by
    rw [Int.neg_tmod, Int.tmod_eq_emod_of_nonneg (by omega)]; omega
  have hdiv : IntKind.i64.wrap ((-((n' : Nat) : Int)).tdiv 10) = (-((n' / 10 : Nat) : Int)) := by
    rw [Int.neg_tdiv, Int.tdiv_eq_ediv_of_nonneg (by omega), wrap64 (by omega) (by omega)]; omega
  have hmul : IntKind.i64.wrap ((-1) * (-((n' % 10 : Nat) : Int))) = ((n' % 10 : Nat) : Int) := by rw [wrap64 (by omega) (by omega)]; omega
  simp only [h0, h3, h4, hmod, hmul, go_sem, Nat.reduceEqDiff, reduceIte, Int.reduceEq, Int.reduceLT, Int.reduceLE, Nat.reduceAdd, Nat.reduceLT, Nat.reduceLeDiff, Int.reduceToNat, Int.reduceSub, Int.reduceAdd, Int.reduceNeg]
  refine ⟨by decide, ?_⟩
  have hr : rowsSl (L ++ [Blk.cells 1 [[IV.int .u8 (IntKind.u8.wrap (IntKind.i64.wrap (48 + ((n' % 10 : Nat) : Int))))]]]) (IV.sl L.length 0 1 1) = some [[IV.int .u8 (IntKind.u8.wrap (IntKind.i64.wrap (48 + ((n' % 10 : Nat) : Int))))]] := by
    simp [rowsSl, rowsOf]
  have hb := byteOf_small (n' % 10) (Nat.mod_lt _ (by omega))
  rw [hr, Option.bind_some]
  simp only [mapO, hb]
  simp only [h0, h3, h4, hmod, hmul, go_sem, Nat.reduceEqDiff, reduceIte, Int.reduceEq, Int.reduceLT, Int.reduceLE, Nat.reduceAdd, Nat.reduceLT, Nat.reduceLeDiff, Int.reduceToNat, Int.reduceSub, Int.reduceAdd, Int.reduceNeg]
  have h10 : Lib.decDigits n' ++ suf = (if n' < 10 then [] else Lib.decDigits (n' / 10)) ++ (UInt8.ofNat (48 + n' % 10) :: suf) := by
    rw [Lib.decDigits]
    by_cases hc : n' < 10
    · rw [dif_pos hc, if_pos hc, Nat.mod_eq_of_lt hc]; rfl
    · rw [dif_neg hc, if_neg hc]; simp
  have hnew : (UInt8.ofNat (48 + n' % 10) :: suf).length ≤ 20 := by
    have := congrArg List.length (hd.trans h10)
    rw [List.length_append] at this
    omega
  refine ⟨by omega, by decide, ?_⟩
  rw [hdiv]
  simp only [h0, h3, h4, hmod, hmul, go_sem, Nat.reduceEqDiff, reduceIte, Int.reduceEq, Int.reduceLT, Int.reduceLE, Nat.reduceAdd, Nat.reduceLT, Nat.reduceLeDiff, Int.reduceToNat, Int.reduceSub, Int.reduceAdd, Int.reduceNeg]
  by_cases hc : n' / 10 = 0
  · have e0 : ((-((n' / 10 : Nat) : Int)) = 0) = True := eq_true (by omega)
    simp only [e0, h3, h4, go_sem, Nat.reduceEqDiff, reduceIte, Int.reduceEq, Int.reduceLT, Int.reduceLE, Nat.reduceAdd, Nat.reduceLT, Nat.reduceLeDiff, Int.reduceToNat, Int.reduceSub, Int.reduceAdd, Int.reduceNeg]
    rw [if_pos (by omega)] at h10
    have hll : (UInt8.ofNat (48 + n' % 10) :: suf).length + 1 ≤ 9223372036854775807 := by simp only [List.length_cons]; omega
    first | refine ⟨by omega, ?_⟩ | skip
    rw [hd, h10]; rfl
  · have e0 : ((-((n' / 10 : Nat) : Int)) = 0) = False := eq_false (by omega)
    simp only [e0, go_sem, Nat.reduceEqDiff, reduceIte, Int.reduceEq, Int.reduceLT, Int.reduceLE, Nat.reduceAdd, Nat.reduceLT, Nat.reduceLeDiff, Int.reduceToNat, Int.reduceSub, Int.reduceAdd, Int.reduceNeg]
    rw [if_neg (by omega)] at h10
    refine ⟨n' / 10, by omega, n' / 10, UInt8.ofNat (48 + n' % 10) :: suf, by omega, rfl, rfl, rfl, h4, by rw [hd, h10], hnew⟩
end
end Go.X.TryzW
end
section
open Go Go.X Go.Proofs
set_option maxRecDepth 100000
set_option maxHeartbeats 4000000
set_option linter.unusedSimpArgs false
set_option linter.unusedVariables false
namespace Go.X.TryzW
/- "tiller/tillerref13.split" params { toList := [9, 9] } results { toList := [Go.ResultVar.tmp 4] } -/
/- "tiller/tillerref13.lower" params { toList := [9] } results { toList := [Go.ResultVar.tmp 2] } -/
/- "tiller/tillerref13.length" params { toList := [9] } results { toList := [Go.ResultVar.tmp 2, Go.ResultVar.tmp 3] } -/
/- "tiller/tillerref13.trim" params { toList := [9] } results { toList := [Go.ResultVar.tmp 2] } -/
section
variable {E : Env} {L : List Blk} {K : IV → List Blk → Prop}
def LstS (L : List Blk) (sv : IV) (l : List (List UInt8)) : Prop := (l = [] ∧ sv = .nsl) ∨ ∃ k, sv = .sl k 0 l.length l.length ∧ L[k]? = some (.cells 1 (sRows l))
theorem conv_sRows {n : Nat} {m : Ren} (l : List (List UInt8)) : mapO (mapO (conv L (n + 1) m)) (sRows l) = some (sRows l) := by
  refine mapO_same fun row hr => ?_
  unfold sRows at hr
  obtain ⟨b, _, rfl⟩ := List.mem_map.1 hr
  rfl
theorem LstS.conv {sv : IV} {l : List (List UInt8)} (h : LstS L sv l) : conv L fuel renFreeze sv = some (.isl (sRows l)) := by
  rcases h with ⟨rfl, rfl⟩ | ⟨k, rfl, h3⟩
  · rfl
  · show Go.X.conv L 12 renFreeze _ = _
    simp only [Go.X.conv, renFreeze, h3]
    rw [if_pos (by rw [sRows_len]; omega), List.drop_zero, List.take_of_length_le (by rw [sRows_len]; exact Nat.le_refl _), conv_sRows]
    rfl
theorem LstS.app {sv : IV} {l : List (List UInt8)} {b : Blk} (h : LstS L sv l) : LstS (L ++ [b]) sv l := by
  rcases h with ⟨rfl, rfl⟩ | ⟨k, rfl, h3⟩
  · exact .inl ⟨rfl, rfl⟩
  · exact .inr ⟨k, rfl, by rw [List.getElem?_append_left (lt_of_get h3)]; exact h3⟩
end
end Go.X.TryzW
end
