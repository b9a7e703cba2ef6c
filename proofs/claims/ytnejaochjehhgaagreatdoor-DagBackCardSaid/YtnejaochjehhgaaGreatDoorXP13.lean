/- Parts of the proof: Xzdigits. -/
import Derived.Test.YtnejaochjehhgaaGreatDoorXP12
import Derived.Lib.ItoaMem
set_option linter.unusedVariables false
set_option linter.unusedSimpArgs false
set_option linter.unusedSectionVars false
section
open Go Go.X Go.Proofs
set_option maxRecDepth 100000
set_option maxHeartbeats 4000000
set_option linter.unusedSimpArgs false
set_option linter.unusedVariables false
namespace Go.X.TryzW
/- "tiller/tillerref08.digits" params { toList := [3] } results { toList := [Go.ResultVar.tmp 2] } -/
def y17 : XC :=
 (.seq
  (.ops [
    ⟨(some 2), (.mov (.c (.str []))), none⟩])
  (.seq
   (.ops [
     ⟨(some 3), (.mov (.c (.str []))), none⟩])
   (.block 0
    (.loop
     (.block 1
      (.seq
       (.ops [
         ⟨(some 4), (.mov (.t 0)), none⟩,
         ⟨(some 5), (.bin .rem (.t 4) (.c (.int .i64 10))), none⟩,
         ⟨(some 6), (.bin .add (.c (.int .i64 48)) (.t 5)), none⟩,
         ⟨(some 7), (.cvInt .u8 (.t 6)), none⟩,
         ⟨(some 8), (.bslice 1 [(.int .u8 0)] 1 [(0, (.t 7))]), none⟩,
         ⟨(some 9), (.ex .bStr [(.t 8)]), none⟩,
         ⟨(some 10), (.mov (.t 3)), none⟩,
         ⟨(some 11), (.bin .add (.t 9) (.t 10)), none⟩,
         ⟨(some 3), (.mov (.t 11)), none⟩])
       (.seq
        (.ops [
          ⟨(some 12), (.mov (.t 0)), none⟩,
          ⟨(some 13), (.bin .quo (.t 12) (.c (.int .i64 10))), none⟩,
          ⟨(some 0), (.mov (.t 13)), none⟩])
        (.seq
         (.ops [
           ⟨(some 14), (.mov (.t 0)), none⟩,
           ⟨(some 15), (.bin .eql (.t 14) (.c (.int .i64 0))), none⟩])
         (.cond (.t 15)
          (.seq
           (.ops [
             ⟨(some 16), (.mov (.t 3)), none⟩,
             ⟨(some 2), (.mov (.t 16)), none⟩])
           .ret)
          .skip)))))))))

section
variable {E : Env}
theorem byteOf_small (u : Nat) (h : u < 10) : byteOf [.int .u8 (IntKind.u8.wrap (IntKind.i64.wrap (48 + ((u : Nat) : Int))))] = some (UInt8.ofNat (48 + u)) := by
  have : ∀ v : Fin 10, byteOf [.int .u8 (IntKind.u8.wrap (IntKind.i64.wrap (48 + ((v.val : Nat) : Int))))] = some (UInt8.ofNat (48 + v.val)) := by decide +kernel
  exact this ⟨u, h⟩
theorem mod10 (u : Nat) : ((u : Nat) : Int).tmod 10 = ((u % 10 : Nat) : Int) := by
  rw [Int.tmod_eq_emod_of_nonneg (by omega)]; omega
theorem div10 (u : Nat) (h : u ≤ 9223372036854775807) : IntKind.i64.wrap (((u : Nat) : Int).tdiv 10) = ((u / 10 : Nat) : Int) := by
  rw [Int.tdiv_eq_ediv_of_nonneg (by omega), wrap64 (by omega) (by omega)]; omega
theorem digits_pure (hP : E.P = Tryz.prog) (N : Nat) (hN : N ≤ 1000000000000) : XPure E 17 [.int .i64 (N : Int)] (.str (Lib.decDigits N)) := by
  refine xpure1 (n := Tryz.f17.ntmps) (c := y17) (t := 2) (by rw [hP]; rfl) (by rw [hP]; kernel_rfl) (by decide) (Nat.le_of_ble_eq_true rfl) ?_
  generalize hρ : entry _ = ρ
  have h0 : ρ 0 = .int .i64 (N : Int) := by rw [← hρ]; rfl
  clear hρ
  unfold y17
  simp only [h0, go_sem, Nat.reduceEqDiff, reduceIte, Int.reduceEq, Int.reduceLT, Int.reduceLE, Nat.reduceAdd, Nat.reduceLT, Nat.reduceLeDiff, Int.reduceToNat, Int.reduceSub, Int.reduceAdd, Int.reduceNeg]
  refine s_loop (fun n' ρ L => ∃ (u : Nat) (suf : List UInt8), u ≤ N ∧ n' = u ∧ ρ 0 = .int .i64 (u : Nat) ∧ ρ 3 = .str suf ∧ Lib.decDigits N = Lib.decDigits u ++ suf ∧ suf.length + u ≤ N)
    ⟨N, [], Nat.le_refl _, rfl, by simp only [h0, go_sem, Nat.reduceEqDiff, reduceIte, Int.reduceEq, Int.reduceLT, Int.reduceLE, Nat.reduceAdd, Nat.reduceLT, Nat.reduceLeDiff, Int.reduceToNat, Int.reduceSub, Int.reduceAdd, Int.reduceNeg], by simp only [go_sem, Nat.reduceEqDiff, reduceIte, Int.reduceEq, Int.reduceLT, Int.reduceLE, Nat.reduceAdd, Nat.reduceLT, Nat.reduceLeDiff, Int.reduceToNat, Int.reduceSub, Int.reduceAdd, Int.reduceNeg]; try rfl, by simp, by simp⟩ ?_
  clear h0 ρ
  rintro n' ρ L ⟨u, suf, hu, rfl, h0, h3, hd, hl⟩
  simp only [h0, h3, go_sem, Nat.reduceEqDiff, reduceIte, Int.reduceEq, Int.reduceLT, Int.reduceLE, Nat.reduceAdd, Nat.reduceLT, Nat.reduceLeDiff, Int.reduceToNat, Int.reduceSub, Int.reduceAdd, Int.reduceNeg]
  try rw [mod10]
  simp only [h0, h3, go_sem, Nat.reduceEqDiff, reduceIte, Int.reduceEq, Int.reduceLT, Int.reduceLE, Nat.reduceAdd, Nat.reduceLT, Nat.reduceLeDiff, Int.reduceToNat, Int.reduceSub, Int.reduceAdd, Int.reduceNeg]
  refine ⟨by decide, ?_⟩
  have hr : rowsSl (L ++ [Blk.cells 1 [[IV.int .u8 (IntKind.u8.wrap (IntKind.i64.wrap (48 + ((n' % 10 : Nat) : Int))))]]]) (IV.sl L.length 0 1 1) = some [[IV.int .u8 (IntKind.u8.wrap (IntKind.i64.wrap (48 + ((n' % 10 : Nat) : Int))))]] := by
    simp [rowsSl, rowsOf]
  have hb := byteOf_small (n' % 10) (Nat.mod_lt _ (by omega))
  rw [hr, Option.bind_some]
  simp only [mapO, hb]
  simp only [h0, h3, go_sem, Nat.reduceEqDiff, reduceIte, Int.reduceEq, Int.reduceLT, Int.reduceLE, Nat.reduceAdd, Nat.reduceLT, Nat.reduceLeDiff, Int.reduceToNat, Int.reduceSub, Int.reduceAdd, Int.reduceNeg]
  have hlen : suf.length + 1 ≤ 9223372036854775807 ∨ n' = 0 := by omega
  have h10 : Lib.decDigits n' ++ suf = (if n' < 10 then [] else Lib.decDigits (n' / 10)) ++ (UInt8.ofNat (48 + n' % 10) :: suf) := by
    rw [Lib.decDigits]
    by_cases hc : n' < 10
    · rw [dif_pos hc, if_pos hc, Nat.mod_eq_of_lt hc]; rfl
    · rw [dif_neg hc, if_neg hc]; simp
  refine ⟨by omega, by decide, ?_⟩
  rw [div10 n' (by omega)]
  simp only [h0, h3, go_sem, Nat.reduceEqDiff, reduceIte, Int.reduceEq, Int.reduceLT, Int.reduceLE, Nat.reduceAdd, Nat.reduceLT, Nat.reduceLeDiff, Int.reduceToNat, Int.reduceSub, Int.reduceAdd, Int.reduceNeg]
  refine s_cond (b := decide (((n' / 10 : Nat) : Int) = 0)) (by simp only [go_sem, Nat.reduceEqDiff, reduceIte, Int.reduceEq, Int.reduceLT, Int.reduceLE, Nat.reduceAdd, Nat.reduceLT, Nat.reduceLeDiff, Int.reduceToNat, Int.reduceSub, Int.reduceAdd, Int.reduceNeg]; try rfl) ?_ ?_ <;> intro hc <;> simp only [go_sem, Nat.reduceEqDiff, reduceIte, Int.reduceEq, Int.reduceLT, Int.reduceLE, Nat.reduceAdd, Nat.reduceLT, Nat.reduceLeDiff, Int.reduceToNat, Int.reduceSub, Int.reduceAdd, Int.reduceNeg]
  · rw [decide_eq_true_eq] at hc
    rw [if_pos (by omega)] at h10
    show some (IV.str _) = _
    rw [hd, h10]; rfl
  · rw [decide_eq_false_iff_not] at hc
    rw [if_neg (by omega)] at h10
    refine ⟨n' / 10, by omega, n' / 10, UInt8.ofNat (48 + n' % 10) :: suf, by omega, rfl, rfl, rfl, by rw [hd, h10], by simp; omega⟩
end
end Go.X.TryzW
end
