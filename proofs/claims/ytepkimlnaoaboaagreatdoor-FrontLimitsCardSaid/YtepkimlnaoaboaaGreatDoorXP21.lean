/- Parts of the proof: XfEscP, Xfescapes. -/
import Derived.Test.YtepkimlnaoaboaaGreatDoorXP20
import Derived.KernelRfl
import Derived.Stop.FmtQuoteTie
set_option linter.unusedVariables false
set_option linter.unusedSimpArgs false
set_option linter.unusedSectionVars false
section
/- FrontEscapes, the plain law: a body with one escape of four digits is read as the character of that number, or refused at its backslash. -/
namespace Go.X.TryzW
open Go Go.X
set_option maxRecDepth 100000
structure HexOk (h : UInt8) (d : Nat) : Prop where
  p : Fr.place Fr.hexD (h ||| 32) = some d
  l : ¬ h < 48
end Go.X.TryzW
end
section
open Go Go.X Go.Proofs
set_option maxRecDepth 100000
set_option maxHeartbeats 4000000
set_option linter.unusedSimpArgs false
set_option linter.unusedVariables false
namespace Go.X.TryzW
/- "tiller/tillerkeep.Within" params { toList := [3, 3] } results { toList := [Go.ResultVar.tmp 4] } -/
def y15 : XC :=
 (.seq
  (.ops [
    ⟨(some 4), (.mov (.c (.int .i64 0))), none⟩])
  (.seq
   (.ops [
     ⟨(some 5), (.mov (.t 0)), none⟩,
     ⟨(some 6), (.mov (.t 1)), none⟩,
     ⟨(some 7), (.bin .rem (.t 5) (.t 6)), none⟩,
     ⟨(some 0), (.mov (.t 7)), none⟩])
   (.seq
    (.seq
     (.ops [
       ⟨(some 8), (.mov (.t 0)), none⟩,
       ⟨(some 9), (.bin .lss (.t 8) (.c (.int .i64 0))), none⟩])
     (.cond (.t 9)
      (.ops [
        ⟨(some 10), (.mov (.t 0)), none⟩,
        ⟨(some 11), (.mov (.t 1)), none⟩,
        ⟨(some 12), (.bin .add (.t 10) (.t 11)), none⟩,
        ⟨(some 0), (.mov (.t 12)), none⟩])
      .skip))
    (.seq
     (.ops [
       ⟨(some 13), (.mov (.t 0)), none⟩,
       ⟨(some 4), (.mov (.t 13)), none⟩])
     .ret))))

/- "tiller/tillerlaw13.FrontEscapes" params { toList := [37, 4] } results { toList := [Go.ResultVar.tmp 4] } -/
section
variable {E : Env} {L : List Blk} {K : IV → List Blk → Prop}
def withinF (a m : Int) : Int := if a.tmod m < 0 then a.tmod m + m else a.tmod m
theorem withinF_bnd (a m : Int) (hm : 0 < m) : 0 ≤ withinF a m ∧ withinF a m < m := by
  unfold withinF
  have h1 := Int.tmod_lt_of_pos a hm
  have h2 : -m < a.tmod m := Int.lt_tmod_of_pos a hm
  split <;> omega
theorem within_pure (hP : E.P = Tryz.prog) (a m : Int) (hm : 0 < m) (hm2 : m ≤ 1000000000) : XPure E 15 [.int .i64 a, .int .i64 m] (.int .i64 (withinF a m)) := by
  refine xpure1 (n := Tryz.f15.ntmps) (c := y15) (t := 4) (by rw [hP]; rfl) (by rw [hP]; kernel_rfl) (by decide) (Nat.le_of_ble_eq_true rfl) ?_
  generalize hρ : entry _ = ρ
  have h0 : ρ 0 = .int .i64 a := by rw [← hρ]; rfl
  have h1 : ρ 1 = .int .i64 m := by rw [← hρ]; rfl
  clear hρ
  unfold y15
  have h1' := Int.tmod_lt_of_pos a hm
  have h2' : -m < a.tmod m := Int.lt_tmod_of_pos a hm
  have hne : (m ≠ 0) = True := eq_true (by omega)
  unfold withinF
  by_cases hc : a.tmod m < 0
  · have f1 : (a.tmod m < 0) = True := eq_true hc
    have hw : IntKind.i64.wrap (a.tmod m + m) = a.tmod m + m := wrap64 (by omega) (by omega)
    rw [if_pos hc]
    simp only [h0, h1, hne, f1, hw, go_sem, Nat.reduceEqDiff, reduceIte, Int.reduceEq, Int.reduceLT, Int.reduceLE, Nat.reduceAdd, Nat.reduceLT, Nat.reduceLeDiff, Int.reduceToNat, Int.reduceSub, Int.reduceAdd, Int.reduceNeg]
    first | rfl | exact ⟨by omega, rfl⟩
  · have f1 : (a.tmod m < 0) = False := eq_false hc
    rw [if_neg hc]
    simp only [h0, h1, hne, f1, go_sem, Nat.reduceEqDiff, reduceIte, Int.reduceEq, Int.reduceLT, Int.reduceLE, Nat.reduceAdd, Nat.reduceLT, Nat.reduceLeDiff, Int.reduceToNat, Int.reduceSub, Int.reduceAdd, Int.reduceNeg]
    first | rfl | exact ⟨by omega, rfl⟩
@[go_sem high] theorem o_and15 {a : Nat} {KV : IV → List Blk → Prop} : xop E (.bin .and (.c (.int .i64 (a : Int))) (.c (.int .i64 15))) cev L KV = KV (.int .i64 ((a % 16 : Nat) : Int)) L := by
  rw [o_and]
  have h1 : (BitVec.ofInt 64 (a : Int) &&& BitVec.ofInt 64 15).toNat = a % 16 := by
    rw [BitVec.toNat_and]
    have e2 : (BitVec.ofInt 64 (a : Int)).toNat = a % 18446744073709551616 := by simp only [BitVec.toNat_ofInt]; omega
    have e3 : (BitVec.ofInt 64 (15 : Int)).toNat = 2 ^ 4 - 1 := rfl
    rw [e2, e3, Nat.and_two_pow_sub_one_eq_mod]; omega
  have h2 : IntKind.i64.wrap ((BitVec.ofInt 64 (a : Int) &&& BitVec.ofInt 64 15).toNat : Int) = ((a % 16 : Nat) : Int) := by
    rw [h1, wrap64 (by omega) (by omega)]
  exact congrArg (fun n : Int => KV (.int .i64 n) L) h2
end
end Go.X.TryzW
end
