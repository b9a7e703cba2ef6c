/- Parts of the proof: XDag20, XDag21, XDag22. -/
import Derived.Test.YtnejaochjehhgaaDoorXP11
set_option linter.unusedVariables false
set_option linter.unusedSimpArgs false
set_option linter.unusedSectionVars false
section
open Go Go.X Go.Proofs
set_option maxRecDepth 100000
set_option maxHeartbeats 4000000
set_option linter.unusedSimpArgs false
set_option linter.unusedVariables false
namespace Go.X.TrydW
/- "tiller/tillerkeep.Within" params { toList := [3, 3] } results { toList := [Go.ResultVar.tmp 4] } -/
def x14 : XC :=
 (.seq
  (.ops [
    ⟨(some 4), (.mov (.c (.int .i64 0))), none⟩])
  (.seq
   (.ops [
     ⟨(some 5), (.mov (.t 0)), none⟩,
     ⟨(some 6), (.mov (.t 1)), none⟩,
     ⟨(some 7), (.bin .rem (.t 5) (.t 6)), none⟩,
     ⟨(some 0), (.mov (.t 7)), none⟩])
   (.seq
    (.seq
     (.ops [
       ⟨(some 8), (.mov (.t 0)), none⟩,
       ⟨(some 9), (.bin .lss (.t 8) (.c (.int .i64 0))), none⟩])
     (.cond (.t 9)
      (.ops [
        ⟨(some 10), (.mov (.t 0)), none⟩,
        ⟨(some 11), (.mov (.t 1)), none⟩,
        ⟨(some 12), (.bin .add (.t 10) (.t 11)), none⟩,
        ⟨(some 0), (.mov (.t 12)), none⟩])
      .skip))
    (.seq
     (.ops [
       ⟨(some 13), (.mov (.t 0)), none⟩,
       ⟨(some 4), (.mov (.t 13)), none⟩])
     .ret))))

/- "tiller/tillerlaw08.leads" params { toList := [28, 3, 3] } results { toList := [Go.ResultVar.tmp 6] } -/
def x15 : XC :=
 (.seq
  (.ops [
    ⟨(some 3), (.box (.t 0)), none⟩,
    ⟨(some 6), (.mov (.c (.bool false))), none⟩])
  (.seq
   (.ops [
     ⟨(some 13), (.fldA 1 (.t 3)), none⟩,
     ⟨(some 14), (.load1 (.t 13)), none⟩,
     ⟨(some 15), (.len (.t 14)), none⟩,
     ⟨(some 16), (.mkslice [(.bool false)] 1 (.t 15) (.t 15)), none⟩,
     ⟨(some 7), (.mov (.t 16)), none⟩])
   (.seq
    (.ops [
      ⟨(some 17), (.mov (.t 7)), none⟩,
      ⟨(some 18), (.mov (.t 2)), none⟩,
      ⟨(some 19), (.idxS 1 (.t 17) (.t 18)), none⟩,
      ⟨none, (.store 1 (.t 19) (.c (.bool true))), none⟩])
    (.seq
     (.seq
      (.ops [
        ⟨(some 8), (.mov (.c (.int .i64 0))), none⟩])
      (.block 0
       (.loop
        (.seq
         (.seq
          (.ops [
            ⟨(some 20), (.mov (.t 8)), none⟩,
            ⟨(some 21), (.fldA 1 (.t 3)), none⟩,
            ⟨(some 22), (.load1 (.t 21)), none⟩,
            ⟨(some 23), (.len (.t 22)), none⟩,
            ⟨(some 24), (.bin .lss (.t 20) (.t 23)), none⟩])
          (.cond (.t 24)
           .skip
           (.exit 0)))
         (.seq
          (.block 1
           (.seq
            (.ops [
              ⟨(some 9), (.mov (.c (.int .i64 0))), none⟩])
            (.block 2
             (.loop
              (.seq
               (.seq
                (.ops [
                  ⟨(some 27), (.mov (.t 9)), none⟩,
                  ⟨(some 28), (.fldA 1 (.t 3)), none⟩,
                  ⟨(some 29), (.load1 (.t 28)), none⟩,
                  ⟨(some 30), (.len (.t 29)), none⟩,
                  ⟨(some 31), (.bin .lss (.t 27) (.t 30)), none⟩])
                (.cond (.t 31)
                 .skip
                 (.exit 2)))
               (.seq
                (.block 3
                 (.seq
                  (.ops [
                    ⟨(some 10), (.mov (.c (.int .i64 0))), none⟩])
                  (.block 4
                   (.loop
                    (.seq
                     (.seq
                      (.ops [
                        ⟨(some 34), (.mov (.t 10)), none⟩,
                        ⟨(some 35), (.fldA 1 (.t 3)), none⟩,
                        ⟨(some 36), (.load1 (.t 35)), none⟩,
                        ⟨(some 37), (.mov (.t 9)), none⟩,
                        ⟨(some 38), (.idxS 7 (.t 36) (.t 37)), none⟩,
                        ⟨(some 39), (.fldA 6 (.t 38)), none⟩,
                        ⟨(some 40), (.load1 (.t 39)), none⟩,
                        ⟨(some 41), (.len (.t 40)), none⟩,
                        ⟨(some 42), (.bin .lss (.t 34) (.t 41)), none⟩,
                        ⟨(some 43), (.mov (.t 42)), none⟩,
                        ⟨(some 44), (.mov (.t 7)), (some (43, true))⟩,
                        ⟨(some 45), (.mov (.t 9)), (some (43, true))⟩,
                        ⟨(some 46), (.idxS 1 (.t 44) (.t 45)), (some (43, true))⟩,
                        ⟨(some 47), (.load1 (.t 46)), (some (43, true))⟩,
                        ⟨(some 48), (.pick (.t 43) (.t 47) (.c (.bool false))), none⟩])
                      (.cond (.t 48)
                       .skip
                       (.exit 4)))
                     (.seq
                      (.block 5
                       (.seq
                        (.drawE [
                          ⟨(some 52), (.loadN 2 (.t 3)), none⟩,
                          ⟨(some 53), (.fldA 1 (.t 3)), none⟩,
                          ⟨(some 54), (.load1 (.t 53)), none⟩,
                          ⟨(some 55), (.mov (.t 9)), none⟩,
                          ⟨(some 56), (.idxS 7 (.t 54) (.t 55)), none⟩,
                          ⟨(some 57), (.fldA 6 (.t 56)), none⟩,
                          ⟨(some 58), (.load1 (.t 57)), none⟩,
                          ⟨(some 59), (.mov (.t 10)), none⟩,
                          ⟨(some 60), (.idxS 1 (.t 58) (.t 59)), none⟩,
                          ⟨(some 61), (.load1 (.t 60)), none⟩,
                          ⟨(some 62), (.pcall (.f 31) [(.t 52), (.t 61)]), none⟩,
                          ⟨(some 51), (.mov (.t 62)), none⟩,
                          ⟨(some 63), (.ext (.t 51) 0), none⟩,
                          ⟨(some 64), (.ext (.t 51) 1), none⟩,
                          ⟨(some 11), (.mov (.t 63)), none⟩,
                          ⟨(some 12), (.mov (.t 64)), none⟩])
                        (.seq
                         (.ops [
                           ⟨(some 65), (.mov (.t 12)), none⟩])
                         (.cond (.t 65)
                          (.ops [
                            ⟨(some 66), (.mov (.t 7)), none⟩,
                            ⟨(some 67), (.mov (.t 11)), none⟩,
                            ⟨(some 68), (.idxS 1 (.t 66) (.t 67)), none⟩,
                            ⟨none, (.store 1 (.t 68) (.c (.bool true))), none⟩])
                          .skip))))
                      (.ops [
                        ⟨(some 49), (.mov (.t 10)), none⟩,
                        ⟨(some 50), (.bin .add (.t 49) (.c (.int .i64 1))), none⟩,
                        ⟨(some 10), (.mov (.t 50)), none⟩])))))))
                (.ops [
                  ⟨(some 32), (.mov (.t 9)), none⟩,
                  ⟨(some 33), (.bin .add (.t 32) (.c (.int .i64 1))), none⟩,
                  ⟨(some 9), (.mov (.t 33)), none⟩])))))))
          (.ops [
            ⟨(some 25), (.mov (.t 8)), none⟩,
            ⟨(some 26), (.bin .add (.t 25) (.c (.int .i64 1))), none⟩,
            ⟨(some 8), (.mov (.t 26)), none⟩]))))))
     (.seq
      (.ops [
        ⟨(some 69), (.mov (.t 7)), none⟩,
        ⟨(some 70), (.mov (.t 1)), none⟩,
        ⟨(some 71), (.idxS 1 (.t 69) (.t 70)), none⟩,
        ⟨(some 72), (.load1 (.t 71)), none⟩,
        ⟨(some 6), (.mov (.t 72)), none⟩])
      .ret)))))

/- "tiller/tillerlaw08.among" params { toList := [22, 9] } results { toList := [Go.ResultVar.tmp 4] } -/
def x16 : XC :=
 (.seq
  (.ops [
    ⟨(some 4), (.mov (.c (.bool false))), none⟩])
  (.seq
   (.seq
    (.ops [
      ⟨(some 5), (.mov (.c (.int .i64 0))), none⟩])
    (.block 0
     (.loop
      (.seq
       (.seq
        (.ops [
          ⟨(some 6), (.mov (.t 5)), none⟩,
          ⟨(some 7), (.mov (.t 0)), none⟩,
          ⟨(some 8), (.len (.t 7)), none⟩,
          ⟨(some 9), (.bin .lss (.t 6) (.t 8)), none⟩])
        (.cond (.t 9)
         .skip
         (.exit 0)))
       (.seq
        (.block 1
         (.seq
          (.ops [
            ⟨(some 12), (.mov (.t 0)), none⟩,
            ⟨(some 13), (.mov (.t 5)), none⟩,
            ⟨(some 14), (.idxS 1 (.t 12) (.t 13)), none⟩,
            ⟨(some 15), (.load1 (.t 14)), none⟩,
            ⟨(some 16), (.mov (.t 1)), none⟩,
            ⟨(some 17), (.bin .eql (.t 15) (.t 16)), none⟩])
          (.cond (.t 17)
           (.seq
            (.ops [
              ⟨(some 4), (.mov (.c (.bool true))), none⟩])
            .ret)
           .skip)))
        (.ops [
          ⟨(some 10), (.mov (.t 5)), none⟩,
          ⟨(some 11), (.bin .add (.t 10) (.c (.int .i64 1))), none⟩,
          ⟨(some 5), (.mov (.t 11)), none⟩]))))))
   (.seq
    (.ops [
      ⟨(some 4), (.mov (.c (.bool false))), none⟩])
    .ret)))

/- "tiller/tillerlaw08.fresh" params { toList := [28] } results { toList := [Go.ResultVar.tmp 2] } -/
def x18 : XC :=
 (.seq
  (.ops [
    ⟨(some 1), (.box (.t 0)), none⟩,
    ⟨(some 2), (.mov (.c (.str []))), none⟩])
  (.seq
   (.ops [
     ⟨(some 3), (.mov (.c (.str [122]))), none⟩])
   (.block 0
    (.loop
     (.block 1
      (.seq
       (.ops [
         ⟨(some 7), (.loadN 2 (.t 1)), none⟩,
         ⟨(some 8), (.mov (.t 3)), none⟩,
         ⟨(some 9), (.call (.f 31) [(.t 7), (.t 8)]), none⟩,
         ⟨(some 6), (.mov (.t 9)), none⟩,
         ⟨(some 10), (.ext (.t 6) 0), none⟩,
         ⟨(some 11), (.ext (.t 6) 1), none⟩,
         ⟨(some 4), (.mov (.t 10)), none⟩,
         ⟨(some 5), (.mov (.t 11)), none⟩])
       (.seq
        (.seq
         (.ops [
           ⟨(some 12), (.mov (.t 5)), none⟩,
           ⟨(some 13), (.un .not (.t 12)), none⟩])
         (.cond (.t 13)
          (.seq
           (.ops [
             ⟨(some 14), (.mov (.t 3)), none⟩,
             ⟨(some 2), (.mov (.t 14)), none⟩])
           .ret)
          .skip))
        (.ops [
          ⟨(some 15), (.mov (.t 3)), none⟩,
          ⟨(some 16), (.bin .add (.t 15) (.c (.str [122]))), none⟩,
          ⟨(some 3), (.mov (.t 16)), none⟩]))))))))

section
variable {E : Env}
theorem within_pure (hP : E.P = Tryd.prog) (n m : Int) (hm0 : 0 < m) (hm : m ≤ 1000000000) : XPure E 14 [.int .i64 n, .int .i64 m] (.int .i64 (n % m)) := by
  refine xpure1 (n := Tryd.f14.ntmps) (c := x14) (t := 4) (by rw [hP]; rfl) (by rw [hP]; kernel_rfl) (by decide) (Nat.le_of_ble_eq_true rfl) ?_
  generalize hρ : entry _ = ρ
  have h0 : ρ 0 = .int .i64 n := by rw [← hρ]; rfl
  have h1 : ρ 1 = .int .i64 m := by rw [← hρ]; rfl
  clear hρ
  unfold x14
  simp only [h0, h1, go_sem, Nat.reduceEqDiff, reduceIte, Int.reduceEq, Int.reduceLT, Int.reduceLE, Nat.reduceAdd, Nat.reduceLT, Nat.reduceLeDiff, Int.reduceToNat, Int.reduceSub, Int.reduceAdd, Int.reduceNeg]
  refine ⟨by omega, ?_⟩
  have hq : n % m = (n.tmod m) % m := by
    conv => lhs; rw [← Int.tmod_add_mul_tdiv n m]
    rw [Int.add_mul_emod_self_left]
  have ht1 := Int.tmod_lt_of_pos n hm0
  have ht2 := Int.lt_tmod_of_pos n hm0
  refine s_cond (b := decide (n.tmod m < 0)) (by simp only [h0, h1, go_sem, Nat.reduceEqDiff, reduceIte, Int.reduceEq, Int.reduceLT, Int.reduceLE, Nat.reduceAdd, Nat.reduceLT, Nat.reduceLeDiff, Int.reduceToNat, Int.reduceSub, Int.reduceAdd, Int.reduceNeg]) ?_ ?_ <;> intro hb <;> simp only [h0, h1, go_sem, Nat.reduceEqDiff, reduceIte, Int.reduceEq, Int.reduceLT, Int.reduceLE, Nat.reduceAdd, Nat.reduceLT, Nat.reduceLeDiff, Int.reduceToNat, Int.reduceSub, Int.reduceAdd, Int.reduceNeg]
  · rw [decide_eq_true_eq] at hb
    have e : n.tmod m + m = n % m := by
      rw [hq, ← Int.add_emod_right, Int.emod_eq_of_lt (by omega) (by omega)]
    rw [e, wrap64 (by omega) (by omega)]
    rfl
  · rw [decide_eq_false_iff_not] at hb
    have e : n.tmod m = n % m := by rw [hq, Int.emod_eq_of_lt (by omega) (by omega)]
    rw [e]
    rfl

theorem among_pure (hP : E.P = Tryd.prog) (l : List (List UInt8)) (s : List UInt8) (hl : l.length ≤ 1000000) : XPure E 16 [.isl (strRows l), .str s] (.bool (decide (s ∈ l))) := by
  refine xpure1 (n := Tryd.f16.ntmps) (c := x16) (t := 4) (by rw [hP]; rfl) (by rw [hP]; kernel_rfl) (by decide) (Nat.le_of_ble_eq_true rfl) ?_
  generalize hρ : entry _ = ρ
  have h0 : ρ 0 = .isl (strRows l) := by rw [← hρ]; rfl
  have h1 : ρ 1 = .str s := by rw [← hρ]; rfl
  clear hρ
  unfold x16
  simp only [h0, h1, strRows_len, go_sem, Nat.reduceEqDiff, reduceIte, Int.reduceEq, Int.reduceLT, Int.reduceLE, Nat.reduceAdd, Nat.reduceLT, Nat.reduceLeDiff, Int.reduceToNat, Int.reduceSub, Int.reduceAdd, Int.reduceNeg]
  refine s_loop (fun n' ρ L => ∃ i : Nat, i ≤ l.length ∧ n' = l.length - i ∧ L = [] ∧ s ∉ l.take i ∧ ρ 0 = .isl (strRows l) ∧ ρ 1 = .str s ∧ ρ 5 = .int .i64 (i : Nat))
    ⟨0, Nat.zero_le _, rfl, rfl, by simp, by simp only [h0, go_sem, Nat.reduceEqDiff, reduceIte, Int.reduceEq, Int.reduceLT, Int.reduceLE, Nat.reduceAdd, Nat.reduceLT, Nat.reduceLeDiff, Int.reduceToNat, Int.reduceSub, Int.reduceAdd, Int.reduceNeg], by simp only [h1, go_sem, Nat.reduceEqDiff, reduceIte, Int.reduceEq, Int.reduceLT, Int.reduceLE, Nat.reduceAdd, Nat.reduceLT, Nat.reduceLeDiff, Int.reduceToNat, Int.reduceSub, Int.reduceAdd, Int.reduceNeg], by simp only [go_sem, Nat.reduceEqDiff, reduceIte, Int.reduceEq, Int.reduceLT, Int.reduceLE, Nat.reduceAdd, Nat.reduceLT, Nat.reduceLeDiff, Int.reduceToNat, Int.reduceSub, Int.reduceAdd, Int.reduceNeg]; try rfl⟩ ?_
  clear h0 h1 ρ
  rintro n' ρ L ⟨i, hi, rfl, rfl, hni, h0, h1, h5⟩
  simp only [h0, h1, h5, strRows_len, go_sem, Nat.reduceEqDiff, reduceIte, Int.reduceEq, Int.reduceLT, Int.reduceLE, Nat.reduceAdd, Nat.reduceLT, Nat.reduceLeDiff, Int.reduceToNat, Int.reduceSub, Int.reduceAdd, Int.reduceNeg]
  refine s_cond (b := decide _) (by simp only [h0, h1, h5, go_sem, Nat.reduceEqDiff, reduceIte, Int.reduceEq, Int.reduceLT, Int.reduceLE, Nat.reduceAdd, Nat.reduceLT, Nat.reduceLeDiff, Int.reduceToNat, Int.reduceSub, Int.reduceAdd, Int.reduceNeg]; try rfl) ?_ ?_ <;> intro hb <;> simp only [hb, h0, h1, h5, go_sem, Nat.reduceEqDiff, reduceIte, Int.reduceEq, Int.reduceLT, Int.reduceLE, Nat.reduceAdd, Nat.reduceLT, Nat.reduceLeDiff, Int.reduceToNat, Int.reduceSub, Int.reduceAdd, Int.reduceNeg]
  · rw [decide_eq_true_eq] at hb
    have hi' : i < l.length := by omega
    have hrow := strRows_get hi'
    simp only [h0, h1, h5, strRows_len, rows_strs, hrow, go_sem, Nat.reduceEqDiff, reduceIte, Int.reduceEq, Int.reduceLT, Int.reduceLE, Nat.reduceAdd, Nat.reduceLT, Nat.reduceLeDiff, Int.reduceToNat, Int.reduceSub, Int.reduceAdd, Int.reduceNeg]
    refine ⟨by omega, hi', ?_⟩
    refine s_cond (b := decide (l.getD i [] = s)) (by simp only [h0, h1, go_sem, Nat.reduceEqDiff, reduceIte, Int.reduceEq, Int.reduceLT, Int.reduceLE, Nat.reduceAdd, Nat.reduceLT, Nat.reduceLeDiff, Int.reduceToNat, Int.reduceSub, Int.reduceAdd, Int.reduceNeg]) ?_ ?_ <;> intro hc <;> simp only [h0, h1, h5, go_sem, Nat.reduceEqDiff, reduceIte, Int.reduceEq, Int.reduceLT, Int.reduceLE, Nat.reduceAdd, Nat.reduceLT, Nat.reduceLeDiff, Int.reduceToNat, Int.reduceSub, Int.reduceAdd, Int.reduceNeg]
    · rw [decide_eq_true_eq] at hc
      have : s ∈ l := by rw [← hc, List.getD_eq_getElem?_getD, List.getElem?_eq_getElem hi']; exact List.getElem_mem _
      simp [this]; rfl
    · rw [decide_eq_false_iff_not] at hc
      refine ⟨l.length - (i + 1), by omega, i + 1, by omega, rfl, ?_, by rw [wrap64 (by omega) (by omega)]; rfl⟩
      rw [List.take_add_one, getD_get (d := []) hi']
      simp [hni]
      exact fun h => hc h.symm
  · rw [decide_eq_false_iff_not] at hb
    have hii : i = l.length := by omega
    subst hii
    rw [List.take_length] at hni
    simp [hni]; rfl

/-! ### leads -/
def mark (d : DefD) (seen : List Bool) (s : List UInt8) : List Bool := match d.find s with
  | some j => seen.set j true
  | none => seen
def leadI (d : DefD) (seen : List Bool) (i : Nat) : List Bool := if seen.getD i false = true then (d.after i).foldl (mark d) seen else seen
def leadP (d : DefD) (seen : List Bool) : List Bool := (List.range d.nodes.length).foldl (leadI d) seen
def lead0 (d : DefD) (b : Nat) : List Bool := (List.replicate d.nodes.length false).set b true
def leadN (d : DefD) (b p : Nat) : List Bool := (List.range p).foldl (fun s _ => leadP d s) (lead0 d b)
def DefD.leads (d : DefD) (a b : Nat) : Bool := (leadN d b d.nodes.length).getD a false
theorem mark_some {d : DefD} {seen : List Bool} {s : List UInt8} {j : Nat} (h : d.find s = some j) : mark d seen s = seen.set j true := by simp [mark, h]
theorem mark_none {d : DefD} {seen : List Bool} {s : List UInt8} (h : d.find s = none) : mark d seen s = seen := by simp [mark, h]
theorem mark_len (d : DefD) (seen : List Bool) (s : List UInt8) : (mark d seen s).length = seen.length := by
  unfold mark; split <;> simp
theorem marks_len (d : DefD) : ∀ (l : List (List UInt8)) (seen : List Bool), (l.foldl (mark d) seen).length = seen.length
  | [], _ => rfl
  | s :: l, seen => by rw [List.foldl_cons, marks_len d l, mark_len]
theorem mark_keep {d : DefD} {seen : List Bool} {s : List UInt8} {i : Nat} (h : seen.getD i false = true) : (mark d seen s).getD i false = true := by
  unfold mark
  split
  · rename_i j _
    rw [List.getD_eq_getElem?_getD] at h ⊢
    rw [List.getElem?_set]
    by_cases hij : j = i
    · subst hij
      by_cases hl : j < seen.length
      · simp [hl]
      · rw [List.getElem?_eq_none (by omega)] at h; cases h
    · rw [if_neg hij]; exact h
  · exact h
theorem marks_keep {d : DefD} {i : Nat} : ∀ (l : List (List UInt8)) (seen : List Bool), seen.getD i false = true → (l.foldl (mark d) seen).getD i false = true
  | [], _, h => h
  | s :: l, seen, h => marks_keep l _ (mark_keep h)
theorem leadI_len (d : DefD) (seen : List Bool) (i : Nat) : (leadI d seen i).length = seen.length := by
  unfold leadI; split
  · exact marks_len d _ _
  · rfl
theorem leadIs_len (d : DefD) : ∀ (l : List Nat) (seen : List Bool), (l.foldl (leadI d) seen).length = seen.length
  | [], _ => rfl
  | i :: l, seen => by rw [List.foldl_cons, leadIs_len d l, leadI_len]
theorem leadN_len (d : DefD) (b : Nat) : ∀ p, (leadN d b p).length = d.nodes.length
  | 0 => by simp [leadN, lead0]
  | p + 1 => by
    unfold leadN
    rw [List.range_succ, List.foldl_append]
    show (leadP d (leadN d b p)).length = _
    unfold leadP
    rw [leadIs_len, leadN_len d b p]
/-- Who is marked stands behind. -/
def AllBehind (d : DefD) (b : Nat) (seen : List Bool) : Prop := ∀ j, seen.getD j false = true → Behind d b j
theorem mark_behind {d : DefD} {b i : Nat} {seen : List Bool} {s : List UInt8} (h : AllBehind d b seen) (hi : Behind d b i) (hs : s ∈ d.after i) : AllBehind d b (mark d seen s) := by
  unfold mark
  split
  · rename_i k hk
    intro j hj
    rw [List.getD_eq_getElem?_getD, List.getElem?_set] at hj
    by_cases hjk : k = j
    · subst hjk; exact .step hi hs hk
    · rw [if_neg hjk, ← List.getD_eq_getElem?_getD] at hj; exact h j hj
  · exact h
theorem leadI_behind {d : DefD} {b i : Nat} {seen : List Bool} (h : AllBehind d b seen) : AllBehind d b (leadI d seen i) := by
  unfold leadI
  split
  · rename_i hi
    have key : ∀ (l : List (List UInt8)) (seen : List Bool), (∀ s ∈ l, s ∈ d.after i) → AllBehind d b seen → AllBehind d b (l.foldl (mark d) seen) := by
      intro l
      induction l with
      | nil => intro _ _ h; exact h
      | cons s l ih => intro seen hl h'; exact ih _ (fun t ht => hl t (List.mem_cons_of_mem _ ht)) (mark_behind h' (h i hi) (hl s List.mem_cons_self))
    exact key _ _ (fun s hs => hs) h
  · exact h
theorem leads_behind {d : DefD} {a b : Nat} (h : d.leads a b = true) : Behind d b a := by
  have key : ∀ p, AllBehind d b (leadN d b p) := by
    intro p
    induction p with
    | zero =>
      intro j hj
      unfold leadN lead0 at hj
      simp only [List.range_zero, List.foldl_nil] at hj
      rw [List.getD_eq_getElem?_getD, List.getElem?_set] at hj
      by_cases hbj : b = j
      · subst hbj; exact .self
      · rw [if_neg hbj, List.getElem?_replicate] at hj
        split at hj <;> cases hj
    | succ p ih =>
      unfold leadN
      rw [List.range_succ, List.foldl_append]
      show AllBehind d b (leadP d (leadN d b p))
      have k2 : ∀ (l : List Nat) (seen : List Bool), AllBehind d b seen → AllBehind d b (l.foldl (leadI d) seen) := by
        intro l
        induction l with
        | nil => intro _ h; exact h
        | cons i l ih => intro seen h; exact ih _ (leadI_behind h)
      exact k2 _ _ ih
  exact key _ a h

theorem leads_pure (hP : E.P = Tryd.prog) (d : DefD) (a b : Nat) (hd : d.nodes.length ≤ 1000000) (ha : a < d.nodes.length) (hb : b < d.nodes.length) (haf : ∀ n ∈ d.nodes, n.after.length ≤ 1000000) : XPure E 15 [d.iv, .int .i64 (a : Nat), .int .i64 (b : Nat)] (.bool (d.leads a b)) := by
  refine xpure1 (n := Tryd.f15.ntmps) (c := x15) (t := 6) (by rw [hP]; rfl) (by rw [hP]; kernel_rfl) (by decide) (Nat.le_of_ble_eq_true rfl) ?_
  generalize hρ : entry _ = ρ
  have h0 : ρ 0 = .agg [.str d.name, .isl (nodeRows d.nodes)] := by rw [← hρ]; rfl
  have h1 : ρ 1 = .int .i64 (a : Nat) := by rw [← hρ]; rfl
  have h2 : ρ 2 = .int .i64 (b : Nat) := by rw [← hρ]; rfl
  clear hρ
  unfold x15
  simp only [h0, h1, h2, nodeRows_len, go_sem, Nat.reduceEqDiff, reduceIte, Int.reduceEq, Int.reduceLT, Int.reduceLE, Nat.reduceAdd, Nat.reduceLT, Nat.reduceLeDiff, Int.reduceToNat, Int.reduceSub, Int.reduceAdd, Int.reduceNeg]
  refine ⟨by omega, by omega, by omega, ?_⟩
  rw [boolRows_rep]
  have hset := boolRows_set (List.replicate d.nodes.length false) b
  have hgt := boolRows_get (l := List.replicate d.nodes.length false) (i := b) (by simpa using hb)
  simp only [h0, h1, h2, nodeRows_len, boolRows_len, hset, hgt, List.length_replicate, go_sem, Nat.reduceEqDiff, reduceIte, Int.reduceEq, Int.reduceLT, Int.reduceLE, Nat.reduceAdd, Nat.reduceLT, Nat.reduceLeDiff, Int.reduceToNat, Int.reduceSub, Int.reduceAdd, Int.reduceNeg]
  refine ⟨by omega, hb, ?_⟩
  refine s_loop (fun n' ρ L => ∃ p : Nat, p ≤ d.nodes.length ∧ n' = d.nodes.length - p ∧ L = [.cells 2 [[.str d.name, .isl (nodeRows d.nodes)]], .cells 1 (boolRows (leadN d b p))] ∧
      ρ 1 = .int .i64 (a : Nat) ∧ ρ 3 = .ptr 0 0 0 ∧ ρ 7 = .sl 1 0 d.nodes.length d.nodes.length ∧ ρ 8 = .int .i64 (p : Nat))
    ⟨0, Nat.zero_le _, rfl, rfl, by simp only [h1, go_sem, Nat.reduceEqDiff, reduceIte, Int.reduceEq, Int.reduceLT, Int.reduceLE, Nat.reduceAdd, Nat.reduceLT, Nat.reduceLeDiff, Int.reduceToNat, Int.reduceSub, Int.reduceAdd, Int.reduceNeg], by simp only [go_sem, Nat.reduceEqDiff, reduceIte, Int.reduceEq, Int.reduceLT, Int.reduceLE, Nat.reduceAdd, Nat.reduceLT, Nat.reduceLeDiff, Int.reduceToNat, Int.reduceSub, Int.reduceAdd, Int.reduceNeg], by simp only [go_sem, Nat.reduceEqDiff, reduceIte, Int.reduceEq, Int.reduceLT, Int.reduceLE, Nat.reduceAdd, Nat.reduceLT, Nat.reduceLeDiff, Int.reduceToNat, Int.reduceSub, Int.reduceAdd, Int.reduceNeg], by simp only [go_sem, Nat.reduceEqDiff, reduceIte, Int.reduceEq, Int.reduceLT, Int.reduceLE, Nat.reduceAdd, Nat.reduceLT, Nat.reduceLeDiff, Int.reduceToNat, Int.reduceSub, Int.reduceAdd, Int.reduceNeg]; try rfl⟩ ?_
  clear h0 h1 h2 ρ
  rintro n' ρ L ⟨p, hp, rfl, rfl, h1, h3, h7, h8⟩
  simp only [h1, h3, h7, h8, nodeRows_len, go_sem, Nat.reduceEqDiff, reduceIte, Int.reduceEq, Int.reduceLT, Int.reduceLE, Nat.reduceAdd, Nat.reduceLT, Nat.reduceLeDiff, Int.reduceToNat, Int.reduceSub, Int.reduceAdd, Int.reduceNeg]
  refine s_cond (b := decide _) (by simp only [h1, h3, h7, h8, go_sem, Nat.reduceEqDiff, reduceIte, Int.reduceEq, Int.reduceLT, Int.reduceLE, Nat.reduceAdd, Nat.reduceLT, Nat.reduceLeDiff, Int.reduceToNat, Int.reduceSub, Int.reduceAdd, Int.reduceNeg]; try rfl) ?_ ?_ <;> intro hb2 <;> simp only [hb2, h1, h3, h7, h8, go_sem, Nat.reduceEqDiff, reduceIte, Int.reduceEq, Int.reduceLT, Int.reduceLE, Nat.reduceAdd, Nat.reduceLT, Nat.reduceLeDiff, Int.reduceToNat, Int.reduceSub, Int.reduceAdd, Int.reduceNeg]
  · rw [decide_eq_true_eq] at hb2
    refine s_loop (fun n' ρ L => ∃ i : Nat, i ≤ d.nodes.length ∧ n' = d.nodes.length - i ∧ L = [.cells 2 [[.str d.name, .isl (nodeRows d.nodes)]], .cells 1 (boolRows ((List.range i).foldl (leadI d) (leadN d b p)))] ∧
        ρ 1 = .int .i64 (a : Nat) ∧ ρ 3 = .ptr 0 0 0 ∧ ρ 7 = .sl 1 0 d.nodes.length d.nodes.length ∧ ρ 8 = .int .i64 (p : Nat) ∧ ρ 9 = .int .i64 (i : Nat))
      ⟨0, Nat.zero_le _, rfl, rfl, by simp only [h1, go_sem, Nat.reduceEqDiff, reduceIte, Int.reduceEq, Int.reduceLT, Int.reduceLE, Nat.reduceAdd, Nat.reduceLT, Nat.reduceLeDiff, Int.reduceToNat, Int.reduceSub, Int.reduceAdd, Int.reduceNeg], by simp only [h3, go_sem, Nat.reduceEqDiff, reduceIte, Int.reduceEq, Int.reduceLT, Int.reduceLE, Nat.reduceAdd, Nat.reduceLT, Nat.reduceLeDiff, Int.reduceToNat, Int.reduceSub, Int.reduceAdd, Int.reduceNeg], by simp only [h7, go_sem, Nat.reduceEqDiff, reduceIte, Int.reduceEq, Int.reduceLT, Int.reduceLE, Nat.reduceAdd, Nat.reduceLT, Nat.reduceLeDiff, Int.reduceToNat, Int.reduceSub, Int.reduceAdd, Int.reduceNeg], by simp only [h8, go_sem, Nat.reduceEqDiff, reduceIte, Int.reduceEq, Int.reduceLT, Int.reduceLE, Nat.reduceAdd, Nat.reduceLT, Nat.reduceLeDiff, Int.reduceToNat, Int.reduceSub, Int.reduceAdd, Int.reduceNeg], by simp only [go_sem, Nat.reduceEqDiff, reduceIte, Int.reduceEq, Int.reduceLT, Int.reduceLE, Nat.reduceAdd, Nat.reduceLT, Nat.reduceLeDiff, Int.reduceToNat, Int.reduceSub, Int.reduceAdd, Int.reduceNeg]; try rfl⟩ ?_
    clear h1 h3 h7 h8 ρ
    rintro n' ρ L ⟨i, hi, rfl, rfl, h1, h3, h7, h8, h9⟩
    simp only [h1, h3, h7, h8, h9, nodeRows_len, go_sem, Nat.reduceEqDiff, reduceIte, Int.reduceEq, Int.reduceLT, Int.reduceLE, Nat.reduceAdd, Nat.reduceLT, Nat.reduceLeDiff, Int.reduceToNat, Int.reduceSub, Int.reduceAdd, Int.reduceNeg]
    refine s_cond (b := decide _) (by simp only [h1, h3, h7, h8, h9, go_sem, Nat.reduceEqDiff, reduceIte, Int.reduceEq, Int.reduceLT, Int.reduceLE, Nat.reduceAdd, Nat.reduceLT, Nat.reduceLeDiff, Int.reduceToNat, Int.reduceSub, Int.reduceAdd, Int.reduceNeg]; try rfl) ?_ ?_ <;> intro hb3 <;> simp only [hb3, h1, h3, h7, h8, h9, go_sem, Nat.reduceEqDiff, reduceIte, Int.reduceEq, Int.reduceLT, Int.reduceLE, Nat.reduceAdd, Nat.reduceLT, Nat.reduceLeDiff, Int.reduceToNat, Int.reduceSub, Int.reduceAdd, Int.reduceNeg]
    · rw [decide_eq_true_eq] at hb3
      have hi' : i < d.nodes.length := by omega
      have hrow := nodeRows_get hi'
      have hmem : d.nodes.getD i default ∈ d.nodes := by rw [List.getD_eq_getElem?_getD, List.getElem?_eq_getElem hi']; exact List.getElem_mem _
      have hafl : (d.after i).length ≤ 1000000 := haf _ hmem
      have hrow2 : (d.nodes.getD i default).row.getD 6 .und = .isl (strRows (d.after i)) := rfl
      have hsi : ((List.range i).foldl (leadI d) (leadN d b p)).length = d.nodes.length := by rw [leadIs_len, leadN_len]
      have hnext : (List.range (i + 1)).foldl (leadI d) (leadN d b p) = leadI d ((List.range i).foldl (leadI d) (leadN d b p)) i := by rw [List.range_succ, List.foldl_append]; rfl
      generalize (List.range i).foldl (leadI d) (leadN d b p) = si at *
      refine s_loop (fun n' ρ L => ∃ k : Nat, k ≤ (d.after i).length ∧ n' = (d.after i).length - k ∧ (si.getD i false = false → k = 0) ∧ L = [.cells 2 [[.str d.name, .isl (nodeRows d.nodes)]], .cells 1 (boolRows (((d.after i).take k).foldl (mark d) si))] ∧
          ρ 1 = .int .i64 (a : Nat) ∧ ρ 3 = .ptr 0 0 0 ∧ ρ 7 = .sl 1 0 d.nodes.length d.nodes.length ∧ ρ 8 = .int .i64 (p : Nat) ∧ ρ 9 = .int .i64 (i : Nat) ∧ ρ 10 = .int .i64 (k : Nat))
        ⟨0, Nat.zero_le _, rfl, fun _ => rfl, rfl, by simp only [h1, go_sem, Nat.reduceEqDiff, reduceIte, Int.reduceEq, Int.reduceLT, Int.reduceLE, Nat.reduceAdd, Nat.reduceLT, Nat.reduceLeDiff, Int.reduceToNat, Int.reduceSub, Int.reduceAdd, Int.reduceNeg], by simp only [h3, go_sem, Nat.reduceEqDiff, reduceIte, Int.reduceEq, Int.reduceLT, Int.reduceLE, Nat.reduceAdd, Nat.reduceLT, Nat.reduceLeDiff, Int.reduceToNat, Int.reduceSub, Int.reduceAdd, Int.reduceNeg], by simp only [h7, go_sem, Nat.reduceEqDiff, reduceIte, Int.reduceEq, Int.reduceLT, Int.reduceLE, Nat.reduceAdd, Nat.reduceLT, Nat.reduceLeDiff, Int.reduceToNat, Int.reduceSub, Int.reduceAdd, Int.reduceNeg], by simp only [h8, go_sem, Nat.reduceEqDiff, reduceIte, Int.reduceEq, Int.reduceLT, Int.reduceLE, Nat.reduceAdd, Nat.reduceLT, Nat.reduceLeDiff, Int.reduceToNat, Int.reduceSub, Int.reduceAdd, Int.reduceNeg], by simp only [h9, go_sem, Nat.reduceEqDiff, reduceIte, Int.reduceEq, Int.reduceLT, Int.reduceLE, Nat.reduceAdd, Nat.reduceLT, Nat.reduceLeDiff, Int.reduceToNat, Int.reduceSub, Int.reduceAdd, Int.reduceNeg], by simp only [go_sem, Nat.reduceEqDiff, reduceIte, Int.reduceEq, Int.reduceLT, Int.reduceLE, Nat.reduceAdd, Nat.reduceLT, Nat.reduceLeDiff, Int.reduceToNat, Int.reduceSub, Int.reduceAdd, Int.reduceNeg]; try rfl⟩ ?_
      clear h1 h3 h7 h8 h9 ρ
      rintro n' ρ L ⟨k, hk, rfl, hk0, rfl, h1, h3, h7, h8, h9, h10⟩
      have hsl : (((d.after i).take k).foldl (mark d) si).length = d.nodes.length := by rw [marks_len, hsi]
      have hgi := boolRows_get (l := ((d.after i).take k).foldl (mark d) si) (i := i) (by omega)
      have hseen : (((d.after i).take k).foldl (mark d) si).getD i false = si.getD i false := by
        cases hsi2 : si.getD i false with
        | true => exact marks_keep _ _ hsi2
        | false => obtain rfl := hk0 hsi2; exact hsi2
      have hmark : (si.getD i false = true) → ∀ hkl : k < (d.after i).length, ((d.after i).take (k + 1)).foldl (mark d) si = mark d (((d.after i).take k).foldl (mark d) si) ((d.after i).getD k []) := fun _ hkl => by
        rw [List.take_add_one, getD_get (d := []) hkl, List.foldl_append]; rfl
      have hfull : (((d.after i).take (d.after i).length).foldl (mark d) si) = (d.after i).foldl (mark d) si := by rw [List.take_length]
      generalize hsk : ((d.after i).take k).foldl (mark d) si = sk at *
      have hmid : ((d.after i).foldl (mark d) si = leadI d si i ∧ si.getD i false = true) ∨ (si = leadI d si i ∧ si.getD i false = false) := by
        cases hsi2 : si.getD i false with
        | true => exact .inl ⟨by unfold leadI; rw [if_pos hsi2], rfl⟩
        | false => exact .inr ⟨by unfold leadI; rw [if_neg (by rw [hsi2]; simp)], rfl⟩
      have hnx : ∀ (ρ : Rho), ρ 1 = .int .i64 (a : Nat) → ρ 3 = .ptr 0 0 0 → ρ 7 = .sl 1 0 d.nodes.length d.nodes.length → ρ 8 = .int .i64 (p : Nat) → ρ 9 = .int .i64 ((i : Int) + 1) → sk = leadI d si i →
          ∃ m, m < d.nodes.length - i ∧ ∃ i', i' ≤ d.nodes.length ∧ m = d.nodes.length - i' ∧ [Blk.cells 2 [[.str d.name, .isl (nodeRows d.nodes)]], Blk.cells 1 (boolRows sk)] = [Blk.cells 2 [[.str d.name, .isl (nodeRows d.nodes)]], Blk.cells 1 (boolRows ((List.range i').foldl (leadI d) (leadN d b p)))] ∧
            ρ 1 = .int .i64 (a : Nat) ∧ ρ 3 = .ptr 0 0 0 ∧ ρ 7 = .sl 1 0 d.nodes.length d.nodes.length ∧ ρ 8 = .int .i64 (p : Nat) ∧ ρ 9 = .int .i64 (i' : Nat) := fun ρ h1 h3 h7 h8 h9 he =>
        ⟨d.nodes.length - (i + 1), by omega, i + 1, by omega, rfl, by rw [hnext, he], h1, h3, h7, h8, h9⟩
      by_cases hkl : k < (d.after i).length
      · have e1 : decide ((k : Int) < ((d.after i).length : Int)) = true := by simp [hkl]
        simp only [h3, h7, h9, h10, hrow, hrow2, strRows_len, nodeRows_len, rows_nodes, e1, hgi, hseen, hsl, boolRows_len, go_sem, Nat.reduceEqDiff, reduceIte, Int.reduceEq, Int.reduceLT, Int.reduceLE, Nat.reduceAdd, Nat.reduceLT, Nat.reduceLeDiff, Int.reduceToNat, Int.reduceSub, Int.reduceAdd, Int.reduceNeg]
        refine ⟨by omega, hi', by show 6 < 7; decide, by omega, hi', ?_⟩
        refine s_cond (b := si.getD i false) (by simp only [go_sem, Nat.reduceEqDiff, reduceIte, Int.reduceEq, Int.reduceLT, Int.reduceLE, Nat.reduceAdd, Nat.reduceLT, Nat.reduceLeDiff, Int.reduceToNat, Int.reduceSub, Int.reduceAdd, Int.reduceNeg]) ?_ ?_ <;> intro hc <;> simp only [h3, h7, h9, h10, go_sem, Nat.reduceEqDiff, reduceIte, Int.reduceEq, Int.reduceLT, Int.reduceLE, Nat.reduceAdd, Nat.reduceLT, Nat.reduceLeDiff, Int.reduceToNat, Int.reduceSub, Int.reduceAdd, Int.reduceNeg]
        · have hrow3 := strRows_get hkl
          have hm1 := hmark hc hkl
          simp only [h1, h3, h7, h8, h9, h10, hrow, hrow2, hrow3, strRows_len, nodeRows_len, rows_nodes, rows_strs, go_sem, Nat.reduceEqDiff, reduceIte, Int.reduceEq, Int.reduceLT, Int.reduceLE, Nat.reduceAdd, Nat.reduceLT, Nat.reduceLeDiff, Int.reduceToNat, Int.reduceSub, Int.reduceAdd, Int.reduceNeg]
          refine ⟨by omega, hi', by show 6 < 7; decide, by omega, hkl, ?_⟩
          refine o_pcall (args' := [d.iv, .str ((d.after i).getD k [])]) rfl (refFind_pure hP d ((d.after i).getD k []) (by omega)) (fun m => rfl) ?_
          simp only [h1, h3, h7, h8, h9, h10, go_sem, Nat.reduceEqDiff, reduceIte, Int.reduceEq, Int.reduceLT, Int.reduceLE, Nat.reduceAdd, Nat.reduceLT, Nat.reduceLeDiff, Int.reduceToNat, Int.reduceSub, Int.reduceAdd, Int.reduceNeg]
          generalize hsn : (d.after i).getD k [] = s at *
          refine s_cond (b := (d.find s).isSome) (by simp only [go_sem, Nat.reduceEqDiff, reduceIte, Int.reduceEq, Int.reduceLT, Int.reduceLE, Nat.reduceAdd, Nat.reduceLT, Nat.reduceLeDiff, Int.reduceToNat, Int.reduceSub, Int.reduceAdd, Int.reduceNeg]) ?_ ?_ <;> intro hf <;> simp only [h1, h3, h7, h8, h9, h10, go_sem, Nat.reduceEqDiff, reduceIte, Int.reduceEq, Int.reduceLT, Int.reduceLE, Nat.reduceAdd, Nat.reduceLT, Nat.reduceLeDiff, Int.reduceToNat, Int.reduceSub, Int.reduceAdd, Int.reduceNeg]
          · obtain ⟨j, hj⟩ := Option.isSome_iff_exists.1 hf
            have hjl : j < d.nodes.length := firstI_lt hj
            rw [mark_some hj] at hm1
            have hgj := boolRows_get (l := sk) (i := j) (by omega)
            have hsj := boolRows_set sk j
            simp only [h1, h3, h7, h8, h9, h10, hj, findN, hgj, hsj, hsl, boolRows_len, go_sem, Nat.reduceEqDiff, reduceIte, Int.reduceEq, Int.reduceLT, Int.reduceLE, Nat.reduceAdd, Nat.reduceLT, Nat.reduceLeDiff, Int.reduceToNat, Int.reduceSub, Int.reduceAdd, Int.reduceNeg]
            refine ⟨by omega, by omega, (d.after i).length - (k + 1), by omega, k + 1, by omega, rfl, fun h => (by rw [hc] at h; cases h), ?_, by rw [wrap64 (by omega) (by omega)]; rfl⟩
            rw [hm1]
          · have hj : d.find s = none := by cases h : d.find s with
              | none => rfl
              | some j => rw [h] at hf; cases hf
            rw [mark_none hj] at hm1
            refine ⟨(d.after i).length - (k + 1), by omega, k + 1, by omega, rfl, fun h => (by rw [hc] at h; cases h), ?_, by rw [wrap64 (by omega) (by omega)]; rfl⟩
            rw [hm1]
        · have hk00 := hk0 hc
          subst hk00
          have : sk = si := hsk.symm
          rcases hmid with ⟨_, h⟩ | ⟨h, _⟩
          · rw [hc] at h; cases h
          · rw [wrap64 (by omega) (by omega)]
            exact ⟨d.nodes.length - (i + 1), by omega, i + 1, by omega, rfl, by rw [hnext, ← h, this], h1, h8, rfl⟩
      · have e1 : decide ((k : Int) < ((d.after i).length : Int)) = false := by simp; omega
        simp only [h3, h7, h9, h10, hrow, hrow2, strRows_len, nodeRows_len, rows_nodes, e1, hgi, hseen, hsl, boolRows_len, go_sem, Nat.reduceEqDiff, reduceIte, Int.reduceEq, Int.reduceLT, Int.reduceLE, Nat.reduceAdd, Nat.reduceLT, Nat.reduceLeDiff, Int.reduceToNat, Int.reduceSub, Int.reduceAdd, Int.reduceNeg]
        have hkk : k = (d.after i).length := by omega
        have hske : sk = leadI d si i := by
          rcases hmid with ⟨h, _⟩ | ⟨h, h'⟩
          · rw [← h, ← hsk, hkk, List.take_length]
          · have := hk0 h'
            subst this
            rw [← h, ← hsk]; rfl
        refine ⟨by omega, hi', by show 6 < 7; decide, ?_⟩
        rw [wrap64 (by omega) (by omega)]
        exact ⟨d.nodes.length - (i + 1), by omega, i + 1, by omega, rfl, by rw [hnext, hske], h1, h8, rfl⟩
    · rw [decide_eq_false_iff_not] at hb3
      have hii : i = d.nodes.length := by omega
      subst hii
      try simp only [h1, h3, h7, h8, h9, go_sem, Nat.reduceEqDiff, reduceIte, Int.reduceEq, Int.reduceLT, Int.reduceLE, Nat.reduceAdd, Nat.reduceLT, Nat.reduceLeDiff, Int.reduceToNat, Int.reduceSub, Int.reduceAdd, Int.reduceNeg]
      rw [wrap64 (by omega) (by omega)]
      refine ⟨d.nodes.length - (p + 1), by omega, p + 1, by omega, rfl, ?_, rfl⟩
      have : leadN d b (p + 1) = leadP d (leadN d b p) := by
        unfold leadN
        rw [List.range_succ, List.foldl_append]
        rfl
      rw [this]; rfl
  · rw [decide_eq_false_iff_not] at hb2
    have hpp : p = d.nodes.length := by omega
    subst hpp
    have hgl := boolRows_get (l := leadN d b d.nodes.length) (i := a) (by rw [leadN_len]; exact ha)
    simp only [h1, h3, h7, h8, hgl, boolRows_len, leadN_len, go_sem, Nat.reduceEqDiff, reduceIte, Int.reduceEq, Int.reduceLT, Int.reduceLE, Nat.reduceAdd, Nat.reduceLT, Nat.reduceLeDiff, Int.reduceToNat, Int.reduceSub, Int.reduceAdd, Int.reduceNeg]
    refine ⟨by omega, ha, ?_⟩
    rfl

/-! ### fresh -/
theorem firstI_sub {d : DefD} {s : List UInt8} (h : d.find s ≠ none) : s ∈ d.nodes.map (·.name) := by
  cases hf : d.find s with
  | none => exact absurd hf h
  | some k =>
    have h1 := (firstI_spec (df := default) hf).1
    have h2 := firstI_lt hf
    simp only [decide_eq_true_eq] at h1
    rw [← h1]
    refine List.mem_map.2 ⟨_, ?_, rfl⟩
    rw [List.getD_eq_getElem?_getD, List.getElem?_eq_getElem h2]; exact List.getElem_mem _
def zs (n : Nat) : List UInt8 := List.replicate (n + 1) 122
/-- How many names of z's are taken, from one on. -/
def DefD.zn (d : DefD) : Nat := (firstI (fun n => decide (d.find (zs n) = none)) (List.range (d.nodes.length + 1))).getD 0
theorem zn_some (d : DefD) : firstI (fun n => decide (d.find (zs n) = none)) (List.range (d.nodes.length + 1)) = some d.zn := by
  cases h : firstI (fun n => decide (d.find (zs n) = none)) (List.range (d.nodes.length + 1)) with
  | some k => unfold DefD.zn; rw [h]; rfl
  | none =>
    exfalso
    have h1 : ∀ n, n ≤ d.nodes.length → zs n ∈ d.nodes.map (·.name) := fun n hn => firstI_sub (by
      have := firstI_no h n (List.mem_range.2 (by omega))
      simpa using this)
    have hnd : ((List.range (d.nodes.length + 1)).map zs).Nodup := by
      unfold List.Nodup
      rw [List.pairwise_map]
      refine List.nodup_range.imp fun hne hab => hne ?_
      have := congrArg List.length hab
      simpa [zs] using this
    have hsub : ∀ x ∈ (List.range (d.nodes.length + 1)).map zs, x ∈ d.nodes.map (·.name) := fun x hx => by
      obtain ⟨n, hn, rfl⟩ := List.mem_map.1 hx
      exact h1 n (by have := List.mem_range.1 hn; omega)
    have := hnd.length_le_of_subset hsub
    simp at this
    omega
theorem zn_le (d : DefD) : d.zn ≤ d.nodes.length := by
  have := firstI_lt (zn_some d)
  simp at this; omega
theorem zn_none (d : DefD) : d.find (zs d.zn) = none := by
  have h := (firstI_spec (df := 0) (zn_some d)).1
  have hl := zn_le d
  rw [List.getD_eq_getElem?_getD, List.getElem?_range (by omega)] at h
  simpa using h
theorem zn_before (d : DefD) {n : Nat} (h : n < d.zn) : d.find (zs n) ≠ none := by
  have h1 := (firstI_spec (df := 0) (zn_some d)).2 n h
  have hl := zn_le d
  rw [List.getD_eq_getElem?_getD, List.getElem?_range (by omega)] at h1
  simpa using h1
theorem zs_succ (n : Nat) : zs n ++ [122] = zs (n + 1) := by
  unfold zs
  rw [← List.replicate_succ']
theorem fresh_pure (hP : E.P = Tryd.prog) (d : DefD) (hd : d.nodes.length ≤ 1000000) : XPure E 18 [d.iv] (.str (zs d.zn)) := by
  refine xpure1 (n := Tryd.f18.ntmps) (c := x18) (t := 2) (by rw [hP]; rfl) (by rw [hP]; kernel_rfl) (by decide) (Nat.le_of_ble_eq_true rfl) ?_
  generalize hρ : entry _ = ρ
  have h0 : ρ 0 = .agg [.str d.name, .isl (nodeRows d.nodes)] := by rw [← hρ]; rfl
  clear hρ
  unfold x18
  simp only [h0, go_sem, Nat.reduceEqDiff, reduceIte, Int.reduceEq, Int.reduceLT, Int.reduceLE, Nat.reduceAdd, Nat.reduceLT, Nat.reduceLeDiff, Int.reduceToNat, Int.reduceSub, Int.reduceAdd, Int.reduceNeg]
  have hz := zn_le d
  refine s_loop (fun n' ρ L => ∃ k : Nat, k ≤ d.zn ∧ n' = d.zn - k ∧ L = [.cells 2 [[.str d.name, .isl (nodeRows d.nodes)]]] ∧ ρ 1 = .ptr 0 0 0 ∧ ρ 3 = .str (zs k))
    ⟨0, Nat.zero_le _, rfl, rfl, by simp only [go_sem, Nat.reduceEqDiff, reduceIte, Int.reduceEq, Int.reduceLT, Int.reduceLE, Nat.reduceAdd, Nat.reduceLT, Nat.reduceLeDiff, Int.reduceToNat, Int.reduceSub, Int.reduceAdd, Int.reduceNeg], by simp only [go_sem, Nat.reduceEqDiff, reduceIte, Int.reduceEq, Int.reduceLT, Int.reduceLE, Nat.reduceAdd, Nat.reduceLT, Nat.reduceLeDiff, Int.reduceToNat, Int.reduceSub, Int.reduceAdd, Int.reduceNeg]; try rfl⟩ ?_
  clear h0 ρ
  rintro n' ρ L ⟨k, hk, rfl, rfl, h1, h3⟩
  simp only [h1, h3, go_sem, Nat.reduceEqDiff, reduceIte, Int.reduceEq, Int.reduceLT, Int.reduceLE, Nat.reduceAdd, Nat.reduceLT, Nat.reduceLeDiff, Int.reduceToNat, Int.reduceSub, Int.reduceAdd, Int.reduceNeg]
  refine xcall_pure (args' := [d.iv, .str (zs k)]) rfl (refFind_pure hP d (zs k) (by omega)) rfl ?_
  simp only [h1, h3, go_sem, Nat.reduceEqDiff, reduceIte, Int.reduceEq, Int.reduceLT, Int.reduceLE, Nat.reduceAdd, Nat.reduceLT, Nat.reduceLeDiff, Int.reduceToNat, Int.reduceSub, Int.reduceAdd, Int.reduceNeg]
  refine s_cond (b := !(d.find (zs k)).isSome) (by simp only [go_sem, Nat.reduceEqDiff, reduceIte, Int.reduceEq, Int.reduceLT, Int.reduceLE, Nat.reduceAdd, Nat.reduceLT, Nat.reduceLeDiff, Int.reduceToNat, Int.reduceSub, Int.reduceAdd, Int.reduceNeg]; try rfl) ?_ ?_ <;> intro hf <;> simp only [h1, h3, go_sem, Nat.reduceEqDiff, reduceIte, Int.reduceEq, Int.reduceLT, Int.reduceLE, Nat.reduceAdd, Nat.reduceLT, Nat.reduceLeDiff, Int.reduceToNat, Int.reduceSub, Int.reduceAdd, Int.reduceNeg]
  · have hkz : k = d.zn := by
      by_cases h : k < d.zn
      · have := zn_before d h
        cases hh : d.find (zs k) with
        | none => exact absurd hh this
        | some j => rw [hh] at hf; cases hf
      · omega
    rw [hkz]; rfl
  · have hkz : k < d.zn := by
      by_cases h : k < d.zn
      · exact h
      · have : k = d.zn := by omega
        rw [this, zn_none] at hf; cases hf
    refine ⟨by simp [zs]; omega, d.zn - (k + 1), by omega, k + 1, by omega, rfl, by rw [zs_succ]⟩
end
end Go.X.TrydW
end
section
open Go Go.X Go.Proofs
set_option maxRecDepth 100000
set_option maxHeartbeats 4000000
set_option linter.unusedSimpArgs false
set_option linter.unusedVariables false
namespace Go.X.TrydW
def x4c : XC :=
 (.seq (.ops [ ⟨(some 85), (.loadN 2 (.t 11)), none⟩, ⟨(some 86), (.call (.f 13) [(.t 85)]), none⟩, ⟨(some 84), (.mov (.t 86)), none⟩, ⟨(some 87), (.ext (.t 84) 0), none⟩, ⟨(some 88), (.ext (.t 84) 1), none⟩, ⟨(some 12), (.mov (.t 87)), none⟩, ⟨(some 8), (.mov (.t 88)), none⟩]) (.seq (.ops [ ⟨(some 90), (.loadN 2 (.t 11)), none⟩, ⟨(some 91), (.call (.f 17) [(.t 90)]), none⟩, ⟨(some 89), (.mov (.t 91)), none⟩, ⟨(some 92), (.ext (.t 89) 0), none⟩, ⟨(some 93), (.ext (.t 89) 1), none⟩, ⟨(some 13), (.mov (.t 92)), none⟩, ⟨(some 14), (.mov (.t 93)), none⟩]) (.seq (.ops [ ⟨(some 94), (.mov (.t 8)), none⟩, ⟨(some 95), (.bin .eql (.t 94) (.c (.int .i64 15))), none⟩, ⟨(some 96), (.mov (.t 95)), none⟩, ⟨(some 97), (.mov (.t 12)), (some (96, true))⟩, ⟨(some 98), (.bin .eql (.t 97) (.c (.int .i64 (-1)))), (some (96, true))⟩, ⟨(some 99), (.pick (.t 96) (.t 98) (.c (.bool false))), none⟩, ⟨(some 100), (.mov (.t 99)), none⟩, ⟨(some 101), (.mov (.t 14)), (some (100, true))⟩, ⟨(some 102), (.un .not (.t 101)), (some (100, true))⟩, ⟨(some 103), (.pick (.t 100) (.t 102) (.c (.bool false))), none⟩, ⟨(some 104), (.mov (.t 103)), none⟩, ⟨(some 105), (.mov (.t 13)), (some (104, true))⟩, ⟨(some 106), (.len (.t 105)), (some (104, true))⟩, ⟨(some 107), (.fldA 1 (.t 11)), (some (104, true))⟩, ⟨(some 108), (.load1 (.t 107)), (some (104, true))⟩, ⟨(some 109), (.len (.t 108)), (some (104, true))⟩, ⟨(some 110), (.bin .lss (.t 106) (.t 109)), (some (104, true))⟩, ⟨(some 111), (.pick (.t 104) (.t 110) (.c (.bool false))), none⟩, ⟨(some 112), (.mov (.t 111)), none⟩, ⟨(some 113), (.call (.f 11) []), (some (112, true))⟩, ⟨(some 114), (.pick (.t 112) (.t 113) (.c (.bool false))), none⟩, ⟨(some 6), (.mov (.t 114)), none⟩]) .ret)))
/- "tiller/tillerlaw08.DagLoops" params { toList := [28, 3, 3] } results { toList := [Go.ResultVar.tmp 6] } -/
def x4 : XC :=
 (.seq (.ops [ ⟨(some 3), (.box (.t 0)), none⟩, ⟨(some 6), (.mov (.c (.bool false))), none⟩]) (.seq (.ops [ ⟨(some 15), (.loadN 2 (.t 3)), none⟩, ⟨(some 16), (.call (.f 12) [(.t 15)]), none⟩, ⟨none, (.store 2 (.t 3) (.t 16)), none⟩]) (.seq (.ops [ ⟨(some 18), (.loadN 2 (.t 3)), none⟩, ⟨(some 19), (.call (.f 13) [(.t 18)]), none⟩, ⟨(some 17), (.mov (.t 19)), none⟩, ⟨(some 20), (.ext (.t 17) 0), none⟩, ⟨(some 21), (.ext (.t 17) 1), none⟩, ⟨(some 7), (.mov (.t 20)), none⟩, ⟨(some 8), (.mov (.t 21)), none⟩]) (.seq (.seq (.ops [ ⟨(some 22), (.mov (.t 8)), none⟩, ⟨(some 23), (.bin .neq (.t 22) (.c (.int .i64 0))), none⟩]) (.cond (.t 23) (.seq (.ops [ ⟨(some 24), (.call (.f 11) []), none⟩, ⟨(some 6), (.mov (.t 24)), none⟩]) .ret) .skip)) (.seq (.ops [ ⟨(some 25), (.mov (.t 1)), none⟩, ⟨(some 26), (.fldA 1 (.t 3)), none⟩, ⟨(some 27), (.load1 (.t 26)), none⟩, ⟨(some 28), (.len (.t 27)), none⟩, ⟨(some 29), (.call (.f 14) [(.t 25), (.t 28)]), none⟩, ⟨(some 9), (.mov (.t 29)), none⟩]) (.seq (.ops [ ⟨(some 30), (.mov (.t 2)), none⟩, ⟨(some 31), (.fldA 1 (.t 3)), none⟩, ⟨(some 32), (.load1 (.t 31)), none⟩, ⟨(some 33), (.len (.t 32)), none⟩, ⟨(some 34), (.call (.f 14) [(.t 30), (.t 33)]), none⟩, ⟨(some 10), (.mov (.t 34)), none⟩]) (.seq (.seq (.drawE [ ⟨(some 35), (.loadN 2 (.t 3)), none⟩, ⟨(some 36), (.mov (.t 9)), none⟩, ⟨(some 37), (.mov (.t 10)), none⟩, ⟨(some 38), (.pcall (.f 15) [(.t 35), (.t 36), (.t 37)]), none⟩, ⟨(some 39), (.un .not (.t 38)), none⟩, ⟨(some 40), (.mov (.t 39)), none⟩, ⟨(some 41), (.fldA 1 (.t 3)), (some (40, false))⟩, ⟨(some 42), (.load1 (.t 41)), (some (40, false))⟩, ⟨(some 43), (.mov (.t 9)), (some (40, false))⟩, ⟨(some 44), (.idxS 7 (.t 42) (.t 43)), (some (40, false))⟩, ⟨(some 45), (.fldA 6 (.t 44)), (some (40, false))⟩, ⟨(some 46), (.load1 (.t 45)), (some (40, false))⟩, ⟨(some 47), (.fldA 1 (.t 3)), (some (40, false))⟩, ⟨(some 48), (.load1 (.t 47)), (some (40, false))⟩, ⟨(some 49), (.mov (.t 10)), (some (40, false))⟩, ⟨(some 50), (.idxS 7 (.t 48) (.t 49)), (some (40, false))⟩, ⟨(some 51), (.fldA 0 (.t 50)), (some (40, false))⟩, ⟨(some 52), (.load1 (.t 51)), (some (40, false))⟩, ⟨(some 53), (.pcall (.f 16) [(.t 46), (.t 52)]), (some (40, false))⟩, ⟨(some 54), (.pick (.t 40) (.c (.bool true)) (.t 53)), none⟩]) (.cond (.t 54) (.seq (.ops [ ⟨(some 55), (.call (.f 11) []), none⟩, ⟨(some 6), (.mov (.t 55)), none⟩]) .ret) .skip)) (.seq (.drawR [(⟨(some 56), (.fldA 0 (.t 3)), none⟩, ([], false)), (⟨(some 57), (.load1 (.t 56)), none⟩, ([], true)), (⟨(some 58), (.bslice 7 [(.str []), (.int .i64 0), (.str []), (.str []), (.int .i64 0), (.int .i64 0), .nsl] 0 []), none⟩, ([1], true)), (⟨(some 59), (.fldA 1 (.t 3)), none⟩, ([], false)), (⟨(some 60), (.load1 (.t 59)), none⟩, ([2], true)), (⟨(some 61), (.append 7 96 (.t 58) (.t 60)), none⟩, ([1], true)), (⟨(some 62), (.build [(.str []), .nsl] [(0, (1, (.t 57))), (1, (1, (.t 61)))]), none⟩, ([], false)), (⟨(some 11), (.alloc [(.str []), .nsl]), none⟩, ([1, 2, 4, 5], false)), (⟨none, (.store 2 (.t 11) (.t 62)), none⟩, ([], false))]) (.seq (.drawR [(⟨(some 63), (.fldA 1 (.t 11)), none⟩, ([], false)), (⟨(some 64), (.load1 (.t 63)), none⟩, ([], true)), (⟨(some 65), (.mov (.t 9)), none⟩, ([], false)), (⟨(some 66), (.bslice 1 [(.str [])] 0 []), none⟩, ([1], true)), (⟨(some 67), (.fldA 1 (.t 3)), none⟩, ([], false)), (⟨(some 68), (.load1 (.t 67)), none⟩, ([3], true)), (⟨(some 69), (.mov (.t 9)), none⟩, ([], false)), (⟨(some 70), (.idxS 7 (.t 68) (.t 69)), none⟩, ([3], true)), (⟨(some 71), (.fldA 6 (.t 70)), none⟩, ([], false)), (⟨(some 72), (.load1 (.t 71)), none⟩, ([3], true)), (⟨(some 73), (.append 1 16 (.t 66) (.t 72)), none⟩, ([1], true)), (⟨(some 74), (.fldA 1 (.t 3)), none⟩, ([], false)), (⟨(some 75), (.load1 (.t 74)), none⟩, ([3, 10], false)), (⟨(some 76), (.mov (.t 10)), none⟩, ([], false)), (⟨(some 77), (.idxS 7 (.t 75) (.t 76)), none⟩, ([3, 10], false)), (⟨(some 78), (.fldA 0 (.t 77)), none⟩, ([], false)), (⟨(some 79), (.load1 (.t 78)), none⟩, ([3, 10], false)), (⟨(some 80), (.bslice 1 [(.str [])] 1 [(0, (.t 79))]), none⟩, ([1, 3, 5, 7, 9, 10], false)), (⟨(some 81), (.append 1 16 (.t 73) (.t 80)), none⟩, ([1], false)), (⟨(some 82), (.idxS 7 (.t 64) (.t 65)), none⟩, ([], false)), (⟨(some 83), (.fldA 6 (.t 82)), none⟩, ([], false)), (⟨none, (.store 1 (.t 83) (.t 81)), none⟩, ([], false))]) x4c)))))))))
section
variable {E : Env}
/-- Two answers, and the blocks that go with them. -/
theorem xown2 {f : FuncId} {fn : Func} {t t' n : Nat} {c : XC} {args : List IV} {R : IV → List Blk → Prop} (hf : E.P.funcs[f]? = some fn) (hF : compFn E.P fn = some ⟨n, [.tmp t, .tmp t'], c⟩) (hnm : fn.name ≠ "runtime.NumGoroutine")
    (hargs : args.length ≤ fn.ntmps) (h : xrun E c (entry args) [] (doneK fun ρ L' => Leave 0 (.tup [ρ t, ρ t']) L' R)) : XT E f args [] R := by
  refine xt_of_fun hf hF hnm hargs (xrun_mono _ (fun e ρ L h => ?_) h)
  cases e with
  | normal => exact ⟨Or.inr rfl, h⟩
  | ret => exact ⟨Or.inl rfl, h⟩
  | exit => exact h.elim
  | goto => exact h.elim
theorem conv_tup {n : Nat} {L : List Blk} {m : Ren} {a a' : List IV} (h1 : mapO (conv L n m) a = some a') : conv L (n + 1) m (.tup a) = some (.tup a') := by
  simp only [conv, h1]; rfl
/-- One row more, of ours, behind a full list of ours. -/
theorem append_own1 {L : List Blk} {KV : IV → List Blk → Prop} {sz bytes s t n : Nat} {rows : List (List IV)} {row : List IV} (hs : L[s]? = some (.cells sz rows)) (ht : L[t]? = some (.cells sz [row])) (hn : rows.length = n) (hr : row.length = sz ∧ row.all isCell = true)
    (hb : (n + 1) * bytes ≤ 70368744177664) (hk : KV (.sl L.length 0 (n + 1) (n + 1)) (L.set s .dead ++ [.cells sz (rows ++ [row])])) :
    xop E (.append sz bytes (.c (.sl s 0 n n)) (.c (.sl t 0 1 1))) cev L KV := by
  subst hn
  show xappend sz bytes (.sl s 0 rows.length rows.length) (.sl t 0 1 1) L KV
  unfold xappend
  have hx : rowsOf L (.sl t 0 1 1) = some [row] := by simp [rowsOf, ht]
  rw [hx]
  show RowsC sz [row] ∧ _
  refine ⟨fun r hr' => by simp at hr'; subst hr'; exact hr, ?_⟩
  simp only [hs]
  refine ⟨trivial, by omega, ?_⟩
  rw [if_neg (by simp)]
  exact ⟨by simpa using hb, by simpa using hk⟩
def ordOk (d : DefD) : Bool := decide (d.order.length = d.nodes.length)
theorem order_own (hP : E.P = Tryd.prog) (d : DefD) (hd : d.nodes.length ≤ 1000000) (ha : ∀ n ∈ d.nodes, n.after.length ≤ 9223372036854775807) :
    XT E 17 [d.iv] [] fun r L1 => (d.order = [] ∧ r = .tup [.isl [], .bool (ordOk d)] ∧ L1 = []) ∨ (d.order ≠ [] ∧ r = .tup [.sl 0 0 d.order.length d.order.length, .bool (ordOk d)] ∧ L1 = [.cells 1 (intRows d.order)]) := by
  refine xown2 (n := Tryd.f17.ntmps) (c := x17) (t := 2) (t' := 3) (by rw [hP]; rfl) (by rw [hP]; kernel_rfl) (by decide) (Nat.le_of_ble_eq_true rfl) ?_
  generalize hρ : entry _ = ρ
  have h0 : ρ 0 = .agg [.str d.name, .isl (nodeRows d.nodes)] := by rw [← hρ]; rfl
  clear hρ
  unfold x17
  simp only [h0, go_sem, Nat.reduceEqDiff, reduceIte, Int.reduceEq, Int.reduceLT, Int.reduceLE, Nat.reduceAdd, Nat.reduceLT, Nat.reduceLeDiff, Int.reduceToNat, Int.reduceSub, Int.reduceAdd, Int.reduceNeg]
  refine xrun_mono (K := doneK fun ρ L' => (∃ told, OutOk 1 (ordBase d told) (intRows d.order) (ρ 2) L') ∧ ρ 3 = .bool (ordOk d)) _ (fun e ρ L h => ?_) ?_
  · have key : ((∃ told, OutOk 1 (ordBase d told) (intRows d.order) (ρ 2) L) ∧ ρ 3 = .bool (ordOk d)) → Leave 0 (.tup [ρ 2, ρ 3]) L fun r L1 => (d.order = [] ∧ r = .tup [.isl [], .bool (ordOk d)] ∧ L1 = []) ∨ (d.order ≠ [] ∧ r = .tup [.sl 0 0 d.order.length d.order.length, .bool (ordOk d)] ∧ L1 = [.cells 1 (intRows d.order)]) := by
      rintro ⟨⟨told, J', hJ', ⟨h1, h4⟩ | ⟨s, hs, hv, hL⟩⟩, h2⟩
      · have h5 : d.order = [] := by cases hh : d.order with
          | nil => rfl
          | cons a l => rw [hh] at h1; cases h1
        rw [h4, h2]
        exact leave_none rfl (.inl ⟨h5, rfl, rfl⟩)
      · rw [intRows_len] at hv
        rw [hv, h2]
        by_cases h5 : d.order = []
        · refine leave_none (r' := .tup [.isl [], .bool (ordOk d)]) (conv_tup (mapO_cons (conv_sl_free rfl hL (by rw [intRows_len]; omega) ?_) (mapO_cons rfl rfl))) (.inl ⟨h5, rfl, rfl⟩)
          rw [h5]; rfl
        refine leave_one (s := s) (r' := .tup [.sl 0 0 d.order.length d.order.length, .bool (ordOk d)]) (k := .cells 1 (intRows d.order)) (lt_of_get hL) ?_ ?_ (.inr ⟨h5, rfl, rfl⟩)
        · exact conv_tup (mapO_cons (conv_sl_own (n := 10) (show renLeave 0 [s] s = some (some 0) by simp [renLeave, pos])) (mapO_cons rfl rfl))
        · rw [List.getD_eq_getElem?_getD, hL]
          show (mapO (mapO (conv _ 12 _)) (intRows _)).map _ = _
          rw [mapO_ints]; rfl
    cases e with
    | normal => exact key h
    | ret => exact key h
    | exit => exact h.elim
    | goto => exact h.elim
  refine s_scope (ordInv d) (d.nodes.length + 1) ?_ (fun n ρ L h => ?_)
  · simp only [h0, nodeRows_len, List.length_replicate, boolRows_rep, go_sem, Nat.reduceEqDiff, reduceIte, Int.reduceEq, Int.reduceLT, Int.reduceLE, Nat.reduceAdd, Nat.reduceLT, Nat.reduceLeDiff, Int.reduceToNat, Int.reduceSub, Int.reduceAdd, Int.reduceNeg]
    refine ⟨by omega, by omega, by omega, ?_⟩
    refine order_round hP d hd ha _ _ _ ?_
    refine ⟨List.replicate d.nodes.length false, [], by simp, by simp, by rw [List.count_replicate]; rfl, by simp only [go_sem, Nat.reduceEqDiff, reduceIte, Int.reduceEq, Int.reduceLT, Int.reduceLE, Nat.reduceAdd, Nat.reduceLT, Nat.reduceLeDiff, Int.reduceToNat, Int.reduceSub, Int.reduceAdd, Int.reduceNeg], by simp only [go_sem, Nat.reduceEqDiff, reduceIte, Int.reduceEq, Int.reduceLT, Int.reduceLE, Nat.reduceAdd, Nat.reduceLT, Nat.reduceLeDiff, Int.reduceToNat, Int.reduceSub, Int.reduceAdd, Int.reduceNeg], ?_, rfl⟩
    try simp only [go_sem, Nat.reduceEqDiff, reduceIte, Int.reduceEq, Int.reduceLT, Int.reduceLE, Nat.reduceAdd, Nat.reduceLT, Nat.reduceLeDiff, Int.reduceToNat, Int.reduceSub, Int.reduceAdd, Int.reduceNeg]
    exact out_nil (p := ordBase d _) (J := [])
  · simp only [go_sem, Nat.reduceEqDiff, reduceIte, Int.reduceEq, Int.reduceLT, Int.reduceLE, Nat.reduceAdd, Nat.reduceLT, Nat.reduceLeDiff, Int.reduceToNat, Int.reduceSub, Int.reduceAdd, Int.reduceNeg]
    exact order_round hP d hd ha n ρ L h

theorem mapO_set {α β : Type} {f : α → Option β} : ∀ {l : List α} {l' : List β} {a : Nat} {x : α} {y : β}, mapO f l = some l' → f x = some y → mapO f (l.set a x) = some (l'.set a y)
  | [], l', a, x, y, h, _ => by simp only [mapO, Option.some.injEq] at h; subst h; rfl
  | z :: l, l', a, x, y, h, hx => by
    simp only [mapO] at h
    split at h
    · rename_i z' hz
      split at h
      · rename_i zs hzs
        simp only [Option.some.injEq] at h; subst h
        cases a with
        | zero => simp only [List.set_cons_zero, mapO, hx, hzs]
        | succ a => simp only [List.set_cons_succ, mapO, hz, mapO_set hzs hx]
      · cases h
    · cases h
/-- The node's row with a new list. -/
def rowWith (n : NodeD) (v : IV) : List IV := n.row.take 6 ++ [v] ++ n.row.drop 7
theorem freeze_inner : renFreeze.inner = renFreeze := rfl
theorem link_conv {c : DefD} {a b s k : Nat} {M : List Blk} (ha : a < c.nodes.length) (h2 : M[2]? = some (.cells 7 ((nodeRows c.nodes).set a (rowWith (c.nodes.getD a default) (.sl s 0 k k))))) (hs : M[s]? = some (.cells 1 (strRows (c.after a ++ [(c.nodes.getD b default).name])))) (hk : k = (c.after a).length + 1) :
    mapO (conv M fuel renFreeze) [.agg [.str c.name, .sl 2 0 c.nodes.length c.nodes.length]] = some [(c.link a b).iv] := by
  have hx : conv M 9 renFreeze.inner (.sl s 0 k k) = some (.isl (strRows (c.after a ++ [(c.nodes.getD b default).name]))) := by
    refine conv_sl_free rfl hs (by rw [strRows_len]; simp; omega) ?_
    rw [List.drop_zero, List.take_of_length_le (by rw [strRows_len]; simp; omega)]
    exact mapO_strs M 7 _ _
  refine mapO_cons (conv_agg (mapO_cons rfl (mapO_cons (conv_sl_free (n := 10) (rs := nodeRows (c.link a b).nodes) rfl h2 (by rw [List.length_set, nodeRows_len]; omega) ?_) rfl))) rfl
  rw [List.drop_zero, List.take_of_length_le (by rw [List.length_set, nodeRows_len]; omega)]
  have hr : mapO (conv M 10 renFreeze.inner) (rowWith (c.nodes.getD a default) (.sl s 0 k k)) = some { c.nodes.getD a default with after := c.after a ++ [(c.nodes.getD b default).name] : NodeD }.row := by
    refine mapO_cons rfl (mapO_cons rfl (mapO_cons rfl (mapO_cons rfl (mapO_cons rfl (mapO_cons rfl (mapO_cons ?_ rfl))))))
    refine conv_sl_free rfl hs (by rw [strRows_len]; simp; omega) ?_
    rw [List.drop_zero, List.take_of_length_le (by rw [strRows_len]; simp; omega)]
    exact mapO_strs M 8 _ _
  have := mapO_set (a := a) (mapO_nodes M 9 renFreeze.inner c.nodes) hr
  rw [this]
  simp [DefD.link, nodeRows, List.map_set]
theorem strRows_nil {l : List (List UInt8)} (h : strRows l = []) : l = [] := by
  cases l with
  | nil => rfl
  | cons a l => cases h
theorem link_mem {c : DefD} {a b : Nat} {n : NodeD} (h : n ∈ (c.link a b).nodes) : n ∈ c.nodes ∨ n = { c.nodes.getD a default with after := c.after a ++ [(c.nodes.getD b default).name] } := by
  exact List.mem_or_eq_of_mem_set h
theorem link_ok {c : DefD} (h : c.ok) {a b : Nat} (ha : a < c.nodes.length) (hb : b < c.nodes.length) (hl : (c.after a).length ≤ 1000) : (c.link a b).ok := by
  have hma : c.nodes.getD a default ∈ c.nodes := by rw [List.getD_eq_getElem?_getD, List.getElem?_eq_getElem ha]; exact List.getElem_mem _
  have hmb : c.nodes.getD b default ∈ c.nodes := by rw [List.getD_eq_getElem?_getD, List.getElem?_eq_getElem hb]; exact List.getElem_mem _
  refine ⟨h.1, fun n hn => ?_⟩
  rcases link_mem hn with hn | rfl
  · exact h.2 n hn
  · obtain ⟨h1, h2, h3, h4, h5⟩ := h.2 _ hma
    refine ⟨h1, h2, h3, by simp; omega, fun s hs => ?_⟩
    rcases List.mem_append.1 hs with hs | hs
    · exact h5 s hs
    · rw [List.mem_singleton] at hs; subst hs; exact (h.2 _ hmb).1
theorem link_after_len {c : DefD} (h : ∀ n ∈ c.nodes, n.after.length ≤ 10) {a b : Nat} (ha : a < c.nodes.length) : ∀ n ∈ (c.link a b).nodes, n.after.length ≤ 11 := by
  have hma : c.nodes.getD a default ∈ c.nodes := by rw [List.getD_eq_getElem?_getD, List.getElem?_eq_getElem ha]; exact List.getElem_mem _
  intro n hn
  rcases link_mem hn with hn | rfl
  · have := h n hn; omega
  · have h1 := h _ hma
    have : (c.after a).length ≤ 10 := h1
    simp; omega
theorem loops_tail (hP : E.P = Tryd.prog) {m : Int} (hm : E.gl 0 = some [.int .i64 m]) {c : DefD} {a b s k : Nat} {M : List Blk} {ρ : Rho} (hn : c.nodes.length ≤ 32) (hlok : (c.link a b).ok) (hlc : ∀ n ∈ (c.link a b).nodes, n.after.length ≤ 11) (hchk : (c.link a b).check = (-1, 15)) (hlt : (c.link a b).order.length < (c.link a b).nodes.length)
    (ha : a < c.nodes.length) (h2 : M[2]? = some (.cells 7 ((nodeRows c.nodes).set a (rowWith (c.nodes.getD a default) (.sl s 0 k k))))) (hs : M[s]? = some (.cells 1 (strRows (c.after a ++ [(c.nodes.getD b default).name])))) (hk : k = (c.after a).length + 1)
    (h3 : M[3]? = some (.cells 2 [[.str c.name, .sl 2 0 c.nodes.length c.nodes.length]])) (h11 : ρ 11 = .ptr 3 0 0) : xrun E x4c ρ M (doneK fun ρ L' => conv L' fuel renFreeze (ρ 6) = some (.bool true)) := by
  have hcv := link_conv ha h2 hs hk
  unfold x4c
  simp only [h11, h3, go_sem, Nat.reduceEqDiff, reduceIte, Int.reduceEq, Int.reduceLT, Int.reduceLE, Nat.reduceAdd, Nat.reduceLT, Nat.reduceLeDiff, Int.reduceToNat, Int.reduceSub, Int.reduceAdd, Int.reduceNeg]
  refine xcall_lend hcv (check_pure hP hm (c.link a b) (by rw [link_len]; omega) hlok) rfl rfl ?_
  simp only [h11, h3, hchk, go_sem, Nat.reduceEqDiff, reduceIte, Int.reduceEq, Int.reduceLT, Int.reduceLE, Nat.reduceAdd, Nat.reduceLT, Nat.reduceLeDiff, Int.reduceToNat, Int.reduceSub, Int.reduceAdd, Int.reduceNeg]
  refine xcall_lend_own hcv (order_own hP (c.link a b) (by rw [link_len]; omega) (fun n hn => by have := hlc n hn; omega)) ?_
  have hok0 : ordOk (c.link a b) = false := by simp [ordOk]; omega
  rintro r L1 (⟨he, rfl, rfl⟩ | ⟨he, rfl, rfl⟩)
  · refine ⟨rfl, rfl, _, _, rfl, rfl, ?_⟩
    have e1 : ((0 : Int) < (c.nodes.length : Int)) = True := by simp; omega
    simp only [h11, h3, hok0, List.append_nil, nodeRows_len, e1, go_sem, Nat.reduceEqDiff, reduceIte, Int.reduceEq, Int.reduceLT, Int.reduceLE, Nat.reduceAdd, Nat.reduceLT, Nat.reduceLeDiff, Int.reduceToNat, Int.reduceSub, Int.reduceAdd, Int.reduceNeg]
    refine xcall_pure (args' := []) rfl (wakes_pure hP) rfl ?_
    simp only [h11, h3, hok0, List.append_nil, nodeRows_len, e1, go_sem, Nat.reduceEqDiff, reduceIte, Int.reduceEq, Int.reduceLT, Int.reduceLE, Nat.reduceAdd, Nat.reduceLT, Nat.reduceLeDiff, Int.reduceToNat, Int.reduceSub, Int.reduceAdd, Int.reduceNeg]
    rfl
  · refine ⟨rfl, by simp only [List.all_cons, List.all_nil, Bool.and_true]; exact intRows_noTree _, .tup [.sl M.length 0 (c.link a b).order.length (c.link a b).order.length, .bool (ordOk (c.link a b))], [.cells 1 (intRows (c.link a b).order)], ?_, ?_, ?_⟩
    · exact conv_tup (mapO_cons (conv_sl_own (n := 10) (by simp [renShift])) (mapO_cons rfl rfl))
    · refine mapO_cons ?_ rfl
      show (mapO (mapO (conv _ 12 _)) (intRows _)).map _ = _
      rw [mapO_ints]; rfl
    have h3' : (M ++ [Blk.cells 1 (intRows (c.link a b).order)])[3]? = some (.cells 2 [[.str c.name, .sl 2 0 c.nodes.length c.nodes.length]]) := by
      rw [List.getElem?_append_left (lt_of_get h3)]; exact h3
    have e1 : (((c.link a b).order.length : Int) < (c.nodes.length : Int)) = True := by rw [link_len] at hlt; simp; omega
    simp only [h11, h3', hok0, List.append_nil, nodeRows_len, e1, go_sem, Nat.reduceEqDiff, reduceIte, Int.reduceEq, Int.reduceLT, Int.reduceLE, Nat.reduceAdd, Nat.reduceLT, Nat.reduceLeDiff, Int.reduceToNat, Int.reduceSub, Int.reduceAdd, Int.reduceNeg]
    refine xcall_pure (args' := []) rfl (wakes_pure hP) rfl ?_
    simp only [h11, h3', hok0, List.append_nil, nodeRows_len, e1, go_sem, Nat.reduceEqDiff, reduceIte, Int.reduceEq, Int.reduceLT, Int.reduceLE, Nat.reduceAdd, Nat.reduceLT, Nat.reduceLeDiff, Int.reduceToNat, Int.reduceSub, Int.reduceAdd, Int.reduceNeg]
    rfl

theorem loops_pure (hP : E.P = Tryd.prog) {m : Int} (hm : E.gl 0 = some [.int .i64 m]) (d : DefD) (from_ to_ : Int) (hd : d.nodes.length ≤ 9223372036854775807) (ha : ∀ n ∈ d.nodes, n.after.length ≤ 9223372036854775807) (hok : d.ok) : XPure E 4 [d.iv, .int .i64 from_, .int .i64 to_] (.bool true) := by
  refine xpure1 (n := Tryd.f4.ntmps) (c := x4) (t := 6) (by rw [hP]; rfl) (by rw [hP]; kernel_rfl) (by decide) (Nat.le_of_ble_eq_true rfl) ?_
  generalize hρ : entry _ = ρ
  have h0 : ρ 0 = .agg [.str d.name, .isl (nodeRows d.nodes)] := by rw [← hρ]; rfl
  have h1 : ρ 1 = .int .i64 from_ := by rw [← hρ]; rfl
  have h2 : ρ 2 = .int .i64 to_ := by rw [← hρ]; rfl
  clear hρ
  unfold x4
  simp only [h0, h1, h2, go_sem, Nat.reduceEqDiff, reduceIte, Int.reduceEq, Int.reduceLT, Int.reduceLE, Nat.reduceAdd, Nat.reduceLT, Nat.reduceLeDiff, Int.reduceToNat, Int.reduceSub, Int.reduceAdd, Int.reduceNeg]
  refine xcall_pure (args' := [d.iv]) rfl (cut_pure hP d hd ha) rfl ?_
  have hcl := cut_len d
  have hca : ∀ n ∈ d.cut.nodes, n.after.length ≤ 10 := fun n hn => cut_after hn
  have hco := cut_ok hok
  generalize d.cut = c at *
  simp only [h0, h1, h2, DefD.iv, go_sem, Nat.reduceEqDiff, reduceIte, Int.reduceEq, Int.reduceLT, Int.reduceLE, Nat.reduceAdd, Nat.reduceLT, Nat.reduceLeDiff, Int.reduceToNat, Int.reduceSub, Int.reduceAdd, Int.reduceNeg]
  refine xcall_pure (args' := [c.iv]) rfl (check_pure hP hm c (by omega) hco) rfl ?_
  simp only [h0, h1, h2, go_sem, Nat.reduceEqDiff, reduceIte, Int.reduceEq, Int.reduceLT, Int.reduceLE, Nat.reduceAdd, Nat.reduceLT, Nat.reduceLeDiff, Int.reduceToNat, Int.reduceSub, Int.reduceAdd, Int.reduceNeg]
  refine s_cond (b := !decide (c.check.2 = 0)) (by simp only [h0, h1, h2, go_sem, Nat.reduceEqDiff, reduceIte, Int.reduceEq, Int.reduceLT, Int.reduceLE, Nat.reduceAdd, Nat.reduceLT, Nat.reduceLeDiff, Int.reduceToNat, Int.reduceSub, Int.reduceAdd, Int.reduceNeg]; try rfl) ?_ ?_ <;> intro hb <;> simp only [hb, h0, h1, h2, go_sem, Nat.reduceEqDiff, reduceIte, Int.reduceEq, Int.reduceLT, Int.reduceLE, Nat.reduceAdd, Nat.reduceLT, Nat.reduceLeDiff, Int.reduceToNat, Int.reduceSub, Int.reduceAdd, Int.reduceNeg]
  · refine xcall_pure (args' := []) rfl (wakes_pure hP) rfl ?_
    try simp only [h0, go_sem, Nat.reduceEqDiff, reduceIte, Int.reduceEq, Int.reduceLT, Int.reduceLE, Nat.reduceAdd, Nat.reduceLT, Nat.reduceLeDiff, Int.reduceToNat, Int.reduceSub, Int.reduceAdd, Int.reduceNeg]
    rfl
  have hb0 : c.check.2 = 0 := by simpa using hb
  obtain ⟨ho, hn0, hn1, hc1, _, _⟩ := check_ok hb0
  simp only [h0, h1, h2, nodeRows_len, go_sem, Nat.reduceEqDiff, reduceIte, Int.reduceEq, Int.reduceLT, Int.reduceLE, Nat.reduceAdd, Nat.reduceLT, Nat.reduceLeDiff, Int.reduceToNat, Int.reduceSub, Int.reduceAdd, Int.reduceNeg]
  refine xcall_pure (args' := [.int .i64 from_, .int .i64 c.nodes.length]) rfl (within_pure hP from_ c.nodes.length (by omega) (by omega)) rfl ?_
  simp only [h0, h1, h2, nodeRows_len, go_sem, Nat.reduceEqDiff, reduceIte, Int.reduceEq, Int.reduceLT, Int.reduceLE, Nat.reduceAdd, Nat.reduceLT, Nat.reduceLeDiff, Int.reduceToNat, Int.reduceSub, Int.reduceAdd, Int.reduceNeg]
  refine xcall_pure (args' := [.int .i64 to_, .int .i64 c.nodes.length]) rfl (within_pure hP to_ c.nodes.length (by omega) (by omega)) rfl ?_
  obtain ⟨a, ha', hal⟩ : ∃ a : Nat, from_ % (c.nodes.length : Int) = (a : Int) ∧ a < c.nodes.length :=
    ⟨(from_ % (c.nodes.length : Int)).toNat, by rw [Int.toNat_of_nonneg (Int.emod_nonneg _ (by omega))], by have := Int.emod_lt_of_pos from_ (b := (c.nodes.length : Int)) (by omega); have := Int.emod_nonneg from_ (b := (c.nodes.length : Int)) (by omega); omega⟩
  obtain ⟨b, hb', hbl⟩ : ∃ b : Nat, to_ % (c.nodes.length : Int) = (b : Int) ∧ b < c.nodes.length :=
    ⟨(to_ % (c.nodes.length : Int)).toNat, by rw [Int.toNat_of_nonneg (Int.emod_nonneg _ (by omega))], by have := Int.emod_lt_of_pos to_ (b := (c.nodes.length : Int)) (by omega); have := Int.emod_nonneg to_ (b := (c.nodes.length : Int)) (by omega); omega⟩
  rw [ha', hb']
  simp only [h0, nodeRows_len, go_sem, Nat.reduceEqDiff, reduceIte, Int.reduceEq, Int.reduceLT, Int.reduceLE, Nat.reduceAdd, Nat.reduceLT, Nat.reduceLeDiff, Int.reduceToNat, Int.reduceSub, Int.reduceAdd, Int.reduceNeg]
  refine o_pcall (args' := [c.iv, .int .i64 (a : Nat), .int .i64 (b : Nat)]) rfl (leads_pure hP c a b (by omega) hal hbl (fun n hn => by have := hca n hn; omega)) (fun m => rfl) ?_
  simp only [h0, nodeRows_len, go_sem, Nat.reduceEqDiff, reduceIte, Int.reduceEq, Int.reduceLT, Int.reduceLE, Nat.reduceAdd, Nat.reduceLT, Nat.reduceLeDiff, Int.reduceToNat, Int.reduceSub, Int.reduceAdd, Int.reduceNeg]
  refine xops_forget (fun ρ => ρ 3 = .ptr 0 0 0 ∧ ρ 9 = .int .i64 (a : Nat) ∧ ρ 10 = .int .i64 (b : Nat) ∧ ρ 40 = .bool (!c.leads a b)) ⟨by simp only [go_sem, Nat.reduceEqDiff, reduceIte, Int.reduceEq, Int.reduceLT, Int.reduceLE, Nat.reduceAdd, Nat.reduceLT, Nat.reduceLeDiff, Int.reduceToNat, Int.reduceSub, Int.reduceAdd, Int.reduceNeg]; try rfl, by simp only [go_sem, Nat.reduceEqDiff, reduceIte, Int.reduceEq, Int.reduceLT, Int.reduceLE, Nat.reduceAdd, Nat.reduceLT, Nat.reduceLeDiff, Int.reduceToNat, Int.reduceSub, Int.reduceAdd, Int.reduceNeg]; try rfl, by simp only [go_sem, Nat.reduceEqDiff, reduceIte, Int.reduceEq, Int.reduceLT, Int.reduceLE, Nat.reduceAdd, Nat.reduceLT, Nat.reduceLeDiff, Int.reduceToNat, Int.reduceSub, Int.reduceAdd, Int.reduceNeg]; try rfl, by simp only [go_sem, Nat.reduceEqDiff, reduceIte, Int.reduceEq, Int.reduceLT, Int.reduceLE, Nat.reduceAdd, Nat.reduceLT, Nat.reduceLeDiff, Int.reduceToNat, Int.reduceSub, Int.reduceAdd, Int.reduceNeg]; try rfl⟩ ?_; clear h0 h1 h2 ρ; rintro ρ ⟨h3, h9, h10, h40⟩
  have hrowa := nodeRows_get hal
  have hrowb := nodeRows_get hbl
  have hma : c.nodes.getD a default ∈ c.nodes := by rw [List.getD_eq_getElem?_getD, List.getElem?_eq_getElem hal]; exact List.getElem_mem _
  have hafl : (c.after a).length ≤ 10 := hca _ hma
  have hna : (c.nodes.getD a default).row.getD 6 .und = .isl (strRows (c.after a)) := rfl
  have hnb : (c.nodes.getD b default).row.getD 0 .und = .str (c.nodes.getD b default).name := rfl
  refine s_mg (by simp only [h3, h9, h10, h40, nodeRows_len, rows_nodes, hrowa, hrowb, go_sem, Nat.reduceEqDiff, reduceIte, Int.reduceEq, Int.reduceLT, Int.reduceLE, Nat.reduceAdd, Nat.reduceLT, Nat.reduceLeDiff, Int.reduceToNat, Int.reduceSub, Int.reduceAdd, Int.reduceNeg]; try rfl) ?_; simp only [cut_g, cut_t, cut_none, cut_out, memN_cons, memN_nil, Nat.reduceEqDiff, reduceIte, List.nil_append, List.cons_append, not_false_eq_true]; refine ex_merge rfl (by simp only [h3, h9, h10, h40, nodeRows_len, rows_nodes, hrowa, hrowb, go_sem, Nat.reduceEqDiff, reduceIte, Int.reduceEq, Int.reduceLT, Int.reduceLE, Nat.reduceAdd, Nat.reduceLT, Nat.reduceLeDiff, Int.reduceToNat, Int.reduceSub, Int.reduceAdd, Int.reduceNeg]) (by intro hb; simp only [hb, h3, h9, h10, h40, nodeRows_len, rows_nodes, hrowa, hrowb, go_sem, Nat.reduceEqDiff, reduceIte, Int.reduceEq, Int.reduceLT, Int.reduceLE, Nat.reduceAdd, Nat.reduceLT, Nat.reduceLeDiff, Int.reduceToNat, Int.reduceSub, Int.reduceAdd, Int.reduceNeg]; refine ⟨by omega, hal, by show 6 < 7; decide, by omega, hbl, by show 0 < 7; decide, ?_⟩; rw [hna, hnb]; refine o_pcall (args' := [.isl (strRows (c.after a)), .str (c.nodes.getD b default).name]) rfl (among_pure hP _ _ (by omega)) (fun m => rfl) ?_; (try simp only [h3, h9, h10, h40, go_sem, Nat.reduceEqDiff, reduceIte, Int.reduceEq, Int.reduceLT, Int.reduceLE, Nat.reduceAdd, Nat.reduceLT, Nat.reduceLeDiff, Int.reduceToNat, Int.reduceSub, Int.reduceAdd, Int.reduceNeg]); (try simp only [hb, h3, h9, h10, h40, nodeRows_len, rows_nodes, hrowa, hrowb, go_sem, Nat.reduceEqDiff, reduceIte, Int.reduceEq, Int.reduceLT, Int.reduceLE, Nat.reduceAdd, Nat.reduceLT, Nat.reduceLeDiff, Int.reduceToNat, Int.reduceSub, Int.reduceAdd, Int.reduceNeg]); first | exact rfl | exact ⟨rfl, rfl⟩) (fun vs => ?_); simp only [h3, h9, h10, h40, nodeRows_len, rows_nodes, hrowa, hrowb, go_sem, Nat.reduceEqDiff, reduceIte, Int.reduceEq, Int.reduceLT, Int.reduceLE, Nat.reduceAdd, Nat.reduceLT, Nat.reduceLeDiff, Int.reduceToNat, Int.reduceSub, Int.reduceAdd, Int.reduceNeg]
  refine s_cond (b := !c.leads a b || decide ((c.nodes.getD b default).name ∈ c.after a)) (by simp only [h3, h9, h10, h40, go_sem, Nat.reduceEqDiff, reduceIte, Int.reduceEq, Int.reduceLT, Int.reduceLE, Nat.reduceAdd, Nat.reduceLT, Nat.reduceLeDiff, Int.reduceToNat, Int.reduceSub, Int.reduceAdd, Int.reduceNeg]; try rfl) ?_ ?_ <;> intro hc <;> simp only [hc, h3, h9, h10, h40, go_sem, Nat.reduceEqDiff, reduceIte, Int.reduceEq, Int.reduceLT, Int.reduceLE, Nat.reduceAdd, Nat.reduceLT, Nat.reduceLeDiff, Int.reduceToNat, Int.reduceSub, Int.reduceAdd, Int.reduceNeg]
  · refine xcall_pure (args' := []) rfl (wakes_pure hP) rfl ?_
    try simp only [h0, go_sem, Nat.reduceEqDiff, reduceIte, Int.reduceEq, Int.reduceLT, Int.reduceLE, Nat.reduceAdd, Nat.reduceLT, Nat.reduceLeDiff, Int.reduceToNat, Int.reduceSub, Int.reduceAdd, Int.reduceNeg]
    rfl
  simp only [Bool.or_eq_false_iff, Bool.not_eq_false', decide_eq_false_iff_not] at hc
  have hbeh := leads_behind hc.1
  have hchk := link_check hb0 hal hbl hbeh hc.2
  have hlt := link_order hb0 hal hbl hbeh
  have hne : nodeRows c.nodes ≠ [] := by
    intro h
    have := congrArg List.length h
    rw [nodeRows_len] at this
    simp only [List.length_nil] at this; omega
  have hrc : RowsC 7 (nodeRows c.nodes) := fun row hr => by
    obtain ⟨n, _, rfl⟩ := List.mem_map.1 hr
    exact ⟨rfl, rfl⟩
  refine append_all rfl hrc (by rw [nodeRows_len]; have := hn1; omega) (fun h => absurd h hne) (fun _ => ?_)
  simp only [h3, h9, h10, nodeRows_len, rows_nodes, hrowa, hna, go_sem, Nat.reduceEqDiff, reduceIte, Int.reduceEq, Int.reduceLT, Int.reduceLE, Nat.reduceAdd, Nat.reduceLT, Nat.reduceLeDiff, Int.reduceToNat, Int.reduceSub, Int.reduceAdd, Int.reduceNeg]
  refine ⟨by omega, hal, by show 6 < 7; decide, ?_⟩
  have hlok : (c.link a b).ok := link_ok hco hal hbl (by omega)
  have hlc : ∀ n ∈ (c.link a b).nodes, n.after.length ≤ 11 := link_after_len hca hal
  have hrs : RowsC 1 (strRows (c.after a)) := fun row hr => by
    obtain ⟨t, _, rfl⟩ := List.mem_map.1 hr
    exact ⟨rfl, rfl⟩
  by_cases haf : c.after a = []
  · refine append_all rfl (by rw [haf]; intro r hr; cases hr) (by rw [haf]; simp [strRows]) (fun _ => ?_) (fun h => absurd (by rw [haf]; rfl) h)
    simp only [h3, h9, h10, nodeRows_len, rows_nodes, hrowa, hna, hrowb, hnb, go_sem, Nat.reduceEqDiff, reduceIte, Int.reduceEq, Int.reduceLT, Int.reduceLE, Nat.reduceAdd, Nat.reduceLT, Nat.reduceLeDiff, Int.reduceToNat, Int.reduceSub, Int.reduceAdd, Int.reduceNeg]
    refine ⟨by omega, hbl, by show 0 < 7; decide, ?_⟩
    refine append_own1 rfl rfl rfl ⟨rfl, rfl⟩ (by decide) ?_
    simp only [h3, h9, h10, nodeRows_len, rows_nodes, hrowa, hrowb, hnb, List.getD_nil, go_sem, Nat.reduceEqDiff, reduceIte, Int.reduceEq, Int.reduceLT, Int.reduceLE, Nat.reduceAdd, Nat.reduceLT, Nat.reduceLeDiff, Int.reduceToNat, Int.reduceSub, Int.reduceAdd, Int.reduceNeg]
    refine ⟨by omega, hal, by show 7 ≤ 7; decide, ?_⟩
    refine loops_tail hP hm hn1 hlok hlc hchk hlt hal (s := 6) (k := 1) rfl (by rw [haf]; rfl) (by rw [haf]; rfl) rfl ?_
    simp only [go_sem, Nat.reduceEqDiff, reduceIte, Int.reduceEq, Int.reduceLT, Int.reduceLE, Nat.reduceAdd, Nat.reduceLT, Nat.reduceLeDiff, Int.reduceToNat, Int.reduceSub, Int.reduceAdd, Int.reduceNeg]
  · refine append_all rfl hrs (by rw [strRows_len]; omega) (fun h => absurd (strRows_nil h) haf) (fun _ => ?_)
    simp only [h3, h9, h10, nodeRows_len, rows_nodes, hrowa, hna, hrowb, hnb, go_sem, Nat.reduceEqDiff, reduceIte, Int.reduceEq, Int.reduceLT, Int.reduceLE, Nat.reduceAdd, Nat.reduceLT, Nat.reduceLeDiff, Int.reduceToNat, Int.reduceSub, Int.reduceAdd, Int.reduceNeg]
    refine ⟨by omega, hbl, by show 0 < 7; decide, ?_⟩
    refine append_own1 rfl rfl rfl ⟨rfl, rfl⟩ (by rw [strRows_len]; omega) ?_
    simp only [h3, h9, h10, nodeRows_len, rows_nodes, hrowa, hrowb, hnb, go_sem, Nat.reduceEqDiff, reduceIte, Int.reduceEq, Int.reduceLT, Int.reduceLE, Nat.reduceAdd, Nat.reduceLT, Nat.reduceLeDiff, Int.reduceToNat, Int.reduceSub, Int.reduceAdd, Int.reduceNeg]
    refine ⟨by omega, hal, by show 7 ≤ 7; decide, ?_⟩
    refine loops_tail hP hm hn1 hlok hlc hchk hlt hal (s := 7) (k := (c.after a).length + 1) ?_ ?_ rfl rfl ?_
    · rw [strRows_len]; rfl
    · show some (Blk.cells 1 (strRows (c.after a) ++ [[.str (c.nodes.getD b default).name]])) = _
      simp [strRows]
    · simp only [go_sem, Nat.reduceEqDiff, reduceIte, Int.reduceEq, Int.reduceLT, Int.reduceLE, Nat.reduceAdd, Nat.reduceLT, Nat.reduceLeDiff, Int.reduceToNat, Int.reduceSub, Int.reduceAdd, Int.reduceNeg]
end
end Go.X.TrydW
end
section
open Go Go.X Go.Proofs
set_option maxRecDepth 100000
set_option maxHeartbeats 4000000
set_option linter.unusedSimpArgs false
set_option linter.unusedVariables false
namespace Go.X.TrydW
def x5c : XC :=
 (.seq (.ops [ ⟨(some 61), (.loadN 2 (.t 5)), none⟩, ⟨(some 62), (.call (.f 17) [(.t 61)]), none⟩, ⟨(some 60), (.mov (.t 62)), none⟩, ⟨(some 63), (.ext (.t 60) 0), none⟩, ⟨(some 64), (.ext (.t 60) 1), none⟩, ⟨(some 8), (.mov (.t 63)), none⟩, ⟨(some 9), (.mov (.t 64)), none⟩]) (.seq (.ops [ ⟨(some 66), (.loadN 2 (.t 5)), none⟩, ⟨(some 67), (.call (.f 13) [(.t 66)]), none⟩, ⟨(some 65), (.mov (.t 67)), none⟩, ⟨(some 68), (.ext (.t 65) 0), none⟩, ⟨(some 69), (.ext (.t 65) 1), none⟩, ⟨(some 4), (.mov (.t 69)), none⟩]) (.seq (.drawE [ ⟨(some 70), (.mov (.t 4)), none⟩, ⟨(some 71), (.bin .eql (.t 70) (.c (.int .i64 0))), none⟩, ⟨(some 72), (.mov (.t 71)), none⟩, ⟨(some 73), (.mov (.t 9)), (some (72, true))⟩, ⟨(some 74), (.pick (.t 72) (.t 73) (.c (.bool false))), none⟩, ⟨(some 75), (.mov (.t 74)), none⟩, ⟨(some 76), (.mov (.t 8)), (some (75, true))⟩, ⟨(some 77), (.len (.t 76)), (some (75, true))⟩, ⟨(some 78), (.fldA 1 (.t 5)), (some (75, true))⟩, ⟨(some 79), (.load1 (.t 78)), (some (75, true))⟩, ⟨(some 80), (.len (.t 79)), (some (75, true))⟩, ⟨(some 81), (.bin .eql (.t 77) (.t 80)), (some (75, true))⟩, ⟨(some 82), (.pick (.t 75) (.t 81) (.c (.bool false))), none⟩, ⟨(some 83), (.mov (.t 82)), none⟩, ⟨(some 84), (.mov (.t 8)), (some (83, true))⟩, ⟨(some 85), (.mov (.t 8)), (some (83, true))⟩, ⟨(some 86), (.len (.t 85)), (some (83, true))⟩, ⟨(some 87), (.bin .sub (.t 86) (.c (.int .i64 1))), (some (83, true))⟩, ⟨(some 88), (.idxS 1 (.t 84) (.t 87)), (some (83, true))⟩, ⟨(some 89), (.load1 (.t 88)), (some (83, true))⟩, ⟨(some 90), (.fldA 1 (.t 1)), (some (83, true))⟩, ⟨(some 91), (.load1 (.t 90)), (some (83, true))⟩, ⟨(some 92), (.len (.t 91)), (some (83, true))⟩, ⟨(some 93), (.bin .eql (.t 89) (.t 92)), (some (83, true))⟩, ⟨(some 94), (.pick (.t 83) (.t 93) (.c (.bool false))), none⟩, ⟨(some 95), (.mov (.t 94)), none⟩, ⟨(some 96), (.loadN 2 (.t 5)), (some (95, true))⟩, ⟨(some 97), (.pcall (.f 19) [(.t 96)]), (some (95, true))⟩, ⟨(some 98), (.loadN 2 (.t 1)), (some (95, true))⟩, ⟨(some 99), (.pcall (.f 19) [(.t 98)]), (some (95, true))⟩, ⟨(some 100), (.bin .add (.t 99) (.c (.int .i64 1))), (some (95, true))⟩, ⟨(some 101), (.bin .eql (.t 97) (.t 100)), (some (95, true))⟩, ⟨(some 102), (.pick (.t 95) (.t 101) (.c (.bool false))), none⟩, ⟨(some 103), (.mov (.t 102)), none⟩, ⟨(some 104), (.pcall (.f 11) []), (some (103, true))⟩, ⟨(some 105), (.pick (.t 103) (.t 104) (.c (.bool false))), none⟩, ⟨(some 2), (.mov (.t 105)), none⟩]) .ret)))
def x5b : XC :=
 (.seq (.ops [ ⟨(some 54), (.fldA 1 (.t 5)), none⟩, ⟨(some 55), (.load1 (.t 54)), none⟩, ⟨(some 56), (.loadN 7 (.t 6)), none⟩, ⟨(some 57), (.bslice 7 [(.str []), (.int .i64 0), (.str []), (.str []), (.int .i64 0), (.int .i64 0), .nsl] 1 [(0, (.t 56))]), none⟩, ⟨(some 58), (.append 7 96 (.t 55) (.t 57)), none⟩, ⟨(some 59), (.fldA 1 (.t 5)), none⟩, ⟨none, (.store 1 (.t 59) (.t 58)), none⟩]) x5c)
/- "tiller/tillerlaw08.DagGrows" params { toList := [28] } results { toList := [Go.ResultVar.tmp 2] } -/
def x5 : XC :=
 (.seq (.ops [ ⟨(some 1), (.box (.t 0)), none⟩, ⟨(some 2), (.mov (.c (.bool false))), none⟩]) (.seq (.ops [ ⟨(some 10), (.loadN 2 (.t 1)), none⟩, ⟨(some 11), (.call (.f 12) [(.t 10)]), none⟩, ⟨none, (.store 2 (.t 1) (.t 11)), none⟩]) (.seq (.ops [ ⟨(some 13), (.loadN 2 (.t 1)), none⟩, ⟨(some 14), (.call (.f 13) [(.t 13)]), none⟩, ⟨(some 12), (.mov (.t 14)), none⟩, ⟨(some 15), (.ext (.t 12) 0), none⟩, ⟨(some 16), (.ext (.t 12) 1), none⟩, ⟨(some 3), (.mov (.t 15)), none⟩, ⟨(some 4), (.mov (.t 16)), none⟩]) (.seq (.seq (.ops [ ⟨(some 17), (.mov (.t 4)), none⟩, ⟨(some 18), (.bin .neq (.t 17) (.c (.int .i64 0))), none⟩, ⟨(some 19), (.mov (.t 18)), none⟩, ⟨(some 20), (.fldA 1 (.t 1)), (some (19, false))⟩, ⟨(some 21), (.load1 (.t 20)), (some (19, false))⟩, ⟨(some 22), (.len (.t 21)), (some (19, false))⟩, ⟨(some 23), (.bin .gtr (.t 22) (.c (.int .i64 9))), (some (19, false))⟩, ⟨(some 24), (.pick (.t 19) (.c (.bool true)) (.t 23)), none⟩]) (.cond (.t 24) (.seq (.ops [ ⟨(some 25), (.call (.f 11) []), none⟩, ⟨(some 2), (.mov (.t 25)), none⟩]) .ret) .skip)) (.seq (.drawR [(⟨(some 26), (.fldA 0 (.t 1)), none⟩, ([], false)), (⟨(some 27), (.load1 (.t 26)), none⟩, ([], true)), (⟨(some 28), (.bslice 7 [(.str []), (.int .i64 0), (.str []), (.str []), (.int .i64 0), (.int .i64 0), .nsl] 0 []), none⟩, ([1], true)), (⟨(some 29), (.fldA 1 (.t 1)), none⟩, ([], false)), (⟨(some 30), (.load1 (.t 29)), none⟩, ([2], true)), (⟨(some 31), (.append 7 96 (.t 28) (.t 30)), none⟩, ([1], true)), (⟨(some 32), (.build [(.str []), .nsl] [(0, (1, (.t 27))), (1, (1, (.t 31)))]), none⟩, ([], false)), (⟨(some 5), (.alloc [(.str []), .nsl]), none⟩, ([1, 2, 4, 5], false)), (⟨none, (.store 2 (.t 5) (.t 32)), none⟩, ([], false))]) (.seq (.ops [ ⟨(some 33), (.loadN 2 (.t 1)), none⟩, ⟨(some 34), (.call (.f 18) [(.t 33)]), none⟩, ⟨(some 35), (.build [(.str []), (.int .i64 0), (.str []), (.str []), (.int .i64 0), (.int .i64 0), .nsl] [(0, (1, (.t 34))), (1, (1, (.c (.int .i64 4)))), (2, (1, (.c (.str [115]))))]), none⟩, ⟨(some 6), (.alloc [(.str []), (.int .i64 0), (.str []), (.str []), (.int .i64 0), (.int .i64 0), .nsl]), none⟩, ⟨none, (.store 7 (.t 6) (.t 35)), none⟩]) (.seq (.seq (.ops [ ⟨(some 7), (.mov (.c (.int .i64 0))), none⟩]) (.block 0 (.loop (.seq (.seq (.ops [ ⟨(some 36), (.mov (.t 7)), none⟩, ⟨(some 37), (.fldA 1 (.t 1)), none⟩, ⟨(some 38), (.load1 (.t 37)), none⟩, ⟨(some 39), (.len (.t 38)), none⟩, ⟨(some 40), (.bin .lss (.t 36) (.t 39)), none⟩]) (.cond (.t 40) .skip (.exit 0))) (.seq (.block 1 (.drawR [(⟨(some 43), (.fldA 6 (.t 6)), none⟩, ([], false)), (⟨(some 44), (.load1 (.t 43)), none⟩, ([], true)), (⟨(some 45), (.fldA 1 (.t 1)), none⟩, ([], false)), (⟨(some 46), (.load1 (.t 45)), none⟩, ([], false)), (⟨(some 47), (.mov (.t 7)), none⟩, ([], false)), (⟨(some 48), (.idxS 7 (.t 46) (.t 47)), none⟩, ([], false)), (⟨(some 49), (.fldA 0 (.t 48)), none⟩, ([], false)), (⟨(some 50), (.load1 (.t 49)), none⟩, ([], false)), (⟨(some 51), (.bslice 1 [(.str [])] 1 [(0, (.t 50))]), none⟩, ([1], false)), (⟨(some 52), (.append 1 16 (.t 44) (.t 51)), none⟩, ([], false)), (⟨(some 53), (.fldA 6 (.t 6)), none⟩, ([], false)), (⟨none, (.store 1 (.t 53) (.t 52)), none⟩, ([], false))])) (.ops [ ⟨(some 41), (.mov (.t 7)), none⟩, ⟨(some 42), (.bin .add (.t 41) (.c (.int .i64 1))), none⟩, ⟨(some 7), (.mov (.t 42)), none⟩])))))) x5b)))))))
section
variable {E : Env}
/-- The new node's row. -/
def newRow (z : List UInt8) (v : IV) : List IV := [.str z, .int .i64 4, .str [115], .str [], .int .i64 0, .int .i64 0, v]
theorem zs_named (n : Nat) (h : n ≤ 9) : namedS (zs n) false 64 = true := by
  have : ∀ n : Fin 10, namedS (zs n.val) false 64 = true := by decide +kernel
  exact this ⟨n, by omega⟩
theorem mapO_append {α β : Type} {f : α → Option β} : ∀ {l m : List α} {l' m' : List β}, mapO f l = some l' → mapO f m = some m' → mapO f (l ++ m) = some (l' ++ m')
  | [], m, l', m', h1, h2 => by simp only [mapO, Option.some.injEq] at h1; subst h1; exact h2
  | x :: l, m, l', m', h1, h2 => by
    simp only [mapO] at h1
    split at h1
    · rename_i y hy
      split at h1
      · rename_i ys hys
        simp only [Option.some.injEq] at h1; subst h1
        simp only [List.cons_append, mapO, hy, mapO_append hys h2]
      · cases h1
    · cases h1
theorem grow_conv {c : DefD} {z : List UInt8} {s k : Nat} {M : List Blk} (hk : M[k]? = some (.cells 7 (nodeRows c.nodes ++ [newRow z (.sl s 0 c.nodes.length c.nodes.length)]))) (hs : M[s]? = some (.cells 1 (strRows (c.nodes.map (·.name))))) :
    mapO (conv M fuel renFreeze) [.agg [.str c.name, .sl k 0 (c.nodes.length + 1) (c.nodes.length + 1)]] = some [(c.grow z).iv] := by
  refine mapO_cons (conv_agg (mapO_cons rfl (mapO_cons (conv_sl_free (n := 10) (rs := nodeRows (c.grow z).nodes) rfl hk (by simp [nodeRows_len]) ?_) rfl))) rfl
  rw [List.drop_zero, List.take_of_length_le (by simp [nodeRows_len])]
  have hr : mapO (conv M 10 renFreeze.inner) (newRow z (.sl s 0 c.nodes.length c.nodes.length)) = some (c.last z).row := by
    refine mapO_cons rfl (mapO_cons rfl (mapO_cons rfl (mapO_cons rfl (mapO_cons rfl (mapO_cons rfl (mapO_cons ?_ rfl))))))
    refine conv_sl_free rfl hs (by rw [strRows_len]; simp) ?_
    rw [List.drop_zero, List.take_of_length_le (by rw [strRows_len]; simp)]
    exact mapO_strs M 8 _ _
  have := mapO_append (mapO_nodes M 9 renFreeze.inner c.nodes) (mapO_cons (r := []) (ys := []) hr rfl)
  rw [this]
  simp [DefD.grow, nodeRows]
theorem grow_ok {c : DefD} (h : c.ok) {z : List UInt8} (hz : z.length ≤ 100) (hl : c.nodes.length ≤ 1000) : (c.grow z).ok := by
  refine ⟨h.1, fun n hn => ?_⟩
  rcases List.mem_append.1 hn with hn | hn
  · exact h.2 n hn
  · rw [List.mem_singleton] at hn; subst hn
    refine ⟨by show z.length ≤ _; omega, by show ([115] : List UInt8).length ≤ _; decide, by show ([] : List UInt8).length ≤ _; decide, by simp [DefD.last]; omega, fun s hs => ?_⟩
    obtain ⟨n, hn, rfl⟩ := List.mem_map.1 hs
    exact (h.2 n hn).1
theorem grow_after_len {c : DefD} (h : ∀ n ∈ c.nodes, n.after.length ≤ 10) {z : List UInt8} (hl : c.nodes.length ≤ 9) : ∀ n ∈ (c.grow z).nodes, n.after.length ≤ 11 := by
  intro n hn
  rcases List.mem_append.1 hn with hn | hn
  · have := h n hn; omega
  · rw [List.mem_singleton] at hn; subst hn; simp [DefD.last]; omega

theorem grows_tail (hP : E.P = Tryd.prog) {m : Int} (hm : E.gl 0 = some [.int .i64 m]) {c : DefD} {z : List UInt8} {s k : Nat} {M : List Blk} {ρ : Rho} (hn : c.nodes.length ≤ 9) (hc0 : c.check.2 = 0) (hz : c.find z = none) (hnz : namedS z false 64 = true) (hzl : z.length ≤ 100)
    (hco : c.ok) (hca : ∀ n ∈ c.nodes, n.after.length ≤ 10) (h0 : M[0]? = some (.cells 2 [[.str c.name, .isl (nodeRows c.nodes)]]))
    (hk : M[k]? = some (.cells 7 (nodeRows c.nodes ++ [newRow z (.sl s 0 c.nodes.length c.nodes.length)]))) (hs : M[s]? = some (.cells 1 (strRows (c.nodes.map (·.name)))))
    (h3 : M[3]? = some (.cells 2 [[.str c.name, .sl k 0 (c.nodes.length + 1) (c.nodes.length + 1)]])) (h1 : ρ 1 = .ptr 0 0 0) (h5 : ρ 5 = .ptr 3 0 0) : xrun E x5c ρ M (doneK fun ρ L' => conv L' fuel renFreeze (ρ 2) = some (.bool true)) := by
  have hcv := grow_conv hk hs
  have hgo := grow_ok hco hzl (by omega : c.nodes.length ≤ 1000)
  have hgl := grow_after_len hca (z := z) hn
  obtain ⟨ho, hn0, hn1, _, _, _⟩ := check_ok hc0
  have hord : (c.grow z).order = c.order ++ [c.nodes.length] := grow_order hc0 z
  have hdep : (c.grow z).depth = c.depth + 1 := grow_depth hc0 z
  have hchk : (c.grow z).check = (-1, 0) := grow_check hc0 hn hz hnz
  unfold x5c
  simp only [h1, h5, h3, go_sem, Nat.reduceEqDiff, reduceIte, Int.reduceEq, Int.reduceLT, Int.reduceLE, Nat.reduceAdd, Nat.reduceLT, Nat.reduceLeDiff, Int.reduceToNat, Int.reduceSub, Int.reduceAdd, Int.reduceNeg]
  refine xcall_lend_own hcv (order_own hP (c.grow z) (by rw [grow_len]; omega) (fun n hn => by have := hgl n hn; omega)) ?_
  have hok0 : ordOk (c.grow z) = true := by simp [ordOk, hord, grow_len, ho]
  rintro r L1 (⟨he, rfl, rfl⟩ | ⟨he, rfl, rfl⟩)
  · rw [hord] at he; simp at he
  have hol : (c.grow z).order.length = c.nodes.length + 1 := by rw [hord]; simp [ho]
  rw [hol]
  refine ⟨rfl, by simp only [List.all_cons, List.all_nil, Bool.and_true]; exact intRows_noTree _, .tup [.sl M.length 0 (c.nodes.length + 1) (c.nodes.length + 1), .bool (ordOk (c.grow z))], [.cells 1 (intRows (c.grow z).order)], ?_, ?_, ?_⟩
  · exact conv_tup (mapO_cons (conv_sl_own (n := 10) (by simp [renShift])) (mapO_cons rfl rfl))
  · refine mapO_cons ?_ rfl
    show (mapO (mapO (conv _ 12 _)) (intRows _)).map _ = _
    rw [mapO_ints]; rfl
  have ap : ∀ {i : Nat} {b : Blk}, M[i]? = some b → (M ++ [Blk.cells 1 (intRows (c.grow z).order)])[i]? = some b := fun h => by
    rw [List.getElem?_append_left (lt_of_get h)]; exact h
  have h3' := ap h3
  have h0' := ap h0
  have hcv' := grow_conv (ap hk) (ap hs)
  have hlast : (M ++ [Blk.cells 1 (intRows (c.grow z).order)])[M.length]? = some (.cells 1 (intRows (c.grow z).order)) := by simp
  have hrow : (intRows (c.grow z).order).getD c.nodes.length [] = [.int .i64 (c.nodes.length : Nat)] := by
    have h := intRows_get (l := (c.grow z).order) (i := c.nodes.length) (by rw [hol]; omega)
    rw [h, hord]
    simp [List.getD_eq_getElem?_getD, ho]
  have hil : (intRows (c.grow z).order).length = c.nodes.length + 1 := by rw [intRows_len, hol]
  generalize hMM : M ++ [Blk.cells 1 (intRows (c.grow z).order)] = MM at *
  simp only [h1, h5, h3', hok0, go_sem, Nat.reduceEqDiff, reduceIte, Int.reduceEq, Int.reduceLT, Int.reduceLE, Nat.reduceAdd, Nat.reduceLT, Nat.reduceLeDiff, Int.reduceToNat, Int.reduceSub, Int.reduceAdd, Int.reduceNeg]
  refine xcall_lend hcv' (check_pure hP hm (c.grow z) (by rw [grow_len]; omega) hgo) rfl rfl ?_
  have e1 : IntKind.wrap .i64 (((c.nodes.length + 1 : Nat) : Int) - 1) = (c.nodes.length : Int) := by rw [wrap64 (by omega) (by omega)]; omega
  have hd1 := depth_le c (by omega) (fun n hn => by have := hca n hn; omega)
  have e2 : IntKind.wrap .i64 ((c.depth : Int) + 1) = ((c.depth + 1 : Nat) : Int) := by rw [wrap64 (by omega) (by omega)]; rfl
  simp only [h1, h5, h3', h0', hok0, hchk, e1, hlast, hrow, hil, nodeRows_len, go_sem, Nat.reduceEqDiff, reduceIte, Int.reduceEq, Int.reduceLT, Int.reduceLE, Nat.reduceAdd, Nat.reduceLT, Nat.reduceLeDiff, Int.reduceToNat, Int.reduceSub, Int.reduceAdd, Int.reduceNeg]
  refine ⟨by omega, by omega, ?_⟩
  refine o_pcall_lend hcv' (depth_pure hP (c.grow z) (by rw [grow_len]; omega) (fun n hn => by have := hgl n hn; omega)) rfl (fun m => rfl) ?_
  simp only [h1, h5, h3', h0', hok0, hchk, e1, hlast, hrow, hil, nodeRows_len, go_sem, Nat.reduceEqDiff, reduceIte, Int.reduceEq, Int.reduceLT, Int.reduceLE, Nat.reduceAdd, Nat.reduceLT, Nat.reduceLeDiff, Int.reduceToNat, Int.reduceSub, Int.reduceAdd, Int.reduceNeg]
  refine o_pcall (args' := [c.iv]) rfl (depth_pure hP c (by omega) (fun n hn => by have := hca n hn; omega)) (fun m => rfl) ?_
  simp only [h1, h5, h3', h0', hok0, hchk, e1, hlast, hrow, hil, nodeRows_len, e2, hdep, go_sem, Nat.reduceEqDiff, reduceIte, Int.reduceEq, Int.reduceLT, Int.reduceLE, Nat.reduceAdd, Nat.reduceLT, Nat.reduceLeDiff, Int.reduceToNat, Int.reduceSub, Int.reduceAdd, Int.reduceNeg]
  refine o_pcall (args' := []) rfl (wakes_pure hP) (fun m => rfl) ?_
  simp only [h1, h5, h3', h0', hok0, hchk, e1, hlast, hrow, hil, nodeRows_len, e2, hdep, go_sem, Nat.reduceEqDiff, reduceIte, Int.reduceEq, Int.reduceLT, Int.reduceLE, Nat.reduceAdd, Nat.reduceLT, Nat.reduceLeDiff, Int.reduceToNat, Int.reduceSub, Int.reduceAdd, Int.reduceNeg]
  rfl
theorem out_swap {sz : Nat} {p p' J : List Blk} {rows : List (List IV)} {v : IV} (h : OutOk sz p rows v (p ++ J)) (hl : p'.length = p.length) : OutOk sz p' rows v (p' ++ J) := by
  obtain ⟨J', hJ, h⟩ := h
  have hJ' : J = J' := List.append_cancel_left hJ
  subst hJ'
  refine ⟨J, rfl, ?_⟩
  rcases h with h | ⟨s, hs, h1, h2⟩
  · exact .inl h
  · refine .inr ⟨s, by omega, h1, ?_⟩
    rw [List.getElem?_append_right hs] at h2
    rw [List.getElem?_append_right (by omega), hl]; exact h2
def growB (c : DefD) (z : List UInt8) (v : IV) : List Blk := [.cells 2 [[.str c.name, .isl (nodeRows c.nodes)]], .dead, .cells 7 (nodeRows c.nodes), .cells 2 [[.str c.name, .sl 2 0 c.nodes.length c.nodes.length]], .cells 7 [newRow z v]]
theorem grows_pure (hP : E.P = Tryd.prog) {m : Int} (hm : E.gl 0 = some [.int .i64 m]) (d : DefD) (hd : d.nodes.length ≤ 9223372036854775807) (ha : ∀ n ∈ d.nodes, n.after.length ≤ 9223372036854775807) (hok : d.ok) : XPure E 5 [d.iv] (.bool true) := by
  refine xpure1 (n := Tryd.f5.ntmps) (c := x5) (t := 2) (by rw [hP]; rfl) (by rw [hP]; kernel_rfl) (by decide) (Nat.le_of_ble_eq_true rfl) ?_
  generalize hρ : entry _ = ρ
  have h0 : ρ 0 = .agg [.str d.name, .isl (nodeRows d.nodes)] := by rw [← hρ]; rfl
  clear hρ
  unfold x5
  simp only [h0, go_sem, Nat.reduceEqDiff, reduceIte, Int.reduceEq, Int.reduceLT, Int.reduceLE, Nat.reduceAdd, Nat.reduceLT, Nat.reduceLeDiff, Int.reduceToNat, Int.reduceSub, Int.reduceAdd, Int.reduceNeg]
  refine xcall_pure (args' := [d.iv]) rfl (cut_pure hP d hd ha) rfl ?_
  have hcl := cut_len d
  have hca : ∀ n ∈ d.cut.nodes, n.after.length ≤ 10 := fun n hn => cut_after hn
  have hco := cut_ok hok
  generalize d.cut = c at *
  simp only [h0, DefD.iv, go_sem, Nat.reduceEqDiff, reduceIte, Int.reduceEq, Int.reduceLT, Int.reduceLE, Nat.reduceAdd, Nat.reduceLT, Nat.reduceLeDiff, Int.reduceToNat, Int.reduceSub, Int.reduceAdd, Int.reduceNeg]
  refine xcall_pure (args' := [c.iv]) rfl (check_pure hP hm c (by omega) hco) rfl ?_
  simp only [h0, go_sem, Nat.reduceEqDiff, reduceIte, Int.reduceEq, Int.reduceLT, Int.reduceLE, Nat.reduceAdd, Nat.reduceLT, Nat.reduceLeDiff, Int.reduceToNat, Int.reduceSub, Int.reduceAdd, Int.reduceNeg]
  refine s_mg (by simp only [h0, nodeRows_len, go_sem, Nat.reduceEqDiff, reduceIte, Int.reduceEq, Int.reduceLT, Int.reduceLE, Nat.reduceAdd, Nat.reduceLT, Nat.reduceLeDiff, Int.reduceToNat, Int.reduceSub, Int.reduceAdd, Int.reduceNeg]; try rfl) ?_; simp only [cut_g, cut_t, cut_none, cut_out, memN_cons, memN_nil, Nat.reduceEqDiff, reduceIte, List.nil_append, List.cons_append, not_false_eq_true]; refine ex_merge rfl (by simp only [h0, nodeRows_len, go_sem, Nat.reduceEqDiff, reduceIte, Int.reduceEq, Int.reduceLT, Int.reduceLE, Nat.reduceAdd, Nat.reduceLT, Nat.reduceLeDiff, Int.reduceToNat, Int.reduceSub, Int.reduceAdd, Int.reduceNeg]) (by intro hb; simp only [hb, h0, nodeRows_len, go_sem, Nat.reduceEqDiff, reduceIte, Int.reduceEq, Int.reduceLT, Int.reduceLE, Nat.reduceAdd, Nat.reduceLT, Nat.reduceLeDiff, Int.reduceToNat, Int.reduceSub, Int.reduceAdd, Int.reduceNeg]; first | exact rfl | exact ⟨rfl, rfl⟩) (fun vs => ?_); simp only [h0, nodeRows_len, go_sem, Nat.reduceEqDiff, reduceIte, Int.reduceEq, Int.reduceLT, Int.reduceLE, Nat.reduceAdd, Nat.reduceLT, Nat.reduceLeDiff, Int.reduceToNat, Int.reduceSub, Int.reduceAdd, Int.reduceNeg]
  refine s_cond (b := !decide (c.check.2 = 0) || decide ((9 : Int) < (c.nodes.length : Int))) (by simp only [h0, nodeRows_len, go_sem, Nat.reduceEqDiff, reduceIte, Int.reduceEq, Int.reduceLT, Int.reduceLE, Nat.reduceAdd, Nat.reduceLT, Nat.reduceLeDiff, Int.reduceToNat, Int.reduceSub, Int.reduceAdd, Int.reduceNeg]; try rfl) ?_ ?_ <;> intro hb <;> simp only [hb, h0, nodeRows_len, go_sem, Nat.reduceEqDiff, reduceIte, Int.reduceEq, Int.reduceLT, Int.reduceLE, Nat.reduceAdd, Nat.reduceLT, Nat.reduceLeDiff, Int.reduceToNat, Int.reduceSub, Int.reduceAdd, Int.reduceNeg]
  · refine xcall_pure (args' := []) rfl (wakes_pure hP) rfl ?_
    try simp only [h0, go_sem, Nat.reduceEqDiff, reduceIte, Int.reduceEq, Int.reduceLT, Int.reduceLE, Nat.reduceAdd, Nat.reduceLT, Nat.reduceLeDiff, Int.reduceToNat, Int.reduceSub, Int.reduceAdd, Int.reduceNeg]
    rfl
  simp only [Bool.or_eq_false_iff, Bool.not_eq_false', decide_eq_true_eq, decide_eq_false_iff_not] at hb
  obtain ⟨hb0, hn9⟩ := hb
  have hn9' : c.nodes.length ≤ 9 := by omega
  obtain ⟨ho, hn0, hn1, hc1, _, _⟩ := check_ok hb0
  have hne : nodeRows c.nodes ≠ [] := by
    intro h
    have := congrArg List.length h
    rw [nodeRows_len] at this
    simp only [List.length_nil] at this; omega
  have hrc : RowsC 7 (nodeRows c.nodes) := fun row hr => by
    obtain ⟨n, _, rfl⟩ := List.mem_map.1 hr
    exact ⟨rfl, rfl⟩
  refine append_all rfl hrc (by rw [nodeRows_len]; omega) (fun h => absurd h hne) (fun _ => ?_)
  simp only [h0, nodeRows_len, go_sem, Nat.reduceEqDiff, reduceIte, Int.reduceEq, Int.reduceLT, Int.reduceLE, Nat.reduceAdd, Nat.reduceLT, Nat.reduceLeDiff, Int.reduceToNat, Int.reduceSub, Int.reduceAdd, Int.reduceNeg]
  refine xcall_pure (args' := [c.iv]) rfl (fresh_pure hP c (by omega)) rfl ?_
  have hzn := zn_none c
  have hzl := zn_le c
  have hnz := zs_named c.zn (by omega)
  have hzlen : (zs c.zn).length ≤ 100 := by simp [zs]; omega
  generalize zs c.zn = z at *
  simp only [h0, nodeRows_len, go_sem, Nat.reduceEqDiff, reduceIte, Int.reduceEq, Int.reduceLT, Int.reduceLE, Nat.reduceAdd, Nat.reduceLT, Nat.reduceLeDiff, Int.reduceToNat, Int.reduceSub, Int.reduceAdd, Int.reduceNeg]
  refine s_loop (fun n' ρ L => ∃ (i : Nat) (v : IV), i ≤ c.nodes.length ∧ n' = c.nodes.length - i ∧ OutOk 1 (growB c z v) (strRows ((c.nodes.map (·.name)).take i)) v L ∧ ρ 1 = .ptr 0 0 0 ∧ ρ 5 = .ptr 3 0 0 ∧ ρ 6 = .ptr 4 0 0 ∧ ρ 7 = .int .i64 (i : Nat))
    ⟨0, .nsl, Nat.zero_le _, rfl, out_nil (p := growB c z .nsl) (J := []), by simp only [go_sem, Nat.reduceEqDiff, reduceIte, Int.reduceEq, Int.reduceLT, Int.reduceLE, Nat.reduceAdd, Nat.reduceLT, Nat.reduceLeDiff, Int.reduceToNat, Int.reduceSub, Int.reduceAdd, Int.reduceNeg], by simp only [go_sem, Nat.reduceEqDiff, reduceIte, Int.reduceEq, Int.reduceLT, Int.reduceLE, Nat.reduceAdd, Nat.reduceLT, Nat.reduceLeDiff, Int.reduceToNat, Int.reduceSub, Int.reduceAdd, Int.reduceNeg], by simp only [go_sem, Nat.reduceEqDiff, reduceIte, Int.reduceEq, Int.reduceLT, Int.reduceLE, Nat.reduceAdd, Nat.reduceLT, Nat.reduceLeDiff, Int.reduceToNat, Int.reduceSub, Int.reduceAdd, Int.reduceNeg], by simp only [go_sem, Nat.reduceEqDiff, reduceIte, Int.reduceEq, Int.reduceLT, Int.reduceLE, Nat.reduceAdd, Nat.reduceLT, Nat.reduceLeDiff, Int.reduceToNat, Int.reduceSub, Int.reduceAdd, Int.reduceNeg]; try rfl⟩ ?_
  clear h0 ρ
  rintro n' ρ L ⟨i, v, hi, rfl, hO, h1, h5, h6, h7⟩
  obtain ⟨hvc1, hvc2⟩ := out_cell hO
  obtain ⟨J, rfl, hJ⟩ := id hO
  unfold growB at hO ⊢
  simp only [h1, h5, h6, h7, go_sem, Nat.reduceEqDiff, reduceIte, Int.reduceEq, Int.reduceLT, Int.reduceLE, Nat.reduceAdd, Nat.reduceLT, Nat.reduceLeDiff, Int.reduceToNat, Int.reduceSub, Int.reduceAdd, Int.reduceNeg]
  refine s_cond (b := decide _) (by simp only [h1, h5, h6, h7, nodeRows_len, go_sem, Nat.reduceEqDiff, reduceIte, Int.reduceEq, Int.reduceLT, Int.reduceLE, Nat.reduceAdd, Nat.reduceLT, Nat.reduceLeDiff, Int.reduceToNat, Int.reduceSub, Int.reduceAdd, Int.reduceNeg]; try rfl) ?_ ?_ <;> intro hb <;> simp only [hb, h1, h5, h6, h7, nodeRows_len, go_sem, Nat.reduceEqDiff, reduceIte, Int.reduceEq, Int.reduceLT, Int.reduceLE, Nat.reduceAdd, Nat.reduceLT, Nat.reduceLeDiff, Int.reduceToNat, Int.reduceSub, Int.reduceAdd, Int.reduceNeg]
  · rw [decide_eq_true_eq] at hb
    have hi' : i < c.nodes.length := by omega
    have hrow := nodeRows_get hi'
    have hnm : (c.nodes.getD i default).row.getD 0 .und = .str (c.nodes.getD i default).name := rfl
    simp only [h1, h5, h6, h7, nodeRows_len, rows_nodes, hrow, hnm, newRow, go_sem, Nat.reduceEqDiff, reduceIte, Int.reduceEq, Int.reduceLT, Int.reduceLE, Nat.reduceAdd, Nat.reduceLT, Nat.reduceLeDiff, Int.reduceToNat, Int.reduceSub, Int.reduceAdd, Int.reduceNeg]
    refine ⟨by omega, hi', by show 0 < 7; decide, ?_⟩
    have htk : strRows ((c.nodes.map (·.name)).take (i + 1)) = strRows ((c.nodes.map (·.name)).take i) ++ [[.str (c.nodes.getD i default).name]] := by
      rw [List.take_add_one, getD_get (d := []) (by simpa using hi'), names_get hi']; simp [strRows]
    refine out_append (row := [.str (c.nodes.getD i default).name]) hO rfl rfl ⟨rfl, rfl⟩ (by rw [strRows_len, List.length_take]; omega) ?_
    intro v' L' hO'
    obtain ⟨hvd1, hvd2⟩ := out_cell hO'
    obtain ⟨J', rfl, hJ'⟩ := id hO'
    simp only [h1, h5, h6, h7, nodeRows_len, hvd1, hvd2, newRow, go_sem, Nat.reduceEqDiff, reduceIte, Int.reduceEq, Int.reduceLT, Int.reduceLE, Nat.reduceAdd, Nat.reduceLT, Nat.reduceLeDiff, Int.reduceToNat, Int.reduceSub, Int.reduceAdd, Int.reduceNeg]
    refine ⟨c.nodes.length - (i + 1), by omega, i + 1, v', by omega, rfl, ?_, by rw [wrap64 (by omega) (by omega)]; rfl⟩
    rw [htk]
    exact out_swap hO' rfl
  · rw [decide_eq_false_iff_not] at hb
    have hii : i = c.nodes.length := by omega
    subst hii
    have hnm : (c.nodes.map (·.name)).take c.nodes.length = c.nodes.map (·.name) := List.take_of_length_le (by simp)
    rw [hnm] at hJ
    obtain ⟨s, hs, rfl, hL⟩ : ∃ s, 5 ≤ s ∧ v = .sl s 0 c.nodes.length c.nodes.length ∧ (growB c z v ++ J)[s]? = some (.cells 1 (strRows (c.nodes.map (·.name)))) := by
      rcases hJ with ⟨h, _⟩ | ⟨s, h1, h2, h3⟩
      · have := strRows_nil h; simp at this; rw [this] at hn0; simp at hn0
      · rw [strRows_len, List.length_map] at h2
        exact ⟨s, h1, h2, h3⟩
    try simp only [h1, h5, h6, h7, go_sem, Nat.reduceEqDiff, reduceIte, Int.reduceEq, Int.reduceLT, Int.reduceLE, Nat.reduceAdd, Nat.reduceLT, Nat.reduceLeDiff, Int.reduceToNat, Int.reduceSub, Int.reduceAdd, Int.reduceNeg]
    unfold x5b
    simp only [h1, h5, h6, h7, newRow, go_sem, Nat.reduceEqDiff, reduceIte, Int.reduceEq, Int.reduceLT, Int.reduceLE, Nat.reduceAdd, Nat.reduceLT, Nat.reduceLeDiff, Int.reduceToNat, Int.reduceSub, Int.reduceAdd, Int.reduceNeg]
    refine append_own1 (rows := nodeRows c.nodes) (row := newRow z (.sl s 0 c.nodes.length c.nodes.length)) rfl (by simp [newRow]) (nodeRows_len _) ⟨rfl, rfl⟩ (by omega) ?_
    simp only [h1, h5, h6, h7, go_sem, Nat.reduceEqDiff, reduceIte, Int.reduceEq, Int.reduceLT, Int.reduceLE, Nat.reduceAdd, Nat.reduceLT, Nat.reduceLeDiff, Int.reduceToNat, Int.reduceSub, Int.reduceAdd, Int.reduceNeg]
    have hs5 : (growB c z (.sl s 0 c.nodes.length c.nodes.length) ++ J)[s]? = J[s - 5]? := List.getElem?_append_right hs
    rw [hs5] at hL
    have hsJ := lt_of_get hL
    have hlast : ∀ (x y : Blk) (l : List Blk), (x :: Blk.dead :: Blk.dead :: y :: (l ++ [Blk.cells 7 (nodeRows c.nodes ++ [newRow z (.sl s 0 c.nodes.length c.nodes.length)])]))[l.length + 1 + 1 + 1 + 1]? = some (Blk.cells 7 (nodeRows c.nodes ++ [newRow z (.sl s 0 c.nodes.length c.nodes.length)])) := by
      intro x y l; simp
    refine grows_tail hP hm hn9' hb0 hzn hnz hzlen hco hca (s := s) rfl (hlast _ _ (_ :: (J ++ [_]))) ?_ rfl ?_ ?_
    · obtain ⟨t, rfl⟩ : ∃ t, s = t + 1 + 1 + 1 + 1 + 1 := ⟨s - 5, by omega⟩
      simp only [List.getElem?_cons_succ, List.append_assoc]
      have e5 : t + 1 + 1 + 1 + 1 + 1 - 5 = t := by omega
      rw [e5] at hL hsJ
      rw [List.getElem?_append_left hsJ]; exact hL
    · simp only [h1, h5, h6, h7, go_sem, Nat.reduceEqDiff, reduceIte, Int.reduceEq, Int.reduceLT, Int.reduceLE, Nat.reduceAdd, Nat.reduceLT, Nat.reduceLeDiff, Int.reduceToNat, Int.reduceSub, Int.reduceAdd, Int.reduceNeg]
    · simp only [h1, h5, h6, h7, go_sem, Nat.reduceEqDiff, reduceIte, Int.reduceEq, Int.reduceLT, Int.reduceLE, Nat.reduceAdd, Nat.reduceLT, Nat.reduceLeDiff, Int.reduceToNat, Int.reduceSub, Int.reduceAdd, Int.reduceNeg]
end
end Go.X.TrydW
end
