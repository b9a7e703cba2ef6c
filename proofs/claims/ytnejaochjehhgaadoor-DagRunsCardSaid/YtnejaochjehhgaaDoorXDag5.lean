import Derived.Test.YtnejaochjehhgaaDoorXDag4
set_option linter.unusedVariables false
set_option linter.unusedSimpArgs false
set_option linter.unusedSectionVars false
open Go Go.X Go.Proofs
set_option maxRecDepth 100000
set_option maxHeartbeats 2000000
set_option linter.unusedSimpArgs false
set_option linter.unusedVariables false
namespace Go.X.TrydW
/- "tiller/dag.met" params { toList := [28, 3, 57] } results { toList := [Go.ResultVar.tmp 6] } -/
def x32 : XC :=
 (.seq
  (.ops [
    ⟨(some 3), (.box (.t 0)), none⟩,
    ⟨(some 6), (.mov (.c (.bool false))), none⟩])
  (.seq
   (.seq
    (.ops [
      ⟨(some 11), (.fldA 1 (.t 3)), none⟩,
      ⟨(some 12), (.load1 (.t 11)), none⟩,
      ⟨(some 13), (.mov (.t 1)), none⟩,
      ⟨(some 14), (.idxS 7 (.t 12) (.t 13)), none⟩,
      ⟨(some 15), (.fldA 6 (.t 14)), none⟩,
      ⟨(some 16), (.load1 (.t 15)), none⟩,
      ⟨(some 17), (.len (.t 16)), none⟩,
      ⟨(some 18), (.mov (.c (.int .i64 0))), none⟩])
    (.block 0
     (.loop
      (.seq
       (.ops [
         ⟨(some 19), (.bin .lss (.t 18) (.t 17)), none⟩])
       (.seq
        (.cond (.t 19)
         .skip
         (.exit 0))
        (.seq
         (.block 1
          (.seq
           (.ops [
             ⟨(some 20), (.idxS 1 (.t 16) (.t 18)), none⟩,
             ⟨(some 21), (.load1 (.t 20)), none⟩,
             ⟨(some 8), (.mov (.t 21)), none⟩])
           (.seq
            (.ops [
              ⟨(some 23), (.loadN 2 (.t 3)), none⟩,
              ⟨(some 24), (.mov (.t 8)), none⟩,
              ⟨(some 25), (.call (.f 29) [(.t 23), (.t 24)]), none⟩,
              ⟨(some 22), (.mov (.t 25)), none⟩,
              ⟨(some 26), (.ext (.t 22) 0), none⟩,
              ⟨(some 27), (.ext (.t 22) 1), none⟩,
              ⟨(some 9), (.mov (.t 26)), none⟩,
              ⟨(some 10), (.mov (.t 27)), none⟩])
            (.seq
             (.ops [
               ⟨(some 28), (.mov (.t 10)), none⟩,
               ⟨(some 29), (.un .not (.t 28)), none⟩,
               ⟨(some 30), (.mov (.t 29)), none⟩,
               ⟨(some 31), (.mov (.t 9)), (some (30, false))⟩,
               ⟨(some 32), (.mov (.t 1)), (some (30, false))⟩,
               ⟨(some 33), (.bin .eql (.t 31) (.t 32)), (some (30, false))⟩,
               ⟨(some 34), (.pick (.t 30) (.c (.bool true)) (.t 33)), none⟩,
               ⟨(some 35), (.mov (.t 34)), none⟩,
               ⟨(some 36), (.mov (.t 2)), (some (35, false))⟩,
               ⟨(some 37), (.mov (.t 9)), (some (35, false))⟩,
               ⟨(some 38), (.call (.t 36) [(.t 37)]), (some (35, false))⟩,
               ⟨(some 39), (.un .not (.t 38)), (some (35, false))⟩,
               ⟨(some 40), (.pick (.t 35) (.c (.bool true)) (.t 39)), none⟩])
             (.cond (.t 40)
              (.seq
               (.ops [
                 ⟨(some 6), (.mov (.c (.bool false))), none⟩])
               .ret)
              .skip)))))
         (.ops [
           ⟨(some 41), (.bin .add (.t 18) (.c (.int .i64 1))), none⟩,
           ⟨(some 18), (.mov (.t 41)), none⟩])))))))
   (.seq
    (.ops [
      ⟨(some 6), (.mov (.c (.bool true))), none⟩])
    .ret)))

/- "tiller/dag.Order$1" params { toList := [3] } results { toList := [Go.ResultVar.tmp 3] } -/
def x33 : XC :=
 (.seq
  (.ops [
    ⟨(some 3), (.mov (.c (.bool false))), none⟩])
  (.seq
   (.ops [
     ⟨(some 4), (.load1 (.t 1)), none⟩,
     ⟨(some 5), (.mov (.t 0)), none⟩,
     ⟨(some 6), (.idxS 1 (.t 4) (.t 5)), none⟩,
     ⟨(some 7), (.load1 (.t 6)), none⟩,
     ⟨(some 3), (.mov (.t 7)), none⟩])
   .ret))

section
variable {E : Env}
def boolRows (l : List Bool) : List (List IV) := l.map fun b => [.bool b]
theorem rows_bools (l : List Bool) : Rows 1 (boolRows l) := by
  intro row h
  obtain ⟨n, _, rfl⟩ := List.mem_map.1 h
  rfl
theorem boolRows_len (l : List Bool) : (boolRows l).length = l.length := List.length_map ..
theorem boolRows_get {l : List Bool} {i : Nat} (h : i < l.length) : (boolRows l).getD i [] = [.bool (l.getD i false)] := by
  simp [boolRows, List.getD_eq_getElem?_getD, List.getElem?_eq_getElem h]

theorem order1_pure (hP : E.P = Tryd.prog) (t : List Bool) (k : Nat) (hk : k < t.length) : XPure E 33 [.int .i64 k, .iptr [[.isl (boolRows t)]] 0 0] (.bool (t.getD k false)) := by
  refine xpure1 (n := Tryd.f33.ntmps) (c := x33) (t := 3) (by rw [hP]; rfl) (by rw [hP]; rfl) (by decide) (Nat.le_of_ble_eq_true rfl) ?_
  generalize hρ : entry _ = ρ
  have h0 : ρ 0 = .int .i64 k := by rw [← hρ]; rfl
  have h1 : ρ 1 = .iptr [[.isl (boolRows t)]] 0 0 := by rw [← hρ]; rfl
  clear hρ
  unfold x33
  have hrow := boolRows_get hk
  simp only [h0, h1, boolRows_len, rows_bools, hrow, go_sem, Nat.reduceEqDiff, reduceIte, Bool.false_eq_true, Bool.not_true, Bool.not_false, Bool.and_true, Bool.true_and, Bool.or_false, Bool.false_or, Bool.and_false, Bool.false_and, Bool.or_true, Bool.true_or, true_and, and_true, eq_self, not_false_eq_true, List.map_cons, List.map_nil, List.nil_append, List.append_nil, decide_true, decide_false, Int.reduceEq, Int.reduceLT, Int.reduceLE, List.length_cons, List.length_nil, Nat.reduceAdd, Nat.reduceLT, Nat.reduceLeDiff, List.getD_cons_zero, List.getD_cons_succ, Int.cast_ofNat_Int, Int.reduceToNat, Int.reduceSub, Int.reduceAdd, Int.reduceNeg, Int.toNat_natCast, Int.natCast_nonneg, List.getElem?_cons_zero, List.getElem?_cons_succ, List.cons_append, List.set_cons_zero, List.set_cons_succ, List.take_zero, List.take_succ_cons, List.drop_zero, List.drop_succ_cons, List.drop_nil, List.take_nil, List.all_cons, List.all_nil, Nat.zero_add, Nat.zero_lt_one, Nat.le_refl]
  exact ⟨by omega, hk, rfl⟩

def depOk (d : DefD) (i : Nat) (p : Nat → Bool) (s : List UInt8) : Bool :=
  match d.find s with
  | some k => !decide (k = i) && p k
  | none => false
def DefD.met (d : DefD) (i : Nat) (p : Nat → Bool) : Bool := (d.nodes.getD i default).after.all (depOk d i p)

theorem met_pure (hP : E.P = Tryd.prog) (d : DefD) (i : Nat) (f : FuncId) (caps : List IV) (p : Nat → Bool) (hi : i < d.nodes.length) (hd : d.nodes.length ≤ 9223372036854775807)
    (ha : (d.nodes.getD i default).after.length ≤ 9223372036854775807) (hcap : ∀ L, mapO (conv L 12 renNone) caps = some caps)
    (hf : ∀ k, k < d.nodes.length → XPure E f (.int .i64 k :: caps) (.bool (p k))) : XPure E 32 [d.iv, .int .i64 i, .fn (.func f) [] caps] (.bool (d.met i p)) := by
  refine xpure1 (n := Tryd.f32.ntmps) (c := x32) (t := 6) (by rw [hP]; rfl) (by rw [hP]; rfl) (by decide) (Nat.le_of_ble_eq_true rfl) ?_
  generalize hρ : entry _ = ρ
  have h0 : ρ 0 = .agg [.str d.name, .isl (nodeRows d.nodes)] := by rw [← hρ]; rfl
  have h1 : ρ 1 = .int .i64 i := by rw [← hρ]; rfl
  have h2 : ρ 2 = .fn (.func f) [] caps := by rw [← hρ]; rfl
  clear hρ
  unfold x32
  have hrow := nodeRows_get hi
  simp only [h0, h1, h2, nodeRows_len, rows_nodes, hrow, NodeD.row, strRows_len, go_sem, Nat.reduceEqDiff, reduceIte, Bool.false_eq_true, Bool.not_true, Bool.not_false, Bool.and_true, Bool.true_and, Bool.or_false, Bool.false_or, Bool.and_false, Bool.false_and, Bool.or_true, Bool.true_or, true_and, and_true, eq_self, not_false_eq_true, List.map_cons, List.map_nil, List.nil_append, List.append_nil, decide_true, decide_false, Int.reduceEq, Int.reduceLT, Int.reduceLE, List.length_cons, List.length_nil, Nat.reduceAdd, Nat.reduceLT, Nat.reduceLeDiff, List.getD_cons_zero, List.getD_cons_succ, Int.cast_ofNat_Int, Int.reduceToNat, Int.reduceSub, Int.reduceAdd, Int.reduceNeg, Int.toNat_natCast, Int.natCast_nonneg, List.getElem?_cons_zero, List.getElem?_cons_succ, List.cons_append, List.set_cons_zero, List.set_cons_succ, List.take_zero, List.take_succ_cons, List.drop_zero, List.drop_succ_cons, List.drop_nil, List.take_nil, List.all_cons, List.all_nil, Nat.zero_add, Nat.zero_lt_one, Nat.le_refl]
  refine ⟨by omega, hi, ?_⟩
  generalize hA : (d.nodes.getD i default).after = A at *
  have hcv : ∀ x : Int, mapO (conv [Blk.cells 2 [[IV.str d.name, IV.isl (nodeRows d.nodes)]]] fuel renNone) (.int .i64 x :: caps) = some (.int .i64 x :: caps) := by
    intro x
    simp only [mapO]
    have e1 : ∀ L, conv L fuel renNone (.int .i64 x) = some (.int .i64 x) := fun L => rfl
    have e2 : ∀ L, mapO (conv L fuel renNone) caps = some caps := hcap
    rw [e1, e2]
  refine s_loop (fun n ρ L => ∃ j : Nat, j ≤ A.length ∧ n = A.length - j ∧ L = [.cells 2 [[.str d.name, .isl (nodeRows d.nodes)]]] ∧ ρ 1 = .int .i64 i ∧ ρ 2 = .fn (.func f) [] caps ∧ ρ 3 = .ptr 0 0 0 ∧
      ρ 16 = .isl (strRows A) ∧ ρ 17 = .int .i64 A.length ∧ ρ 18 = .int .i64 j ∧ (A.take j).all (depOk d i p) = true)
    ⟨0, Nat.zero_le _, rfl, rfl, by simp only [h1, go_sem, Nat.reduceEqDiff, reduceIte, Bool.false_eq_true, Bool.not_true, Bool.not_false, Bool.and_true, Bool.true_and, Bool.or_false, Bool.false_or, Bool.and_false, Bool.false_and, Bool.or_true, Bool.true_or, true_and, and_true, eq_self, not_false_eq_true, List.map_cons, List.map_nil, List.nil_append, List.append_nil, decide_true, decide_false, Int.reduceEq, Int.reduceLT, Int.reduceLE, List.length_cons, List.length_nil, Nat.reduceAdd, Nat.reduceLT, Nat.reduceLeDiff, List.getD_cons_zero, List.getD_cons_succ, Int.cast_ofNat_Int, Int.reduceToNat, Int.reduceSub, Int.reduceAdd, Int.reduceNeg, Int.toNat_natCast, Int.natCast_nonneg, List.getElem?_cons_zero, List.getElem?_cons_succ, List.cons_append, List.set_cons_zero, List.set_cons_succ, List.take_zero, List.take_succ_cons, List.drop_zero, List.drop_succ_cons, List.drop_nil, List.take_nil, List.all_cons, List.all_nil, Nat.zero_add, Nat.zero_lt_one, Nat.le_refl], by simp only [h2, go_sem, Nat.reduceEqDiff, reduceIte, Bool.false_eq_true, Bool.not_true, Bool.not_false, Bool.and_true, Bool.true_and, Bool.or_false, Bool.false_or, Bool.and_false, Bool.false_and, Bool.or_true, Bool.true_or, true_and, and_true, eq_self, not_false_eq_true, List.map_cons, List.map_nil, List.nil_append, List.append_nil, decide_true, decide_false, Int.reduceEq, Int.reduceLT, Int.reduceLE, List.length_cons, List.length_nil, Nat.reduceAdd, Nat.reduceLT, Nat.reduceLeDiff, List.getD_cons_zero, List.getD_cons_succ, Int.cast_ofNat_Int, Int.reduceToNat, Int.reduceSub, Int.reduceAdd, Int.reduceNeg, Int.toNat_natCast, Int.natCast_nonneg, List.getElem?_cons_zero, List.getElem?_cons_succ, List.cons_append, List.set_cons_zero, List.set_cons_succ, List.take_zero, List.take_succ_cons, List.drop_zero, List.drop_succ_cons, List.drop_nil, List.take_nil, List.all_cons, List.all_nil, Nat.zero_add, Nat.zero_lt_one, Nat.le_refl], by simp only [go_sem, Nat.reduceEqDiff, reduceIte, Bool.false_eq_true, Bool.not_true, Bool.not_false, Bool.and_true, Bool.true_and, Bool.or_false, Bool.false_or, Bool.and_false, Bool.false_and, Bool.or_true, Bool.true_or, true_and, and_true, eq_self, not_false_eq_true, List.map_cons, List.map_nil, List.nil_append, List.append_nil, decide_true, decide_false, Int.reduceEq, Int.reduceLT, Int.reduceLE, List.length_cons, List.length_nil, Nat.reduceAdd, Nat.reduceLT, Nat.reduceLeDiff, List.getD_cons_zero, List.getD_cons_succ, Int.cast_ofNat_Int, Int.reduceToNat, Int.reduceSub, Int.reduceAdd, Int.reduceNeg, Int.toNat_natCast, Int.natCast_nonneg, List.getElem?_cons_zero, List.getElem?_cons_succ, List.cons_append, List.set_cons_zero, List.set_cons_succ, List.take_zero, List.take_succ_cons, List.drop_zero, List.drop_succ_cons, List.drop_nil, List.take_nil, List.all_cons, List.all_nil, Nat.zero_add, Nat.zero_lt_one, Nat.le_refl], by simp only [go_sem, Nat.reduceEqDiff, reduceIte, Bool.false_eq_true, Bool.not_true, Bool.not_false, Bool.and_true, Bool.true_and, Bool.or_false, Bool.false_or, Bool.and_false, Bool.false_and, Bool.or_true, Bool.true_or, true_and, and_true, eq_self, not_false_eq_true, List.map_cons, List.map_nil, List.nil_append, List.append_nil, decide_true, decide_false, Int.reduceEq, Int.reduceLT, Int.reduceLE, List.length_cons, List.length_nil, Nat.reduceAdd, Nat.reduceLT, Nat.reduceLeDiff, List.getD_cons_zero, List.getD_cons_succ, Int.cast_ofNat_Int, Int.reduceToNat, Int.reduceSub, Int.reduceAdd, Int.reduceNeg, Int.toNat_natCast, Int.natCast_nonneg, List.getElem?_cons_zero, List.getElem?_cons_succ, List.cons_append, List.set_cons_zero, List.set_cons_succ, List.take_zero, List.take_succ_cons, List.drop_zero, List.drop_succ_cons, List.drop_nil, List.take_nil, List.all_cons, List.all_nil, Nat.zero_add, Nat.zero_lt_one, Nat.le_refl], by simp only [go_sem, Nat.reduceEqDiff, reduceIte, Bool.false_eq_true, Bool.not_true, Bool.not_false, Bool.and_true, Bool.true_and, Bool.or_false, Bool.false_or, Bool.and_false, Bool.false_and, Bool.or_true, Bool.true_or, true_and, and_true, eq_self, not_false_eq_true, List.map_cons, List.map_nil, List.nil_append, List.append_nil, decide_true, decide_false, Int.reduceEq, Int.reduceLT, Int.reduceLE, List.length_cons, List.length_nil, Nat.reduceAdd, Nat.reduceLT, Nat.reduceLeDiff, List.getD_cons_zero, List.getD_cons_succ, Int.cast_ofNat_Int, Int.reduceToNat, Int.reduceSub, Int.reduceAdd, Int.reduceNeg, Int.toNat_natCast, Int.natCast_nonneg, List.getElem?_cons_zero, List.getElem?_cons_succ, List.cons_append, List.set_cons_zero, List.set_cons_succ, List.take_zero, List.take_succ_cons, List.drop_zero, List.drop_succ_cons, List.drop_nil, List.take_nil, List.all_cons, List.all_nil, Nat.zero_add, Nat.zero_lt_one, Nat.le_refl], by simp only [go_sem, Nat.reduceEqDiff, reduceIte, Bool.false_eq_true, Bool.not_true, Bool.not_false, Bool.and_true, Bool.true_and, Bool.or_false, Bool.false_or, Bool.and_false, Bool.false_and, Bool.or_true, Bool.true_or, true_and, and_true, eq_self, not_false_eq_true, List.map_cons, List.map_nil, List.nil_append, List.append_nil, decide_true, decide_false, Int.reduceEq, Int.reduceLT, Int.reduceLE, List.length_cons, List.length_nil, Nat.reduceAdd, Nat.reduceLT, Nat.reduceLeDiff, List.getD_cons_zero, List.getD_cons_succ, Int.cast_ofNat_Int, Int.reduceToNat, Int.reduceSub, Int.reduceAdd, Int.reduceNeg, Int.toNat_natCast, Int.natCast_nonneg, List.getElem?_cons_zero, List.getElem?_cons_succ, List.cons_append, List.set_cons_zero, List.set_cons_succ, List.take_zero, List.take_succ_cons, List.drop_zero, List.drop_succ_cons, List.drop_nil, List.take_nil, List.all_cons, List.all_nil, Nat.zero_add, Nat.zero_lt_one, Nat.le_refl]; try rfl, rfl⟩ ?_
  clear h0 h1 h2 ρ
  rintro n ρ L ⟨j, hj, rfl, rfl, h1, h2, h3, h16, h17, h18, hall⟩
  simp only [h1, h2, h3, h16, h17, h18, go_sem, Nat.reduceEqDiff, reduceIte, Bool.false_eq_true, Bool.not_true, Bool.not_false, Bool.and_true, Bool.true_and, Bool.or_false, Bool.false_or, Bool.and_false, Bool.false_and, Bool.or_true, Bool.true_or, true_and, and_true, eq_self, not_false_eq_true, List.map_cons, List.map_nil, List.nil_append, List.append_nil, decide_true, decide_false, Int.reduceEq, Int.reduceLT, Int.reduceLE, List.length_cons, List.length_nil, Nat.reduceAdd, Nat.reduceLT, Nat.reduceLeDiff, List.getD_cons_zero, List.getD_cons_succ, Int.cast_ofNat_Int, Int.reduceToNat, Int.reduceSub, Int.reduceAdd, Int.reduceNeg, Int.toNat_natCast, Int.natCast_nonneg, List.getElem?_cons_zero, List.getElem?_cons_succ, List.cons_append, List.set_cons_zero, List.set_cons_succ, List.take_zero, List.take_succ_cons, List.drop_zero, List.drop_succ_cons, List.drop_nil, List.take_nil, List.all_cons, List.all_nil, Nat.zero_add, Nat.zero_lt_one, Nat.le_refl]
  refine s_cond (b := decide _) (by simp only [h1, h2, h3, h16, h17, h18, strRows_len, rows_strs, go_sem, Nat.reduceEqDiff, reduceIte, Bool.false_eq_true, Bool.not_true, Bool.not_false, Bool.and_true, Bool.true_and, Bool.or_false, Bool.false_or, Bool.and_false, Bool.false_and, Bool.or_true, Bool.true_or, true_and, and_true, eq_self, not_false_eq_true, List.map_cons, List.map_nil, List.nil_append, List.append_nil, decide_true, decide_false, Int.reduceEq, Int.reduceLT, Int.reduceLE, List.length_cons, List.length_nil, Nat.reduceAdd, Nat.reduceLT, Nat.reduceLeDiff, List.getD_cons_zero, List.getD_cons_succ, Int.cast_ofNat_Int, Int.reduceToNat, Int.reduceSub, Int.reduceAdd, Int.reduceNeg, Int.toNat_natCast, Int.natCast_nonneg, List.getElem?_cons_zero, List.getElem?_cons_succ, List.cons_append, List.set_cons_zero, List.set_cons_succ, List.take_zero, List.take_succ_cons, List.drop_zero, List.drop_succ_cons, List.drop_nil, List.take_nil, List.all_cons, List.all_nil, Nat.zero_add, Nat.zero_lt_one, Nat.le_refl]; try rfl) ?_ ?_ <;> intro hb <;> simp only [hb, h1, h2, h3, h16, h17, h18, strRows_len, rows_strs, go_sem, Nat.reduceEqDiff, reduceIte, Bool.false_eq_true, Bool.not_true, Bool.not_false, Bool.and_true, Bool.true_and, Bool.or_false, Bool.false_or, Bool.and_false, Bool.false_and, Bool.or_true, Bool.true_or, true_and, and_true, eq_self, not_false_eq_true, List.map_cons, List.map_nil, List.nil_append, List.append_nil, decide_true, decide_false, Int.reduceEq, Int.reduceLT, Int.reduceLE, List.length_cons, List.length_nil, Nat.reduceAdd, Nat.reduceLT, Nat.reduceLeDiff, List.getD_cons_zero, List.getD_cons_succ, Int.cast_ofNat_Int, Int.reduceToNat, Int.reduceSub, Int.reduceAdd, Int.reduceNeg, Int.toNat_natCast, Int.natCast_nonneg, List.getElem?_cons_zero, List.getElem?_cons_succ, List.cons_append, List.set_cons_zero, List.set_cons_succ, List.take_zero, List.take_succ_cons, List.drop_zero, List.drop_succ_cons, List.drop_nil, List.take_nil, List.all_cons, List.all_nil, Nat.zero_add, Nat.zero_lt_one, Nat.le_refl]
  · rw [decide_eq_true_eq] at hb
    have hj' : j < A.length := by omega
    have hrow := strRows_get hj'
    refine ⟨hb, ?_⟩
    simp only [h1, h2, h3, h16, h17, h18, hrow, go_sem, Nat.reduceEqDiff, reduceIte, Bool.false_eq_true, Bool.not_true, Bool.not_false, Bool.and_true, Bool.true_and, Bool.or_false, Bool.false_or, Bool.and_false, Bool.false_and, Bool.or_true, Bool.true_or, true_and, and_true, eq_self, not_false_eq_true, List.map_cons, List.map_nil, List.nil_append, List.append_nil, decide_true, decide_false, Int.reduceEq, Int.reduceLT, Int.reduceLE, List.length_cons, List.length_nil, Nat.reduceAdd, Nat.reduceLT, Nat.reduceLeDiff, List.getD_cons_zero, List.getD_cons_succ, Int.cast_ofNat_Int, Int.reduceToNat, Int.reduceSub, Int.reduceAdd, Int.reduceNeg, Int.toNat_natCast, Int.natCast_nonneg, List.getElem?_cons_zero, List.getElem?_cons_succ, List.cons_append, List.set_cons_zero, List.set_cons_succ, List.take_zero, List.take_succ_cons, List.drop_zero, List.drop_succ_cons, List.drop_nil, List.take_nil, List.all_cons, List.all_nil, Nat.zero_add, Nat.zero_lt_one, Nat.le_refl]
    refine ⟨hj', ?_⟩
    refine xcall_pure (args' := [d.iv, .str (A.getD j [])]) rfl (dagFind_pure hP d _ hd) rfl ?_
    have hdep : depOk d i p (A.getD j []) = match d.find (A.getD j []) with | some k => !decide (k = i) && p k | none => false := rfl
    have hfin : ∀ b : Bool, depOk d i p (A.getD j []) = b → (b = false → d.met i p = false) ∧ (b = true → (A.take (j + 1)).all (depOk d i p) = true) := by
      intro b hb'
      refine ⟨fun h => ?_, fun h => ?_⟩
      · rw [DefD.met, hA]; exact all_false (d := []) hj' (by rw [hb', h])
      · rw [take_succ_all (d := []) hj' hall, hb', h]
    have hw : IntKind.i64.wrap ((j : Int) + 1) = ((j + 1 : Nat) : Int) := by rw [wrap64 (by omega) (by omega)]; rfl
    cases hfd : d.find (A.getD j []) with
    | none =>
      rw [hfd] at hdep
      try simp only [h1, h2, h3, h16, h17, h18, findN, Option.isSome, go_sem, Nat.reduceEqDiff, reduceIte, Bool.false_eq_true, Bool.not_true, Bool.not_false, Bool.and_true, Bool.true_and, Bool.or_false, Bool.false_or, Bool.and_false, Bool.false_and, Bool.or_true, Bool.true_or, true_and, and_true, eq_self, not_false_eq_true, List.map_cons, List.map_nil, List.nil_append, List.append_nil, decide_true, decide_false, Int.reduceEq, Int.reduceLT, Int.reduceLE, List.length_cons, List.length_nil, Nat.reduceAdd, Nat.reduceLT, Nat.reduceLeDiff, List.getD_cons_zero, List.getD_cons_succ, Int.cast_ofNat_Int, Int.reduceToNat, Int.reduceSub, Int.reduceAdd, Int.reduceNeg, Int.toNat_natCast, Int.natCast_nonneg, List.getElem?_cons_zero, List.getElem?_cons_succ, List.cons_append, List.set_cons_zero, List.set_cons_succ, List.take_zero, List.take_succ_cons, List.drop_zero, List.drop_succ_cons, List.drop_nil, List.take_nil, List.all_cons, List.all_nil, Nat.zero_add, Nat.zero_lt_one, Nat.le_refl]
      rw [(hfin false hdep).1 rfl]; rfl
    | some k =>
      rw [hfd] at hdep
      have hk : k < d.nodes.length := firstI_lt hfd
      simp only [h1, h2, h3, h16, h17, h18, findN, Option.isSome, go_sem, Nat.reduceEqDiff, reduceIte, Bool.false_eq_true, Bool.not_true, Bool.not_false, Bool.and_true, Bool.true_and, Bool.or_false, Bool.false_or, Bool.and_false, Bool.false_and, Bool.or_true, Bool.true_or, true_and, and_true, eq_self, not_false_eq_true, List.map_cons, List.map_nil, List.nil_append, List.append_nil, decide_true, decide_false, Int.reduceEq, Int.reduceLT, Int.reduceLE, List.length_cons, List.length_nil, Nat.reduceAdd, Nat.reduceLT, Nat.reduceLeDiff, List.getD_cons_zero, List.getD_cons_succ, Int.cast_ofNat_Int, Int.reduceToNat, Int.reduceSub, Int.reduceAdd, Int.reduceNeg, Int.toNat_natCast, Int.natCast_nonneg, List.getElem?_cons_zero, List.getElem?_cons_succ, List.cons_append, List.set_cons_zero, List.set_cons_succ, List.take_zero, List.take_succ_cons, List.drop_zero, List.drop_succ_cons, List.drop_nil, List.take_nil, List.all_cons, List.all_nil, Nat.zero_add, Nat.zero_lt_one, Nat.le_refl]
      refine s_mg (by simp only [h1, h2, h3, h16, h17, h18, go_sem, Nat.reduceEqDiff, reduceIte, Bool.false_eq_true, Bool.not_true, Bool.not_false, Bool.and_true, Bool.true_and, Bool.or_false, Bool.false_or, Bool.and_false, Bool.false_and, Bool.or_true, Bool.true_or, true_and, and_true, eq_self, not_false_eq_true, List.map_cons, List.map_nil, List.nil_append, List.append_nil, decide_true, decide_false, Int.reduceEq, Int.reduceLT, Int.reduceLE, List.length_cons, List.length_nil, Nat.reduceAdd, Nat.reduceLT, Nat.reduceLeDiff, List.getD_cons_zero, List.getD_cons_succ, Int.cast_ofNat_Int, Int.reduceToNat, Int.reduceSub, Int.reduceAdd, Int.reduceNeg, Int.toNat_natCast, Int.natCast_nonneg, List.getElem?_cons_zero, List.getElem?_cons_succ, List.cons_append, List.set_cons_zero, List.set_cons_succ, List.take_zero, List.take_succ_cons, List.drop_zero, List.drop_succ_cons, List.drop_nil, List.take_nil, List.all_cons, List.all_nil, Nat.zero_add, Nat.zero_lt_one, Nat.le_refl]; try rfl) ?_; simp only [cut_g, cut_t, cut_none, cut_out, memN_cons, memN_nil, Nat.reduceEqDiff, reduceIte, List.nil_append, List.cons_append, not_false_eq_true]; refine ex_merge rfl (by simp only [h1, h2, h3, h16, h17, h18, go_sem, Nat.reduceEqDiff, reduceIte, Bool.false_eq_true, Bool.not_true, Bool.not_false, Bool.and_true, Bool.true_and, Bool.or_false, Bool.false_or, Bool.and_false, Bool.false_and, Bool.or_true, Bool.true_or, true_and, and_true, eq_self, not_false_eq_true, List.map_cons, List.map_nil, List.nil_append, List.append_nil, decide_true, decide_false, Int.reduceEq, Int.reduceLT, Int.reduceLE, List.length_cons, List.length_nil, Nat.reduceAdd, Nat.reduceLT, Nat.reduceLeDiff, List.getD_cons_zero, List.getD_cons_succ, Int.cast_ofNat_Int, Int.reduceToNat, Int.reduceSub, Int.reduceAdd, Int.reduceNeg, Int.toNat_natCast, Int.natCast_nonneg, List.getElem?_cons_zero, List.getElem?_cons_succ, List.cons_append, List.set_cons_zero, List.set_cons_succ, List.take_zero, List.take_succ_cons, List.drop_zero, List.drop_succ_cons, List.drop_nil, List.take_nil, List.all_cons, List.all_nil, Nat.zero_add, Nat.zero_lt_one, Nat.le_refl]) (by intro hb; simp only [hb, h1, h2, h3, h16, h17, h18, go_sem, Nat.reduceEqDiff, reduceIte, Bool.false_eq_true, Bool.not_true, Bool.not_false, Bool.and_true, Bool.true_and, Bool.or_false, Bool.false_or, Bool.and_false, Bool.false_and, Bool.or_true, Bool.true_or, true_and, and_true, eq_self, not_false_eq_true, List.map_cons, List.map_nil, List.nil_append, List.append_nil, decide_true, decide_false, Int.reduceEq, Int.reduceLT, Int.reduceLE, List.length_cons, List.length_nil, Nat.reduceAdd, Nat.reduceLT, Nat.reduceLeDiff, List.getD_cons_zero, List.getD_cons_succ, Int.cast_ofNat_Int, Int.reduceToNat, Int.reduceSub, Int.reduceAdd, Int.reduceNeg, Int.toNat_natCast, Int.natCast_nonneg, List.getElem?_cons_zero, List.getElem?_cons_succ, List.cons_append, List.set_cons_zero, List.set_cons_succ, List.take_zero, List.take_succ_cons, List.drop_zero, List.drop_succ_cons, List.drop_nil, List.take_nil, List.all_cons, List.all_nil, Nat.zero_add, Nat.zero_lt_one, Nat.le_refl]; refine xcall_pure (args' := .int .i64 _ :: caps) (hcv _) (hf k hk) rfl ?_; try simp only [h1, h2, h3, h16, h17, h18, go_sem, Nat.reduceEqDiff, reduceIte, Bool.false_eq_true, Bool.not_true, Bool.not_false, Bool.and_true, Bool.true_and, Bool.or_false, Bool.false_or, Bool.and_false, Bool.false_and, Bool.or_true, Bool.true_or, true_and, and_true, eq_self, not_false_eq_true, List.map_cons, List.map_nil, List.nil_append, List.append_nil, decide_true, decide_false, Int.reduceEq, Int.reduceLT, Int.reduceLE, List.length_cons, List.length_nil, Nat.reduceAdd, Nat.reduceLT, Nat.reduceLeDiff, List.getD_cons_zero, List.getD_cons_succ, Int.cast_ofNat_Int, Int.reduceToNat, Int.reduceSub, Int.reduceAdd, Int.reduceNeg, Int.toNat_natCast, Int.natCast_nonneg, List.getElem?_cons_zero, List.getElem?_cons_succ, List.cons_append, List.set_cons_zero, List.set_cons_succ, List.take_zero, List.take_succ_cons, List.drop_zero, List.drop_succ_cons, List.drop_nil, List.take_nil, List.all_cons, List.all_nil, Nat.zero_add, Nat.zero_lt_one, Nat.le_refl]; first | exact rfl | exact ⟨rfl, rfl⟩) (fun vs => ?_); simp only [h1, h2, h3, h16, h17, h18, go_sem, Nat.reduceEqDiff, reduceIte, Bool.false_eq_true, Bool.not_true, Bool.not_false, Bool.and_true, Bool.true_and, Bool.or_false, Bool.false_or, Bool.and_false, Bool.false_and, Bool.or_true, Bool.true_or, true_and, and_true, eq_self, not_false_eq_true, List.map_cons, List.map_nil, List.nil_append, List.append_nil, decide_true, decide_false, Int.reduceEq, Int.reduceLT, Int.reduceLE, List.length_cons, List.length_nil, Nat.reduceAdd, Nat.reduceLT, Nat.reduceLeDiff, List.getD_cons_zero, List.getD_cons_succ, Int.cast_ofNat_Int, Int.reduceToNat, Int.reduceSub, Int.reduceAdd, Int.reduceNeg, Int.toNat_natCast, Int.natCast_nonneg, List.getElem?_cons_zero, List.getElem?_cons_succ, List.cons_append, List.set_cons_zero, List.set_cons_succ, List.take_zero, List.take_succ_cons, List.drop_zero, List.drop_succ_cons, List.drop_nil, List.take_nil, List.all_cons, List.all_nil, Nat.zero_add, Nat.zero_lt_one, Nat.le_refl]
      have hki : decide ((k : Int) = (i : Int)) = decide (k = i) := by congr 1; exact propext ⟨fun h => by omega, fun h => by omega⟩
      refine s_cond (b := decide (k = i) || !p k) (by simp only [h1, h2, h3, h16, h17, h18, hki, go_sem, Nat.reduceEqDiff, reduceIte, Bool.false_eq_true, Bool.not_true, Bool.not_false, Bool.and_true, Bool.true_and, Bool.or_false, Bool.false_or, Bool.and_false, Bool.false_and, Bool.or_true, Bool.true_or, true_and, and_true, eq_self, not_false_eq_true, List.map_cons, List.map_nil, List.nil_append, List.append_nil, decide_true, decide_false, Int.reduceEq, Int.reduceLT, Int.reduceLE, List.length_cons, List.length_nil, Nat.reduceAdd, Nat.reduceLT, Nat.reduceLeDiff, List.getD_cons_zero, List.getD_cons_succ, Int.cast_ofNat_Int, Int.reduceToNat, Int.reduceSub, Int.reduceAdd, Int.reduceNeg, Int.toNat_natCast, Int.natCast_nonneg, List.getElem?_cons_zero, List.getElem?_cons_succ, List.cons_append, List.set_cons_zero, List.set_cons_succ, List.take_zero, List.take_succ_cons, List.drop_zero, List.drop_succ_cons, List.drop_nil, List.take_nil, List.all_cons, List.all_nil, Nat.zero_add, Nat.zero_lt_one, Nat.le_refl]; try rfl) ?_ ?_ <;> intro hc <;> simp only [hc, h1, h2, h3, h16, h17, h18, go_sem, Nat.reduceEqDiff, reduceIte, Bool.false_eq_true, Bool.not_true, Bool.not_false, Bool.and_true, Bool.true_and, Bool.or_false, Bool.false_or, Bool.and_false, Bool.false_and, Bool.or_true, Bool.true_or, true_and, and_true, eq_self, not_false_eq_true, List.map_cons, List.map_nil, List.nil_append, List.append_nil, decide_true, decide_false, Int.reduceEq, Int.reduceLT, Int.reduceLE, List.length_cons, List.length_nil, Nat.reduceAdd, Nat.reduceLT, Nat.reduceLeDiff, List.getD_cons_zero, List.getD_cons_succ, Int.cast_ofNat_Int, Int.reduceToNat, Int.reduceSub, Int.reduceAdd, Int.reduceNeg, Int.toNat_natCast, Int.natCast_nonneg, List.getElem?_cons_zero, List.getElem?_cons_succ, List.cons_append, List.set_cons_zero, List.set_cons_succ, List.take_zero, List.take_succ_cons, List.drop_zero, List.drop_succ_cons, List.drop_nil, List.take_nil, List.all_cons, List.all_nil, Nat.zero_add, Nat.zero_lt_one, Nat.le_refl]
      · have hb2 : depOk d i p (A.getD j []) = false := by
          rw [hdep]; revert hc
          show (decide (k = i) || !p k) = true → (!decide (k = i) && p k) = false
          cases decide (k = i) <;> cases p k <;> simp
        rw [(hfin false hb2).1 rfl]; rfl
      · have hb2 : depOk d i p (A.getD j []) = true := by
          rw [hdep]; revert hc
          show (decide (k = i) || !p k) = false → (!decide (k = i) && p k) = true
          cases decide (k = i) <;> cases p k <;> simp
        refine ⟨A.length - (j + 1), by omega, j + 1, by omega, rfl, ?_, (hfin true hb2).2 rfl⟩
        rw [hw]
  · rw [decide_eq_false_iff_not] at hb
    have hj' : j = A.length := by omega
    subst hj'
    rw [List.take_length] at hall
    have hm : d.met i p = true := by rw [DefD.met, hA]; exact hall
    rw [hm]; rfl
end
end Go.X.TrydW

