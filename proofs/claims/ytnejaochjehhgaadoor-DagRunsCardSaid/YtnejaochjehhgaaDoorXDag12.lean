import Derived.Test.YtnejaochjehhgaaDoorXDag11
set_option linter.unusedVariables false
set_option linter.unusedSimpArgs false
set_option linter.unusedSectionVars false
open Go Go.X Go.Proofs
set_option maxRecDepth 100000
set_option maxHeartbeats 4000000
set_option linter.unusedSimpArgs false
set_option linter.unusedVariables false
namespace Go.X.TrydW
def x19a : XC :=
 (.seq (.ops [ ⟨(some 5), (.mov (.t 17)), none⟩]) (.ops [ ⟨(some 6), (.alloc [(.str []), (.int .i64 0), (.str []), (.str []), (.int .i64 0), (.int .i64 0), .nsl]), none⟩, ⟨none, (.store 7 (.t 6) (.t 18)), none⟩]))
def x19b : XC :=
 (.block 1 (.seq (.ops [ ⟨(some 19), (.load1 (.t 3)), none⟩, ⟨(some 20), (.mov (.t 5)), none⟩, ⟨(some 21), (.idxS 1 (.t 19) (.t 20)), none⟩, ⟨none, (.store 1 (.t 21) (.c (.int .i64 1))), none⟩]) (.seq (.seq (.ops [ ⟨(some 22), (.fldA 6 (.t 6)), none⟩, ⟨(some 23), (.load1 (.t 22)), none⟩, ⟨(some 24), (.len (.t 23)), none⟩, ⟨(some 25), (.mov (.c (.int .i64 0))), none⟩]) (.block 2 (.loop (.seq (.ops [ ⟨(some 26), (.bin .lss (.t 25) (.t 24)), none⟩]) (.seq (.cond (.t 26) .skip (.exit 2)) (.seq (.block 3 (.seq (.ops [ ⟨(some 27), (.idxS 1 (.t 23) (.t 25)), none⟩, ⟨(some 28), (.load1 (.t 27)), none⟩, ⟨(some 8), (.mov (.t 28)), none⟩]) (.seq (.ops [ ⟨(some 30), (.loadN 2 (.t 1)), none⟩, ⟨(some 31), (.mov (.t 8)), none⟩, ⟨(some 32), (.call (.f 29) [(.t 30), (.t 31)]), none⟩, ⟨(some 29), (.mov (.t 32)), none⟩, ⟨(some 33), (.ext (.t 29) 0), none⟩, ⟨(some 34), (.ext (.t 29) 1), none⟩, ⟨(some 9), (.mov (.t 33)), none⟩, ⟨(some 10), (.mov (.t 34)), none⟩]) (.drawE [ ⟨(some 35), (.load1 (.t 3)), none⟩, ⟨(some 36), (.mov (.t 5)), none⟩, ⟨(some 37), (.load1 (.t 3)), none⟩, ⟨(some 38), (.mov (.t 5)), none⟩, ⟨(some 39), (.idxS 1 (.t 37) (.t 38)), none⟩, ⟨(some 40), (.load1 (.t 39)), none⟩, ⟨(some 41), (.load1 (.t 3)), none⟩, ⟨(some 42), (.mov (.t 9)), none⟩, ⟨(some 43), (.idxS 1 (.t 41) (.t 42)), none⟩, ⟨(some 44), (.load1 (.t 43)), none⟩, ⟨(some 45), (.bin .add (.t 44) (.c (.int .i64 1))), none⟩, ⟨(some 46), (.max2 (.t 40) (.t 45)), none⟩, ⟨(some 47), (.idxS 1 (.t 35) (.t 36)), none⟩, ⟨none, (.store 1 (.t 47) (.t 46)), none⟩])))) (.ops [ ⟨(some 48), (.bin .add (.t 25) (.c (.int .i64 1))), none⟩, ⟨(some 25), (.mov (.t 48)), none⟩]))))))) (.drawE [ ⟨(some 49), (.load1 (.t 4)), none⟩, ⟨(some 50), (.load1 (.t 3)), none⟩, ⟨(some 51), (.mov (.t 5)), none⟩, ⟨(some 52), (.idxS 1 (.t 50) (.t 51)), none⟩, ⟨(some 53), (.load1 (.t 52)), none⟩, ⟨(some 54), (.max2 (.t 49) (.t 53)), none⟩, ⟨none, (.store 1 (.t 4) (.t 54)), none⟩]))))
def x19 : XC :=
 (.seq (.ops [ ⟨(some 1), (.box (.t 0)), none⟩, ⟨(some 2), (.mov (.c (.int .i64 0))), none⟩]) (.seq (.ops [ ⟨(some 11), (.fldA 1 (.t 1)), none⟩, ⟨(some 12), (.load1 (.t 11)), none⟩, ⟨(some 13), (.len (.t 12)), none⟩, ⟨(some 14), (.mkslice [(.int .i64 0)] 8 (.t 13) (.t 13)), none⟩, ⟨(some 3), (.alloc [.nsl]), none⟩, ⟨none, (.store 1 (.t 3) (.t 14)), none⟩]) (.seq (.ops [ ⟨(some 4), (.alloc [(.int .i64 0)]), none⟩, ⟨none, (.store 1 (.t 4) (.c (.int .i64 0))), none⟩]) (.seq (.seq (.ops [ ⟨(some 15), (.loadN 2 (.t 1)), none⟩, ⟨(some 16), (.call (.f 34) [(.t 15)]), none⟩]) (.block 0 (.rngF (.t 16) 56 [17, 18] x19a x19b))) (.seq (.ops [ ⟨(some 55), (.load1 (.t 4)), none⟩, ⟨(some 2), (.mov (.t 55)), none⟩]) .ret)))))
/- "tiller/dag.Walk$1" params { toList := [71] } results { toList := [] } -/
def x47 : XC :=
 (.seq
  (.ops [
    ⟨(some 9), (.loadN 2 (.t 1)), none⟩,
    ⟨(some 10), (.call (.f 17) [(.t 9)]), none⟩,
    ⟨(some 8), (.mov (.t 10)), none⟩,
    ⟨(some 11), (.ext (.t 8) 0), none⟩,
    ⟨(some 12), (.ext (.t 8) 1), none⟩,
    ⟨(some 3), (.mov (.t 11)), none⟩,
    ⟨(some 4), (.mov (.t 12)), none⟩])
  (.seq
   (.ops [
     ⟨(some 13), (.mov (.t 3)), none⟩,
     ⟨(some 14), (.len (.t 13)), none⟩,
     ⟨(some 15), (.mov (.c (.int .i64 0))), none⟩])
   (.block 0
    (.loop
     (.seq
      (.ops [
        ⟨(some 16), (.bin .lss (.t 15) (.t 14)), none⟩])
      (.seq
       (.cond (.t 16)
        .skip
        (.exit 0))
       (.seq
        (.block 1
         (.seq
          (.ops [
            ⟨(some 17), (.idxS 1 (.t 13) (.t 15)), none⟩,
            ⟨(some 18), (.load1 (.t 17)), none⟩,
            ⟨(some 6), (.mov (.t 18)), none⟩])
          (.seq
           (.ops [
             ⟨(some 19), (.fldA 1 (.t 1)), none⟩,
             ⟨(some 20), (.load1 (.t 19)), none⟩,
             ⟨(some 21), (.mov (.t 6)), none⟩,
             ⟨(some 22), (.idxS 7 (.t 20) (.t 21)), none⟩,
             ⟨(some 23), (.loadN 7 (.t 22)), none⟩,
             ⟨(some 7), (.alloc [(.str []), (.int .i64 0), (.str []), (.str []), (.int .i64 0), (.int .i64 0), .nsl]), none⟩,
             ⟨none, (.store 7 (.t 7) (.t 23)), none⟩])
           (.seq
            (.ops [
              ⟨(some 24), (.fldA 6 (.t 7)), none⟩,
              ⟨(some 25), (.load1 (.t 24)), none⟩,
              ⟨(some 26), (.call (.f 46) [(.t 25)]), none⟩,
              ⟨(some 27), (.fldA 6 (.t 7)), none⟩,
              ⟨none, (.store 1 (.t 27) (.t 26)), none⟩])
            (.seq
             (.ops [
               ⟨(some 28), (.mov (.t 0)), none⟩,
               ⟨(some 29), (.mov (.t 6)), none⟩,
               ⟨(some 30), (.loadN 7 (.t 7)), none⟩,
               ⟨(some 31), (.call (.t 28) [(.t 29), (.t 30)]), none⟩,
               ⟨(some 32), (.un .not (.t 31)), none⟩])
             (.cond (.t 32)
              .ret
              .skip))))))
        (.ops [
          ⟨(some 33), (.bin .add (.t 15) (.c (.int .i64 1))), none⟩,
          ⟨(some 15), (.mov (.t 33)), none⟩]))))))))

section
variable {E : Env}
def findK (d : DefD) (s : List UInt8) : Nat := (d.find s).getD 0
theorem findN_eq (d : DefD) (s : List UInt8) : findN (d.find s) = (findK d s : Int) := by
  unfold findK findN; cases d.find s <;> rfl
theorem findK_lt (d : DefD) (s : List UInt8) (h : 0 < d.nodes.length) : findK d s < d.nodes.length := by
  unfold findK
  cases hf : d.find s with
  | none => exact h
  | some i => exact firstI_lt hf
/-- One edge. -/
def stepIn (d : DefD) (i : Nat) (deep : List Nat) (s : List UInt8) : List Nat := deep.set i (max (deep.getD i 0) (deep.getD (findK d s) 0 + 1))
/-- One node. -/
def deepOf (d : DefD) (deep : List Nat) (i : Nat) (k : Nat) : List Nat := (((d.nodes.getD i default).after).take k).foldl (stepIn d i) (deep.set i 1)
def stepD (d : DefD) (st : List Nat × Nat) (i : Nat) : List Nat × Nat :=
  let deep := deepOf d st.1 i (d.nodes.getD i default).after.length
  (deep, max st.2 (deep.getD i 0))
def DefD.depth (d : DefD) : Nat := (d.order.foldl (stepD d) (List.replicate d.nodes.length 0, 0)).2

def LeAll (B : Nat) (l : List Nat) : Prop := ∀ k, l.getD k 0 ≤ B
theorem LeAll.set {B v i : Nat} {l : List Nat} (h : LeAll B l) (hv : v ≤ B) : LeAll B (l.set i v) := by
  intro k
  have := h k
  rw [List.getD_eq_getElem?_getD] at this ⊢
  rw [List.getElem?_set]
  split
  · split
    · exact hv
    · exact Nat.zero_le _
  · exact this
theorem LeAll.mono {B B' : Nat} {l : List Nat} (h : LeAll B l) (hb : B ≤ B') : LeAll B' l := fun k => Nat.le_trans (h k) hb
theorem LeAll.step {B i : Nat} {l : List Nat} {d : DefD} {s : List UInt8} (h : LeAll B l) : LeAll (B + 1) (stepIn d i l s) :=
  LeAll.set (h.mono (Nat.le_succ B)) (Nat.max_le.2 ⟨Nat.le_succ_of_le (h i), Nat.succ_le_succ (h _)⟩)
theorem stepIn_len (d : DefD) (i : Nat) (l : List Nat) (s : List UInt8) : (stepIn d i l s).length = l.length := List.length_set ..
theorem deepOf_len (d : DefD) (l : List Nat) (i k : Nat) : (deepOf d l i k).length = l.length := by
  unfold deepOf
  have : ∀ (a : List (List UInt8)) (l : List Nat), (a.foldl (stepIn d i) l).length = l.length := by
    intro a
    induction a with
    | nil => intro l; rfl
    | cons s a ih => intro l; rw [List.foldl_cons, ih, stepIn_len]
  rw [this, List.length_set]
theorem deepOf_le (d : DefD) {B : Nat} {l : List Nat} (h : LeAll B l) (i k : Nat) : LeAll (B + 1 + k) (deepOf d l i k) := by
  unfold deepOf
  have : ∀ (a : List (List UInt8)) (l : List Nat) (B : Nat), LeAll B l → LeAll (B + a.length) (a.foldl (stepIn d i) l) := by
    intro a
    induction a with
    | nil => intro l B h; exact h
    | cons s a ih =>
      intro l B h
      rw [List.foldl_cons]
      exact (ih _ _ h.step).mono (by simp; omega)
  exact (this _ _ _ ((h.mono (Nat.le_succ B)).set (by omega))).mono (by
    have := List.length_take_le k (d.nodes.getD i default).after; omega)
theorem deepOf_succ (d : DefD) (l : List Nat) (i k : Nat) (h : k < (d.nodes.getD i default).after.length) : deepOf d l i (k + 1) = stepIn d i (deepOf d l i k) ((d.nodes.getD i default).after.getD k []) := by
  unfold deepOf
  have h2 : (d.nodes.getD i default).after[k]? = some ((d.nodes.getD i default).after.getD k []) := getD_get h
  rw [List.take_add_one, List.foldl_append, h2]
  rfl
theorem get5 {a b c e f x : Blk} {J : List Blk} : (a :: b :: c :: e :: f :: (J ++ [x]))[J.length + 5]? = some x := by simp
theorem intRows_get {l : List Nat} {i : Nat} (h : i < l.length) : (intRows l).getD i [] = [.int .i64 ((l.getD i 0 : Nat) : Int)] := by
  simp [intRows, List.getD_eq_getElem?_getD, List.getElem?_eq_getElem h]
theorem intRows_set (l : List Nat) (i v : Nat) : (intRows l).set i [.int .i64 (v : Int)] = intRows (l.set i v) := by simp [intRows, List.map_set]
theorem max_cast (a b : Nat) : (if (a : Int) < (b : Int) then (b : Int) else (a : Int)) = ((max a b : Nat) : Int) := by
  split <;> omega

def depB (d : DefD) (deep : List Nat) (longest : Nat) (lp : Blk) (J : List Blk) : List Blk :=
  .cells 2 [[.str d.name, .isl (nodeRows d.nodes)]] :: .cells 1 (intRows deep) :: .cells 1 [[.sl 1 0 d.nodes.length d.nodes.length]] :: .cells 1 [[.int .i64 (longest : Int)]] :: lp :: J

theorem round_run (hP : E.P = Tryd.prog) (d : DefD) (hd : d.nodes.length ≤ 1000000) (ha : ∀ n ∈ d.nodes, n.after.length ≤ 1000000) {i : Nat} (hi : i < d.nodes.length) {deep : List Nat} {longest B : Nat} (hlen : deep.length = d.nodes.length)
    (hB : LeAll B deep) (hBl : longest ≤ B) (hBB : B ≤ 1000000000000000) (lp : Blk) (J : List Blk) (s : Nat) {ρ : Rho} (hs : s = J.length + 5) (h1 : ρ 1 = .ptr 0 0 0) (h3 : ρ 3 = .ptr 2 0 0) (h4 : ρ 4 = .ptr 3 0 0) (h5 : ρ 5 = .int .i64 i) (h6 : ρ 6 = .ptr s 0 0) :
    xrun E x19b ρ (depB d deep longest lp (J ++ [.cells 7 [(d.nodes.getD i default).row]])) fun e _ L' => e = .normal ∧
      L' = depB d (stepD d (deep, longest) i).1 (stepD d (deep, longest) i).2 lp (J ++ [.cells 7 [(d.nodes.getD i default).row]]) := by
  have hmem : d.nodes.getD i default ∈ d.nodes := by rw [List.getD_eq_getElem?_getD, List.getElem?_eq_getElem hi]; exact List.getElem_mem _
  have haf := ha _ hmem
  generalize hnd : d.nodes.getD i default = nd at *
  unfold depB
  unfold x19b
  subst hs
  have hnl : 0 < d.nodes.length := by omega
  have hrow0 := intRows_get (l := deep) (i := i) (by omega)
  have hil : (intRows deep).length = d.nodes.length := by rw [← hlen]; simp [intRows]
  have hset0 : (intRows deep).set i [.int .i64 1] = intRows (deepOf d deep i 0) := intRows_set deep i 1
  simp only [h1, h3, h4, h5, h6, NodeD.row, get5, hrow0, hil, hset0, strRows_len, go_sem, Nat.reduceEqDiff, reduceIte, Bool.false_eq_true, Bool.not_true, Bool.not_false, Bool.and_true, Bool.true_and, Bool.or_false, Bool.false_or, Bool.and_false, Bool.false_and, Bool.or_true, Bool.true_or, true_and, and_true, eq_self, not_false_eq_true, List.map_cons, List.map_nil, List.nil_append, List.append_nil, decide_true, decide_false, Int.reduceEq, Int.reduceLT, Int.reduceLE, List.length_cons, List.length_nil, Nat.reduceAdd, Nat.reduceLT, Nat.reduceLeDiff, List.getD_cons_zero, List.getD_cons_succ, Int.cast_ofNat_Int, Int.reduceToNat, Int.reduceSub, Int.reduceAdd, Int.reduceNeg, Int.toNat_natCast, Int.natCast_nonneg, List.getElem?_cons_zero, List.getElem?_cons_succ, List.cons_append, List.set_cons_zero, List.set_cons_succ, List.take_zero, List.take_succ_cons, List.drop_zero, List.drop_succ_cons, List.drop_nil, List.take_nil, List.all_cons, List.all_nil, Nat.zero_add, Nat.zero_lt_one, Nat.le_refl]
  refine ⟨by omega, hi, ?_⟩
  refine s_loop (fun n' ρ L => ∃ k : Nat, k ≤ nd.after.length ∧ n' = nd.after.length - k ∧ L = depB d (deepOf d deep i k) longest lp (J ++ [.cells 7 [nd.row]]) ∧
      ρ 1 = .ptr 0 0 0 ∧ ρ 3 = .ptr 2 0 0 ∧ ρ 4 = .ptr 3 0 0 ∧ ρ 5 = .int .i64 i ∧ ρ 23 = .isl (strRows nd.after) ∧ ρ 24 = .int .i64 nd.after.length ∧ ρ 25 = .int .i64 k)
    ⟨0, Nat.zero_le _, rfl, rfl, by simp only [h1, go_sem, Nat.reduceEqDiff, reduceIte, Bool.false_eq_true, Bool.not_true, Bool.not_false, Bool.and_true, Bool.true_and, Bool.or_false, Bool.false_or, Bool.and_false, Bool.false_and, Bool.or_true, Bool.true_or, true_and, and_true, eq_self, not_false_eq_true, List.map_cons, List.map_nil, List.nil_append, List.append_nil, decide_true, decide_false, Int.reduceEq, Int.reduceLT, Int.reduceLE, List.length_cons, List.length_nil, Nat.reduceAdd, Nat.reduceLT, Nat.reduceLeDiff, List.getD_cons_zero, List.getD_cons_succ, Int.cast_ofNat_Int, Int.reduceToNat, Int.reduceSub, Int.reduceAdd, Int.reduceNeg, Int.toNat_natCast, Int.natCast_nonneg, List.getElem?_cons_zero, List.getElem?_cons_succ, List.cons_append, List.set_cons_zero, List.set_cons_succ, List.take_zero, List.take_succ_cons, List.drop_zero, List.drop_succ_cons, List.drop_nil, List.take_nil, List.all_cons, List.all_nil, Nat.zero_add, Nat.zero_lt_one, Nat.le_refl], by simp only [h3, go_sem, Nat.reduceEqDiff, reduceIte, Bool.false_eq_true, Bool.not_true, Bool.not_false, Bool.and_true, Bool.true_and, Bool.or_false, Bool.false_or, Bool.and_false, Bool.false_and, Bool.or_true, Bool.true_or, true_and, and_true, eq_self, not_false_eq_true, List.map_cons, List.map_nil, List.nil_append, List.append_nil, decide_true, decide_false, Int.reduceEq, Int.reduceLT, Int.reduceLE, List.length_cons, List.length_nil, Nat.reduceAdd, Nat.reduceLT, Nat.reduceLeDiff, List.getD_cons_zero, List.getD_cons_succ, Int.cast_ofNat_Int, Int.reduceToNat, Int.reduceSub, Int.reduceAdd, Int.reduceNeg, Int.toNat_natCast, Int.natCast_nonneg, List.getElem?_cons_zero, List.getElem?_cons_succ, List.cons_append, List.set_cons_zero, List.set_cons_succ, List.take_zero, List.take_succ_cons, List.drop_zero, List.drop_succ_cons, List.drop_nil, List.take_nil, List.all_cons, List.all_nil, Nat.zero_add, Nat.zero_lt_one, Nat.le_refl], by simp only [h4, go_sem, Nat.reduceEqDiff, reduceIte, Bool.false_eq_true, Bool.not_true, Bool.not_false, Bool.and_true, Bool.true_and, Bool.or_false, Bool.false_or, Bool.and_false, Bool.false_and, Bool.or_true, Bool.true_or, true_and, and_true, eq_self, not_false_eq_true, List.map_cons, List.map_nil, List.nil_append, List.append_nil, decide_true, decide_false, Int.reduceEq, Int.reduceLT, Int.reduceLE, List.length_cons, List.length_nil, Nat.reduceAdd, Nat.reduceLT, Nat.reduceLeDiff, List.getD_cons_zero, List.getD_cons_succ, Int.cast_ofNat_Int, Int.reduceToNat, Int.reduceSub, Int.reduceAdd, Int.reduceNeg, Int.toNat_natCast, Int.natCast_nonneg, List.getElem?_cons_zero, List.getElem?_cons_succ, List.cons_append, List.set_cons_zero, List.set_cons_succ, List.take_zero, List.take_succ_cons, List.drop_zero, List.drop_succ_cons, List.drop_nil, List.take_nil, List.all_cons, List.all_nil, Nat.zero_add, Nat.zero_lt_one, Nat.le_refl], by simp only [h5, go_sem, Nat.reduceEqDiff, reduceIte, Bool.false_eq_true, Bool.not_true, Bool.not_false, Bool.and_true, Bool.true_and, Bool.or_false, Bool.false_or, Bool.and_false, Bool.false_and, Bool.or_true, Bool.true_or, true_and, and_true, eq_self, not_false_eq_true, List.map_cons, List.map_nil, List.nil_append, List.append_nil, decide_true, decide_false, Int.reduceEq, Int.reduceLT, Int.reduceLE, List.length_cons, List.length_nil, Nat.reduceAdd, Nat.reduceLT, Nat.reduceLeDiff, List.getD_cons_zero, List.getD_cons_succ, Int.cast_ofNat_Int, Int.reduceToNat, Int.reduceSub, Int.reduceAdd, Int.reduceNeg, Int.toNat_natCast, Int.natCast_nonneg, List.getElem?_cons_zero, List.getElem?_cons_succ, List.cons_append, List.set_cons_zero, List.set_cons_succ, List.take_zero, List.take_succ_cons, List.drop_zero, List.drop_succ_cons, List.drop_nil, List.take_nil, List.all_cons, List.all_nil, Nat.zero_add, Nat.zero_lt_one, Nat.le_refl], by simp only [go_sem, Nat.reduceEqDiff, reduceIte, Bool.false_eq_true, Bool.not_true, Bool.not_false, Bool.and_true, Bool.true_and, Bool.or_false, Bool.false_or, Bool.and_false, Bool.false_and, Bool.or_true, Bool.true_or, true_and, and_true, eq_self, not_false_eq_true, List.map_cons, List.map_nil, List.nil_append, List.append_nil, decide_true, decide_false, Int.reduceEq, Int.reduceLT, Int.reduceLE, List.length_cons, List.length_nil, Nat.reduceAdd, Nat.reduceLT, Nat.reduceLeDiff, List.getD_cons_zero, List.getD_cons_succ, Int.cast_ofNat_Int, Int.reduceToNat, Int.reduceSub, Int.reduceAdd, Int.reduceNeg, Int.toNat_natCast, Int.natCast_nonneg, List.getElem?_cons_zero, List.getElem?_cons_succ, List.cons_append, List.set_cons_zero, List.set_cons_succ, List.take_zero, List.take_succ_cons, List.drop_zero, List.drop_succ_cons, List.drop_nil, List.take_nil, List.all_cons, List.all_nil, Nat.zero_add, Nat.zero_lt_one, Nat.le_refl], by simp only [go_sem, Nat.reduceEqDiff, reduceIte, Bool.false_eq_true, Bool.not_true, Bool.not_false, Bool.and_true, Bool.true_and, Bool.or_false, Bool.false_or, Bool.and_false, Bool.false_and, Bool.or_true, Bool.true_or, true_and, and_true, eq_self, not_false_eq_true, List.map_cons, List.map_nil, List.nil_append, List.append_nil, decide_true, decide_false, Int.reduceEq, Int.reduceLT, Int.reduceLE, List.length_cons, List.length_nil, Nat.reduceAdd, Nat.reduceLT, Nat.reduceLeDiff, List.getD_cons_zero, List.getD_cons_succ, Int.cast_ofNat_Int, Int.reduceToNat, Int.reduceSub, Int.reduceAdd, Int.reduceNeg, Int.toNat_natCast, Int.natCast_nonneg, List.getElem?_cons_zero, List.getElem?_cons_succ, List.cons_append, List.set_cons_zero, List.set_cons_succ, List.take_zero, List.take_succ_cons, List.drop_zero, List.drop_succ_cons, List.drop_nil, List.take_nil, List.all_cons, List.all_nil, Nat.zero_add, Nat.zero_lt_one, Nat.le_refl], by simp only [go_sem, Nat.reduceEqDiff, reduceIte, Bool.false_eq_true, Bool.not_true, Bool.not_false, Bool.and_true, Bool.true_and, Bool.or_false, Bool.false_or, Bool.and_false, Bool.false_and, Bool.or_true, Bool.true_or, true_and, and_true, eq_self, not_false_eq_true, List.map_cons, List.map_nil, List.nil_append, List.append_nil, decide_true, decide_false, Int.reduceEq, Int.reduceLT, Int.reduceLE, List.length_cons, List.length_nil, Nat.reduceAdd, Nat.reduceLT, Nat.reduceLeDiff, List.getD_cons_zero, List.getD_cons_succ, Int.cast_ofNat_Int, Int.reduceToNat, Int.reduceSub, Int.reduceAdd, Int.reduceNeg, Int.toNat_natCast, Int.natCast_nonneg, List.getElem?_cons_zero, List.getElem?_cons_succ, List.cons_append, List.set_cons_zero, List.set_cons_succ, List.take_zero, List.take_succ_cons, List.drop_zero, List.drop_succ_cons, List.drop_nil, List.take_nil, List.all_cons, List.all_nil, Nat.zero_add, Nat.zero_lt_one, Nat.le_refl]; try rfl⟩ ?_
  clear h1 h3 h4 h5 h6 ρ
  rintro n' ρ L ⟨k, hk, rfl, rfl, h1, h3, h4, h5, h23, h24, h25⟩
  have hdl : (deepOf d deep i k).length = d.nodes.length := by rw [deepOf_len]; exact hlen
  have hdB := deepOf_le d hB i k
  generalize hdp : deepOf d deep i k = dp at *
  have hrow := intRows_get (l := dp) (i := i) (by omega)
  have hil2 : (intRows dp).length = d.nodes.length := by rw [← hdl]; simp [intRows]
  unfold depB
  simp only [h1, h3, h4, h5, h23, h24, h25, go_sem, Nat.reduceEqDiff, reduceIte, Bool.false_eq_true, Bool.not_true, Bool.not_false, Bool.and_true, Bool.true_and, Bool.or_false, Bool.false_or, Bool.and_false, Bool.false_and, Bool.or_true, Bool.true_or, true_and, and_true, eq_self, not_false_eq_true, List.map_cons, List.map_nil, List.nil_append, List.append_nil, decide_true, decide_false, Int.reduceEq, Int.reduceLT, Int.reduceLE, List.length_cons, List.length_nil, Nat.reduceAdd, Nat.reduceLT, Nat.reduceLeDiff, List.getD_cons_zero, List.getD_cons_succ, Int.cast_ofNat_Int, Int.reduceToNat, Int.reduceSub, Int.reduceAdd, Int.reduceNeg, Int.toNat_natCast, Int.natCast_nonneg, List.getElem?_cons_zero, List.getElem?_cons_succ, List.cons_append, List.set_cons_zero, List.set_cons_succ, List.take_zero, List.take_succ_cons, List.drop_zero, List.drop_succ_cons, List.drop_nil, List.take_nil, List.all_cons, List.all_nil, Nat.zero_add, Nat.zero_lt_one, Nat.le_refl]
  refine s_cond (b := decide _) (by simp only [h1, h3, h4, h5, h23, h24, h25, strRows_len, rows_strs, go_sem, Nat.reduceEqDiff, reduceIte, Bool.false_eq_true, Bool.not_true, Bool.not_false, Bool.and_true, Bool.true_and, Bool.or_false, Bool.false_or, Bool.and_false, Bool.false_and, Bool.or_true, Bool.true_or, true_and, and_true, eq_self, not_false_eq_true, List.map_cons, List.map_nil, List.nil_append, List.append_nil, decide_true, decide_false, Int.reduceEq, Int.reduceLT, Int.reduceLE, List.length_cons, List.length_nil, Nat.reduceAdd, Nat.reduceLT, Nat.reduceLeDiff, List.getD_cons_zero, List.getD_cons_succ, Int.cast_ofNat_Int, Int.reduceToNat, Int.reduceSub, Int.reduceAdd, Int.reduceNeg, Int.toNat_natCast, Int.natCast_nonneg, List.getElem?_cons_zero, List.getElem?_cons_succ, List.cons_append, List.set_cons_zero, List.set_cons_succ, List.take_zero, List.take_succ_cons, List.drop_zero, List.drop_succ_cons, List.drop_nil, List.take_nil, List.all_cons, List.all_nil, Nat.zero_add, Nat.zero_lt_one, Nat.le_refl]; try rfl) ?_ ?_ <;> intro hb <;> simp only [hb, h1, h3, h4, h5, h23, h24, h25, strRows_len, rows_strs, go_sem, Nat.reduceEqDiff, reduceIte, Bool.false_eq_true, Bool.not_true, Bool.not_false, Bool.and_true, Bool.true_and, Bool.or_false, Bool.false_or, Bool.and_false, Bool.false_and, Bool.or_true, Bool.true_or, true_and, and_true, eq_self, not_false_eq_true, List.map_cons, List.map_nil, List.nil_append, List.append_nil, decide_true, decide_false, Int.reduceEq, Int.reduceLT, Int.reduceLE, List.length_cons, List.length_nil, Nat.reduceAdd, Nat.reduceLT, Nat.reduceLeDiff, List.getD_cons_zero, List.getD_cons_succ, Int.cast_ofNat_Int, Int.reduceToNat, Int.reduceSub, Int.reduceAdd, Int.reduceNeg, Int.toNat_natCast, Int.natCast_nonneg, List.getElem?_cons_zero, List.getElem?_cons_succ, List.cons_append, List.set_cons_zero, List.set_cons_succ, List.take_zero, List.take_succ_cons, List.drop_zero, List.drop_succ_cons, List.drop_nil, List.take_nil, List.all_cons, List.all_nil, Nat.zero_add, Nat.zero_lt_one, Nat.le_refl]
  · rw [decide_eq_true_eq] at hb
    have hk' : k < nd.after.length := by omega
    have hsr := strRows_get hk'
    refine ⟨hb, ?_⟩
    simp only [h1, h3, h4, h5, h23, h24, h25, hsr, strRows_len, go_sem, Nat.reduceEqDiff, reduceIte, Bool.false_eq_true, Bool.not_true, Bool.not_false, Bool.and_true, Bool.true_and, Bool.or_false, Bool.false_or, Bool.and_false, Bool.false_and, Bool.or_true, Bool.true_or, true_and, and_true, eq_self, not_false_eq_true, List.map_cons, List.map_nil, List.nil_append, List.append_nil, decide_true, decide_false, Int.reduceEq, Int.reduceLT, Int.reduceLE, List.length_cons, List.length_nil, Nat.reduceAdd, Nat.reduceLT, Nat.reduceLeDiff, List.getD_cons_zero, List.getD_cons_succ, Int.cast_ofNat_Int, Int.reduceToNat, Int.reduceSub, Int.reduceAdd, Int.reduceNeg, Int.toNat_natCast, Int.natCast_nonneg, List.getElem?_cons_zero, List.getElem?_cons_succ, List.cons_append, List.set_cons_zero, List.set_cons_succ, List.take_zero, List.take_succ_cons, List.drop_zero, List.drop_succ_cons, List.drop_nil, List.take_nil, List.all_cons, List.all_nil, Nat.zero_add, Nat.zero_lt_one, Nat.le_refl]
    refine ⟨hk', ?_⟩
    refine xcall_pure (args' := [d.iv, .str (nd.after.getD k [])]) rfl (dagFind_pure hP d _ (by omega)) rfl ?_
    have hfk := findK_lt d (nd.after.getD k []) hnl
    have hrk := intRows_get (l := dp) (i := findK d (nd.after.getD k [])) (by omega)
    simp only [h1, h3, h4, h5, h23, h24, h25, findN_eq, hrow, hrk, hil2, go_sem, Nat.reduceEqDiff, reduceIte, Bool.false_eq_true, Bool.not_true, Bool.not_false, Bool.and_true, Bool.true_and, Bool.or_false, Bool.false_or, Bool.and_false, Bool.false_and, Bool.or_true, Bool.true_or, true_and, and_true, eq_self, not_false_eq_true, List.map_cons, List.map_nil, List.nil_append, List.append_nil, decide_true, decide_false, Int.reduceEq, Int.reduceLT, Int.reduceLE, List.length_cons, List.length_nil, Nat.reduceAdd, Nat.reduceLT, Nat.reduceLeDiff, List.getD_cons_zero, List.getD_cons_succ, Int.cast_ofNat_Int, Int.reduceToNat, Int.reduceSub, Int.reduceAdd, Int.reduceNeg, Int.toNat_natCast, Int.natCast_nonneg, List.getElem?_cons_zero, List.getElem?_cons_succ, List.cons_append, List.set_cons_zero, List.set_cons_succ, List.take_zero, List.take_succ_cons, List.drop_zero, List.drop_succ_cons, List.drop_nil, List.take_nil, List.all_cons, List.all_nil, Nat.zero_add, Nat.zero_lt_one, Nat.le_refl]
    have hw : IntKind.wrap .i64 (((dp.getD (findK d (nd.after.getD k [])) 0 : Nat) : Int) + 1) = ((dp.getD (findK d (nd.after.getD k [])) 0 + 1 : Nat) : Int) := by
      have := hdB (findK d (nd.after.getD k []))
      rw [wrap64 (by omega) (by omega)]; rfl
    refine ⟨by omega, hi, by omega, hfk, by omega, hi, nd.after.length - (k + 1), by omega, k + 1, by omega, rfl, ?_, by rw [wrap64 (by omega) (by omega)]; rfl⟩
    rw [hw, deepOf_succ d deep i k (by rw [hnd]; exact hk'), hdp, hnd]
    simp only [gt_iff_lt, max_cast, intRows_set]
    rfl
  · rw [decide_eq_false_iff_not] at hb
    have hkk : k = nd.after.length := by omega
    simp only [h1, h3, h4, h5, h23, h24, h25, hrow, hil2, go_sem, Nat.reduceEqDiff, reduceIte, Bool.false_eq_true, Bool.not_true, Bool.not_false, Bool.and_true, Bool.true_and, Bool.or_false, Bool.false_or, Bool.and_false, Bool.false_and, Bool.or_true, Bool.true_or, true_and, and_true, eq_self, not_false_eq_true, List.map_cons, List.map_nil, List.nil_append, List.append_nil, decide_true, decide_false, Int.reduceEq, Int.reduceLT, Int.reduceLE, List.length_cons, List.length_nil, Nat.reduceAdd, Nat.reduceLT, Nat.reduceLeDiff, List.getD_cons_zero, List.getD_cons_succ, Int.cast_ofNat_Int, Int.reduceToNat, Int.reduceSub, Int.reduceAdd, Int.reduceNeg, Int.toNat_natCast, Int.natCast_nonneg, List.getElem?_cons_zero, List.getElem?_cons_succ, List.cons_append, List.set_cons_zero, List.set_cons_succ, List.take_zero, List.take_succ_cons, List.drop_zero, List.drop_succ_cons, List.drop_nil, List.take_nil, List.all_cons, List.all_nil, Nat.zero_add, Nat.zero_lt_one, Nat.le_refl]
    have hst : stepD d (deep, longest) i = (dp, max longest (dp.getD i 0)) := by
      unfold stepD
      simp only [hnd]
      rw [← hkk, hdp]
    refine ⟨by omega, hi, ?_⟩
    rw [hst]
    simp only [gt_iff_lt, max_cast]
    rfl

theorem ordGo_facts (d : DefD) : ∀ (n : Nat) (told : List Bool) (out : List Nat), (d.ordGo n told out).length ≤ out.length + n ∧ ∀ i ∈ d.ordGo n told out, i ∈ out ∨ i < d.nodes.length
  | 0, told, out => ⟨by simp [DefD.ordGo], fun i hi => .inl hi⟩
  | n + 1, told, out => by
    rw [DefD.ordGo]
    split
    · exact ⟨by omega, fun i hi => .inl hi⟩
    · rename_i i0 hf
      obtain ⟨h1, h2⟩ := ordGo_facts d n (told.set i0 true) (out ++ [i0])
      refine ⟨by simp at h1; omega, fun i hi => ?_⟩
      rcases h2 i hi with h | h
      · rcases List.mem_append.1 h with h | h
        · exact .inl h
        · have := firstI_lt hf
          simp at h this; subst h; exact .inr this
      · exact .inr h
theorem order_len (d : DefD) : d.order.length ≤ d.nodes.length + 1 := by have := (ordGo_facts d (d.nodes.length + 1) (List.replicate d.nodes.length false) []).1; simpa [DefD.order] using this
theorem order_lt (d : DefD) {i : Nat} (h : i ∈ d.order) : i < d.nodes.length := by
  rcases (ordGo_facts d (d.nodes.length + 1) (List.replicate d.nodes.length false) []).2 i h with h | h
  · cases h
  · exact h
theorem stepD_facts (d : DefD) (ha : ∀ n ∈ d.nodes, n.after.length ≤ 1000000) : ∀ (l : List Nat) (st : List Nat × Nat) (B : Nat), (∀ i ∈ l, i < d.nodes.length) → LeAll B st.1 → st.2 ≤ B →
    (l.foldl (stepD d) st).1.length = st.1.length ∧ LeAll (B + l.length * 1000001) (l.foldl (stepD d) st).1 ∧ (l.foldl (stepD d) st).2 ≤ B + l.length * 1000001
  | [], st, B, _, h1, h2 => ⟨rfl, by simpa using h1, by simpa using h2⟩
  | i :: l, st, B, hl, h1, h2 => by
    rw [List.foldl_cons]
    have hi := hl i List.mem_cons_self
    have hmem : d.nodes.getD i default ∈ d.nodes := by rw [List.getD_eq_getElem?_getD, List.getElem?_eq_getElem hi]; exact List.getElem_mem _
    have haf := ha _ hmem
    have h3 : LeAll (B + 1000001) (stepD d st i).1 := (deepOf_le d h1 i _).mono (by omega)
    have h4 : (stepD d st i).2 ≤ B + 1000001 := Nat.max_le.2 ⟨by omega, h3 i⟩
    obtain ⟨h5, h6, h7⟩ := stepD_facts d ha l (stepD d st i) (B + 1000001) (fun j hj => hl j (List.mem_cons_of_mem _ hj)) h3 h4
    have e : B + 1000001 + l.length * 1000001 = B + (i :: l).length * 1000001 := by simp only [List.length_cons]; omega
    rw [e] at h6 h7
    exact ⟨by rw [h5]; exact deepOf_len d st.1 i _, h6, h7⟩

theorem rows_ints (l : List Nat) : Rows 1 (intRows l) := by
  intro row h
  obtain ⟨n, _, rfl⟩ := List.mem_map.1 h
  rfl
theorem get5' {a b c e f x : Blk} {J : List Blk} : (a :: b :: c :: e :: f :: (J ++ [x]))[J.length + 1 + 1 + 1 + 1 + 1]? = some x := by simp
theorem set5' {a b c e f x y : Blk} {J : List Blk} : (a :: b :: c :: e :: f :: (J ++ [x])).set (J.length + 1 + 1 + 1 + 1 + 1) y = a :: b :: c :: e :: f :: (J ++ [y]) := by simp
theorem comp47 : compFn Tryd.prog Tryd.f47 = some ⟨Tryd.f47.ntmps, [], x47⟩ := by kernel_rfl
theorem putPs_len (l : List IV) (ps : List Nat) (as' : List IV) : (putPs l ps as').length = l.length := by
  unfold putPs
  generalize ps.zip as' = q
  induction q generalizing l with
  | nil => rfl
  | cons p q ih => rw [List.foldl_cons, ih, List.length_set]
theorem rho_set {l : List IV} {p n : Nat} {v : IV} (h : p < l.length) : rhoOf (l.set p v) n = if n = p then v else rhoOf l n := by
  unfold rhoOf
  rw [List.getD_eq_getElem?_getD, List.getElem?_set]
  by_cases hn : n = p
  · subst hn; rw [if_pos rfl, if_pos h, if_pos rfl]; rfl
  · rw [if_neg (Ne.symm hn), if_neg hn, List.getD_eq_getElem?_getD]

theorem depth_loop (hP : E.P = Tryd.prog) (d : DefD) (hd : d.nodes.length ≤ 1000000) (ha : ∀ n ∈ d.nodes, n.after.length ≤ 1000000) (ρ' : Rho) (h1 : ρ' 1 = .ptr 0 0 0) (h3 : ρ' 3 = .ptr 2 0 0) (h4 : ρ' 4 = .ptr 3 0 0)
    (h16 : ρ' 16 = .fn (.func 47) [] [.iptr [[.str d.name, .isl (nodeRows d.nodes)]] 0 0]) (hcv : ∀ (L : List Blk) (n : Nat), conv L 12 (renLeave 5 []) (ρ' n) = some (ρ' n)) {K : XE → Rho → List Blk → Prop}
    (hK : K .normal ρ' [.cells 2 [[.str d.name, .isl (nodeRows d.nodes)]], .cells 1 (intRows (d.order.foldl (stepD d) (List.replicate d.nodes.length 0, 0)).1), .cells 1 [[.sl 1 0 d.nodes.length d.nodes.length]], .cells 1 [[.int .i64 (d.depth : Int)]], .dead]) :
    xrun E (.rngF (.t 16) 56 [17, 18] x19a x19b) ρ' [.cells 2 [[.str d.name, .isl (nodeRows d.nodes)]], .cells 1 (List.replicate d.nodes.length [.int .i64 0]), .cells 1 [[.sl 1 0 d.nodes.length d.nodes.length]], .cells 1 [[.int .i64 0]]] K := by
  have hrep : List.replicate d.nodes.length [IV.int .i64 0] = intRows (List.replicate d.nodes.length 0) := by simp [intRows]
  rw [hrep]
  refine s_rngF (gf := 47) (fn := Tryd.f47) (F := ⟨Tryd.f47.ntmps, [], x47⟩) h16 (by rw [hP]; rfl) (by rw [hP]; exact comp47) (by decide) (Nat.le_of_ble_eq_true rfl) ?_
  intro r0 hst hpe hlc
  have hll : ((List.range 56).map ρ').length = 56 := by simp
  have hl : ∀ n, n < 56 → rhoOf ((List.range 56).map ρ') n = ρ' n := fun n hn => list_getD hn
  have hlcv : ∀ L, mapO (conv L 12 (renLeave 5 [])) ((List.range 56).map ρ') = some ((List.range 56).map ρ') := fun L => mapO_same fun x hx => by
    obtain ⟨n, _, rfl⟩ := List.mem_map.1 hx
    exact hcv L n
  generalize (List.range 56).map ρ' = l at *
  refine xfun0 ?_
  generalize hρ : entry _ = ρ
  have g0 : ρ 0 = .yld 4 := by rw [← hρ]; rfl
  have g1 : ρ 1 = .iptr [[.str d.name, .isl (nodeRows d.nodes)]] 0 0 := by rw [← hρ]; rfl
  clear hρ
  unfold x47
  simp only [g0, g1, go_sem, Nat.reduceEqDiff, reduceIte, Bool.false_eq_true, Bool.not_true, Bool.not_false, Bool.and_true, Bool.true_and, Bool.or_false, Bool.false_or, Bool.and_false, Bool.false_and, Bool.or_true, Bool.true_or, true_and, and_true, eq_self, not_false_eq_true, List.map_cons, List.map_nil, List.nil_append, List.append_nil, decide_true, decide_false, Int.reduceEq, Int.reduceLT, Int.reduceLE, List.length_cons, List.length_nil, Nat.reduceAdd, Nat.reduceLT, Nat.reduceLeDiff, List.getD_cons_zero, List.getD_cons_succ, Int.cast_ofNat_Int, Int.reduceToNat, Int.reduceSub, Int.reduceAdd, Int.reduceNeg, Int.toNat_natCast, Int.natCast_nonneg, List.getElem?_cons_zero, List.getElem?_cons_succ, List.cons_append, List.set_cons_zero, List.set_cons_succ, List.take_zero, List.take_succ_cons, List.drop_zero, List.drop_succ_cons, List.drop_nil, List.take_nil, List.all_cons, List.all_nil, Nat.zero_add, Nat.zero_lt_one, Nat.le_refl]
  refine xcall_pure (args' := [d.iv]) rfl (order_pure (E := E.withY 56 [17, 18] x19a x19b) hP d hd (fun n hn => by have := ha n hn; omega)) rfl ?_
  simp only [g0, g1, go_sem, Nat.reduceEqDiff, reduceIte, Bool.false_eq_true, Bool.not_true, Bool.not_false, Bool.and_true, Bool.true_and, Bool.or_false, Bool.false_or, Bool.and_false, Bool.false_and, Bool.or_true, Bool.true_or, true_and, and_true, eq_self, not_false_eq_true, List.map_cons, List.map_nil, List.nil_append, List.append_nil, decide_true, decide_false, Int.reduceEq, Int.reduceLT, Int.reduceLE, List.length_cons, List.length_nil, Nat.reduceAdd, Nat.reduceLT, Nat.reduceLeDiff, List.getD_cons_zero, List.getD_cons_succ, Int.cast_ofNat_Int, Int.reduceToNat, Int.reduceSub, Int.reduceAdd, Int.reduceNeg, Int.toNat_natCast, Int.natCast_nonneg, List.getElem?_cons_zero, List.getElem?_cons_succ, List.cons_append, List.set_cons_zero, List.set_cons_succ, List.take_zero, List.take_succ_cons, List.drop_zero, List.drop_succ_cons, List.drop_nil, List.take_nil, List.all_cons, List.all_nil, Nat.zero_add, Nat.zero_lt_one, Nat.le_refl]
  have hol := order_len d
  refine s_loop (fun n' ρ L => ∃ j : Nat, j ≤ d.order.length ∧ n' = d.order.length - j ∧ (∃ J, L = depB d ((d.order.take j).foldl (stepD d) (List.replicate d.nodes.length 0, 0)).1 ((d.order.take j).foldl (stepD d) (List.replicate d.nodes.length 0, 0)).2 (.lp r0 l) J) ∧
      ρ 0 = .yld 4 ∧ ρ 1 = .iptr [[.str d.name, .isl (nodeRows d.nodes)]] 0 0 ∧ ρ 13 = .isl (intRows d.order) ∧ ρ 14 = .int .i64 d.order.length ∧ ρ 15 = .int .i64 j)
    ⟨0, Nat.zero_le _, rfl, ⟨[], rfl⟩, by simp only [g0, go_sem, Nat.reduceEqDiff, reduceIte, Bool.false_eq_true, Bool.not_true, Bool.not_false, Bool.and_true, Bool.true_and, Bool.or_false, Bool.false_or, Bool.and_false, Bool.false_and, Bool.or_true, Bool.true_or, true_and, and_true, eq_self, not_false_eq_true, List.map_cons, List.map_nil, List.nil_append, List.append_nil, decide_true, decide_false, Int.reduceEq, Int.reduceLT, Int.reduceLE, List.length_cons, List.length_nil, Nat.reduceAdd, Nat.reduceLT, Nat.reduceLeDiff, List.getD_cons_zero, List.getD_cons_succ, Int.cast_ofNat_Int, Int.reduceToNat, Int.reduceSub, Int.reduceAdd, Int.reduceNeg, Int.toNat_natCast, Int.natCast_nonneg, List.getElem?_cons_zero, List.getElem?_cons_succ, List.cons_append, List.set_cons_zero, List.set_cons_succ, List.take_zero, List.take_succ_cons, List.drop_zero, List.drop_succ_cons, List.drop_nil, List.take_nil, List.all_cons, List.all_nil, Nat.zero_add, Nat.zero_lt_one, Nat.le_refl], by simp only [g1, go_sem, Nat.reduceEqDiff, reduceIte, Bool.false_eq_true, Bool.not_true, Bool.not_false, Bool.and_true, Bool.true_and, Bool.or_false, Bool.false_or, Bool.and_false, Bool.false_and, Bool.or_true, Bool.true_or, true_and, and_true, eq_self, not_false_eq_true, List.map_cons, List.map_nil, List.nil_append, List.append_nil, decide_true, decide_false, Int.reduceEq, Int.reduceLT, Int.reduceLE, List.length_cons, List.length_nil, Nat.reduceAdd, Nat.reduceLT, Nat.reduceLeDiff, List.getD_cons_zero, List.getD_cons_succ, Int.cast_ofNat_Int, Int.reduceToNat, Int.reduceSub, Int.reduceAdd, Int.reduceNeg, Int.toNat_natCast, Int.natCast_nonneg, List.getElem?_cons_zero, List.getElem?_cons_succ, List.cons_append, List.set_cons_zero, List.set_cons_succ, List.take_zero, List.take_succ_cons, List.drop_zero, List.drop_succ_cons, List.drop_nil, List.take_nil, List.all_cons, List.all_nil, Nat.zero_add, Nat.zero_lt_one, Nat.le_refl], by simp only [go_sem, Nat.reduceEqDiff, reduceIte, Bool.false_eq_true, Bool.not_true, Bool.not_false, Bool.and_true, Bool.true_and, Bool.or_false, Bool.false_or, Bool.and_false, Bool.false_and, Bool.or_true, Bool.true_or, true_and, and_true, eq_self, not_false_eq_true, List.map_cons, List.map_nil, List.nil_append, List.append_nil, decide_true, decide_false, Int.reduceEq, Int.reduceLT, Int.reduceLE, List.length_cons, List.length_nil, Nat.reduceAdd, Nat.reduceLT, Nat.reduceLeDiff, List.getD_cons_zero, List.getD_cons_succ, Int.cast_ofNat_Int, Int.reduceToNat, Int.reduceSub, Int.reduceAdd, Int.reduceNeg, Int.toNat_natCast, Int.natCast_nonneg, List.getElem?_cons_zero, List.getElem?_cons_succ, List.cons_append, List.set_cons_zero, List.set_cons_succ, List.take_zero, List.take_succ_cons, List.drop_zero, List.drop_succ_cons, List.drop_nil, List.take_nil, List.all_cons, List.all_nil, Nat.zero_add, Nat.zero_lt_one, Nat.le_refl], by simp only [intRows_len, go_sem, Nat.reduceEqDiff, reduceIte, Bool.false_eq_true, Bool.not_true, Bool.not_false, Bool.and_true, Bool.true_and, Bool.or_false, Bool.false_or, Bool.and_false, Bool.false_and, Bool.or_true, Bool.true_or, true_and, and_true, eq_self, not_false_eq_true, List.map_cons, List.map_nil, List.nil_append, List.append_nil, decide_true, decide_false, Int.reduceEq, Int.reduceLT, Int.reduceLE, List.length_cons, List.length_nil, Nat.reduceAdd, Nat.reduceLT, Nat.reduceLeDiff, List.getD_cons_zero, List.getD_cons_succ, Int.cast_ofNat_Int, Int.reduceToNat, Int.reduceSub, Int.reduceAdd, Int.reduceNeg, Int.toNat_natCast, Int.natCast_nonneg, List.getElem?_cons_zero, List.getElem?_cons_succ, List.cons_append, List.set_cons_zero, List.set_cons_succ, List.take_zero, List.take_succ_cons, List.drop_zero, List.drop_succ_cons, List.drop_nil, List.take_nil, List.all_cons, List.all_nil, Nat.zero_add, Nat.zero_lt_one, Nat.le_refl], by simp only [go_sem, Nat.reduceEqDiff, reduceIte, Bool.false_eq_true, Bool.not_true, Bool.not_false, Bool.and_true, Bool.true_and, Bool.or_false, Bool.false_or, Bool.and_false, Bool.false_and, Bool.or_true, Bool.true_or, true_and, and_true, eq_self, not_false_eq_true, List.map_cons, List.map_nil, List.nil_append, List.append_nil, decide_true, decide_false, Int.reduceEq, Int.reduceLT, Int.reduceLE, List.length_cons, List.length_nil, Nat.reduceAdd, Nat.reduceLT, Nat.reduceLeDiff, List.getD_cons_zero, List.getD_cons_succ, Int.cast_ofNat_Int, Int.reduceToNat, Int.reduceSub, Int.reduceAdd, Int.reduceNeg, Int.toNat_natCast, Int.natCast_nonneg, List.getElem?_cons_zero, List.getElem?_cons_succ, List.cons_append, List.set_cons_zero, List.set_cons_succ, List.take_zero, List.take_succ_cons, List.drop_zero, List.drop_succ_cons, List.drop_nil, List.take_nil, List.all_cons, List.all_nil, Nat.zero_add, Nat.zero_lt_one, Nat.le_refl]; try rfl⟩ ?_
  clear g0 g1 ρ
  rintro n' ρ L ⟨j, hj, rfl, ⟨J, rfl⟩, g0, g1, g13, g14, g15⟩
  unfold depB
  simp only [g0, g1, g13, g14, g15, go_sem, Nat.reduceEqDiff, reduceIte, Bool.false_eq_true, Bool.not_true, Bool.not_false, Bool.and_true, Bool.true_and, Bool.or_false, Bool.false_or, Bool.and_false, Bool.false_and, Bool.or_true, Bool.true_or, true_and, and_true, eq_self, not_false_eq_true, List.map_cons, List.map_nil, List.nil_append, List.append_nil, decide_true, decide_false, Int.reduceEq, Int.reduceLT, Int.reduceLE, List.length_cons, List.length_nil, Nat.reduceAdd, Nat.reduceLT, Nat.reduceLeDiff, List.getD_cons_zero, List.getD_cons_succ, Int.cast_ofNat_Int, Int.reduceToNat, Int.reduceSub, Int.reduceAdd, Int.reduceNeg, Int.toNat_natCast, Int.natCast_nonneg, List.getElem?_cons_zero, List.getElem?_cons_succ, List.cons_append, List.set_cons_zero, List.set_cons_succ, List.take_zero, List.take_succ_cons, List.drop_zero, List.drop_succ_cons, List.drop_nil, List.take_nil, List.all_cons, List.all_nil, Nat.zero_add, Nat.zero_lt_one, Nat.le_refl]
  refine s_cond (b := decide _) (by simp only [g0, g1, g13, g14, g15, intRows_len, go_sem, Nat.reduceEqDiff, reduceIte, Bool.false_eq_true, Bool.not_true, Bool.not_false, Bool.and_true, Bool.true_and, Bool.or_false, Bool.false_or, Bool.and_false, Bool.false_and, Bool.or_true, Bool.true_or, true_and, and_true, eq_self, not_false_eq_true, List.map_cons, List.map_nil, List.nil_append, List.append_nil, decide_true, decide_false, Int.reduceEq, Int.reduceLT, Int.reduceLE, List.length_cons, List.length_nil, Nat.reduceAdd, Nat.reduceLT, Nat.reduceLeDiff, List.getD_cons_zero, List.getD_cons_succ, Int.cast_ofNat_Int, Int.reduceToNat, Int.reduceSub, Int.reduceAdd, Int.reduceNeg, Int.toNat_natCast, Int.natCast_nonneg, List.getElem?_cons_zero, List.getElem?_cons_succ, List.cons_append, List.set_cons_zero, List.set_cons_succ, List.take_zero, List.take_succ_cons, List.drop_zero, List.drop_succ_cons, List.drop_nil, List.take_nil, List.all_cons, List.all_nil, Nat.zero_add, Nat.zero_lt_one, Nat.le_refl]; try rfl) ?_ ?_ <;> intro hb <;> simp only [hb, g0, g1, g13, g14, g15, intRows_len, go_sem, Nat.reduceEqDiff, reduceIte, Bool.false_eq_true, Bool.not_true, Bool.not_false, Bool.and_true, Bool.true_and, Bool.or_false, Bool.false_or, Bool.and_false, Bool.false_and, Bool.or_true, Bool.true_or, true_and, and_true, eq_self, not_false_eq_true, List.map_cons, List.map_nil, List.nil_append, List.append_nil, decide_true, decide_false, Int.reduceEq, Int.reduceLT, Int.reduceLE, List.length_cons, List.length_nil, Nat.reduceAdd, Nat.reduceLT, Nat.reduceLeDiff, List.getD_cons_zero, List.getD_cons_succ, Int.cast_ofNat_Int, Int.reduceToNat, Int.reduceSub, Int.reduceAdd, Int.reduceNeg, Int.toNat_natCast, Int.natCast_nonneg, List.getElem?_cons_zero, List.getElem?_cons_succ, List.cons_append, List.set_cons_zero, List.set_cons_succ, List.take_zero, List.take_succ_cons, List.drop_zero, List.drop_succ_cons, List.drop_nil, List.take_nil, List.all_cons, List.all_nil, Nat.zero_add, Nat.zero_lt_one, Nat.le_refl]
  · rw [decide_eq_true_eq] at hb
    have hj' : j < d.order.length := by omega
    have hi : d.order.getD j 0 < d.nodes.length := order_lt d (by rw [List.getD_eq_getElem?_getD, List.getElem?_eq_getElem hj']; exact List.getElem_mem _)
    have hmem : d.nodes.getD (d.order.getD j 0) default ∈ d.nodes := by rw [List.getD_eq_getElem?_getD, List.getElem?_eq_getElem hi]; exact List.getElem_mem _
    have hrow := nodeRows_get hi
    have hor := intRows_get hj'
    obtain ⟨f1, f2, f3⟩ := stepD_facts d ha (d.order.take j) (List.replicate d.nodes.length 0, 0) 0 (fun i hi => order_lt d (List.mem_of_mem_take hi)) (fun k => by simp [List.getD_eq_getElem?_getD, List.getElem?_replicate]; split <;> simp) (Nat.le_refl 0)
    have htk : (d.order.take (j + 1)).foldl (stepD d) (List.replicate d.nodes.length 0, 0) = stepD d ((d.order.take j).foldl (stepD d) (List.replicate d.nodes.length 0, 0)) (d.order.getD j 0) := by
      rw [List.take_add_one, List.foldl_append, getD_get (d := 0) hj']; rfl
    generalize (d.order.take j).foldl (stepD d) (List.replicate d.nodes.length 0, 0) = st at *
    have hlt : (d.order.take j).length ≤ 1000001 := by rw [List.length_take]; omega
    have hBB : 0 + (d.order.take j).length * 1000001 ≤ 1000000000000000 := by omega
    generalize hid : d.order.getD j 0 = i at *
    simp only [g0, g1, g13, g14, g15, intRows_len, rows_ints, rows_nodes, hor, hrow, nodeRows_len, NodeD.row, go_sem, Nat.reduceEqDiff, reduceIte, Bool.false_eq_true, Bool.not_true, Bool.not_false, Bool.and_true, Bool.true_and, Bool.or_false, Bool.false_or, Bool.and_false, Bool.false_and, Bool.or_true, Bool.true_or, true_and, and_true, eq_self, not_false_eq_true, List.map_cons, List.map_nil, List.nil_append, List.append_nil, decide_true, decide_false, Int.reduceEq, Int.reduceLT, Int.reduceLE, List.length_cons, List.length_nil, Nat.reduceAdd, Nat.reduceLT, Nat.reduceLeDiff, List.getD_cons_zero, List.getD_cons_succ, Int.cast_ofNat_Int, Int.reduceToNat, Int.reduceSub, Int.reduceAdd, Int.reduceNeg, Int.toNat_natCast, Int.natCast_nonneg, List.getElem?_cons_zero, List.getElem?_cons_succ, List.cons_append, List.set_cons_zero, List.set_cons_succ, List.take_zero, List.take_succ_cons, List.drop_zero, List.drop_succ_cons, List.drop_nil, List.take_nil, List.all_cons, List.all_nil, Nat.zero_add, Nat.zero_lt_one, Nat.le_refl]
    refine ⟨hb, hj', by omega, hi, ?_⟩
    have hrid := cloneS_pure (E := E.withY 56 [17, 18] x19a x19b) hP (d.nodes.getD i default).after (ha _ hmem)
    refine xcall_pure (args' := [.isl (strRows (d.nodes.getD i default).after)]) rfl hrid rfl ?_
    simp only [g0, g1, g13, g14, g15, get5', set5', go_sem, Nat.reduceEqDiff, reduceIte, Bool.false_eq_true, Bool.not_true, Bool.not_false, Bool.and_true, Bool.true_and, Bool.or_false, Bool.false_or, Bool.and_false, Bool.false_and, Bool.or_true, Bool.true_or, true_and, and_true, eq_self, not_false_eq_true, List.map_cons, List.map_nil, List.nil_append, List.append_nil, decide_true, decide_false, Int.reduceEq, Int.reduceLT, Int.reduceLE, List.length_cons, List.length_nil, Nat.reduceAdd, Nat.reduceLT, Nat.reduceLeDiff, List.getD_cons_zero, List.getD_cons_succ, Int.cast_ofNat_Int, Int.reduceToNat, Int.reduceSub, Int.reduceAdd, Int.reduceNeg, Int.toNat_natCast, Int.natCast_nonneg, List.getElem?_cons_zero, List.getElem?_cons_succ, List.cons_append, List.set_cons_zero, List.set_cons_succ, List.take_zero, List.take_succ_cons, List.drop_zero, List.drop_succ_cons, List.drop_nil, List.take_nil, List.all_cons, List.all_nil, Nat.zero_add, Nat.zero_lt_one, Nat.le_refl]
    refine ⟨r0, l, rfl, hst, hpe, hlc, rfl, by decide, rfl, rfl, hll, ?_⟩
    generalize hnd : d.nodes.getD i default = nd at *
    have hps : putPs l [17, 18] [.int .i64 i, .agg nd.row] = (l.set 17 (.int .i64 i)).set 18 (.agg nd.row) := rfl
    have q18 : rhoOf (putPs l [17, 18] [.int .i64 i, .agg nd.row]) 18 = .agg nd.row := by rw [hps, rho_set (by rw [List.length_set]; omega), if_pos rfl]
    have q17 : rhoOf (putPs l [17, 18] [.int .i64 i, .agg nd.row]) 17 = .int .i64 i := by rw [hps, rho_set (by rw [List.length_set]; omega), if_neg (by decide), rho_set (by omega), if_pos rfl]
    have qn : ∀ n, n < 17 → rhoOf (putPs l [17, 18] [.int .i64 i, .agg nd.row]) n = ρ' n := fun n hn => by rw [hps, rho_set (by rw [List.length_set]; omega), if_neg (by omega), rho_set (by omega), if_neg (by omega), hl n (by omega)]
    have q1 := (qn 1 (by decide)).trans h1
    have q3 := (qn 3 (by decide)).trans h3
    have q4 := (qn 4 (by decide)).trans h4
    simp only [NodeD.row] at q18 q17 q1 q3 q4
    clear qn hps
    generalize rhoOf (putPs l [17, 18] _) = ρ2 at *
    unfold x19a
    simp only [q1, q3, q4, q17, q18, go_sem, Nat.reduceEqDiff, reduceIte, Bool.false_eq_true, Bool.not_true, Bool.not_false, Bool.and_true, Bool.true_and, Bool.or_false, Bool.false_or, Bool.and_false, Bool.false_and, Bool.or_true, Bool.true_or, true_and, and_true, eq_self, not_false_eq_true, List.map_cons, List.map_nil, List.nil_append, List.append_nil, decide_true, decide_false, Int.reduceEq, Int.reduceLT, Int.reduceLE, List.length_cons, List.length_nil, Nat.reduceAdd, Nat.reduceLT, Nat.reduceLeDiff, List.getD_cons_zero, List.getD_cons_succ, Int.cast_ofNat_Int, Int.reduceToNat, Int.reduceSub, Int.reduceAdd, Int.reduceNeg, Int.toNat_natCast, Int.natCast_nonneg, List.getElem?_cons_zero, List.getElem?_cons_succ, List.cons_append, List.set_cons_zero, List.set_cons_succ, List.take_zero, List.take_succ_cons, List.drop_zero, List.drop_succ_cons, List.drop_nil, List.take_nil, List.all_cons, List.all_nil, Nat.zero_add, Nat.zero_lt_one, Nat.le_refl]
    have hr := fun (ρ : Rho) p1 p3 p4 p5 p6 => round_run (E := E) hP d hd ha hi (deep := st.1) (longest := st.2) (B := 0 + (d.order.take j).length * 1000001) (by simpa using f1) f2 f3 hBB (.lp { r0 with state := .busy } l) (J ++ [.cells 7 [nd.row]]) _ (ρ := ρ) rfl p1 p3 p4 p5 p6
    rw [hnd] at hr
    simp only [NodeD.row] at hr
    refine xrun_mono _ (fun e ρ3 L3 h => ?_) (hr _ (by simp only [q1, q3, q4, q17, q18, go_sem, Nat.reduceEqDiff, reduceIte, Bool.false_eq_true, Bool.not_true, Bool.not_false, Bool.and_true, Bool.true_and, Bool.or_false, Bool.false_or, Bool.and_false, Bool.false_and, Bool.or_true, Bool.true_or, true_and, and_true, eq_self, not_false_eq_true, List.map_cons, List.map_nil, List.nil_append, List.append_nil, decide_true, decide_false, Int.reduceEq, Int.reduceLT, Int.reduceLE, List.length_cons, List.length_nil, Nat.reduceAdd, Nat.reduceLT, Nat.reduceLeDiff, List.getD_cons_zero, List.getD_cons_succ, Int.cast_ofNat_Int, Int.reduceToNat, Int.reduceSub, Int.reduceAdd, Int.reduceNeg, Int.toNat_natCast, Int.natCast_nonneg, List.getElem?_cons_zero, List.getElem?_cons_succ, List.cons_append, List.set_cons_zero, List.set_cons_succ, List.take_zero, List.take_succ_cons, List.drop_zero, List.drop_succ_cons, List.drop_nil, List.take_nil, List.all_cons, List.all_nil, Nat.zero_add, Nat.zero_lt_one, Nat.le_refl]) (by simp only [q1, q3, q4, q17, q18, go_sem, Nat.reduceEqDiff, reduceIte, Bool.false_eq_true, Bool.not_true, Bool.not_false, Bool.and_true, Bool.true_and, Bool.or_false, Bool.false_or, Bool.and_false, Bool.false_and, Bool.or_true, Bool.true_or, true_and, and_true, eq_self, not_false_eq_true, List.map_cons, List.map_nil, List.nil_append, List.append_nil, decide_true, decide_false, Int.reduceEq, Int.reduceLT, Int.reduceLE, List.length_cons, List.length_nil, Nat.reduceAdd, Nat.reduceLT, Nat.reduceLeDiff, List.getD_cons_zero, List.getD_cons_succ, Int.cast_ofNat_Int, Int.reduceToNat, Int.reduceSub, Int.reduceAdd, Int.reduceNeg, Int.toNat_natCast, Int.natCast_nonneg, List.getElem?_cons_zero, List.getElem?_cons_succ, List.cons_append, List.set_cons_zero, List.set_cons_succ, List.take_zero, List.take_succ_cons, List.drop_zero, List.drop_succ_cons, List.drop_nil, List.take_nil, List.all_cons, List.all_nil, Nat.zero_add, Nat.zero_lt_one, Nat.le_refl]) (by simp only [q1, q3, q4, q17, q18, go_sem, Nat.reduceEqDiff, reduceIte, Bool.false_eq_true, Bool.not_true, Bool.not_false, Bool.and_true, Bool.true_and, Bool.or_false, Bool.false_or, Bool.and_false, Bool.false_and, Bool.or_true, Bool.true_or, true_and, and_true, eq_self, not_false_eq_true, List.map_cons, List.map_nil, List.nil_append, List.append_nil, decide_true, decide_false, Int.reduceEq, Int.reduceLT, Int.reduceLE, List.length_cons, List.length_nil, Nat.reduceAdd, Nat.reduceLT, Nat.reduceLeDiff, List.getD_cons_zero, List.getD_cons_succ, Int.cast_ofNat_Int, Int.reduceToNat, Int.reduceSub, Int.reduceAdd, Int.reduceNeg, Int.toNat_natCast, Int.natCast_nonneg, List.getElem?_cons_zero, List.getElem?_cons_succ, List.cons_append, List.set_cons_zero, List.set_cons_succ, List.take_zero, List.take_succ_cons, List.drop_zero, List.drop_succ_cons, List.drop_nil, List.take_nil, List.all_cons, List.all_nil, Nat.zero_add, Nat.zero_lt_one, Nat.le_refl]) (by simp only [q1, q3, q4, q17, q18, go_sem, Nat.reduceEqDiff, reduceIte, Bool.false_eq_true, Bool.not_true, Bool.not_false, Bool.and_true, Bool.true_and, Bool.or_false, Bool.false_or, Bool.and_false, Bool.false_and, Bool.or_true, Bool.true_or, true_and, and_true, eq_self, not_false_eq_true, List.map_cons, List.map_nil, List.nil_append, List.append_nil, decide_true, decide_false, Int.reduceEq, Int.reduceLT, Int.reduceLE, List.length_cons, List.length_nil, Nat.reduceAdd, Nat.reduceLT, Nat.reduceLeDiff, List.getD_cons_zero, List.getD_cons_succ, Int.cast_ofNat_Int, Int.reduceToNat, Int.reduceSub, Int.reduceAdd, Int.reduceNeg, Int.toNat_natCast, Int.natCast_nonneg, List.getElem?_cons_zero, List.getElem?_cons_succ, List.cons_append, List.set_cons_zero, List.set_cons_succ, List.take_zero, List.take_succ_cons, List.drop_zero, List.drop_succ_cons, List.drop_nil, List.take_nil, List.all_cons, List.all_nil, Nat.zero_add, Nat.zero_lt_one, Nat.le_refl]) (by simp only [q1, q3, q4, q17, q18, go_sem, Nat.reduceEqDiff, reduceIte, Bool.false_eq_true, Bool.not_true, Bool.not_false, Bool.and_true, Bool.true_and, Bool.or_false, Bool.false_or, Bool.and_false, Bool.false_and, Bool.or_true, Bool.true_or, true_and, and_true, eq_self, not_false_eq_true, List.map_cons, List.map_nil, List.nil_append, List.append_nil, decide_true, decide_false, Int.reduceEq, Int.reduceLT, Int.reduceLE, List.length_cons, List.length_nil, Nat.reduceAdd, Nat.reduceLT, Nat.reduceLeDiff, List.getD_cons_zero, List.getD_cons_succ, Int.cast_ofNat_Int, Int.reduceToNat, Int.reduceSub, Int.reduceAdd, Int.reduceNeg, Int.toNat_natCast, Int.natCast_nonneg, List.getElem?_cons_zero, List.getElem?_cons_succ, List.cons_append, List.set_cons_zero, List.set_cons_succ, List.take_zero, List.take_succ_cons, List.drop_zero, List.drop_succ_cons, List.drop_nil, List.take_nil, List.all_cons, List.all_nil, Nat.zero_add, Nat.zero_lt_one, Nat.le_refl]))
    obtain ⟨rfl, rfl⟩ := h
    refine ⟨rfl, ?_⟩
    simp only [yEnd]
    unfold depB
    simp only [g0, g1, g13, g14, g15, go_sem, Nat.reduceEqDiff, reduceIte, Bool.false_eq_true, Bool.not_true, Bool.not_false, Bool.and_true, Bool.true_and, Bool.or_false, Bool.false_or, Bool.and_false, Bool.false_and, Bool.or_true, Bool.true_or, true_and, and_true, eq_self, not_false_eq_true, List.map_cons, List.map_nil, List.nil_append, List.append_nil, decide_true, decide_false, Int.reduceEq, Int.reduceLT, Int.reduceLE, List.length_cons, List.length_nil, Nat.reduceAdd, Nat.reduceLT, Nat.reduceLeDiff, List.getD_cons_zero, List.getD_cons_succ, Int.cast_ofNat_Int, Int.reduceToNat, Int.reduceSub, Int.reduceAdd, Int.reduceNeg, Int.toNat_natCast, Int.natCast_nonneg, List.getElem?_cons_zero, List.getElem?_cons_succ, List.cons_append, List.set_cons_zero, List.set_cons_succ, List.take_zero, List.take_succ_cons, List.drop_zero, List.drop_succ_cons, List.drop_nil, List.take_nil, List.all_cons, List.all_nil, Nat.zero_add, Nat.zero_lt_one, Nat.le_refl]
    refine ⟨d.order.length - (j + 1), by omega, j + 1, by omega, rfl, ⟨_, by rw [htk]⟩, by rw [wrap64 (by omega) (by omega)]; rfl⟩
  · rw [decide_eq_false_iff_not] at hb
    have hjj : j = d.order.length := by omega
    try simp only [g0, g1, g13, g14, g15, go_sem, Nat.reduceEqDiff, reduceIte, Bool.false_eq_true, Bool.not_true, Bool.not_false, Bool.and_true, Bool.true_and, Bool.or_false, Bool.false_or, Bool.and_false, Bool.false_and, Bool.or_true, Bool.true_or, true_and, and_true, eq_self, not_false_eq_true, List.map_cons, List.map_nil, List.nil_append, List.append_nil, decide_true, decide_false, Int.reduceEq, Int.reduceLT, Int.reduceLE, List.length_cons, List.length_nil, Nat.reduceAdd, Nat.reduceLT, Nat.reduceLeDiff, List.getD_cons_zero, List.getD_cons_succ, Int.cast_ofNat_Int, Int.reduceToNat, Int.reduceSub, Int.reduceAdd, Int.reduceNeg, Int.toNat_natCast, Int.natCast_nonneg, List.getElem?_cons_zero, List.getElem?_cons_succ, List.cons_append, List.set_cons_zero, List.set_cons_succ, List.take_zero, List.take_succ_cons, List.drop_zero, List.drop_succ_cons, List.drop_nil, List.take_nil, List.all_cons, List.all_nil, Nat.zero_add, Nat.zero_lt_one, Nat.le_refl]
    refine ⟨[], .nil, by simp, .tup [], [.cells 2 [[.str d.name, .isl (nodeRows d.nodes)]], .cells 1 (intRows ((d.order.take j).foldl (stepD d) (List.replicate d.nodes.length 0, 0)).1), .cells 1 [[.sl 1 0 d.nodes.length d.nodes.length]], .cells 1 [[.int .i64 (((d.order.take j).foldl (stepD d) (List.replicate d.nodes.length 0, 0)).2 : Nat)]], .lp r0 l], rfl, ?_, ⟨r0, rfl, by rw [hst]; simp, ?_⟩⟩
    · refine mapO_cons rfl (mapO_cons ?_ (mapO_cons rfl (mapO_cons rfl (mapO_cons ?_ rfl))))
      · show (mapO (mapO (conv _ 12 _)) (intRows _)).map _ = _
        rw [mapO_ints]; rfl
      · show (mapO (conv _ 12 _) l).map _ = _
        rw [hlcv]; rfl
    · rw [hpe]
      rw [hjj, List.take_length]
      exact hK

theorem depth_pure (hP : E.P = Tryd.prog) (d : DefD) (hd : d.nodes.length ≤ 1000000) (ha : ∀ n ∈ d.nodes, n.after.length ≤ 1000000) : XPure E 19 [d.iv] (.int .i64 d.depth) := by
  refine xpure1 (n := Tryd.f19.ntmps) (c := x19) (t := 2) (by rw [hP]; rfl) (by rw [hP]; kernel_rfl) (by decide) (Nat.le_of_ble_eq_true rfl) ?_
  generalize hρ : entry _ = ρ
  have h0 : ρ 0 = .agg [.str d.name, .isl (nodeRows d.nodes)] := by rw [← hρ]; rfl
  have hrest : ∀ n, ρ (n + 1) = .und := by intro n; rw [← hρ]; rfl
  clear hρ
  unfold x19
  simp only [h0, nodeRows_len, go_sem, Nat.reduceEqDiff, reduceIte, Bool.false_eq_true, Bool.not_true, Bool.not_false, Bool.and_true, Bool.true_and, Bool.or_false, Bool.false_or, Bool.and_false, Bool.false_and, Bool.or_true, Bool.true_or, true_and, and_true, eq_self, not_false_eq_true, List.map_cons, List.map_nil, List.nil_append, List.append_nil, decide_true, decide_false, Int.reduceEq, Int.reduceLT, Int.reduceLE, List.length_cons, List.length_nil, Nat.reduceAdd, Nat.reduceLT, Nat.reduceLeDiff, List.getD_cons_zero, List.getD_cons_succ, Int.cast_ofNat_Int, Int.reduceToNat, Int.reduceSub, Int.reduceAdd, Int.reduceNeg, Int.toNat_natCast, Int.natCast_nonneg, List.getElem?_cons_zero, List.getElem?_cons_succ, List.cons_append, List.set_cons_zero, List.set_cons_succ, List.take_zero, List.take_succ_cons, List.drop_zero, List.drop_succ_cons, List.drop_nil, List.take_nil, List.all_cons, List.all_nil, Nat.zero_add, Nat.zero_lt_one, Nat.le_refl]
  refine ⟨by omega, by omega, by omega, ?_⟩
  refine xcall_pure (args' := [d.iv]) rfl (walk_pure hP d hd ha) rfl ?_
  try simp only [h0, nodeRows_len, go_sem, Nat.reduceEqDiff, reduceIte, Bool.false_eq_true, Bool.not_true, Bool.not_false, Bool.and_true, Bool.true_and, Bool.or_false, Bool.false_or, Bool.and_false, Bool.false_and, Bool.or_true, Bool.true_or, true_and, and_true, eq_self, not_false_eq_true, List.map_cons, List.map_nil, List.nil_append, List.append_nil, decide_true, decide_false, Int.reduceEq, Int.reduceLT, Int.reduceLE, List.length_cons, List.length_nil, Nat.reduceAdd, Nat.reduceLT, Nat.reduceLeDiff, List.getD_cons_zero, List.getD_cons_succ, Int.cast_ofNat_Int, Int.reduceToNat, Int.reduceSub, Int.reduceAdd, Int.reduceNeg, Int.toNat_natCast, Int.natCast_nonneg, List.getElem?_cons_zero, List.getElem?_cons_succ, List.cons_append, List.set_cons_zero, List.set_cons_succ, List.take_zero, List.take_succ_cons, List.drop_zero, List.drop_succ_cons, List.drop_nil, List.take_nil, List.all_cons, List.all_nil, Nat.zero_add, Nat.zero_lt_one, Nat.le_refl]
  refine depth_loop hP d hd ha _ (by simp only [go_sem, Nat.reduceEqDiff, reduceIte, Bool.false_eq_true, Bool.not_true, Bool.not_false, Bool.and_true, Bool.true_and, Bool.or_false, Bool.false_or, Bool.and_false, Bool.false_and, Bool.or_true, Bool.true_or, true_and, and_true, eq_self, not_false_eq_true, List.map_cons, List.map_nil, List.nil_append, List.append_nil, decide_true, decide_false, Int.reduceEq, Int.reduceLT, Int.reduceLE, List.length_cons, List.length_nil, Nat.reduceAdd, Nat.reduceLT, Nat.reduceLeDiff, List.getD_cons_zero, List.getD_cons_succ, Int.cast_ofNat_Int, Int.reduceToNat, Int.reduceSub, Int.reduceAdd, Int.reduceNeg, Int.toNat_natCast, Int.natCast_nonneg, List.getElem?_cons_zero, List.getElem?_cons_succ, List.cons_append, List.set_cons_zero, List.set_cons_succ, List.take_zero, List.take_succ_cons, List.drop_zero, List.drop_succ_cons, List.drop_nil, List.take_nil, List.all_cons, List.all_nil, Nat.zero_add, Nat.zero_lt_one, Nat.le_refl]) (by simp only [go_sem, Nat.reduceEqDiff, reduceIte, Bool.false_eq_true, Bool.not_true, Bool.not_false, Bool.and_true, Bool.true_and, Bool.or_false, Bool.false_or, Bool.and_false, Bool.false_and, Bool.or_true, Bool.true_or, true_and, and_true, eq_self, not_false_eq_true, List.map_cons, List.map_nil, List.nil_append, List.append_nil, decide_true, decide_false, Int.reduceEq, Int.reduceLT, Int.reduceLE, List.length_cons, List.length_nil, Nat.reduceAdd, Nat.reduceLT, Nat.reduceLeDiff, List.getD_cons_zero, List.getD_cons_succ, Int.cast_ofNat_Int, Int.reduceToNat, Int.reduceSub, Int.reduceAdd, Int.reduceNeg, Int.toNat_natCast, Int.natCast_nonneg, List.getElem?_cons_zero, List.getElem?_cons_succ, List.cons_append, List.set_cons_zero, List.set_cons_succ, List.take_zero, List.take_succ_cons, List.drop_zero, List.drop_succ_cons, List.drop_nil, List.take_nil, List.all_cons, List.all_nil, Nat.zero_add, Nat.zero_lt_one, Nat.le_refl]) (by simp only [go_sem, Nat.reduceEqDiff, reduceIte, Bool.false_eq_true, Bool.not_true, Bool.not_false, Bool.and_true, Bool.true_and, Bool.or_false, Bool.false_or, Bool.and_false, Bool.false_and, Bool.or_true, Bool.true_or, true_and, and_true, eq_self, not_false_eq_true, List.map_cons, List.map_nil, List.nil_append, List.append_nil, decide_true, decide_false, Int.reduceEq, Int.reduceLT, Int.reduceLE, List.length_cons, List.length_nil, Nat.reduceAdd, Nat.reduceLT, Nat.reduceLeDiff, List.getD_cons_zero, List.getD_cons_succ, Int.cast_ofNat_Int, Int.reduceToNat, Int.reduceSub, Int.reduceAdd, Int.reduceNeg, Int.toNat_natCast, Int.natCast_nonneg, List.getElem?_cons_zero, List.getElem?_cons_succ, List.cons_append, List.set_cons_zero, List.set_cons_succ, List.take_zero, List.take_succ_cons, List.drop_zero, List.drop_succ_cons, List.drop_nil, List.take_nil, List.all_cons, List.all_nil, Nat.zero_add, Nat.zero_lt_one, Nat.le_refl]) (by simp only [go_sem, Nat.reduceEqDiff, reduceIte, Bool.false_eq_true, Bool.not_true, Bool.not_false, Bool.and_true, Bool.true_and, Bool.or_false, Bool.false_or, Bool.and_false, Bool.false_and, Bool.or_true, Bool.true_or, true_and, and_true, eq_self, not_false_eq_true, List.map_cons, List.map_nil, List.nil_append, List.append_nil, decide_true, decide_false, Int.reduceEq, Int.reduceLT, Int.reduceLE, List.length_cons, List.length_nil, Nat.reduceAdd, Nat.reduceLT, Nat.reduceLeDiff, List.getD_cons_zero, List.getD_cons_succ, Int.cast_ofNat_Int, Int.reduceToNat, Int.reduceSub, Int.reduceAdd, Int.reduceNeg, Int.toNat_natCast, Int.natCast_nonneg, List.getElem?_cons_zero, List.getElem?_cons_succ, List.cons_append, List.set_cons_zero, List.set_cons_succ, List.take_zero, List.take_succ_cons, List.drop_zero, List.drop_succ_cons, List.drop_nil, List.take_nil, List.all_cons, List.all_nil, Nat.zero_add, Nat.zero_lt_one, Nat.le_refl]) (fun L => ?_) ?_
  · repeat (refine put_all (P := fun x => conv L 12 (renLeave 5 []) x = some x) rfl ?_)
    intro n
    cases n with
    | zero => rw [h0]; rfl
    | succ n => rw [hrest]; rfl
  · simp only [h0, nodeRows_len, go_sem, Nat.reduceEqDiff, reduceIte, Bool.false_eq_true, Bool.not_true, Bool.not_false, Bool.and_true, Bool.true_and, Bool.or_false, Bool.false_or, Bool.and_false, Bool.false_and, Bool.or_true, Bool.true_or, true_and, and_true, eq_self, not_false_eq_true, List.map_cons, List.map_nil, List.nil_append, List.append_nil, decide_true, decide_false, Int.reduceEq, Int.reduceLT, Int.reduceLE, List.length_cons, List.length_nil, Nat.reduceAdd, Nat.reduceLT, Nat.reduceLeDiff, List.getD_cons_zero, List.getD_cons_succ, Int.cast_ofNat_Int, Int.reduceToNat, Int.reduceSub, Int.reduceAdd, Int.reduceNeg, Int.toNat_natCast, Int.natCast_nonneg, List.getElem?_cons_zero, List.getElem?_cons_succ, List.cons_append, List.set_cons_zero, List.set_cons_succ, List.take_zero, List.take_succ_cons, List.drop_zero, List.drop_succ_cons, List.drop_nil, List.take_nil, List.all_cons, List.all_nil, Nat.zero_add, Nat.zero_lt_one, Nat.le_refl]
    rfl
end
end Go.X.TrydW

