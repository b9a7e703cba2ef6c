/- Parts of the proof: XzDag12, XzDag13, XzDag14, XzDag15, XzDag16, XzDag17, Xzref, Xzord, Xzchk, Xzchk2, XzDag18, Xzbld, Xzkeep. -/
import Derived.Test.YtnejaochjehhgaaGreatDoorXP10
import Derived.Test.YtnejaochjehhgaaGreatDoorProg
set_option linter.unusedVariables false
set_option linter.unusedSimpArgs false
set_option linter.unusedSectionVars false
section
open Go Go.X Go.Proofs
set_option maxRecDepth 100000
set_option maxHeartbeats 4000000
set_option linter.unusedSimpArgs false
set_option linter.unusedVariables false
namespace Go.X.TryzW
def x19a : XC :=
 (.seq (.ops [ ⟨(some 5), (.mov (.t 17)), none⟩]) (.ops [ ⟨(some 6), (.alloc [(.str []), (.int .i64 0), (.str []), (.str []), (.int .i64 0), (.int .i64 0), .nsl]), none⟩, ⟨none, (.store 7 (.t 6) (.t 18)), none⟩]))
def x19b : XC :=
 (.block 1 (.seq (.ops [ ⟨(some 19), (.load1 (.t 3)), none⟩, ⟨(some 20), (.mov (.t 5)), none⟩, ⟨(some 21), (.idxS 1 (.t 19) (.t 20)), none⟩, ⟨none, (.store 1 (.t 21) (.c (.int .i64 1))), none⟩]) (.seq (.seq (.ops [ ⟨(some 22), (.fldA 6 (.t 6)), none⟩, ⟨(some 23), (.load1 (.t 22)), none⟩, ⟨(some 24), (.len (.t 23)), none⟩, ⟨(some 25), (.mov (.c (.int .i64 0))), none⟩]) (.block 2 (.loop (.seq (.ops [ ⟨(some 26), (.bin .lss (.t 25) (.t 24)), none⟩]) (.seq (.cond (.t 26) .skip (.exit 2)) (.seq (.block 3 (.seq (.ops [ ⟨(some 27), (.idxS 1 (.t 23) (.t 25)), none⟩, ⟨(some 28), (.load1 (.t 27)), none⟩, ⟨(some 8), (.mov (.t 28)), none⟩]) (.seq (.ops [ ⟨(some 30), (.loadN 2 (.t 1)), none⟩, ⟨(some 31), (.mov (.t 8)), none⟩, ⟨(some 32), (.call (.f 30) [(.t 30), (.t 31)]), none⟩, ⟨(some 29), (.mov (.t 32)), none⟩, ⟨(some 33), (.ext (.t 29) 0), none⟩, ⟨(some 34), (.ext (.t 29) 1), none⟩, ⟨(some 9), (.mov (.t 33)), none⟩, ⟨(some 10), (.mov (.t 34)), none⟩]) (.drawE [ ⟨(some 35), (.load1 (.t 3)), none⟩, ⟨(some 36), (.mov (.t 5)), none⟩, ⟨(some 37), (.load1 (.t 3)), none⟩, ⟨(some 38), (.mov (.t 5)), none⟩, ⟨(some 39), (.idxS 1 (.t 37) (.t 38)), none⟩, ⟨(some 40), (.load1 (.t 39)), none⟩, ⟨(some 41), (.load1 (.t 3)), none⟩, ⟨(some 42), (.mov (.t 9)), none⟩, ⟨(some 43), (.idxS 1 (.t 41) (.t 42)), none⟩, ⟨(some 44), (.load1 (.t 43)), none⟩, ⟨(some 45), (.bin .add (.t 44) (.c (.int .i64 1))), none⟩, ⟨(some 46), (.max2 (.t 40) (.t 45)), none⟩, ⟨(some 47), (.idxS 1 (.t 35) (.t 36)), none⟩, ⟨none, (.store 1 (.t 47) (.t 46)), none⟩])))) (.ops [ ⟨(some 48), (.bin .add (.t 25) (.c (.int .i64 1))), none⟩, ⟨(some 25), (.mov (.t 48)), none⟩]))))))) (.drawE [ ⟨(some 49), (.load1 (.t 4)), none⟩, ⟨(some 50), (.load1 (.t 3)), none⟩, ⟨(some 51), (.mov (.t 5)), none⟩, ⟨(some 52), (.idxS 1 (.t 50) (.t 51)), none⟩, ⟨(some 53), (.load1 (.t 52)), none⟩, ⟨(some 54), (.max2 (.t 49) (.t 53)), none⟩, ⟨none, (.store 1 (.t 4) (.t 54)), none⟩]))))
def x19 : XC :=
 (.seq (.ops [ ⟨(some 1), (.box (.t 0)), none⟩, ⟨(some 2), (.mov (.c (.int .i64 0))), none⟩]) (.seq (.ops [ ⟨(some 11), (.fldA 1 (.t 1)), none⟩, ⟨(some 12), (.load1 (.t 11)), none⟩, ⟨(some 13), (.len (.t 12)), none⟩, ⟨(some 14), (.mkslice [(.int .i64 0)] 8 (.t 13) (.t 13)), none⟩, ⟨(some 3), (.alloc [.nsl]), none⟩, ⟨none, (.store 1 (.t 3) (.t 14)), none⟩]) (.seq (.ops [ ⟨(some 4), (.alloc [(.int .i64 0)]), none⟩, ⟨none, (.store 1 (.t 4) (.c (.int .i64 0))), none⟩]) (.seq (.seq (.ops [ ⟨(some 15), (.loadN 2 (.t 1)), none⟩, ⟨(some 16), (.call (.f 41) [(.t 15)]), none⟩]) (.block 0 (.rngF (.t 16) 56 [17, 18] x19a x19b))) (.seq (.ops [ ⟨(some 55), (.load1 (.t 4)), none⟩, ⟨(some 2), (.mov (.t 55)), none⟩]) .ret)))))
/- "tiller/dag.Walk$1" params { toList := [71] } results { toList := [] } -/
def x47 : XC :=
 (.seq
  (.ops [
    ⟨(some 9), (.loadN 2 (.t 1)), none⟩,
    ⟨(some 10), (.call (.f 18) [(.t 9)]), none⟩,
    ⟨(some 8), (.mov (.t 10)), none⟩,
    ⟨(some 11), (.ext (.t 8) 0), none⟩,
    ⟨(some 12), (.ext (.t 8) 1), none⟩,
    ⟨(some 3), (.mov (.t 11)), none⟩,
    ⟨(some 4), (.mov (.t 12)), none⟩])
  (.seq
   (.ops [
     ⟨(some 13), (.mov (.t 3)), none⟩,
     ⟨(some 14), (.len (.t 13)), none⟩,
     ⟨(some 15), (.mov (.c (.int .i64 0))), none⟩])
   (.block 0
    (.loop
     (.seq
      (.ops [
        ⟨(some 16), (.bin .lss (.t 15) (.t 14)), none⟩])
      (.seq
       (.cond (.t 16)
        .skip
        (.exit 0))
       (.seq
        (.block 1
         (.seq
          (.ops [
            ⟨(some 17), (.idxS 1 (.t 13) (.t 15)), none⟩,
            ⟨(some 18), (.load1 (.t 17)), none⟩,
            ⟨(some 6), (.mov (.t 18)), none⟩])
          (.seq
           (.ops [
             ⟨(some 19), (.fldA 1 (.t 1)), none⟩,
             ⟨(some 20), (.load1 (.t 19)), none⟩,
             ⟨(some 21), (.mov (.t 6)), none⟩,
             ⟨(some 22), (.idxS 7 (.t 20) (.t 21)), none⟩,
             ⟨(some 23), (.loadN 7 (.t 22)), none⟩,
             ⟨(some 7), (.alloc [(.str []), (.int .i64 0), (.str []), (.str []), (.int .i64 0), (.int .i64 0), .nsl]), none⟩,
             ⟨none, (.store 7 (.t 7) (.t 23)), none⟩])
           (.seq
            (.ops [
              ⟨(some 24), (.fldA 6 (.t 7)), none⟩,
              ⟨(some 25), (.load1 (.t 24)), none⟩,
              ⟨(some 26), (.call (.f 48) [(.t 25)]), none⟩,
              ⟨(some 27), (.fldA 6 (.t 7)), none⟩,
              ⟨none, (.store 1 (.t 27) (.t 26)), none⟩])
            (.seq
             (.ops [
               ⟨(some 28), (.mov (.t 0)), none⟩,
               ⟨(some 29), (.mov (.t 6)), none⟩,
               ⟨(some 30), (.loadN 7 (.t 7)), none⟩,
               ⟨(some 31), (.call (.t 28) [(.t 29), (.t 30)]), none⟩,
               ⟨(some 32), (.un .not (.t 31)), none⟩])
             (.cond (.t 32)
              .ret
              .skip))))))
        (.ops [
          ⟨(some 33), (.bin .add (.t 15) (.c (.int .i64 1))), none⟩,
          ⟨(some 15), (.mov (.t 33)), none⟩]))))))))

section
variable {E : Env}
def findK (d : DefD) (s : List UInt8) : Nat := (d.find s).getD 0
theorem findN_eq (d : DefD) (s : List UInt8) : findN (d.find s) = (findK d s : Int) := by
  unfold findK findN; cases d.find s <;> rfl
theorem findK_lt (d : DefD) (s : List UInt8) (h : 0 < d.nodes.length) : findK d s < d.nodes.length := by
  unfold findK
  cases hf : d.find s with
  | none => exact h
  | some i => exact firstI_lt hf
/-- One edge. -/
def stepIn (d : DefD) (i : Nat) (deep : List Nat) (s : List UInt8) : List Nat := deep.set i (max (deep.getD i 0) (deep.getD (findK d s) 0 + 1))
/-- One node. -/
def deepOf (d : DefD) (deep : List Nat) (i : Nat) (k : Nat) : List Nat := (((d.nodes.getD i default).after).take k).foldl (stepIn d i) (deep.set i 1)
def stepD (d : DefD) (st : List Nat × Nat) (i : Nat) : List Nat × Nat :=
  let deep := deepOf d st.1 i (d.nodes.getD i default).after.length
  (deep, max st.2 (deep.getD i 0))
def DefD.depth (d : DefD) : Nat := (d.order.foldl (stepD d) (List.replicate d.nodes.length 0, 0)).2

def LeAll (B : Nat) (l : List Nat) : Prop := ∀ k, l.getD k 0 ≤ B
theorem LeAll.set {B v i : Nat} {l : List Nat} (h : LeAll B l) (hv : v ≤ B) : LeAll B (l.set i v) := by
  intro k
  have := h k
  rw [List.getD_eq_getElem?_getD] at this ⊢
  rw [List.getElem?_set]
  split
  · split
    · exact hv
    · exact Nat.zero_le _
  · exact this
theorem LeAll.mono {B B' : Nat} {l : List Nat} (h : LeAll B l) (hb : B ≤ B') : LeAll B' l := fun k => Nat.le_trans (h k) hb
theorem LeAll.step {B i : Nat} {l : List Nat} {d : DefD} {s : List UInt8} (h : LeAll B l) : LeAll (B + 1) (stepIn d i l s) :=
  LeAll.set (h.mono (Nat.le_succ B)) (Nat.max_le.2 ⟨Nat.le_succ_of_le (h i), Nat.succ_le_succ (h _)⟩)
theorem stepIn_len (d : DefD) (i : Nat) (l : List Nat) (s : List UInt8) : (stepIn d i l s).length = l.length := List.length_set ..
theorem deepOf_len (d : DefD) (l : List Nat) (i k : Nat) : (deepOf d l i k).length = l.length := by
  unfold deepOf
  have : ∀ (a : List (List UInt8)) (l : List Nat), (a.foldl (stepIn d i) l).length = l.length := by
    intro a
    induction a with
    | nil => intro l; rfl
    | cons s a ih => intro l; rw [List.foldl_cons, ih, stepIn_len]
  rw [this, List.length_set]
theorem deepOf_le (d : DefD) {B : Nat} {l : List Nat} (h : LeAll B l) (i k : Nat) : LeAll (B + 1 + k) (deepOf d l i k) := by
  unfold deepOf
  have : ∀ (a : List (List UInt8)) (l : List Nat) (B : Nat), LeAll B l → LeAll (B + a.length) (a.foldl (stepIn d i) l) := by
    intro a
    induction a with
    | nil => intro l B h; exact h
    | cons s a ih =>
      intro l B h
      rw [List.foldl_cons]
      exact (ih _ _ h.step).mono (by simp; omega)
  exact (this _ _ _ ((h.mono (Nat.le_succ B)).set (by omega))).mono (by
    have := List.length_take_le k (d.nodes.getD i default).after; omega)
theorem deepOf_succ (d : DefD) (l : List Nat) (i k : Nat) (h : k < (d.nodes.getD i default).after.length) : deepOf d l i (k + 1) = stepIn d i (deepOf d l i k) ((d.nodes.getD i default).after.getD k []) := by
  unfold deepOf
  have h2 : (d.nodes.getD i default).after[k]? = some ((d.nodes.getD i default).after.getD k []) := getD_get h
  rw [List.take_add_one, List.foldl_append, h2]
  rfl
theorem get5 {a b c e f x : Blk} {J : List Blk} : (a :: b :: c :: e :: f :: (J ++ [x]))[J.length + 5]? = some x := by simp
theorem intRows_get {l : List Nat} {i : Nat} (h : i < l.length) : (intRows l).getD i [] = [.int .i64 ((l.getD i 0 : Nat) : Int)] := by
  simp [intRows, List.getD_eq_getElem?_getD, List.getElem?_eq_getElem h]
theorem intRows_set (l : List Nat) (i v : Nat) : (intRows l).set i [.int .i64 (v : Int)] = intRows (l.set i v) := by simp [intRows, List.map_set]
theorem max_cast (a b : Nat) : (if (a : Int) < (b : Int) then (b : Int) else (a : Int)) = ((max a b : Nat) : Int) := by
  split <;> omega

def depB (d : DefD) (deep : List Nat) (longest : Nat) (lp : Blk) (J : List Blk) : List Blk :=
  .cells 2 [[.str d.name, .isl (nodeRows d.nodes)]] :: .cells 1 (intRows deep) :: .cells 1 [[.sl 1 0 d.nodes.length d.nodes.length]] :: .cells 1 [[.int .i64 (longest : Int)]] :: lp :: J

theorem round_run (hP : E.P = Tryz.prog) (d : DefD) (hd : d.nodes.length ≤ 1000000) (ha : ∀ n ∈ d.nodes, n.after.length ≤ 1000000) {i : Nat} (hi : i < d.nodes.length) {deep : List Nat} {longest B : Nat} (hlen : deep.length = d.nodes.length)
    (hB : LeAll B deep) (hBl : longest ≤ B) (hBB : B ≤ 1000000000000000) (lp : Blk) (J : List Blk) (s : Nat) {ρ : Rho} (hs : s = J.length + 5) (h1 : ρ 1 = .ptr 0 0 0) (h3 : ρ 3 = .ptr 2 0 0) (h4 : ρ 4 = .ptr 3 0 0) (h5 : ρ 5 = .int .i64 i) (h6 : ρ 6 = .ptr s 0 0) :
    xrun E x19b ρ (depB d deep longest lp (J ++ [.cells 7 [(d.nodes.getD i default).row]])) fun e _ L' => e = .normal ∧
      L' = depB d (stepD d (deep, longest) i).1 (stepD d (deep, longest) i).2 lp (J ++ [.cells 7 [(d.nodes.getD i default).row]]) := by
  have hmem : d.nodes.getD i default ∈ d.nodes := by rw [List.getD_eq_getElem?_getD, List.getElem?_eq_getElem hi]; exact List.getElem_mem _
  have haf := ha _ hmem
  generalize hnd : d.nodes.getD i default = nd at *
  unfold depB
  unfold x19b
  subst hs
  have hnl : 0 < d.nodes.length := by omega
  have hrow0 := intRows_get (l := deep) (i := i) (by omega)
  have hil : (intRows deep).length = d.nodes.length := by rw [← hlen]; simp [intRows]
  have hset0 : (intRows deep).set i [.int .i64 1] = intRows (deepOf d deep i 0) := intRows_set deep i 1
  simp only [h1, h3, h4, h5, h6, NodeD.row, get5, hrow0, hil, hset0, strRows_len, go_sem, Nat.reduceEqDiff, reduceIte, Int.reduceEq, Int.reduceLT, Int.reduceLE, Nat.reduceAdd, Nat.reduceLT, Nat.reduceLeDiff, Int.reduceToNat, Int.reduceSub, Int.reduceAdd, Int.reduceNeg]
  refine ⟨by omega, hi, ?_⟩
  refine s_loop (fun n' ρ L => ∃ k : Nat, k ≤ nd.after.length ∧ n' = nd.after.length - k ∧ L = depB d (deepOf d deep i k) longest lp (J ++ [.cells 7 [nd.row]]) ∧
      ρ 1 = .ptr 0 0 0 ∧ ρ 3 = .ptr 2 0 0 ∧ ρ 4 = .ptr 3 0 0 ∧ ρ 5 = .int .i64 i ∧ ρ 23 = .isl (strRows nd.after) ∧ ρ 24 = .int .i64 nd.after.length ∧ ρ 25 = .int .i64 k)
    ⟨0, Nat.zero_le _, rfl, rfl, by simp only [h1, go_sem, Nat.reduceEqDiff, reduceIte, Int.reduceEq, Int.reduceLT, Int.reduceLE, Nat.reduceAdd, Nat.reduceLT, Nat.reduceLeDiff, Int.reduceToNat, Int.reduceSub, Int.reduceAdd, Int.reduceNeg], by simp only [h3, go_sem, Nat.reduceEqDiff, reduceIte, Int.reduceEq, Int.reduceLT, Int.reduceLE, Nat.reduceAdd, Nat.reduceLT, Nat.reduceLeDiff, Int.reduceToNat, Int.reduceSub, Int.reduceAdd, Int.reduceNeg], by simp only [h4, go_sem, Nat.reduceEqDiff, reduceIte, Int.reduceEq, Int.reduceLT, Int.reduceLE, Nat.reduceAdd, Nat.reduceLT, Nat.reduceLeDiff, Int.reduceToNat, Int.reduceSub, Int.reduceAdd, Int.reduceNeg], by simp only [h5, go_sem, Nat.reduceEqDiff, reduceIte, Int.reduceEq, Int.reduceLT, Int.reduceLE, Nat.reduceAdd, Nat.reduceLT, Nat.reduceLeDiff, Int.reduceToNat, Int.reduceSub, Int.reduceAdd, Int.reduceNeg], by simp only [go_sem, Nat.reduceEqDiff, reduceIte, Int.reduceEq, Int.reduceLT, Int.reduceLE, Nat.reduceAdd, Nat.reduceLT, Nat.reduceLeDiff, Int.reduceToNat, Int.reduceSub, Int.reduceAdd, Int.reduceNeg], by simp only [go_sem, Nat.reduceEqDiff, reduceIte, Int.reduceEq, Int.reduceLT, Int.reduceLE, Nat.reduceAdd, Nat.reduceLT, Nat.reduceLeDiff, Int.reduceToNat, Int.reduceSub, Int.reduceAdd, Int.reduceNeg], by simp only [go_sem, Nat.reduceEqDiff, reduceIte, Int.reduceEq, Int.reduceLT, Int.reduceLE, Nat.reduceAdd, Nat.reduceLT, Nat.reduceLeDiff, Int.reduceToNat, Int.reduceSub, Int.reduceAdd, Int.reduceNeg]; try rfl⟩ ?_
  clear h1 h3 h4 h5 h6 ρ
  rintro n' ρ L ⟨k, hk, rfl, rfl, h1, h3, h4, h5, h23, h24, h25⟩
  have hdl : (deepOf d deep i k).length = d.nodes.length := by rw [deepOf_len]; exact hlen
  have hdB := deepOf_le d hB i k
  generalize hdp : deepOf d deep i k = dp at *
  have hrow := intRows_get (l := dp) (i := i) (by omega)
  have hil2 : (intRows dp).length = d.nodes.length := by rw [← hdl]; simp [intRows]
  unfold depB
  simp only [h1, h3, h4, h5, h23, h24, h25, go_sem, Nat.reduceEqDiff, reduceIte, Int.reduceEq, Int.reduceLT, Int.reduceLE, Nat.reduceAdd, Nat.reduceLT, Nat.reduceLeDiff, Int.reduceToNat, Int.reduceSub, Int.reduceAdd, Int.reduceNeg]
  refine s_cond (b := decide _) (by simp only [h1, h3, h4, h5, h23, h24, h25, strRows_len, rows_strs, go_sem, Nat.reduceEqDiff, reduceIte, Int.reduceEq, Int.reduceLT, Int.reduceLE, Nat.reduceAdd, Nat.reduceLT, Nat.reduceLeDiff, Int.reduceToNat, Int.reduceSub, Int.reduceAdd, Int.reduceNeg]; try rfl) ?_ ?_ <;> intro hb <;> simp only [hb, h1, h3, h4, h5, h23, h24, h25, strRows_len, rows_strs, go_sem, Nat.reduceEqDiff, reduceIte, Int.reduceEq, Int.reduceLT, Int.reduceLE, Nat.reduceAdd, Nat.reduceLT, Nat.reduceLeDiff, Int.reduceToNat, Int.reduceSub, Int.reduceAdd, Int.reduceNeg]
  · rw [decide_eq_true_eq] at hb
    have hk' : k < nd.after.length := by omega
    have hsr := strRows_get hk'
    refine ⟨hb, ?_⟩
    simp only [h1, h3, h4, h5, h23, h24, h25, hsr, strRows_len, go_sem, Nat.reduceEqDiff, reduceIte, Int.reduceEq, Int.reduceLT, Int.reduceLE, Nat.reduceAdd, Nat.reduceLT, Nat.reduceLeDiff, Int.reduceToNat, Int.reduceSub, Int.reduceAdd, Int.reduceNeg]
    refine ⟨hk', ?_⟩
    refine xcall_pure (args' := [d.iv, .str (nd.after.getD k [])]) rfl (dagFind_pure hP d _ (by omega)) rfl ?_
    have hfk := findK_lt d (nd.after.getD k []) hnl
    have hrk := intRows_get (l := dp) (i := findK d (nd.after.getD k [])) (by omega)
    simp only [h1, h3, h4, h5, h23, h24, h25, findN_eq, hrow, hrk, hil2, go_sem, Nat.reduceEqDiff, reduceIte, Int.reduceEq, Int.reduceLT, Int.reduceLE, Nat.reduceAdd, Nat.reduceLT, Nat.reduceLeDiff, Int.reduceToNat, Int.reduceSub, Int.reduceAdd, Int.reduceNeg]
    have hw : IntKind.wrap .i64 (((dp.getD (findK d (nd.after.getD k [])) 0 : Nat) : Int) + 1) = ((dp.getD (findK d (nd.after.getD k [])) 0 + 1 : Nat) : Int) := by
      have := hdB (findK d (nd.after.getD k []))
      rw [wrap64 (by omega) (by omega)]; rfl
    refine ⟨by omega, hi, by omega, hfk, by omega, hi, nd.after.length - (k + 1), by omega, k + 1, by omega, rfl, ?_, by rw [wrap64 (by omega) (by omega)]; rfl⟩
    rw [hw, deepOf_succ d deep i k (by rw [hnd]; exact hk'), hdp, hnd]
    simp only [gt_iff_lt, max_cast, intRows_set]
    rfl
  · rw [decide_eq_false_iff_not] at hb
    have hkk : k = nd.after.length := by omega
    simp only [h1, h3, h4, h5, h23, h24, h25, hrow, hil2, go_sem, Nat.reduceEqDiff, reduceIte, Int.reduceEq, Int.reduceLT, Int.reduceLE, Nat.reduceAdd, Nat.reduceLT, Nat.reduceLeDiff, Int.reduceToNat, Int.reduceSub, Int.reduceAdd, Int.reduceNeg]
    have hst : stepD d (deep, longest) i = (dp, max longest (dp.getD i 0)) := by
      unfold stepD
      simp only [hnd]
      rw [← hkk, hdp]
    refine ⟨by omega, hi, ?_⟩
    rw [hst]
    simp only [gt_iff_lt, max_cast]
    try rfl

theorem ordGo_facts (d : DefD) : ∀ (n : Nat) (told : List Bool) (out : List Nat), (d.ordGo n told out).length ≤ out.length + n ∧ ∀ i ∈ d.ordGo n told out, i ∈ out ∨ i < d.nodes.length
  | 0, told, out => ⟨by simp [DefD.ordGo], fun i hi => .inl hi⟩
  | n + 1, told, out => by
    rw [DefD.ordGo]
    split
    · exact ⟨by omega, fun i hi => .inl hi⟩
    · rename_i i0 hf
      obtain ⟨h1, h2⟩ := ordGo_facts d n (told.set i0 true) (out ++ [i0])
      refine ⟨by simp at h1; omega, fun i hi => ?_⟩
      rcases h2 i hi with h | h
      · rcases List.mem_append.1 h with h | h
        · exact .inl h
        · have := firstI_lt hf
          simp at h this; subst h; exact .inr this
      · exact .inr h
theorem order_len (d : DefD) : d.order.length ≤ d.nodes.length + 1 := by have := (ordGo_facts d (d.nodes.length + 1) (List.replicate d.nodes.length false) []).1; simpa [DefD.order] using this
theorem order_lt (d : DefD) {i : Nat} (h : i ∈ d.order) : i < d.nodes.length := by
  rcases (ordGo_facts d (d.nodes.length + 1) (List.replicate d.nodes.length false) []).2 i h with h | h
  · cases h
  · exact h
theorem stepD_facts (d : DefD) (ha : ∀ n ∈ d.nodes, n.after.length ≤ 1000000) : ∀ (l : List Nat) (st : List Nat × Nat) (B : Nat), (∀ i ∈ l, i < d.nodes.length) → LeAll B st.1 → st.2 ≤ B →
    (l.foldl (stepD d) st).1.length = st.1.length ∧ LeAll (B + l.length * 1000001) (l.foldl (stepD d) st).1 ∧ (l.foldl (stepD d) st).2 ≤ B + l.length * 1000001
  | [], st, B, _, h1, h2 => ⟨rfl, by simpa using h1, by simpa using h2⟩
  | i :: l, st, B, hl, h1, h2 => by
    rw [List.foldl_cons]
    have hi := hl i List.mem_cons_self
    have hmem : d.nodes.getD i default ∈ d.nodes := by rw [List.getD_eq_getElem?_getD, List.getElem?_eq_getElem hi]; exact List.getElem_mem _
    have haf := ha _ hmem
    have h3 : LeAll (B + 1000001) (stepD d st i).1 := (deepOf_le d h1 i _).mono (by omega)
    have h4 : (stepD d st i).2 ≤ B + 1000001 := Nat.max_le.2 ⟨by omega, h3 i⟩
    obtain ⟨h5, h6, h7⟩ := stepD_facts d ha l (stepD d st i) (B + 1000001) (fun j hj => hl j (List.mem_cons_of_mem _ hj)) h3 h4
    have e : B + 1000001 + l.length * 1000001 = B + (i :: l).length * 1000001 := by simp only [List.length_cons]; omega
    rw [e] at h6 h7
    exact ⟨by rw [h5]; exact deepOf_len d st.1 i _, h6, h7⟩

theorem rows_ints (l : List Nat) : Rows 1 (intRows l) := by
  intro row h
  obtain ⟨n, _, rfl⟩ := List.mem_map.1 h
  rfl
theorem get5' {a b c e f x : Blk} {J : List Blk} : (a :: b :: c :: e :: f :: (J ++ [x]))[J.length + 1 + 1 + 1 + 1 + 1]? = some x := by simp
theorem set5' {a b c e f x y : Blk} {J : List Blk} : (a :: b :: c :: e :: f :: (J ++ [x])).set (J.length + 1 + 1 + 1 + 1 + 1) y = a :: b :: c :: e :: f :: (J ++ [y]) := by simp
theorem comp47 : compFn Tryz.prog Tryz.f62 = some ⟨Tryz.f62.ntmps, [], x47⟩ := by kernel_rfl
theorem rho_set {l : List IV} {p n : Nat} {v : IV} (h : p < l.length) : rhoOf (l.set p v) n = if n = p then v else rhoOf l n := by
  unfold rhoOf
  rw [List.getD_eq_getElem?_getD, List.getElem?_set]
  by_cases hn : n = p
  · subst hn; rw [if_pos rfl, if_pos h, if_pos rfl]; rfl
  · rw [if_neg (Ne.symm hn), if_neg hn, List.getD_eq_getElem?_getD]

theorem depth_loop (hP : E.P = Tryz.prog) (d : DefD) (hd : d.nodes.length ≤ 1000000) (ha : ∀ n ∈ d.nodes, n.after.length ≤ 1000000) (ρ' : Rho) (h1 : ρ' 1 = .ptr 0 0 0) (h3 : ρ' 3 = .ptr 2 0 0) (h4 : ρ' 4 = .ptr 3 0 0)
    (h16 : ρ' 16 = .fn (.func 62) [] [.iptr [[.str d.name, .isl (nodeRows d.nodes)]] 0 0]) (hcv : ∀ (L : List Blk) (n : Nat), conv L 12 (renLeave 5 []) (ρ' n) = some (ρ' n)) {K : XE → Rho → List Blk → Prop}
    (hK : K .normal ρ' [.cells 2 [[.str d.name, .isl (nodeRows d.nodes)]], .cells 1 (intRows (d.order.foldl (stepD d) (List.replicate d.nodes.length 0, 0)).1), .cells 1 [[.sl 1 0 d.nodes.length d.nodes.length]], .cells 1 [[.int .i64 (d.depth : Int)]], .dead]) :
    xrun E (.rngF (.t 16) 56 [17, 18] x19a x19b) ρ' [.cells 2 [[.str d.name, .isl (nodeRows d.nodes)]], .cells 1 (List.replicate d.nodes.length [.int .i64 0]), .cells 1 [[.sl 1 0 d.nodes.length d.nodes.length]], .cells 1 [[.int .i64 0]]] K := by
  have hrep : List.replicate d.nodes.length [IV.int .i64 0] = intRows (List.replicate d.nodes.length 0) := by simp [intRows]
  rw [hrep]
  refine s_rngF (gf := 62) (fn := Tryz.f62) (F := ⟨Tryz.f62.ntmps, [], x47⟩) h16 (by rw [hP]; rfl) (by rw [hP]; exact comp47) (by decide) (Nat.le_of_ble_eq_true rfl) ?_
  intro r0 hst hpe hlc
  have hll : ((List.range 56).map ρ').length = 56 := by simp
  have hl : ∀ n, n < 56 → rhoOf ((List.range 56).map ρ') n = ρ' n := fun n hn => list_getD hn
  have hlcv : ∀ L, mapO (conv L 12 (renLeave 5 [])) ((List.range 56).map ρ') = some ((List.range 56).map ρ') := fun L => mapO_same fun x hx => by
    obtain ⟨n, _, rfl⟩ := List.mem_map.1 hx
    exact hcv L n
  generalize (List.range 56).map ρ' = l at *
  refine xfun0 ?_
  generalize hρ : entry _ = ρ
  have g0 : ρ 0 = .yld 4 := by rw [← hρ]; rfl
  have g1 : ρ 1 = .iptr [[.str d.name, .isl (nodeRows d.nodes)]] 0 0 := by rw [← hρ]; rfl
  clear hρ
  unfold x47
  simp only [g0, g1, go_sem, Nat.reduceEqDiff, reduceIte, Int.reduceEq, Int.reduceLT, Int.reduceLE, Nat.reduceAdd, Nat.reduceLT, Nat.reduceLeDiff, Int.reduceToNat, Int.reduceSub, Int.reduceAdd, Int.reduceNeg]
  refine xcall_pure (args' := [d.iv]) rfl (order_pure (E := E.withY 56 [17, 18] x19a x19b) hP d hd (fun n hn => by have := ha n hn; omega)) rfl ?_
  simp only [g0, g1, go_sem, Nat.reduceEqDiff, reduceIte, Int.reduceEq, Int.reduceLT, Int.reduceLE, Nat.reduceAdd, Nat.reduceLT, Nat.reduceLeDiff, Int.reduceToNat, Int.reduceSub, Int.reduceAdd, Int.reduceNeg]
  have hol := order_len d
  refine s_loop (fun n' ρ L => ∃ j : Nat, j ≤ d.order.length ∧ n' = d.order.length - j ∧ (∃ J, L = depB d ((d.order.take j).foldl (stepD d) (List.replicate d.nodes.length 0, 0)).1 ((d.order.take j).foldl (stepD d) (List.replicate d.nodes.length 0, 0)).2 (.lp r0 l) J) ∧
      ρ 0 = .yld 4 ∧ ρ 1 = .iptr [[.str d.name, .isl (nodeRows d.nodes)]] 0 0 ∧ ρ 13 = .isl (intRows d.order) ∧ ρ 14 = .int .i64 d.order.length ∧ ρ 15 = .int .i64 j)
    ⟨0, Nat.zero_le _, rfl, ⟨[], rfl⟩, by simp only [g0, go_sem, Nat.reduceEqDiff, reduceIte, Int.reduceEq, Int.reduceLT, Int.reduceLE, Nat.reduceAdd, Nat.reduceLT, Nat.reduceLeDiff, Int.reduceToNat, Int.reduceSub, Int.reduceAdd, Int.reduceNeg], by simp only [g1, go_sem, Nat.reduceEqDiff, reduceIte, Int.reduceEq, Int.reduceLT, Int.reduceLE, Nat.reduceAdd, Nat.reduceLT, Nat.reduceLeDiff, Int.reduceToNat, Int.reduceSub, Int.reduceAdd, Int.reduceNeg], by simp only [go_sem, Nat.reduceEqDiff, reduceIte, Int.reduceEq, Int.reduceLT, Int.reduceLE, Nat.reduceAdd, Nat.reduceLT, Nat.reduceLeDiff, Int.reduceToNat, Int.reduceSub, Int.reduceAdd, Int.reduceNeg], by simp only [intRows_len, go_sem, Nat.reduceEqDiff, reduceIte, Int.reduceEq, Int.reduceLT, Int.reduceLE, Nat.reduceAdd, Nat.reduceLT, Nat.reduceLeDiff, Int.reduceToNat, Int.reduceSub, Int.reduceAdd, Int.reduceNeg], by simp only [go_sem, Nat.reduceEqDiff, reduceIte, Int.reduceEq, Int.reduceLT, Int.reduceLE, Nat.reduceAdd, Nat.reduceLT, Nat.reduceLeDiff, Int.reduceToNat, Int.reduceSub, Int.reduceAdd, Int.reduceNeg]; try rfl⟩ ?_
  clear g0 g1 ρ
  rintro n' ρ L ⟨j, hj, rfl, ⟨J, rfl⟩, g0, g1, g13, g14, g15⟩
  unfold depB
  simp only [g0, g1, g13, g14, g15, go_sem, Nat.reduceEqDiff, reduceIte, Int.reduceEq, Int.reduceLT, Int.reduceLE, Nat.reduceAdd, Nat.reduceLT, Nat.reduceLeDiff, Int.reduceToNat, Int.reduceSub, Int.reduceAdd, Int.reduceNeg]
  refine s_cond (b := decide _) (by simp only [g0, g1, g13, g14, g15, intRows_len, go_sem, Nat.reduceEqDiff, reduceIte, Int.reduceEq, Int.reduceLT, Int.reduceLE, Nat.reduceAdd, Nat.reduceLT, Nat.reduceLeDiff, Int.reduceToNat, Int.reduceSub, Int.reduceAdd, Int.reduceNeg]; try rfl) ?_ ?_ <;> intro hb <;> simp only [hb, g0, g1, g13, g14, g15, intRows_len, go_sem, Nat.reduceEqDiff, reduceIte, Int.reduceEq, Int.reduceLT, Int.reduceLE, Nat.reduceAdd, Nat.reduceLT, Nat.reduceLeDiff, Int.reduceToNat, Int.reduceSub, Int.reduceAdd, Int.reduceNeg]
  · rw [decide_eq_true_eq] at hb
    have hj' : j < d.order.length := by omega
    have hi : d.order.getD j 0 < d.nodes.length := order_lt d (by rw [List.getD_eq_getElem?_getD, List.getElem?_eq_getElem hj']; exact List.getElem_mem _)
    have hmem : d.nodes.getD (d.order.getD j 0) default ∈ d.nodes := by rw [List.getD_eq_getElem?_getD, List.getElem?_eq_getElem hi]; exact List.getElem_mem _
    have hrow := nodeRows_get hi
    have hor := intRows_get hj'
    obtain ⟨f1, f2, f3⟩ := stepD_facts d ha (d.order.take j) (List.replicate d.nodes.length 0, 0) 0 (fun i hi => order_lt d (List.mem_of_mem_take hi)) (fun k => by simp [List.getD_eq_getElem?_getD, List.getElem?_replicate]; split <;> simp) (Nat.le_refl 0)
    have htk : (d.order.take (j + 1)).foldl (stepD d) (List.replicate d.nodes.length 0, 0) = stepD d ((d.order.take j).foldl (stepD d) (List.replicate d.nodes.length 0, 0)) (d.order.getD j 0) := by
      rw [List.take_add_one, List.foldl_append, getD_get (d := 0) hj']; rfl
    generalize (d.order.take j).foldl (stepD d) (List.replicate d.nodes.length 0, 0) = st at *
    have hlt : (d.order.take j).length ≤ 1000001 := by rw [List.length_take]; omega
    have hBB : 0 + (d.order.take j).length * 1000001 ≤ 1000000000000000 := by omega
    generalize hid : d.order.getD j 0 = i at *
    simp only [g0, g1, g13, g14, g15, intRows_len, rows_ints, rows_nodes, hor, hrow, nodeRows_len, NodeD.row, go_sem, Nat.reduceEqDiff, reduceIte, Int.reduceEq, Int.reduceLT, Int.reduceLE, Nat.reduceAdd, Nat.reduceLT, Nat.reduceLeDiff, Int.reduceToNat, Int.reduceSub, Int.reduceAdd, Int.reduceNeg]
    refine ⟨hb, hj', by omega, hi, ?_⟩
    have hrid := cloneS_pure (E := E.withY 56 [17, 18] x19a x19b) hP (d.nodes.getD i default).after (ha _ hmem)
    refine xcall_pure (args' := [.isl (strRows (d.nodes.getD i default).after)]) rfl hrid rfl ?_
    simp only [g0, g1, g13, g14, g15, get5', set5', hor, go_sem, Nat.reduceEqDiff, reduceIte, Int.reduceEq, Int.reduceLT, Int.reduceLE, Nat.reduceAdd, Nat.reduceLT, Nat.reduceLeDiff, Int.reduceToNat, Int.reduceSub, Int.reduceAdd, Int.reduceNeg]
    refine ⟨r0, l, rfl, hst, hpe, hlc, rfl, by decide, rfl, rfl, hll, ?_⟩
    generalize hnd : d.nodes.getD i default = nd at *
    have hps : putPs l [17, 18] [.int .i64 i, .agg nd.row] = (l.set 17 (.int .i64 i)).set 18 (.agg nd.row) := rfl
    have q18 : rhoOf (putPs l [17, 18] [.int .i64 i, .agg nd.row]) 18 = .agg nd.row := by rw [hps, rho_set (by rw [List.length_set]; omega), if_pos rfl]
    have q17 : rhoOf (putPs l [17, 18] [.int .i64 i, .agg nd.row]) 17 = .int .i64 i := by rw [hps, rho_set (by rw [List.length_set]; omega), if_neg (by decide), rho_set (by omega), if_pos rfl]
    have qn : ∀ n, n < 17 → rhoOf (putPs l [17, 18] [.int .i64 i, .agg nd.row]) n = ρ' n := fun n hn => by rw [hps, rho_set (by rw [List.length_set]; omega), if_neg (by omega), rho_set (by omega), if_neg (by omega), hl n (by omega)]
    have q1 := (qn 1 (by decide)).trans h1
    have q3 := (qn 3 (by decide)).trans h3
    have q4 := (qn 4 (by decide)).trans h4
    simp only [NodeD.row] at q18 q17 q1 q3 q4
    clear qn hps
    generalize rhoOf (putPs l [17, 18] _) = ρ2 at *
    unfold x19a
    simp only [q1, q3, q4, q17, q18, go_sem, Nat.reduceEqDiff, reduceIte, Int.reduceEq, Int.reduceLT, Int.reduceLE, Nat.reduceAdd, Nat.reduceLT, Nat.reduceLeDiff, Int.reduceToNat, Int.reduceSub, Int.reduceAdd, Int.reduceNeg]
    have hr := fun (ρ : Rho) p1 p3 p4 p5 p6 => round_run (E := E.noPan) hP d hd ha hi (deep := st.1) (longest := st.2) (B := 0 + (d.order.take j).length * 1000001) (by simpa using f1) f2 f3 hBB (.lp { r0 with state := .busy } l) (J ++ [.cells 7 [nd.row]]) _ (ρ := ρ) rfl p1 p3 p4 p5 p6
    rw [hnd] at hr
    simp only [NodeD.row] at hr
    refine xrun_mono _ (fun e ρ3 L3 h => ?_) (hr _ (by simp only [q1, q3, q4, q17, q18, go_sem, Nat.reduceEqDiff, reduceIte, Int.reduceEq, Int.reduceLT, Int.reduceLE, Nat.reduceAdd, Nat.reduceLT, Nat.reduceLeDiff, Int.reduceToNat, Int.reduceSub, Int.reduceAdd, Int.reduceNeg]) (by simp only [q1, q3, q4, q17, q18, go_sem, Nat.reduceEqDiff, reduceIte, Int.reduceEq, Int.reduceLT, Int.reduceLE, Nat.reduceAdd, Nat.reduceLT, Nat.reduceLeDiff, Int.reduceToNat, Int.reduceSub, Int.reduceAdd, Int.reduceNeg]) (by simp only [q1, q3, q4, q17, q18, go_sem, Nat.reduceEqDiff, reduceIte, Int.reduceEq, Int.reduceLT, Int.reduceLE, Nat.reduceAdd, Nat.reduceLT, Nat.reduceLeDiff, Int.reduceToNat, Int.reduceSub, Int.reduceAdd, Int.reduceNeg]) (by simp only [q1, q3, q4, q17, q18, go_sem, Nat.reduceEqDiff, reduceIte, Int.reduceEq, Int.reduceLT, Int.reduceLE, Nat.reduceAdd, Nat.reduceLT, Nat.reduceLeDiff, Int.reduceToNat, Int.reduceSub, Int.reduceAdd, Int.reduceNeg]) (by simp only [q1, q3, q4, q17, q18, go_sem, Nat.reduceEqDiff, reduceIte, Int.reduceEq, Int.reduceLT, Int.reduceLE, Nat.reduceAdd, Nat.reduceLT, Nat.reduceLeDiff, Int.reduceToNat, Int.reduceSub, Int.reduceAdd, Int.reduceNeg]))
    obtain ⟨rfl, rfl⟩ := h
    refine ⟨rfl, ?_⟩
    simp only [yEnd]
    unfold depB
    simp only [g0, g1, g13, g14, g15, go_sem, Nat.reduceEqDiff, reduceIte, Int.reduceEq, Int.reduceLT, Int.reduceLE, Nat.reduceAdd, Nat.reduceLT, Nat.reduceLeDiff, Int.reduceToNat, Int.reduceSub, Int.reduceAdd, Int.reduceNeg]
    refine ⟨d.order.length - (j + 1), by omega, j + 1, by omega, rfl, ⟨_, by rw [htk]⟩, by rw [wrap64 (by omega) (by omega)]; rfl⟩
  · rw [decide_eq_false_iff_not] at hb
    have hjj : j = d.order.length := by omega
    try simp only [g0, g1, g13, g14, g15, go_sem, Nat.reduceEqDiff, reduceIte, Int.reduceEq, Int.reduceLT, Int.reduceLE, Nat.reduceAdd, Nat.reduceLT, Nat.reduceLeDiff, Int.reduceToNat, Int.reduceSub, Int.reduceAdd, Int.reduceNeg]
    refine ⟨[], .nil, by simp, .tup [], [.cells 2 [[.str d.name, .isl (nodeRows d.nodes)]], .cells 1 (intRows ((d.order.take j).foldl (stepD d) (List.replicate d.nodes.length 0, 0)).1), .cells 1 [[.sl 1 0 d.nodes.length d.nodes.length]], .cells 1 [[.int .i64 (((d.order.take j).foldl (stepD d) (List.replicate d.nodes.length 0, 0)).2 : Nat)]], .lp r0 l], rfl, ?_, ⟨r0, rfl, by rw [hst]; simp, ?_⟩⟩
    · refine mapO_cons rfl (mapO_cons ?_ (mapO_cons rfl (mapO_cons rfl (mapO_cons ?_ rfl))))
      · show (mapO (mapO (conv _ 12 _)) (intRows _)).map _ = _
        rw [mapO_ints]; rfl
      · show (mapO (conv _ 12 _) l).map _ = _
        rw [hlcv]; rfl
    · rw [hpe]
      rw [hjj, List.take_length]
      exact hK

theorem depth_pure (hP : E.P = Tryz.prog) (d : DefD) (hd : d.nodes.length ≤ 1000000) (ha : ∀ n ∈ d.nodes, n.after.length ≤ 1000000) : XPure E 20 [d.iv] (.int .i64 d.depth) := by
  refine xpure1 (n := Tryz.f20.ntmps) (c := x19) (t := 2) (by rw [hP]; rfl) (by rw [hP]; kernel_rfl) (by decide) (Nat.le_of_ble_eq_true rfl) ?_
  generalize hρ : entry _ = ρ
  have h0 : ρ 0 = .agg [.str d.name, .isl (nodeRows d.nodes)] := by rw [← hρ]; rfl
  have hrest : ∀ n, ρ (n + 1) = .und := by intro n; rw [← hρ]; rfl
  clear hρ
  unfold x19
  simp only [h0, nodeRows_len, go_sem, Nat.reduceEqDiff, reduceIte, Int.reduceEq, Int.reduceLT, Int.reduceLE, Nat.reduceAdd, Nat.reduceLT, Nat.reduceLeDiff, Int.reduceToNat, Int.reduceSub, Int.reduceAdd, Int.reduceNeg]
  refine ⟨by omega, by omega, by omega, ?_⟩
  refine xcall_pure (args' := [d.iv]) rfl (walk_pure hP d hd ha) rfl ?_
  try simp only [h0, nodeRows_len, go_sem, Nat.reduceEqDiff, reduceIte, Int.reduceEq, Int.reduceLT, Int.reduceLE, Nat.reduceAdd, Nat.reduceLT, Nat.reduceLeDiff, Int.reduceToNat, Int.reduceSub, Int.reduceAdd, Int.reduceNeg]
  refine depth_loop (E := E.noPan) hP d hd ha _ (by simp only [go_sem, Nat.reduceEqDiff, reduceIte, Int.reduceEq, Int.reduceLT, Int.reduceLE, Nat.reduceAdd, Nat.reduceLT, Nat.reduceLeDiff, Int.reduceToNat, Int.reduceSub, Int.reduceAdd, Int.reduceNeg]) (by simp only [go_sem, Nat.reduceEqDiff, reduceIte, Int.reduceEq, Int.reduceLT, Int.reduceLE, Nat.reduceAdd, Nat.reduceLT, Nat.reduceLeDiff, Int.reduceToNat, Int.reduceSub, Int.reduceAdd, Int.reduceNeg]) (by simp only [go_sem, Nat.reduceEqDiff, reduceIte, Int.reduceEq, Int.reduceLT, Int.reduceLE, Nat.reduceAdd, Nat.reduceLT, Nat.reduceLeDiff, Int.reduceToNat, Int.reduceSub, Int.reduceAdd, Int.reduceNeg]) (by simp only [go_sem, Nat.reduceEqDiff, reduceIte, Int.reduceEq, Int.reduceLT, Int.reduceLE, Nat.reduceAdd, Nat.reduceLT, Nat.reduceLeDiff, Int.reduceToNat, Int.reduceSub, Int.reduceAdd, Int.reduceNeg]) (fun L => ?_) ?_
  · repeat (refine put_all (P := fun x => conv L 12 (renLeave 5 []) x = some x) rfl ?_)
    intro n
    cases n with
    | zero => rw [h0]; rfl
    | succ n => rw [hrest]; rfl
  · simp only [h0, nodeRows_len, go_sem, Nat.reduceEqDiff, reduceIte, Int.reduceEq, Int.reduceLT, Int.reduceLE, Nat.reduceAdd, Nat.reduceLT, Nat.reduceLeDiff, Int.reduceToNat, Int.reduceSub, Int.reduceAdd, Int.reduceNeg]
    rfl
end
end Go.X.TryzW
end
section
open Go Go.X Go.Proofs
set_option maxRecDepth 100000
set_option maxHeartbeats 4000000
set_option linter.unusedSimpArgs false
set_option linter.unusedVariables false
namespace Go.X.TryzW

def tabD (P : Program) : Tab where
  T := tabT P
  pre := fun _ _ => none
  ext := fun f args => match f, args with
    | 108, [.str s, .int .u8 c] => some (.int .i64 (Lib.indexByte s c.toNat.toUInt8))
    | 74, [.str s, .int .u8 c] => some (.int .i64 (Lib.countByte s c.toNat.toUInt8))
    | _, _ => none
section
variable {E : Env}
theorem tabD_ok (hP : E.P = Tryz.prog) : TabOk E (tabD Tryz.prog) where
  T := by rw [hP]; exact tabT_ok
  pre := fun _ _ _ h => by cases h
  ext := fun f args r h => by
    simp only [tabD] at h
    split at h
    · cases h; exact ext_indexByte (fn := Tryz.f108) (by rw [hP]; rfl) (by rfl) (by rfl) (by rfl) (by rfl) _ _
    · cases h; exact ext_countByte (fn := Tryz.f74) (by rw [hP]; rfl) (by rfl) (by rfl) (by rfl) (by rfl) _ _
    · cases h

def textW : List UInt8 := [119, 111, 114, 107, 102, 108, 111, 119, 32, 119, 10, 98, 32, 119, 97, 105, 116, 32, 115, 32, 97, 102, 116, 101, 114, 32, 97, 10, 97, 32, 97, 99, 116, 105, 118, 105, 116, 121, 32, 113, 10]
def dW : DefD := ⟨[119], [⟨[98], 4, [115], [], 0, 0, [[97]]⟩, ⟨[97], 1, [113], [], 0, 1, []⟩]⟩
theorem parseW_ev (gl : Nat → Option (List IV)) : evFun (tabD Tryz.prog) gl 300 30 9 [.str textW] = some (.tup [dW.iv, .int .i64 0, .int .i64 0]) := by kernel_rfl
theorem intsW_ev (gl : Nat → Option (List IV)) : evFun (tabD Tryz.prog) gl 300 30 19 [.isl (intRows [1, 0]), .isl (intRows [1, 0])] = some (.bool true) := by kernel_rfl
theorem orderW : dW.order = [1, 0] := by decide
theorem depthW : dW.depth = 2 := by unfold DefD.depth; rw [orderW]; decide

end
end Go.X.TryzW
end
section
open Go Go.X Go.Proofs
set_option maxRecDepth 100000
set_option maxHeartbeats 4000000
set_option linter.unusedSimpArgs false
set_option linter.unusedVariables false
namespace Go.X.TryzW
/- "tiller/tillerlaw08.wakes" params { toList := [] } results { toList := [Go.ResultVar.tmp 0] } -/
def x11 : XC :=
 (.seq
  (.ops [
    ⟨(some 0), (.mov (.c (.bool false))), none⟩])
  (.seq
   (.ops [
     ⟨(some 7), (.call (.f 9) [(.c (.str [119, 111, 114, 107, 102, 108, 111, 119, 32, 119, 10, 98, 32, 119, 97, 105, 116, 32, 115, 32, 97, 102, 116, 101, 114, 32, 97, 10, 97, 32, 97, 99, 116, 105, 118, 105, 116, 121, 32, 113, 10]))]), none⟩,
     ⟨(some 6), (.mov (.t 7)), none⟩,
     ⟨(some 8), (.ext (.t 6) 0), none⟩,
     ⟨(some 9), (.ext (.t 6) 1), none⟩,
     ⟨(some 10), (.ext (.t 6) 2), none⟩,
     ⟨(some 1), (.alloc [(.str []), .nsl]), none⟩,
     ⟨none, (.store 2 (.t 1) (.t 8)), none⟩,
     ⟨(some 2), (.mov (.t 9)), none⟩,
     ⟨(some 3), (.mov (.t 10)), none⟩])
   (.seq
    (.ops [
      ⟨(some 12), (.loadN 2 (.t 1)), none⟩,
      ⟨(some 13), (.call (.f 18) [(.t 12)]), none⟩,
      ⟨(some 11), (.mov (.t 13)), none⟩,
      ⟨(some 14), (.ext (.t 11) 0), none⟩,
      ⟨(some 15), (.ext (.t 11) 1), none⟩,
      ⟨(some 4), (.mov (.t 14)), none⟩,
      ⟨(some 5), (.mov (.t 15)), none⟩])
    (.seq
     (.ops [
       ⟨(some 16), (.mov (.t 3)), none⟩,
       ⟨(some 17), (.bin .eql (.t 16) (.c (.int .i64 0))), none⟩,
       ⟨(some 18), (.mov (.t 17)), none⟩,
       ⟨(some 19), (.mov (.t 5)), (some (18, true))⟩,
       ⟨(some 20), (.pick (.t 18) (.t 19) (.c (.bool false))), none⟩,
       ⟨(some 21), (.mov (.t 20)), none⟩,
       ⟨(some 22), (.mov (.t 4)), (some (21, true))⟩,
       ⟨(some 23), (.bslice 1 [(.int .i64 0)] 2 [(0, (.c (.int .i64 1))), (1, (.c (.int .i64 0)))]), (some (21, true))⟩,
       ⟨(some 24), (.call (.f 19) [(.t 22), (.t 23)]), (some (21, true))⟩,
       ⟨(some 25), (.pick (.t 21) (.t 24) (.c (.bool false))), none⟩,
       ⟨(some 26), (.mov (.t 25)), none⟩,
       ⟨(some 27), (.loadN 2 (.t 1)), (some (26, true))⟩,
       ⟨(some 28), (.call (.f 20) [(.t 27)]), (some (26, true))⟩,
       ⟨(some 29), (.bin .eql (.t 28) (.c (.int .i64 2))), (some (26, true))⟩,
       ⟨(some 30), (.pick (.t 26) (.t 29) (.c (.bool false))), none⟩,
       ⟨(some 31), (.mov (.t 30)), none⟩,
       ⟨(some 32), (.fldA 1 (.t 1)), (some (31, true))⟩,
       ⟨(some 33), (.load1 (.t 32)), (some (31, true))⟩,
       ⟨(some 34), (.idxS 7 (.t 33) (.c (.int .i64 1))), (some (31, true))⟩,
       ⟨(some 35), (.fldA 5 (.t 34)), (some (31, true))⟩,
       ⟨(some 36), (.load1 (.t 35)), (some (31, true))⟩,
       ⟨(some 37), (.bin .eql (.t 36) (.c (.int .i64 1))), (some (31, true))⟩,
       ⟨(some 38), (.pick (.t 31) (.t 37) (.c (.bool false))), none⟩,
       ⟨(some 0), (.mov (.t 38)), none⟩])
     .ret))))

/- "tiller/tillerlaw08.DagNames" params { toList := [22] } results { toList := [Go.ResultVar.tmp 2] } -/
section
variable {E : Env}
theorem wakes_pure (hP : E.P = Tryz.prog) : XPure E 8 [] (.bool true) := by
  refine xpure1 (n := Tryz.f8.ntmps) (c := x11) (t := 0) (by rw [hP]; rfl) (by rw [hP]; kernel_rfl) (by decide) (Nat.le_of_ble_eq_true rfl) ?_
  generalize hρ : entry _ = ρ
  clear hρ
  unfold x11
  simp only [go_sem, Nat.reduceEqDiff, reduceIte, Int.reduceEq, Int.reduceLT, Int.reduceLE, Nat.reduceAdd, Nat.reduceLT, Nat.reduceLeDiff, Int.reduceToNat, Int.reduceSub, Int.reduceAdd, Int.reduceNeg]
  have hd2 : (decide (2 = dW.nodes.length)) = true := rfl
  refine xcall_pure (args' := [.str textW]) rfl (evFun_sound (tabD_ok hP) (parseW_ev E.gl)) rfl ?_
  simp only [DefD.iv, go_sem, Nat.reduceEqDiff, reduceIte, Int.reduceEq, Int.reduceLT, Int.reduceLE, Nat.reduceAdd, Nat.reduceLT, Nat.reduceLeDiff, Int.reduceToNat, Int.reduceSub, Int.reduceAdd, Int.reduceNeg]
  refine xcall_pure (args' := [dW.iv]) rfl (order_pure hP dW (by decide) (by decide)) rfl ?_
  simp only [orderW, hd2, go_sem, Nat.reduceEqDiff, reduceIte, Int.reduceEq, Int.reduceLT, Int.reduceLE, Nat.reduceAdd, Nat.reduceLT, Nat.reduceLeDiff, Int.reduceToNat, Int.reduceSub, Int.reduceAdd, Int.reduceNeg]
  refine xcall_lend (args' := [.isl (intRows [1, 0]), .isl (intRows [1, 0])]) rfl (evFun_sound (tabD_ok hP) (intsW_ev E.gl)) rfl rfl ?_
  simp only [orderW, hd2, go_sem, Nat.reduceEqDiff, reduceIte, Int.reduceEq, Int.reduceLT, Int.reduceLE, Nat.reduceAdd, Nat.reduceLT, Nat.reduceLeDiff, Int.reduceToNat, Int.reduceSub, Int.reduceAdd, Int.reduceNeg]
  refine xcall_pure (args' := [dW.iv]) rfl (depth_pure hP dW (by decide) (by decide)) rfl ?_
  simp only [depthW, hd2, go_sem, Nat.reduceEqDiff, reduceIte, Int.reduceEq, Int.reduceLT, Int.reduceLE, Nat.reduceAdd, Nat.reduceLT, Nat.reduceLeDiff, Int.reduceToNat, Int.reduceSub, Int.reduceAdd, Int.reduceNeg]
  have h1 : (nodeRows dW.nodes).getD 1 [] = [.str [97], .int .i64 1, .str [113], .str [], .int .i64 0, .int .i64 1, .isl []] := rfl
  have h2 : (nodeRows dW.nodes).length = 2 := rfl
  simp only [depthW, hd2, h1, h2, rows_nodes, go_sem, Nat.reduceEqDiff, reduceIte, Int.reduceEq, Int.reduceLT, Int.reduceLE, Nat.reduceAdd, Nat.reduceLT, Nat.reduceLeDiff, Int.reduceToNat, Int.reduceSub, Int.reduceAdd, Int.reduceNeg]
  rfl

end
end Go.X.TryzW
end
section
open Go Go.X Go.Proofs
set_option maxRecDepth 100000
set_option maxHeartbeats 4000000
set_option linter.unusedSimpArgs false
set_option linter.unusedVariables false
namespace Go.X.TryzW
/- "tiller/tillerlaw08.cut" params { toList := [28] } results { toList := [Go.ResultVar.cell 2 28] } -/
def x12 : XC :=
 (.seq
  (.ops [
    ⟨(some 1), (.box (.t 0)), none⟩,
    ⟨(some 2), (.alloc [(.str []), .nsl]), none⟩])
  (.seq
   (.seq
    (.ops [
      ⟨(some 6), (.fldA 1 (.t 1)), none⟩,
      ⟨(some 7), (.load1 (.t 6)), none⟩,
      ⟨(some 8), (.len (.t 7)), none⟩,
      ⟨(some 9), (.bin .gtr (.t 8) (.c (.int .i64 40))), none⟩])
    (.cond (.t 9)
     (.ops [
       ⟨(some 10), (.fldA 1 (.t 1)), none⟩,
       ⟨(some 11), (.load1 (.t 10)), none⟩,
       ⟨(some 12), (.slice 7 (.t 11) none (some (.c (.int .i64 40)))), none⟩,
       ⟨(some 13), (.fldA 1 (.t 1)), none⟩,
       ⟨none, (.store 1 (.t 13) (.t 12)), none⟩])
     .skip))
   (.seq
    (.ops [
      ⟨(some 3), (.mov (.c .nsl)), none⟩])
    (.seq
     (.seq
      (.ops [
        ⟨(some 4), (.mov (.c (.int .i64 0))), none⟩])
      (.block 0
       (.loop
        (.seq
         (.seq
          (.ops [
            ⟨(some 14), (.mov (.t 4)), none⟩,
            ⟨(some 15), (.fldA 1 (.t 1)), none⟩,
            ⟨(some 16), (.load1 (.t 15)), none⟩,
            ⟨(some 17), (.len (.t 16)), none⟩,
            ⟨(some 18), (.bin .lss (.t 14) (.t 17)), none⟩])
          (.cond (.t 18)
           .skip
           (.exit 0)))
         (.seq
          (.block 1
           (.seq
            (.ops [
              ⟨(some 21), (.fldA 1 (.t 1)), none⟩,
              ⟨(some 22), (.load1 (.t 21)), none⟩,
              ⟨(some 23), (.mov (.t 4)), none⟩,
              ⟨(some 24), (.idxS 7 (.t 22) (.t 23)), none⟩,
              ⟨(some 25), (.loadN 7 (.t 24)), none⟩,
              ⟨(some 5), (.alloc [(.str []), (.int .i64 0), (.str []), (.str []), (.int .i64 0), (.int .i64 0), .nsl]), none⟩,
              ⟨none, (.store 7 (.t 5) (.t 25)), none⟩])
            (.seq
             (.seq
              (.ops [
                ⟨(some 26), (.fldA 6 (.t 5)), none⟩,
                ⟨(some 27), (.load1 (.t 26)), none⟩,
                ⟨(some 28), (.len (.t 27)), none⟩,
                ⟨(some 29), (.bin .gtr (.t 28) (.c (.int .i64 10))), none⟩])
              (.cond (.t 29)
               (.ops [
                 ⟨(some 30), (.fldA 6 (.t 5)), none⟩,
                 ⟨(some 31), (.load1 (.t 30)), none⟩,
                 ⟨(some 32), (.slice 1 (.t 31) none (some (.c (.int .i64 10)))), none⟩,
                 ⟨(some 33), (.fldA 6 (.t 5)), none⟩,
                 ⟨none, (.store 1 (.t 33) (.t 32)), none⟩])
               .skip))
             (.ops [
               ⟨(some 34), (.mov (.t 3)), none⟩,
               ⟨(some 35), (.loadN 7 (.t 5)), none⟩,
               ⟨(some 36), (.bslice 7 [(.str []), (.int .i64 0), (.str []), (.str []), (.int .i64 0), (.int .i64 0), .nsl] 1 [(0, (.t 35))]), none⟩,
               ⟨(some 37), (.append 7 96 (.t 34) (.t 36)), none⟩,
               ⟨(some 3), (.mov (.t 37)), none⟩]))))
          (.ops [
            ⟨(some 19), (.mov (.t 4)), none⟩,
            ⟨(some 20), (.bin .add (.t 19) (.c (.int .i64 1))), none⟩,
            ⟨(some 4), (.mov (.t 20)), none⟩]))))))
     (.seq
      (.ops [
        ⟨(some 38), (.mov (.t 3)), none⟩,
        ⟨(some 39), (.fldA 1 (.t 1)), none⟩,
        ⟨none, (.store 1 (.t 39) (.t 38)), none⟩])
      (.seq
       (.ops [
         ⟨(some 40), (.loadN 2 (.t 1)), none⟩,
         ⟨none, (.store 2 (.t 2) (.t 40)), none⟩])
       .ret))))))

section
variable {E : Env}
theorem xcut_norm {c : XC} {ρ : Rho} {L : List Blk} {K : XE → Rho → List Blk → Prop} (M : Rho → List Blk → Prop) (h1 : xrun E c ρ L (Norm M)) (h2 : ∀ ρ L, M ρ L → K .normal ρ L) : xrun E c ρ L K := by
  refine xrun_mono c (fun e ρ L h => ?_) h1
  cases e with
  | normal => exact h2 ρ L h
  | exit => exact h.elim
  | goto => exact h.elim
  | ret => exact h.elim
@[go_sem ↓] theorem norm_normal {M : Rho → List Blk → Prop} {ρ : Rho} {L : List Blk} : Norm M .normal ρ L = M ρ L := nr rfl
/-- One answer that lies in cells. -/
theorem xpureC {f : FuncId} {fn : Func} {t k n : Nat} {c : XC} {args : List IV} {r : IV} (hf : E.P.funcs[f]? = some fn) (hF : compFn E.P fn = some ⟨n, [.cellN t k], c⟩) (hnm : fn.name ≠ "runtime.NumGoroutine")
    (hargs : args.length ≤ fn.ntmps) (h : xrun E.noPan c (entry args) [] (doneK fun ρ L' => xop E ((XO.loadN k (.t t)).sub (Opd.ev ρ)) cev L' fun v _ => conv L' fuel renFreeze v = some r)) : XPure E f args r := by
  refine xpure_of_fun hf hF hnm hargs (xrun_mono _ (fun e ρ L h => ?_) h)
  have key : ∀ {ρ : Rho} {L : List Blk}, xop E ((XO.loadN k (.t t)).sub (Opd.ev ρ)) cev L (fun v _ => conv L fuel renFreeze v = some r) → xresults E [.cellN t k] ρ L fun r' => conv L fuel renFreeze r' = some r := fun h => by
    rw [← xop_sub] at h
    exact h
  cases e with
  | normal => exact ⟨Or.inr rfl, key h⟩
  | ret => exact ⟨Or.inl rfl, key h⟩
  | exit => exact h.elim
  | goto => exact h.elim

def NodeD.cut (n : NodeD) : NodeD := { n with after := n.after.take 10 }
def DefD.cut (d : DefD) : DefD := ⟨d.name, (d.nodes.take 40).map NodeD.cut⟩
theorem strRows_take (l : List (List UInt8)) (k : Nat) : (strRows l).take k = strRows (l.take k) := by simp [strRows, List.map_take]
theorem nodeRows_take (l : List NodeD) (k : Nat) : (nodeRows l).take k = nodeRows (l.take k) := by simp [nodeRows, List.map_take]

theorem get2' {a b x : Blk} {J : List Blk} : (a :: b :: (J ++ [x]))[J.length + 1 + 1]? = some x := by simp
theorem set2' {a b x y : Blk} {J : List Blk} : (a :: b :: (J ++ [x])).set (J.length + 1 + 1) y = a :: b :: (J ++ [y]) := by simp
theorem out_cell {sz : Nat} {p L : List Blk} {rows : List (List IV)} {v : IV} (h : OutOk sz p rows v L) : cellsOf v = [v] ∧ isCell v = true := by
  obtain ⟨J, _, ⟨_, rfl⟩ | ⟨s, _, rfl, _⟩⟩ := h <;> exact ⟨rfl, rfl⟩
theorem out_grow {sz : Nat} {p L : List Blk} {rows : List (List IV)} {v : IV} {b : Blk} (h : OutOk sz p rows v L) : OutOk sz p rows v (L ++ [b]) := by
  obtain ⟨J, rfl, h⟩ := h
  refine ⟨J ++ [b], by simp, ?_⟩
  rcases h with h | ⟨s, hs, h1, h2⟩
  · exact .inl h
  · exact .inr ⟨s, hs, h1, get_app h2⟩
theorem cut_pure (hP : E.P = Tryz.prog) (d : DefD) (hd : d.nodes.length ≤ 9223372036854775807) (ha : ∀ n ∈ d.nodes, n.after.length ≤ 9223372036854775807) : XPure E 5 [d.iv] d.cut.iv := by
  refine xpureC (n := Tryz.f5.ntmps) (c := x12) (t := 2) (k := 2) (by rw [hP]; rfl) (by rw [hP]; kernel_rfl) (by decide) (Nat.le_of_ble_eq_true rfl) ?_
  generalize hρ : entry _ = ρ
  have h0 : ρ 0 = .agg [.str d.name, .isl (nodeRows d.nodes)] := by rw [← hρ]; rfl
  clear hρ
  unfold x12
  simp only [h0, nodeRows_len, go_sem, Nat.reduceEqDiff, reduceIte, Int.reduceEq, Int.reduceLT, Int.reduceLE, Nat.reduceAdd, Nat.reduceLT, Nat.reduceLeDiff, Int.reduceToNat, Int.reduceSub, Int.reduceAdd, Int.reduceNeg]
  refine xcut_norm (fun ρ' L' => ρ' 1 = .ptr 0 0 0 ∧ ρ' 2 = .ptr 1 0 0 ∧ L' = [.cells 2 [[.str d.name, .isl (nodeRows (d.nodes.take 40))]], .cells 2 [[.str [], .nsl]]]) ?_ ?_
  · refine s_cond (b := decide _) (by simp only [h0, go_sem, Nat.reduceEqDiff, reduceIte, Int.reduceEq, Int.reduceLT, Int.reduceLE, Nat.reduceAdd, Nat.reduceLT, Nat.reduceLeDiff, Int.reduceToNat, Int.reduceSub, Int.reduceAdd, Int.reduceNeg]; try rfl) ?_ ?_ <;> intro hb <;> simp only [hb, h0, go_sem, Nat.reduceEqDiff, reduceIte, Int.reduceEq, Int.reduceLT, Int.reduceLE, Nat.reduceAdd, Nat.reduceLT, Nat.reduceLeDiff, Int.reduceToNat, Int.reduceSub, Int.reduceAdd, Int.reduceNeg]
    · rw [decide_eq_true_eq] at hb
      simp only [h0, nodeRows_len, rows_nodes, nodeRows_take, go_sem, Nat.reduceEqDiff, reduceIte, Int.reduceEq, Int.reduceLT, Int.reduceLE, Nat.reduceAdd, Nat.reduceLT, Nat.reduceLeDiff, Int.reduceToNat, Int.reduceSub, Int.reduceAdd, Int.reduceNeg]
      omega
    · rw [decide_eq_false_iff_not] at hb
      have : d.nodes.take 40 = d.nodes := List.take_of_length_le (by omega)
      simp only [h0, this, go_sem, Nat.reduceEqDiff, reduceIte, Int.reduceEq, Int.reduceLT, Int.reduceLE, Nat.reduceAdd, Nat.reduceLT, Nat.reduceLeDiff, Int.reduceToNat, Int.reduceSub, Int.reduceAdd, Int.reduceNeg]
  clear h0 ρ
  rintro ρ L ⟨h1, h2, rfl⟩
  have ha' : ∀ n ∈ d.nodes.take 40, n.after.length ≤ 9223372036854775807 := fun n hn => ha n (List.mem_of_mem_take hn)
  have hn40 : (d.nodes.take 40).length ≤ 40 := List.length_take_le ..
  have hcut : d.cut = ⟨d.name, (d.nodes.take 40).map NodeD.cut⟩ := rfl
  rw [hcut]
  generalize d.nodes.take 40 = ns at *
  simp only [h1, h2, go_sem, Nat.reduceEqDiff, reduceIte, Int.reduceEq, Int.reduceLT, Int.reduceLE, Nat.reduceAdd, Nat.reduceLT, Nat.reduceLeDiff, Int.reduceToNat, Int.reduceSub, Int.reduceAdd, Int.reduceNeg]
  refine s_loop (fun n' ρ L => ∃ i : Nat, i ≤ ns.length ∧ n' = ns.length - i ∧ OutOk 7 [.cells 2 [[.str d.name, .isl (nodeRows ns)]], .cells 2 [[.str [], .nsl]]] (nodeRows ((ns.take i).map NodeD.cut)) (ρ 3) L ∧
      ρ 1 = .ptr 0 0 0 ∧ ρ 2 = .ptr 1 0 0 ∧ ρ 4 = .int .i64 i)
    ⟨0, Nat.zero_le _, rfl, ?_, by simp only [h1, go_sem, Nat.reduceEqDiff, reduceIte, Int.reduceEq, Int.reduceLT, Int.reduceLE, Nat.reduceAdd, Nat.reduceLT, Nat.reduceLeDiff, Int.reduceToNat, Int.reduceSub, Int.reduceAdd, Int.reduceNeg], by simp only [h2, go_sem, Nat.reduceEqDiff, reduceIte, Int.reduceEq, Int.reduceLT, Int.reduceLE, Nat.reduceAdd, Nat.reduceLT, Nat.reduceLeDiff, Int.reduceToNat, Int.reduceSub, Int.reduceAdd, Int.reduceNeg], by simp only [go_sem, Nat.reduceEqDiff, reduceIte, Int.reduceEq, Int.reduceLT, Int.reduceLE, Nat.reduceAdd, Nat.reduceLT, Nat.reduceLeDiff, Int.reduceToNat, Int.reduceSub, Int.reduceAdd, Int.reduceNeg]; try rfl⟩ ?_
  · try simp only [go_sem, Nat.reduceEqDiff, reduceIte, Int.reduceEq, Int.reduceLT, Int.reduceLE, Nat.reduceAdd, Nat.reduceLT, Nat.reduceLeDiff, Int.reduceToNat, Int.reduceSub, Int.reduceAdd, Int.reduceNeg]
    exact out_nil (p := [.cells 2 [[.str d.name, .isl (nodeRows ns)]], .cells 2 [[.str [], .nsl]]]) (J := [])
  clear h1 h2 ρ
  rintro n' ρ L ⟨i, hi, rfl, hO, h1, h2, h4⟩
  generalize h3 : ρ 3 = v at hO
  have hOut := hO
  obtain ⟨J, rfl, hJ⟩ := hO
  simp only [h1, h2, h3, h4, nodeRows_len, go_sem, Nat.reduceEqDiff, reduceIte, Int.reduceEq, Int.reduceLT, Int.reduceLE, Nat.reduceAdd, Nat.reduceLT, Nat.reduceLeDiff, Int.reduceToNat, Int.reduceSub, Int.reduceAdd, Int.reduceNeg]
  refine s_cond (b := decide _) (by simp only [h1, h2, h3, h4, go_sem, Nat.reduceEqDiff, reduceIte, Int.reduceEq, Int.reduceLT, Int.reduceLE, Nat.reduceAdd, Nat.reduceLT, Nat.reduceLeDiff, Int.reduceToNat, Int.reduceSub, Int.reduceAdd, Int.reduceNeg]; try rfl) ?_ ?_ <;> intro hb <;> simp only [hb, h1, h2, h3, h4, go_sem, Nat.reduceEqDiff, reduceIte, Int.reduceEq, Int.reduceLT, Int.reduceLE, Nat.reduceAdd, Nat.reduceLT, Nat.reduceLeDiff, Int.reduceToNat, Int.reduceSub, Int.reduceAdd, Int.reduceNeg]
  · rw [decide_eq_true_eq] at hb
    have hi' : i < ns.length := by omega
    have hrow := nodeRows_get hi'
    have hmem : ns.getD i default ∈ ns := by rw [List.getD_eq_getElem?_getD, List.getElem?_eq_getElem hi']; exact List.getElem_mem _
    have haf := ha' _ hmem
    have htk : (ns.take (i + 1)).map NodeD.cut = (ns.take i).map NodeD.cut ++ [(ns.getD i default).cut] := by
      rw [List.take_add_one, getD_get (d := default) hi']; simp
    generalize ns.getD i default = nd at *
    simp only [h1, h2, h3, h4, nodeRows_len, rows_nodes, hrow, NodeD.row, get2', set2', strRows_len, go_sem, Nat.reduceEqDiff, reduceIte, Int.reduceEq, Int.reduceLT, Int.reduceLE, Nat.reduceAdd, Nat.reduceLT, Nat.reduceLeDiff, Int.reduceToNat, Int.reduceSub, Int.reduceAdd, Int.reduceNeg]
    refine ⟨by omega, hi', ?_⟩
    refine xcut_norm (fun ρ' L' => ρ' 1 = .ptr 0 0 0 ∧ ρ' 2 = .ptr 1 0 0 ∧ ρ' 3 = v ∧ ρ' 4 = .int .i64 i ∧ ρ' 5 = .ptr (J.length + 1 + 1) 0 0 ∧
      L' = .cells 2 [[.str d.name, .isl (nodeRows ns)]] :: .cells 2 [[.str [], .nsl]] :: (J ++ [.cells 7 [nd.cut.row]])) ?_ ?_
    · refine s_cond (b := decide _) (by simp only [h1, h2, h3, h4, go_sem, Nat.reduceEqDiff, reduceIte, Int.reduceEq, Int.reduceLT, Int.reduceLE, Nat.reduceAdd, Nat.reduceLT, Nat.reduceLeDiff, Int.reduceToNat, Int.reduceSub, Int.reduceAdd, Int.reduceNeg]; try rfl) ?_ ?_ <;> intro hc <;> simp only [hc, h1, h2, h3, h4, go_sem, Nat.reduceEqDiff, reduceIte, Int.reduceEq, Int.reduceLT, Int.reduceLE, Nat.reduceAdd, Nat.reduceLT, Nat.reduceLeDiff, Int.reduceToNat, Int.reduceSub, Int.reduceAdd, Int.reduceNeg]
      · rw [decide_eq_true_eq] at hc
        simp only [h1, h2, h3, h4, get2', set2', rows_strs, strRows_len, strRows_take, go_sem, Nat.reduceEqDiff, reduceIte, Int.reduceEq, Int.reduceLT, Int.reduceLE, Nat.reduceAdd, Nat.reduceLT, Nat.reduceLeDiff, Int.reduceToNat, Int.reduceSub, Int.reduceAdd, Int.reduceNeg]
        refine ⟨by omega, ?_⟩
        rfl
      · rw [decide_eq_false_iff_not] at hc
        have hcut : nd.cut = nd := by
          obtain ⟨_, _, _, _, _, _, af⟩ := nd
          simp only [NodeD.cut]
          rw [List.take_of_length_le (by simp only at hc; omega)]
        simp only [h1, h2, h3, h4, hcut, NodeD.row, go_sem, Nat.reduceEqDiff, reduceIte, Int.reduceEq, Int.reduceLT, Int.reduceLE, Nat.reduceAdd, Nat.reduceLT, Nat.reduceLeDiff, Int.reduceToNat, Int.reduceSub, Int.reduceAdd, Int.reduceNeg]
    · clear h1 h2 h3 h4 ρ
      rintro ρ L ⟨h1, h2, h3, h4, h5, rfl⟩
      simp only [h1, h2, h3, h4, h5, get2', set2', NodeD.row, go_sem, Nat.reduceEqDiff, reduceIte, Int.reduceEq, Int.reduceLT, Int.reduceLE, Nat.reduceAdd, Nat.reduceLT, Nat.reduceLeDiff, Int.reduceToNat, Int.reduceSub, Int.reduceAdd, Int.reduceNeg]
      have hgo : OutOk 7 [.cells 2 [[.str d.name, .isl (nodeRows ns)]], .cells 2 [[.str [], .nsl]]] (nodeRows ((ns.take i).map NodeD.cut)) v (.cells 2 [[.str d.name, .isl (nodeRows ns)]] :: .cells 2 [[.str [], .nsl]] :: (J ++ [.cells 7 [nd.cut.row]])) := out_grow hOut
      refine out_append (row := nd.cut.row) hgo rfl rfl ⟨rfl, rfl⟩ (by rw [nodeRows_len, List.length_map, List.length_take]; omega) ?_
      intro v' L' hO'
      try simp only [h1, h2, h3, h4, h5, go_sem, Nat.reduceEqDiff, reduceIte, Int.reduceEq, Int.reduceLT, Int.reduceLE, Nat.reduceAdd, Nat.reduceLT, Nat.reduceLeDiff, Int.reduceToNat, Int.reduceSub, Int.reduceAdd, Int.reduceNeg]
      refine ⟨ns.length - (i + 1), by omega, i + 1, by omega, rfl, ?_, by rw [wrap64 (by omega) (by omega)]; rfl⟩
      have hr : nodeRows ((ns.take (i + 1)).map NodeD.cut) = nodeRows ((ns.take i).map NodeD.cut) ++ [nd.cut.row] := by rw [htk]; simp [nodeRows]
      rw [hr]; exact hO'
  · rw [decide_eq_false_iff_not] at hb
    have hii : i = ns.length := by omega
    obtain ⟨hc1, hc2⟩ := out_cell hOut
    simp only [h1, h2, h3, h4, hc1, hc2, go_sem, Nat.reduceEqDiff, reduceIte, Int.reduceEq, Int.reduceLT, Int.reduceLE, Nat.reduceAdd, Nat.reduceLT, Nat.reduceLeDiff, Int.reduceToNat, Int.reduceSub, Int.reduceAdd, Int.reduceNeg]
    have hO2 : OutOk 7 [.cells 2 [[.str d.name, v]], .cells 2 [[.str d.name, v]]] (nodeRows (ns.map NodeD.cut)) v (.cells 2 [[.str d.name, v]] :: .cells 2 [[.str d.name, v]] :: J) := by
      refine ⟨J, rfl, ?_⟩
      rw [hii, List.take_length] at hJ
      rcases hJ with h | ⟨s, hs, h1, h2⟩
      · exact .inl h
      · refine .inr ⟨s, hs, h1, ?_⟩
        have hs' : 2 ≤ s := hs
        obtain ⟨s', rfl⟩ : ∃ s', s = s' + 2 := ⟨s - 2, by omega⟩
        exact h2
    exact conv_agg (mapO_cons rfl (mapO_cons (out_conv hO2 (mapO_nodes _ _ _ _)) rfl))
end
end Go.X.TryzW
end
section
/- Plain laws of a definition's graph: its order, its depth, what is ready. -/
open Go Go.X Go.Proofs
set_option linter.unusedSimpArgs false
set_option linter.unusedVariables false
namespace Go.X.TryzW

def DefD.after (d : DefD) (i : Nat) : List (List UInt8) := (d.nodes.getD i default).after

/-- Each stands behind those ahead of it. -/
def Good (d : DefD) (out : List Nat) : Prop :=
  ∀ l1 i l2, out = l1 ++ i :: l2 → i ∉ l1 ∧ i < d.nodes.length ∧ ∀ s ∈ d.after i, ∃ k, d.find s = some k ∧ k ∈ l1

theorem firstI_spec {α : Type} {p : α → Bool} {df : α} : ∀ {l : List α} {i : Nat}, firstI p l = some i → p (l.getD i df) = true ∧ ∀ j, j < i → p (l.getD j df) = false
  | x :: r, i, h => by
    simp only [firstI] at h
    split at h
    · rename_i hx
      simp only [Option.some.injEq] at h; subst h
      exact ⟨by simpa using hx, fun j hj => absurd hj (Nat.not_lt_zero _)⟩
    · rename_i hx
      rw [Option.map_eq_some_iff] at h
      obtain ⟨j, hj, rfl⟩ := h
      obtain ⟨h1, h2⟩ := firstI_spec (df := df) hj
      refine ⟨by simpa using h1, fun k hk => ?_⟩
      cases k with
      | zero => simpa using hx
      | succ k => simpa using h2 k (by omega)
theorem firstI_no {α : Type} {p : α → Bool} : ∀ {l : List α}, firstI p l = none → ∀ x ∈ l, p x = false
  | x :: r, h, y, hy => by
    simp only [firstI] at h
    split at h
    · cases h
    · rename_i hx
      rw [Option.map_eq_none_iff] at h
      rcases List.mem_cons.1 hy with rfl | hy
      · simpa using hx
      · exact firstI_no h y hy

theorem getD_range {n i : Nat} (h : i < n) : (List.range n).getD i 0 = i := by simp [List.getD_eq_getElem?_getD, h]

/-- What is told so far, and the list of it. -/
def Told (d : DefD) (told : List Bool) (out : List Nat) : Prop := told.length = d.nodes.length ∧ (∀ k, told.getD k false = true ↔ k ∈ out) ∧ Good d out

/-- What 'deep' says of those told in l. -/
structure Lev (d : DefD) (l : List Nat) (deep : List Nat) (longest : Nat) : Prop where
  len : deep.length = d.nodes.length
  one : ∀ i ∈ l, 1 ≤ deep.getD i 0
  pre : ∀ i ∈ l, ∀ s ∈ d.after i, deep.getD (findK d s) 0 + 1 ≤ deep.getD i 0
  why : ∀ i ∈ l, deep.getD i 0 = 1 ∨ ∃ s ∈ d.after i, deep.getD (findK d s) 0 + 1 = deep.getD i 0
  top : ∀ i ∈ l, deep.getD i 0 ≤ longest
  is : longest = 0 ∨ ∃ i ∈ l, deep.getD i 0 = longest

theorem getD_set_ne {l : List Nat} {i j v : Nat} (h : j ≠ i) : (l.set i v).getD j 0 = l.getD j 0 := by
  simp only [List.getD_eq_getElem?_getD, List.getElem?_set, if_neg (Ne.symm h)]

def DefD.deeps (d : DefD) : List Nat := (d.order.foldl (stepD d) (List.replicate d.nodes.length 0, 0)).1
/-- What is over behind r rounds. -/
def DefD.dp (d : DefD) (i : Nat) : Nat := d.deeps.getD i 0
section
variable {d : DefD} (ho : d.order.length = d.nodes.length)
include ho
end
theorem check_ok {d : DefD} (h : d.check.2 = 0) : d.order.length = d.nodes.length ∧ 0 < d.nodes.length ∧ d.nodes.length ≤ 32 ∧ d.check.1 = -1 ∧ namedS d.name false 64 = true ∧ (∀ i, i < d.nodes.length → d.nodeE i = 0 ∧ d.depE i = 0) := by
  unfold DefD.check at h ⊢
  split at h
  · cases h
  · rename_i h0
    split at h
    · cases h
    · rename_i h1
      split at h
      · rename_i i hf
        have := (firstI_spec (df := 0) hf).1
        rw [getD_range (by simpa using firstI_lt hf)] at this
        simp at this h; exact absurd h this
      · rename_i hf
        split at h
        · rename_i i hf'
          have := (firstI_spec (df := 0) hf').1
          rw [getD_range (by simpa using firstI_lt hf')] at this
          simp at this h; exact absurd h this
        · rename_i hf'
          split at h
          · rename_i h2
            rw [if_neg h0, if_neg h1]; simp only [if_pos h2]
            simp only [Bool.or_eq_true, decide_eq_true_eq, not_or] at h1
            refine ⟨h2, by omega, by omega, trivial, by simpa using h0, fun i hi => ⟨?_, ?_⟩⟩
            · simpa using firstI_no hf i (List.mem_range.2 hi)
            · simpa using firstI_no hf' i (List.mem_range.2 hi)
          · cases h
end Go.X.TryzW
end
section
open Go Go.X Go.Proofs
set_option maxRecDepth 100000
set_option maxHeartbeats 4000000
set_option linter.unusedSimpArgs false
set_option linter.unusedVariables false
namespace Go.X.TryzW
/- "tiller/tillerlaw08.DagRuns" params { toList := [28] } results { toList := [Go.ResultVar.tmp 2] } -/
section
variable {E : Env}
theorem cut_ok {d : DefD} (h : d.ok) : d.cut.ok := by
  refine ⟨h.1, fun n hn => ?_⟩
  obtain ⟨n', hn', rfl⟩ := List.mem_map.1 hn
  have := h.2 n' (List.mem_of_mem_take hn')
  obtain ⟨h1, h2, h3, h4, h5⟩ := this
  refine ⟨h1, h2, h3, ?_, fun s hs => h5 s (List.mem_of_mem_take hs)⟩
  exact Nat.le_trans (List.length_take_le' ..) h4
theorem cut_len (d : DefD) : d.cut.nodes.length ≤ 40 := by simp [DefD.cut]; omega
theorem cut_after {d : DefD} {n : NodeD} (h : n ∈ d.cut.nodes) : n.after.length ≤ 10 := by
  obtain ⟨n', _, rfl⟩ := List.mem_map.1 h
  exact List.length_take_le ..

end
end Go.X.TryzW
end
section
open Go Go.X Go.Proofs
set_option maxRecDepth 100000
set_option maxHeartbeats 4000000
set_option linter.unusedSimpArgs false
set_option linter.unusedVariables false
namespace Go.X.TryzW
/- "tiller/tillerref08.at" params { toList := [71, 3] } results { toList := [Go.ResultVar.tmp 4] } -/
/- "tiller/tillerref08.may" params { toList := [24, 3, 71] } results { toList := [Go.ResultVar.tmp 6] } -/
section
variable {E : Env}
end
end Go.X.TryzW
end
section
open Go Go.X Go.Proofs
set_option maxRecDepth 100000
set_option maxHeartbeats 4000000
set_option linter.unusedSimpArgs false
set_option linter.unusedVariables false
namespace Go.X.TryzW
/- "tiller/tillerref08.Order" params { toList := [24] } results { toList := [Go.ResultVar.tmp 2, Go.ResultVar.tmp 3] } -/
section
variable {E : Env}
end
end Go.X.TryzW
end
section
open Go Go.X Go.Proofs
set_option maxRecDepth 100000
set_option maxHeartbeats 4000000
set_option linter.unusedSimpArgs false
set_option linter.unusedVariables false
namespace Go.X.TryzW
/- "tiller/tillerref08.checkNode" params { toList := [24, 3] } results { toList := [Go.ResultVar.tmp 4] } -/
section
variable {E : Env}
def badA1 (n : NodeD) : Bool := decide (n.kind < 1) || decide (5 < n.kind)
def badA2 (n : NodeD) : Bool := decide (n.delay < 0) || decide (1000000 < n.delay)
def badA3 (n : NodeD) : Bool := (decide (0 < n.delay) && !decide (n.kind = 1)) && !decide (n.kind = 2)
def badB1 (n : NodeD) : Bool := decide (n.kind = 1) && (decide (n.tries < 1) || decide (10 < n.tries))
def badB2 (n : NodeD) : Bool := !decide (n.kind = 1) && !decide (n.tries = 0)
def badC1 (n : NodeD) : Bool := decide (n.kind = 2) && !decide (n.arg = [])
def badC2 (n : NodeD) : Bool := !decide (n.kind = 5) && !decide (n.to = [])
def badB (n : NodeD) : Bool := badA1 n || badA2 n || badA3 n || badB1 n || badB2 n || badC1 n || badC2 n
theorem fits_bad (n : NodeD) : fitsB n = !badB n := by
  unfold fitsB badB badA1 badA2 badA3 badB1 badB2 badC1 badC2
  rw [Bool.eq_iff_iff]
  by_cases ha : n.arg = [] <;> by_cases ht : n.to = [] <;> by_cases h1 : n.kind = 1 <;> by_cases h2 : n.kind = 2 <;> by_cases h5 : n.kind = 5 <;> simp [ha, ht, h1, h2, h5] <;> omega

end
end Go.X.TryzW
end
section
open Go Go.X Go.Proofs
set_option maxRecDepth 100000
set_option maxHeartbeats 4000000
set_option linter.unusedSimpArgs false
set_option linter.unusedVariables false
namespace Go.X.TryzW
/- "tiller/tillerref08.Check" params { toList := [24] } results { toList := [Go.ResultVar.tmp 2, Go.ResultVar.tmp 3] } -/
section
variable {E : Env}
end
end Go.X.TryzW
end
section
/- Plain laws: a graph whose nodes stand in a ring; names of a definition that is taken. -/
open Go Go.X Go.Proofs
set_option linter.unusedSimpArgs false
set_option linter.unusedVariables false
namespace Go.X.TryzW

/-- b stands (not at once) behind j. -/
inductive Behind (d : DefD) (b : Nat) : Nat → Prop
  | self : Behind d b b
  | step {i j : Nat} {s : List UInt8} : Behind d b i → s ∈ d.after i → d.find s = some j → Behind d b j

theorem firstI_none_iff {α : Type} {p : α → Bool} {l : List α} : firstI p l = none ↔ ∀ x ∈ l, p x = false :=
  ⟨firstI_no, fun h => firstI_none (by simpa using h)⟩
theorem depE_0 {d : DefD} {i : Nat} : d.depE i = 0 ↔ (∀ s ∈ d.after i, (d.find s).isSome = true) ∧ ∀ k, k < (d.after i).length → (d.after i).getD k [] ∉ (d.after i).take k := by
  unfold DefD.depE DefD.after
  constructor
  · intro h
    split at h
    · cases h
    · rename_i h1
      split at h
      · cases h
      · rename_i h2
        simp only [Bool.not_eq_true, Option.isSome_eq_false_iff, Option.isNone_iff_eq_none] at h1 h2
        refine ⟨fun s hs => by simpa using firstI_no h1 s hs, fun k hk hm => ?_⟩
        have h3 := firstI_no h2 k (List.mem_range.2 hk)
        unfold twiceB at h3
        simp only [Option.isSome_eq_false_iff, Option.isNone_iff_eq_none] at h3
        have := firstI_no h3 _ hm
        simp at this
  · rintro ⟨h1, h2⟩
    have e1 : firstI (fun s => !(d.find s).isSome) (d.nodes.getD i default).after = none := firstI_none_iff.2 fun s hs => by simpa using h1 s hs
    have e2 : firstI (twiceB (d.nodes.getD i default).after) (List.range (d.nodes.getD i default).after.length) = none := firstI_none_iff.2 fun k hk => by
      unfold twiceB
      have : firstI (fun x => decide ((d.nodes.getD i default).after.getD k [] = x)) ((d.nodes.getD i default).after.take k) = none := firstI_none_iff.2 fun x hx => by
        simp only [decide_eq_false_iff_not]
        rintro rfl
        exact h2 k (List.mem_range.1 hk) hx
      rw [this]; rfl
    rw [e1, e2]; rfl
end Go.X.TryzW
end
section
open Go Go.X Go.Proofs
set_option maxRecDepth 100000
set_option maxHeartbeats 4000000
set_option linter.unusedSimpArgs false
set_option linter.unusedVariables false
namespace Go.X.TryzW
/- "(*strings.Builder).copyCheck" params { toList := [40] } results { toList := [] } -/
def y32 : XC :=
 (.seq
  (.ops [
    ⟨(some 2), (.mov (.t 0)), none⟩,
    ⟨(some 3), (.nilck (.t 2)), none⟩,
    ⟨(some 4), (.fldA 0 (.t 3)), none⟩,
    ⟨(some 5), (.load1 (.t 4)), none⟩,
    ⟨(some 6), (.ex (.eqP false) [(.t 5), (.c (.raw (.pointer none)))]), none⟩])
  (.cond (.t 6)
   (.ops [
     ⟨(some 7), (.mov (.t 0)), none⟩,
     ⟨(some 8), (.mov (.t 0)), none⟩,
     ⟨(some 9), (.ex (.toU 43 1) [(.t 8)]), none⟩,
     ⟨(some 10), (.call (.f 55) [(.t 9)]), none⟩,
     ⟨(some 11), (.ex (.ofU 43 2) [(.t 10)]), none⟩,
     ⟨(some 12), (.nilck (.t 7)), none⟩,
     ⟨(some 13), (.fldA 0 (.t 12)), none⟩,
     ⟨none, (.store 1 (.t 13) (.t 11)), none⟩])
   (.seq
    (.ops [
      ⟨(some 14), (.mov (.t 0)), none⟩,
      ⟨(some 15), (.nilck (.t 14)), none⟩,
      ⟨(some 16), (.fldA 0 (.t 15)), none⟩,
      ⟨(some 17), (.load1 (.t 16)), none⟩,
      ⟨(some 18), (.mov (.t 0)), none⟩,
      ⟨(some 19), (.ex (.eqP true) [(.t 17), (.t 18)]), none⟩])
    (.cond (.t 19)
     .bad
     .skip))))

/- "(*strings.Builder).WriteString" params { toList := [40, 9] } results { toList := [Go.ResultVar.tmp 4, Go.ResultVar.tmp 5] } -/
def y13 : XC :=
 (.seq
  (.ops [
    ⟨(some 4), (.mov (.c (.int .i64 0))), none⟩,
    ⟨(some 5), (.mov (.c (.raw .nilIface))), none⟩])
  (.seq
   (.ops [
     ⟨(some 6), (.mov (.t 0)), none⟩,
     ⟨(some 7), (.call (.f 32) [(.t 6)]), none⟩])
   (.seq
    (.ops [
      ⟨(some 8), (.mov (.t 0)), none⟩,
      ⟨(some 9), (.mov (.t 0)), none⟩,
      ⟨(some 10), (.nilck (.t 9)), none⟩,
      ⟨(some 11), (.fldA 1 (.t 10)), none⟩,
      ⟨(some 12), (.load1 (.t 11)), none⟩,
      ⟨(some 13), (.mov (.t 1)), none⟩,
      ⟨(some 14), (.ex (.appT 5 1) [(.t 12), (.t 13)]), none⟩,
      ⟨(some 15), (.nilck (.t 8)), none⟩,
      ⟨(some 16), (.fldA 1 (.t 15)), none⟩,
      ⟨none, (.store 1 (.t 16) (.t 14)), none⟩])
    (.seq
     (.ops [
       ⟨(some 17), (.mov (.t 1)), none⟩,
       ⟨(some 18), (.lenS (.t 17)), none⟩,
       ⟨(some 4), (.mov (.t 18)), none⟩,
       ⟨(some 5), (.mov (.c (.raw .nilIface))), none⟩])
     .ret))))

/- "(*strings.Builder).String" params { toList := [40] } results { toList := [Go.ResultVar.tmp 2] } -/
def y15 : XC :=
 (.seq
  (.ops [
    ⟨(some 2), (.mov (.c (.str []))), none⟩])
  (.seq
   (.drawE [
     ⟨(some 3), (.mov (.t 0)), none⟩,
     ⟨(some 4), (.nilck (.t 3)), none⟩,
     ⟨(some 5), (.fldA 1 (.t 4)), none⟩,
     ⟨(some 6), (.load1 (.t 5)), none⟩,
     ⟨(some 7), (.ex .sdata [(.t 6)]), none⟩,
     ⟨(some 8), (.mov (.t 0)), none⟩,
     ⟨(some 9), (.nilck (.t 8)), none⟩,
     ⟨(some 10), (.fldA 1 (.t 9)), none⟩,
     ⟨(some 11), (.load1 (.t 10)), none⟩,
     ⟨(some 12), (.len (.t 11)), none⟩,
     ⟨(some 13), (.ex (.ustr 5) [(.t 7), (.t 12)]), none⟩,
     ⟨(some 2), (.mov (.t 13)), none⟩])
   .ret))

section
variable {E : Env}
theorem al1 {k : Blk} {L : List Blk} (h : L[0]? = some k) (ha : k.alive = true := by rfl) : ∀ s ∈ [0], aliveAt L s := fun s hs => by
  rw [List.mem_singleton] at hs; subst hs; exact ⟨k, h, ha⟩
theorem noEsc (hP : E.P = Tryz.prog) (s r o : Nat) : XExt E 55 [.ptr s r o] (.ptr s r o) := by
  refine ext_mk (fn := Tryz.f55) (en := Extern.AbiNoEscape.same) (by rw [hP]; rfl) (by rfl) (by rfl) (by rfl) (by rfl) fun C vs _ hl hv => ?_
  match vs, hl with
  | [v], _ => exact ⟨v, rfl, hv 0 _ rfl⟩
theorem copyCheck_fresh (hP : E.P = Tryz.prog) : XT E 32 [.ptr 0 0 0] [.tcells 43 2 [[.raw (.pointer none), .raw (.slice none 0 0)]]] fun r L1 => r = .tup [] ∧ L1 = [.tcells 43 2 [[.ptr 0 0 0, .raw (.slice none 0 0)]]] := by
  refine xt_of_fun (F := ⟨Tryz.f32.ntmps, [], y32⟩) (by rw [hP]; rfl) (by rw [hP]; kernel_rfl) (by decide) (Nat.le_of_ble_eq_true rfl) (xfun0 ?_)
  generalize hρ : entry _ = ρ
  have h0 : ρ 0 = .ptr 0 0 0 := by rw [← hρ]; rfl
  clear hρ
  unfold y32
  simp only [h0, go_sem, Nat.reduceEqDiff, reduceIte, Int.reduceEq, Int.reduceLT, Int.reduceLE, Nat.reduceAdd, Nat.reduceLT, Nat.reduceLeDiff, Int.reduceToNat, Int.reduceSub, Int.reduceAdd, Int.reduceNeg]
  refine xptrU_at (sz := 2) rfl (by decide) (by decide) ?_
  simp only [h0, go_sem, Nat.reduceEqDiff, reduceIte, Int.reduceEq, Int.reduceLT, Int.reduceLE, Nat.reduceAdd, Nat.reduceLT, Nat.reduceLeDiff, Int.reduceToNat, Int.reduceSub, Int.reduceAdd, Int.reduceNeg]
  refine xcall_ext (noEsc (E := E.noPan) hP 0 0 0) ?_
  simp only [h0, go_sem, Nat.reduceEqDiff, reduceIte, Int.reduceEq, Int.reduceLT, Int.reduceLE, Nat.reduceAdd, Nat.reduceLT, Nat.reduceLeDiff, Int.reduceToNat, Int.reduceSub, Int.reduceAdd, Int.reduceNeg]
  refine xptrU_at (sz := 2) rfl (by decide) (by decide) ?_
  simp only [h0, go_sem, Nat.reduceEqDiff, reduceIte, Int.reduceEq, Int.reduceLT, Int.reduceLE, Nat.reduceAdd, Nat.reduceLT, Nat.reduceLeDiff, Int.reduceToNat, Int.reduceSub, Int.reduceAdd, Int.reduceNeg]
  exact leave_all .nil (by simp) rfl rfl ⟨rfl, rfl⟩

def usedB (s k n : Nat) : List IV := [.ptr s 0 0, .sl k 0 n n]
def freshB : List IV := [.raw (.pointer none), .raw (.slice none 0 0)]
theorem convB_bytes (L : List Blk) (m : Ren) (ty : Nat) (bs : List UInt8) : convB L 12 m (.tcells ty 1 (bytesRows bs)) = some (.tcells ty 1 (bytesRows bs)) := by
  show (mapO (mapO (conv L 12 m)) (bytesRows bs)).map _ = _
  rw [mapO_bytes]; rfl
theorem convB_used (L : List Blk) {m : Ren} {s k s' k' n : Nat} (h1 : m s = some (some s')) (h2 : m k = some (some k')) : convB L 12 m (.tcells 43 2 [usedB s k n]) = some (.tcells 43 2 [usedB s' k' n]) := by
  simp only [convB, usedB, mapO, conv, h1, h2, Option.map_some]
theorem copyCheck_used (hP : E.P = Tryz.prog) (bs : List UInt8) : XT E 32 [.ptr 0 0 0] [.tcells 43 2 [usedB 0 1 bs.length], .tcells 5 1 (bytesRows bs)] fun r L1 => r = .tup [] ∧ L1 = [.tcells 43 2 [usedB 0 1 bs.length], .tcells 5 1 (bytesRows bs)] := by
  unfold usedB
  refine xt_of_fun (F := ⟨Tryz.f32.ntmps, [], y32⟩) (by rw [hP]; rfl) (by rw [hP]; kernel_rfl) (by decide) (Nat.le_of_ble_eq_true rfl) (xfun0 ?_)
  generalize hρ : entry _ = ρ
  have h0 : ρ 0 = .ptr 0 0 0 := by rw [← hρ]; rfl
  clear hρ
  unfold y32
  simp only [h0, go_sem, Nat.reduceEqDiff, reduceIte, Int.reduceEq, Int.reduceLT, Int.reduceLE, Nat.reduceAdd, Nat.reduceLT, Nat.reduceLeDiff, Int.reduceToNat, Int.reduceSub, Int.reduceAdd, Int.reduceNeg]
  refine leave_all (keep := []) (r' := .tup []) (L'' := [.tcells 43 2 [usedB 0 1 bs.length], .tcells 5 1 (bytesRows bs)]) .nil ?_ ?_ ?_ ?_
  · simp
  · rfl
  case refine_4 => exact ⟨rfl, rfl⟩
  show mapO (convB _ 12 _) [.tcells 43 2 [usedB 0 1 bs.length], .tcells 5 1 (bytesRows bs)] = _
  simp only [mapO, convB_bytes, convB_used (s := 0) (k := 1) (s' := 0) (k' := 1) _ (m := renLeave 2 []) rfl rfl]

theorem write_fresh (hP : E.P = Tryz.prog) (x : List UInt8) (hx : x ≠ []) (hb : x.length ≤ 70368744177664) : XT E 13 [.ptr 0 0 0, .str x] [.tcells 43 2 [freshB]] fun r L1 => r = .tup [.int .i64 x.length, .raw .nilIface] ∧ L1 = [.tcells 43 2 [usedB 0 1 x.length], .tcells 5 1 (bytesRows x)] := by
  unfold freshB
  refine xt_of_fun (F := ⟨Tryz.f13.ntmps, [.tmp 4, .tmp 5], y13⟩) (by rw [hP]; rfl) (by rw [hP]; kernel_rfl) (by decide) (Nat.le_of_ble_eq_true rfl) (xfun2 ?_)
  generalize hρ : entry _ = ρ
  have h0 : ρ 0 = .ptr 0 0 0 := by rw [← hρ]; rfl
  have h1 : ρ 1 = .str x := by rw [← hρ]; rfl
  clear hρ
  unfold y13
  simp only [h0, h1, go_sem, Nat.reduceEqDiff, reduceIte, Int.reduceEq, Int.reduceLT, Int.reduceLE, Nat.reduceAdd, Nat.reduceLT, Nat.reduceLeDiff, Int.reduceToNat, Int.reduceSub, Int.reduceAdd, Int.reduceNeg]
  refine xcall_sel [0] (by simp) (al1 rfl) (args' := [.ptr 0 0 0]) rfl (L0 := [.tcells 43 2 [[.raw (.pointer none), .raw (.slice none 0 0)]]]) rfl (copyCheck_fresh (E := E.noPan) hP) ?_
  rintro r L1 ⟨rfl, rfl⟩
  refine ⟨.tup [], _, rfl, rfl, ?_⟩
  show xops _ _ _ [.tcells 43 2 [[.ptr 0 0 0, .raw (.slice none 0 0)]]] _
  simp only [h0, h1, go_sem, Nat.reduceEqDiff, reduceIte, Int.reduceEq, Int.reduceLT, Int.reduceLE, Nat.reduceAdd, Nat.reduceLT, Nat.reduceLeDiff, Int.reduceToNat, Int.reduceSub, Int.reduceAdd, Int.reduceNeg]
  refine appT_nil rfl hx hb ?_
  simp only [h0, h1, go_sem, Nat.reduceEqDiff, reduceIte, Int.reduceEq, Int.reduceLT, Int.reduceLE, Nat.reduceAdd, Nat.reduceLT, Nat.reduceLeDiff, Int.reduceToNat, Int.reduceSub, Int.reduceAdd, Int.reduceNeg]
  refine leave_all (keep := [1]) (r' := .tup [.int .i64 x.length, .raw .nilIface]) (L'' := [.tcells 43 2 [usedB 0 1 x.length], .tcells 5 1 (bytesRows x)]) ?_ ?_ ?_ ?_ ?_
  · simp
  · simp
  · rfl
  case refine_5 => exact ⟨rfl, rfl⟩
  show mapO (convB _ 12 _) [.tcells 43 2 [usedB 0 1 x.length], .tcells 5 1 (bytesRows x)] = _
  simp only [mapO, convB_bytes, convB_used (s := 0) (k := 1) (s' := 0) (k' := 1) _ (m := renLeave 1 [1]) rfl rfl]

theorem al2 {k l : Blk} {L : List Blk} (h : L[0]? = some k) (h' : L[1]? = some l) (ha : k.alive = true := by rfl) (hb : l.alive = true := by rfl) : ∀ s ∈ [0, 1], aliveAt L s := fun s hs => by
  simp only [List.mem_cons, List.not_mem_nil, or_false] at hs
  rcases hs with rfl | rfl
  · exact ⟨k, h, ha⟩
  · exact ⟨l, h', hb⟩
theorem write_used (hP : E.P = Tryz.prog) (bs x : List UInt8) (hx : x ≠ []) (hb : bs.length + x.length ≤ 70368744177664) : XT E 13 [.ptr 0 0 0, .str x] [.tcells 43 2 [usedB 0 1 bs.length], .tcells 5 1 (bytesRows bs)]
    fun r L1 => r = .tup [.int .i64 x.length, .raw .nilIface] ∧ L1 = [.tcells 43 2 [usedB 0 2 (bs.length + x.length)], .dead, .tcells 5 1 (bytesRows (bs ++ x))] := by
  unfold usedB
  refine xt_of_fun (F := ⟨Tryz.f13.ntmps, [.tmp 4, .tmp 5], y13⟩) (by rw [hP]; rfl) (by rw [hP]; kernel_rfl) (by decide) (Nat.le_of_ble_eq_true rfl) (xfun2 ?_)
  generalize hρ : entry _ = ρ
  have h0 : ρ 0 = .ptr 0 0 0 := by rw [← hρ]; rfl
  have h1 : ρ 1 = .str x := by rw [← hρ]; rfl
  clear hρ
  unfold y13
  simp only [h0, h1, go_sem, Nat.reduceEqDiff, reduceIte, Int.reduceEq, Int.reduceLT, Int.reduceLE, Nat.reduceAdd, Nat.reduceLT, Nat.reduceLeDiff, Int.reduceToNat, Int.reduceSub, Int.reduceAdd, Int.reduceNeg]
  refine xcall_sel [0, 1] (by simp) (al2 rfl rfl) (args' := [.ptr 0 0 0]) rfl (L0 := [.tcells 43 2 [usedB 0 1 bs.length], .tcells 5 1 (bytesRows bs)]) ?_ (copyCheck_used (E := E.noPan) hP bs) ?_
  · show mapO (convB _ 12 _) [.tcells 43 2 [usedB 0 1 bs.length], .tcells 5 1 (bytesRows bs)] = _
    simp only [mapO, convB_bytes, convB_used (s := 0) (k := 1) (s' := 0) (k' := 1) _ (m := renSel [0, 1] [] false) rfl rfl]
  rintro r L1 ⟨rfl, rfl⟩
  refine ⟨.tup [], [.tcells 43 2 [usedB 0 1 bs.length], .tcells 5 1 (bytesRows bs)], rfl, ?_, ?_⟩
  · show mapO (convB _ 12 _) [.tcells 43 2 [usedB 0 1 bs.length], .tcells 5 1 (bytesRows bs)] = _
    simp only [mapO, convB_bytes, convB_used (s := 0) (k := 1) (s' := 0) (k' := 1) _ (m := renBack [0, 1] _) rfl rfl]
  show xops _ _ _ [.tcells 43 2 [[.ptr 0 0 0, .sl 1 0 bs.length bs.length]], .tcells 5 1 (bytesRows bs)] _
  simp only [h0, h1, go_sem, Nat.reduceEqDiff, reduceIte, Int.reduceEq, Int.reduceLT, Int.reduceLE, Nat.reduceAdd, Nat.reduceLT, Nat.reduceLeDiff, Int.reduceToNat, Int.reduceSub, Int.reduceAdd, Int.reduceNeg]
  refine appT_used rfl rfl hx hb ?_
  simp only [h0, h1, go_sem, Nat.reduceEqDiff, reduceIte, Int.reduceEq, Int.reduceLT, Int.reduceLE, Nat.reduceAdd, Nat.reduceLT, Nat.reduceLeDiff, Int.reduceToNat, Int.reduceSub, Int.reduceAdd, Int.reduceNeg]
  refine leave_all (keep := [2]) (r' := .tup [.int .i64 x.length, .raw .nilIface]) (L'' := [.tcells 43 2 [usedB 0 2 (bs.length + x.length)], .dead, .tcells 5 1 (bytesRows (bs ++ x))]) ?_ ?_ ?_ ?_ ?_
  · simp
  · simp
  · rfl
  case refine_5 => exact ⟨rfl, rfl⟩
  show mapO (convB _ 12 _) [.tcells 43 2 [usedB 0 2 (bs.length + x.length)], .dead, .tcells 5 1 (bytesRows (bs ++ x))] = _
  simp only [mapO, convB_bytes, convB_used (s := 0) (k := 2) (s' := 0) (k' := 2) _ (m := renLeave 2 [2]) rfl rfl]
  rfl

theorem string_used (hP : E.P = Tryz.prog) (bs : List UInt8) (h0 : bs ≠ []) (hb : bs.length ≤ 9223372036854775807) : XT E 15 [.ptr 0 0 0] [.tcells 43 2 [usedB 0 1 bs.length], .tcells 5 1 (bytesRows bs)]
    fun r L1 => r = .str bs ∧ L1 = [.tcells 43 2 [usedB 0 1 bs.length], .dead] := by
  unfold usedB
  have hne : bs.length ≠ 0 := by simpa using h0
  refine xt_of_fun (F := ⟨Tryz.f15.ntmps, [.tmp 2], y15⟩) (by rw [hP]; rfl) (by rw [hP]; kernel_rfl) (by decide) (Nat.le_of_ble_eq_true rfl) (xfun1 ?_)
  generalize hρ : entry _ = ρ
  have h0 : ρ 0 = .ptr 0 0 0 := by rw [← hρ]; rfl
  clear hρ
  unfold y15
  simp only [h0, go_sem, Nat.reduceEqDiff, reduceIte, Int.reduceEq, Int.reduceLT, Int.reduceLE, Nat.reduceAdd, Nat.reduceLT, Nat.reduceLeDiff, Int.reduceToNat, Int.reduceSub, Int.reduceAdd, Int.reduceNeg]
  refine ⟨by omega, ?_⟩
  rw [← bytesRows_len bs]
  refine xusU_at (rows := bytesRows bs) ?_ (bytesRows_of bs) ?_ ?_ ?_
  · rfl
  · rw [bytesRows_len]; exact hne
  · rw [bytesRows_len]; exact hb
  rw [bytesRows_len]
  simp only [h0, go_sem, Nat.reduceEqDiff, reduceIte, Int.reduceEq, Int.reduceLT, Int.reduceLE, Nat.reduceAdd, Nat.reduceLT, Nat.reduceLeDiff, Int.reduceToNat, Int.reduceSub, Int.reduceAdd, Int.reduceNeg]
  refine leave_all (keep := []) (r' := .str bs) (L'' := [.tcells 43 2 [usedB 0 1 bs.length], .dead]) .nil ?_ ?_ ?_ ?_
  · simp
  · rfl
  case refine_4 => exact ⟨rfl, rfl⟩
  show mapO (convB _ 12 _) [.tcells 43 2 [usedB 0 1 bs.length], .dead] = _
  simp only [mapO, convB_bytes, convB_used (s := 0) (k := 1) (s' := 0) (k' := 1) _ (m := renLeave 2 []) rfl rfl]
  rfl
variable {L : List Blk} {K : IV → List Blk → Prop}
theorem xcall_write0 (hP : E.P = Tryz.prog) {s : Nat} {x : List UInt8} (hs : L[s]? = some (.tcells 43 2 [freshB])) (hx : x ≠ []) (hb : x.length ≤ 70368744177664)
    (h : K (.tup [.int .i64 x.length, .raw .nilIface]) (L.set s (.tcells 43 2 [usedB s L.length x.length]) ++ [.tcells 5 1 (bytesRows x)])) : xcall E 13 [.ptr s 0 0, .str x] L K := by
  have hg : L.getD s .dead = .tcells 43 2 [freshB] := by rw [List.getD_eq_getElem?_getD, hs]; rfl
  have hr : renSel [s] [] false s = some (some 0) := by simp [renSel, pos]
  refine xcall_sel [s] (by simp) (fun t ht => ?_) (args' := [.ptr 0 0 0, .str x]) ?_ (L0 := [.tcells 43 2 [freshB]]) ?_ (write_fresh hP x hx hb) ?_
  · rw [List.mem_singleton] at ht; subst ht; exact ⟨_, hs, rfl⟩
  · show mapO (conv L 12 _) [.ptr s 0 0, .str x] = _
    simp only [mapO, conv, hr]
  · rw [List.map_cons, List.map_nil, hg]; rfl
  rintro r L1 ⟨rfl, rfl⟩
  refine ⟨_, [.tcells 43 2 [usedB s L.length x.length], .tcells 5 1 (bytesRows x)], rfl, ?_, ?_⟩
  · show mapO (convB _ 12 _) [.tcells 43 2 [usedB 0 1 x.length], .tcells 5 1 (bytesRows x)] = _
    simp only [mapO, convB_bytes, convB_used (s := 0) (k := 1) (s' := s) (k' := L.length) _ (m := renBack [s] L.length) rfl (by simp [renBack])]
  · exact h
theorem xcall_write (hP : E.P = Tryz.prog) {s k : Nat} {bs x : List UInt8} (hs : L[s]? = some (.tcells 43 2 [usedB s k bs.length])) (hk : L[k]? = some (.tcells 5 1 (bytesRows bs))) (hx : x ≠ []) (hb : bs.length + x.length ≤ 70368744177664)
    (h : K (.tup [.int .i64 x.length, .raw .nilIface]) ((L.set s (.tcells 43 2 [usedB s L.length (bs.length + x.length)])).set k .dead ++ [.tcells 5 1 (bytesRows (bs ++ x))])) : xcall E 13 [.ptr s 0 0, .str x] L K := by
  have hne : s ≠ k := fun h0 => by subst h0; rw [hs] at hk; simp at hk
  have hgs : L.getD s .dead = .tcells 43 2 [usedB s k bs.length] := by rw [List.getD_eq_getElem?_getD, hs]; rfl
  have hgk : L.getD k .dead = .tcells 5 1 (bytesRows bs) := by rw [List.getD_eq_getElem?_getD, hk]; rfl
  have hr : renSel [s, k] [] false s = some (some 0) := by simp [renSel, pos]
  have hr' : renSel [s, k] [] false k = some (some 1) := by simp [renSel, pos, Ne.symm hne]
  refine xcall_sel [s, k] (by simp [hne]) (fun t ht => ?_) (args' := [.ptr 0 0 0, .str x]) ?_ (L0 := [.tcells 43 2 [usedB 0 1 bs.length], .tcells 5 1 (bytesRows bs)]) ?_ (write_used hP bs x hx hb) ?_
  · simp only [List.mem_cons, List.not_mem_nil, or_false] at ht
    rcases ht with rfl | rfl
    · exact ⟨_, hs, rfl⟩
    · exact ⟨_, hk, rfl⟩
  · show mapO (conv L 12 _) [.ptr s 0 0, .str x] = _
    simp only [mapO, conv, hr]
  · rw [List.map_cons, List.map_cons, List.map_nil, hgs, hgk]
    show mapO (convB _ 12 _) [.tcells 43 2 [usedB s k bs.length], .tcells 5 1 (bytesRows bs)] = _
    simp only [mapO, convB_bytes, convB_used (s := s) (k := k) (s' := 0) (k' := 1) _ hr hr']
  rintro r L1 ⟨rfl, rfl⟩
  refine ⟨_, [.tcells 43 2 [usedB s L.length (bs.length + x.length)], .dead, .tcells 5 1 (bytesRows (bs ++ x))], rfl, ?_, ?_⟩
  · show mapO (convB _ 12 _) [.tcells 43 2 [usedB 0 2 (bs.length + x.length)], .dead, .tcells 5 1 (bytesRows (bs ++ x))] = _
    simp only [mapO, convB_bytes, convB_used (s := 0) (k := 2) (s' := s) (k' := L.length) _ (m := renBack [s, k] L.length) rfl (by simp [renBack])]
    rfl
  · exact h
theorem xcall_string (hP : E.P = Tryz.prog) {s k : Nat} {bs : List UInt8} (hs : L[s]? = some (.tcells 43 2 [usedB s k bs.length])) (hk : L[k]? = some (.tcells 5 1 (bytesRows bs))) (h0 : bs ≠ []) (hb : bs.length ≤ 9223372036854775807)
    (h : K (.str bs) ((L.set s (.tcells 43 2 [usedB s k bs.length])).set k .dead ++ [])) : xcall E 15 [.ptr s 0 0] L K := by
  have hne : s ≠ k := fun h0 => by subst h0; rw [hs] at hk; simp at hk
  have hgs : L.getD s .dead = .tcells 43 2 [usedB s k bs.length] := by rw [List.getD_eq_getElem?_getD, hs]; rfl
  have hgk : L.getD k .dead = .tcells 5 1 (bytesRows bs) := by rw [List.getD_eq_getElem?_getD, hk]; rfl
  have hr : renSel [s, k] [] false s = some (some 0) := by simp [renSel, pos]
  have hr' : renSel [s, k] [] false k = some (some 1) := by simp [renSel, pos, Ne.symm hne]
  refine xcall_sel [s, k] (by simp [hne]) (fun t ht => ?_) (args' := [.ptr 0 0 0]) ?_ (L0 := [.tcells 43 2 [usedB 0 1 bs.length], .tcells 5 1 (bytesRows bs)]) ?_ (string_used hP bs h0 hb) ?_
  · simp only [List.mem_cons, List.not_mem_nil, or_false] at ht
    rcases ht with rfl | rfl
    · exact ⟨_, hs, rfl⟩
    · exact ⟨_, hk, rfl⟩
  · show mapO (conv L 12 _) [.ptr s 0 0] = _
    simp only [mapO, conv, hr]
  · rw [List.map_cons, List.map_cons, List.map_nil, hgs, hgk]
    show mapO (convB _ 12 _) [.tcells 43 2 [usedB s k bs.length], .tcells 5 1 (bytesRows bs)] = _
    simp only [mapO, convB_bytes, convB_used (s := s) (k := k) (s' := 0) (k' := 1) _ hr hr']
  rintro r L1 ⟨rfl, rfl⟩
  refine ⟨_, [.tcells 43 2 [usedB s k bs.length], .dead], rfl, ?_, ?_⟩
  · show mapO (convB _ 12 _) [.tcells 43 2 [usedB 0 1 bs.length], .dead] = _
    simp only [mapO, convB_bytes, convB_used (s := 0) (k := 1) (s' := s) (k' := k) _ (m := renBack [s, k] L.length) rfl rfl]
    rfl
  · exact h
end
end Go.X.TryzW
end
section
open Go Go.X Go.Proofs
set_option maxRecDepth 100000
set_option maxHeartbeats 4000000
set_option linter.unusedSimpArgs false
set_option linter.unusedVariables false
namespace Go.X.TryzW
/- "tiller/tillerkeep.Texts" params { toList := [33, 33] } results { toList := [Go.ResultVar.tmp 4] } -/
def y50 : XC :=
 (.seq
  (.ops [
    ⟨(some 4), (.mov (.c (.bool false))), none⟩])
  (.seq
   (.seq
    (.ops [
      ⟨(some 6), (.mov (.t 0)), none⟩,
      ⟨(some 7), (.len (.t 6)), none⟩,
      ⟨(some 8), (.mov (.t 1)), none⟩,
      ⟨(some 9), (.len (.t 8)), none⟩,
      ⟨(some 10), (.bin .neq (.t 7) (.t 9)), none⟩])
    (.cond (.t 10)
     (.seq
      (.ops [
        ⟨(some 4), (.mov (.c (.bool false))), none⟩])
      .ret)
     .skip))
   (.seq
    (.seq
     (.ops [
       ⟨(some 5), (.mov (.c (.int .i64 0))), none⟩])
     (.block 0
      (.loop
       (.seq
        (.seq
         (.ops [
           ⟨(some 11), (.mov (.t 5)), none⟩,
           ⟨(some 12), (.mov (.t 0)), none⟩,
           ⟨(some 13), (.len (.t 12)), none⟩,
           ⟨(some 14), (.bin .lss (.t 11) (.t 13)), none⟩])
         (.cond (.t 14)
          .skip
          (.exit 0)))
        (.seq
         (.block 1
          (.seq
           (.draw [
             ⟨(some 17), (.mov (.t 0)), none⟩,
             ⟨(some 18), (.mov (.t 5)), none⟩,
             ⟨(some 19), (.idxS 1 (.t 17) (.t 18)), none⟩,
             ⟨(some 20), (.load1 (.t 19)), none⟩,
             ⟨(some 21), (.mov (.t 1)), none⟩,
             ⟨(some 22), (.mov (.t 5)), none⟩,
             ⟨(some 23), (.idxS 1 (.t 21) (.t 22)), none⟩,
             ⟨(some 24), (.load1 (.t 23)), none⟩,
             ⟨(some 25), (.bin .neq (.t 20) (.t 24)), none⟩])
           (.cond (.t 25)
            (.seq
             (.ops [
               ⟨(some 4), (.mov (.c (.bool false))), none⟩])
             .ret)
            .skip)))
         (.ops [
           ⟨(some 15), (.mov (.t 5)), none⟩,
           ⟨(some 16), (.bin .add (.t 15) (.c (.int .i64 1))), none⟩,
           ⟨(some 5), (.mov (.t 16)), none⟩]))))))
    (.seq
     (.ops [
       ⟨(some 4), (.mov (.c (.bool true))), none⟩])
     .ret))))

/- "tiller/tillerkeep.Node" params { toList := [37, 37] } results { toList := [Go.ResultVar.tmp 4] } -/
def y25 : XC :=
 (.seq
  (.ops [
    ⟨(some 2), (.box (.t 0)), none⟩,
    ⟨(some 3), (.box (.t 1)), none⟩,
    ⟨(some 4), (.mov (.c (.bool false))), none⟩])
  (.seq
   (.ops [
     ⟨(some 5), (.fldA 0 (.t 2)), none⟩,
     ⟨(some 6), (.load1 (.t 5)), none⟩,
     ⟨(some 7), (.fldA 0 (.t 3)), none⟩,
     ⟨(some 8), (.load1 (.t 7)), none⟩,
     ⟨(some 9), (.bin .eql (.t 6) (.t 8)), none⟩,
     ⟨(some 10), (.mov (.t 9)), none⟩,
     ⟨(some 11), (.fldA 1 (.t 2)), (some (10, true))⟩,
     ⟨(some 12), (.load1 (.t 11)), (some (10, true))⟩,
     ⟨(some 13), (.fldA 1 (.t 3)), (some (10, true))⟩,
     ⟨(some 14), (.load1 (.t 13)), (some (10, true))⟩,
     ⟨(some 15), (.bin .eql (.t 12) (.t 14)), (some (10, true))⟩,
     ⟨(some 16), (.pick (.t 10) (.t 15) (.c (.bool false))), none⟩,
     ⟨(some 17), (.mov (.t 16)), none⟩,
     ⟨(some 18), (.fldA 2 (.t 2)), (some (17, true))⟩,
     ⟨(some 19), (.load1 (.t 18)), (some (17, true))⟩,
     ⟨(some 20), (.fldA 2 (.t 3)), (some (17, true))⟩,
     ⟨(some 21), (.load1 (.t 20)), (some (17, true))⟩,
     ⟨(some 22), (.bin .eql (.t 19) (.t 21)), (some (17, true))⟩,
     ⟨(some 23), (.pick (.t 17) (.t 22) (.c (.bool false))), none⟩,
     ⟨(some 24), (.mov (.t 23)), none⟩,
     ⟨(some 25), (.fldA 3 (.t 2)), (some (24, true))⟩,
     ⟨(some 26), (.load1 (.t 25)), (some (24, true))⟩,
     ⟨(some 27), (.fldA 3 (.t 3)), (some (24, true))⟩,
     ⟨(some 28), (.load1 (.t 27)), (some (24, true))⟩,
     ⟨(some 29), (.bin .eql (.t 26) (.t 28)), (some (24, true))⟩,
     ⟨(some 30), (.pick (.t 24) (.t 29) (.c (.bool false))), none⟩,
     ⟨(some 31), (.mov (.t 30)), none⟩,
     ⟨(some 32), (.fldA 4 (.t 2)), (some (31, true))⟩,
     ⟨(some 33), (.load1 (.t 32)), (some (31, true))⟩,
     ⟨(some 34), (.fldA 4 (.t 3)), (some (31, true))⟩,
     ⟨(some 35), (.load1 (.t 34)), (some (31, true))⟩,
     ⟨(some 36), (.bin .eql (.t 33) (.t 35)), (some (31, true))⟩,
     ⟨(some 37), (.pick (.t 31) (.t 36) (.c (.bool false))), none⟩,
     ⟨(some 38), (.mov (.t 37)), none⟩,
     ⟨(some 39), (.fldA 5 (.t 2)), (some (38, true))⟩,
     ⟨(some 40), (.load1 (.t 39)), (some (38, true))⟩,
     ⟨(some 41), (.fldA 5 (.t 3)), (some (38, true))⟩,
     ⟨(some 42), (.load1 (.t 41)), (some (38, true))⟩,
     ⟨(some 43), (.bin .eql (.t 40) (.t 42)), (some (38, true))⟩,
     ⟨(some 44), (.pick (.t 38) (.t 43) (.c (.bool false))), none⟩,
     ⟨(some 45), (.mov (.t 44)), none⟩,
     ⟨(some 46), (.fldA 6 (.t 2)), (some (45, true))⟩,
     ⟨(some 47), (.load1 (.t 46)), (some (45, true))⟩,
     ⟨(some 48), (.fldA 6 (.t 3)), (some (45, true))⟩,
     ⟨(some 49), (.load1 (.t 48)), (some (45, true))⟩,
     ⟨(some 50), (.call (.f 50) [(.t 47), (.t 49)]), (some (45, true))⟩,
     ⟨(some 51), (.pick (.t 45) (.t 50) (.c (.bool false))), none⟩,
     ⟨(some 4), (.mov (.t 51)), none⟩])
   .ret))

/- "tiller/tillerkeep.Def" params { toList := [24, 24] } results { toList := [Go.ResultVar.tmp 4] } -/
def y10 : XC :=
 (.seq
  (.ops [
    ⟨(some 2), (.box (.t 0)), none⟩,
    ⟨(some 3), (.box (.t 1)), none⟩,
    ⟨(some 4), (.mov (.c (.bool false))), none⟩])
  (.seq
   (.seq
    (.ops [
      ⟨(some 6), (.fldA 0 (.t 2)), none⟩,
      ⟨(some 7), (.load1 (.t 6)), none⟩,
      ⟨(some 8), (.fldA 0 (.t 3)), none⟩,
      ⟨(some 9), (.load1 (.t 8)), none⟩,
      ⟨(some 10), (.bin .neq (.t 7) (.t 9)), none⟩,
      ⟨(some 11), (.mov (.t 10)), none⟩,
      ⟨(some 12), (.fldA 1 (.t 2)), (some (11, false))⟩,
      ⟨(some 13), (.load1 (.t 12)), (some (11, false))⟩,
      ⟨(some 14), (.len (.t 13)), (some (11, false))⟩,
      ⟨(some 15), (.fldA 1 (.t 3)), (some (11, false))⟩,
      ⟨(some 16), (.load1 (.t 15)), (some (11, false))⟩,
      ⟨(some 17), (.len (.t 16)), (some (11, false))⟩,
      ⟨(some 18), (.bin .neq (.t 14) (.t 17)), (some (11, false))⟩,
      ⟨(some 19), (.pick (.t 11) (.c (.bool true)) (.t 18)), none⟩])
    (.cond (.t 19)
     (.seq
      (.ops [
        ⟨(some 4), (.mov (.c (.bool false))), none⟩])
      .ret)
     .skip))
   (.seq
    (.seq
     (.ops [
       ⟨(some 5), (.mov (.c (.int .i64 0))), none⟩])
     (.block 0
      (.loop
       (.seq
        (.seq
         (.ops [
           ⟨(some 20), (.mov (.t 5)), none⟩,
           ⟨(some 21), (.fldA 1 (.t 2)), none⟩,
           ⟨(some 22), (.load1 (.t 21)), none⟩,
           ⟨(some 23), (.len (.t 22)), none⟩,
           ⟨(some 24), (.bin .lss (.t 20) (.t 23)), none⟩])
         (.cond (.t 24)
          .skip
          (.exit 0)))
        (.seq
         (.block 1
          (.seq
           (.drawE [
             ⟨(some 27), (.fldA 1 (.t 2)), none⟩,
             ⟨(some 28), (.load1 (.t 27)), none⟩,
             ⟨(some 29), (.mov (.t 5)), none⟩,
             ⟨(some 30), (.idxS 7 (.t 28) (.t 29)), none⟩,
             ⟨(some 31), (.loadN 7 (.t 30)), none⟩,
             ⟨(some 32), (.fldA 1 (.t 3)), none⟩,
             ⟨(some 33), (.load1 (.t 32)), none⟩,
             ⟨(some 34), (.mov (.t 5)), none⟩,
             ⟨(some 35), (.idxS 7 (.t 33) (.t 34)), none⟩,
             ⟨(some 36), (.loadN 7 (.t 35)), none⟩,
             ⟨(some 37), (.pcall (.f 25) [(.t 31), (.t 36)]), none⟩,
             ⟨(some 38), (.un .not (.t 37)), none⟩])
           (.cond (.t 38)
            (.seq
             (.ops [
               ⟨(some 4), (.mov (.c (.bool false))), none⟩])
             .ret)
            .skip)))
         (.ops [
           ⟨(some 25), (.mov (.t 5)), none⟩,
           ⟨(some 26), (.bin .add (.t 25) (.c (.int .i64 1))), none⟩,
           ⟨(some 5), (.mov (.t 26)), none⟩]))))))
    (.seq
     (.ops [
       ⟨(some 4), (.mov (.c (.bool true))), none⟩])
     .ret))))

section
variable {E : Env}
theorem texts_same (hP : E.P = Tryz.prog) (l : List (List UInt8)) (hl : l.length ≤ 1000000) : XPure E 50 [.isl (strRows l), .isl (strRows l)] (.bool true) := by
  refine xpure1 (n := Tryz.f50.ntmps) (c := y50) (t := 4) (by rw [hP]; rfl) (by rw [hP]; kernel_rfl) (by decide) (Nat.le_of_ble_eq_true rfl) ?_
  generalize hρ : entry _ = ρ
  have h0 : ρ 0 = .isl (strRows l) := by rw [← hρ]; rfl
  have h1 : ρ 1 = .isl (strRows l) := by rw [← hρ]; rfl
  clear hρ
  unfold y50
  have e0 : ∀ i : Int, (i = i) = True := fun i => eq_self i
  simp only [h0, h1, strRows_len, e0, decide_true, Bool.not_true, go_sem, Nat.reduceEqDiff, reduceIte, Int.reduceEq, Int.reduceLT, Int.reduceLE, Nat.reduceAdd, Nat.reduceLT, Nat.reduceLeDiff, Int.reduceToNat, Int.reduceSub, Int.reduceAdd, Int.reduceNeg]
  refine s_loop (fun n ρ L => ∃ j : Nat, j ≤ l.length ∧ n = l.length - j ∧ L = [] ∧ ρ 0 = .isl (strRows l) ∧ ρ 1 = .isl (strRows l) ∧ ρ 5 = .int .i64 j)
    ⟨0, Nat.zero_le _, rfl, rfl, by simp only [h0, go_sem, Nat.reduceEqDiff, reduceIte, Int.reduceEq, Int.reduceLT, Int.reduceLE, Nat.reduceAdd, Nat.reduceLT, Nat.reduceLeDiff, Int.reduceToNat, Int.reduceSub, Int.reduceAdd, Int.reduceNeg], by simp only [h1, go_sem, Nat.reduceEqDiff, reduceIte, Int.reduceEq, Int.reduceLT, Int.reduceLE, Nat.reduceAdd, Nat.reduceLT, Nat.reduceLeDiff, Int.reduceToNat, Int.reduceSub, Int.reduceAdd, Int.reduceNeg], by simp only [go_sem, Nat.reduceEqDiff, reduceIte, Int.reduceEq, Int.reduceLT, Int.reduceLE, Nat.reduceAdd, Nat.reduceLT, Nat.reduceLeDiff, Int.reduceToNat, Int.reduceSub, Int.reduceAdd, Int.reduceNeg]; try rfl⟩ ?_
  clear h0 h1 ρ
  rintro n ρ L ⟨j, hj, rfl, rfl, h0, h1, h5⟩
  simp only [h0, h1, h5, strRows_len, go_sem, Nat.reduceEqDiff, reduceIte, Int.reduceEq, Int.reduceLT, Int.reduceLE, Nat.reduceAdd, Nat.reduceLT, Nat.reduceLeDiff, Int.reduceToNat, Int.reduceSub, Int.reduceAdd, Int.reduceNeg]
  refine s_cond (b := decide _) (by simp only [h0, h1, h5, go_sem, Nat.reduceEqDiff, reduceIte, Int.reduceEq, Int.reduceLT, Int.reduceLE, Nat.reduceAdd, Nat.reduceLT, Nat.reduceLeDiff, Int.reduceToNat, Int.reduceSub, Int.reduceAdd, Int.reduceNeg]; try rfl) ?_ ?_ <;> intro hb <;> simp only [hb, h0, h1, h5, strRows_len, rows_strs, go_sem, Nat.reduceEqDiff, reduceIte, Int.reduceEq, Int.reduceLT, Int.reduceLE, Nat.reduceAdd, Nat.reduceLT, Nat.reduceLeDiff, Int.reduceToNat, Int.reduceSub, Int.reduceAdd, Int.reduceNeg]
  · rw [decide_eq_true_eq] at hb
    have hj' : j < l.length := by omega
    have hsr := strRows_get hj'
    have e1 : ∀ s : List UInt8, (s = s) = True := fun s => eq_self s
    try simp only [h0, h1, h5, rows_strs, hsr, e1, decide_true, Bool.not_true, go_sem, Nat.reduceEqDiff, reduceIte, Int.reduceEq, Int.reduceLT, Int.reduceLE, Nat.reduceAdd, Nat.reduceLT, Nat.reduceLeDiff, Int.reduceToNat, Int.reduceSub, Int.reduceAdd, Int.reduceNeg]
    refine ⟨by rfl, by omega, hj', by omega, hj', ?_⟩
    refine ⟨l.length - (j + 1), by omega, j + 1, by omega, rfl, ?_⟩
    rw [wrap64 (by omega) (by omega)]; rfl
  · rfl

theorem node_same (hP : E.P = Tryz.prog) (n : NodeD) (hl : n.after.length ≤ 1000000) : XPure E 25 [.agg n.row, .agg n.row] (.bool true) := by
  refine xpure1 (n := Tryz.f25.ntmps) (c := y25) (t := 4) (by rw [hP]; rfl) (by rw [hP]; kernel_rfl) (by decide) (Nat.le_of_ble_eq_true rfl) ?_
  generalize hρ : entry _ = ρ
  have h0 : ρ 0 = .agg n.row := by rw [← hρ]; rfl
  have h1 : ρ 1 = .agg n.row := by rw [← hρ]; rfl
  clear hρ
  unfold y25
  have e0 : ∀ i : Int, (i = i) = True := fun i => eq_self i
  have e1 : ∀ s : List UInt8, (s = s) = True := fun s => eq_self s
  simp only [h0, h1, NodeD.row, e0, e1, decide_true, go_sem, Nat.reduceEqDiff, reduceIte, Int.reduceEq, Int.reduceLT, Int.reduceLE, Nat.reduceAdd, Nat.reduceLT, Nat.reduceLeDiff, Int.reduceToNat, Int.reduceSub, Int.reduceAdd, Int.reduceNeg]
  refine xcall_pure (args' := [.isl (strRows n.after), .isl (strRows n.after)]) rfl (texts_same (E := E.noPan) hP _ hl) rfl ?_
  simp only [h0, h1, go_sem, Nat.reduceEqDiff, reduceIte, Int.reduceEq, Int.reduceLT, Int.reduceLE, Nat.reduceAdd, Nat.reduceLT, Nat.reduceLeDiff, Int.reduceToNat, Int.reduceSub, Int.reduceAdd, Int.reduceNeg]
  rfl

theorem def_same (hP : E.P = Tryz.prog) (d : DefD) (hl : d.nodes.length ≤ 1000000) (ha : ∀ n ∈ d.nodes, n.after.length ≤ 1000000) : XPure E 10 [d.iv, d.iv] (.bool true) := by
  refine xpure1 (n := Tryz.f10.ntmps) (c := y10) (t := 4) (by rw [hP]; rfl) (by rw [hP]; kernel_rfl) (by decide) (Nat.le_of_ble_eq_true rfl) ?_
  generalize hρ : entry _ = ρ
  have h0 : ρ 0 = d.iv := by rw [← hρ]; rfl
  have h1 : ρ 1 = d.iv := by rw [← hρ]; rfl
  clear hρ
  unfold y10
  have e0 : ∀ i : Int, (i = i) = True := fun i => eq_self i
  have e1 : ∀ s : List UInt8, (s = s) = True := fun s => eq_self s
  simp only [h0, h1, DefD.iv, e0, e1, decide_true, nodeRows_len, Bool.not_true, go_sem, Nat.reduceEqDiff, reduceIte, Int.reduceEq, Int.reduceLT, Int.reduceLE, Nat.reduceAdd, Nat.reduceLT, Nat.reduceLeDiff, Int.reduceToNat, Int.reduceSub, Int.reduceAdd, Int.reduceNeg]
  refine s_loop (fun m ρ L => ∃ j : Nat, j ≤ d.nodes.length ∧ m = d.nodes.length - j ∧ L = [.cells 2 [[.str d.name, .isl (nodeRows d.nodes)]], .cells 2 [[.str d.name, .isl (nodeRows d.nodes)]]] ∧ ρ 2 = .ptr 0 0 0 ∧ ρ 3 = .ptr 1 0 0 ∧ ρ 5 = .int .i64 j)
    ⟨0, Nat.zero_le _, rfl, rfl, by simp only [go_sem, Nat.reduceEqDiff, reduceIte, Int.reduceEq, Int.reduceLT, Int.reduceLE, Nat.reduceAdd, Nat.reduceLT, Nat.reduceLeDiff, Int.reduceToNat, Int.reduceSub, Int.reduceAdd, Int.reduceNeg]; try rfl, by simp only [go_sem, Nat.reduceEqDiff, reduceIte, Int.reduceEq, Int.reduceLT, Int.reduceLE, Nat.reduceAdd, Nat.reduceLT, Nat.reduceLeDiff, Int.reduceToNat, Int.reduceSub, Int.reduceAdd, Int.reduceNeg]; try rfl, by simp only [go_sem, Nat.reduceEqDiff, reduceIte, Int.reduceEq, Int.reduceLT, Int.reduceLE, Nat.reduceAdd, Nat.reduceLT, Nat.reduceLeDiff, Int.reduceToNat, Int.reduceSub, Int.reduceAdd, Int.reduceNeg]; try rfl⟩ ?_
  clear h0 h1 ρ
  rintro m ρ L ⟨j, hj, rfl, rfl, h2, h3, h5⟩
  simp only [h2, h3, h5, nodeRows_len, go_sem, Nat.reduceEqDiff, reduceIte, Int.reduceEq, Int.reduceLT, Int.reduceLE, Nat.reduceAdd, Nat.reduceLT, Nat.reduceLeDiff, Int.reduceToNat, Int.reduceSub, Int.reduceAdd, Int.reduceNeg]
  refine s_cond (b := decide _) (by simp only [h2, h3, h5, go_sem, Nat.reduceEqDiff, reduceIte, Int.reduceEq, Int.reduceLT, Int.reduceLE, Nat.reduceAdd, Nat.reduceLT, Nat.reduceLeDiff, Int.reduceToNat, Int.reduceSub, Int.reduceAdd, Int.reduceNeg]; try rfl) ?_ ?_ <;> intro hb <;> simp only [hb, h2, h3, h5, nodeRows_len, rows_nodes, go_sem, Nat.reduceEqDiff, reduceIte, Int.reduceEq, Int.reduceLT, Int.reduceLE, Nat.reduceAdd, Nat.reduceLT, Nat.reduceLeDiff, Int.reduceToNat, Int.reduceSub, Int.reduceAdd, Int.reduceNeg]
  · rw [decide_eq_true_eq] at hb
    have hj' : j < d.nodes.length := by omega
    have hrow := nodeRows_get hj'
    have hmem : d.nodes.getD j default ∈ d.nodes := by rw [List.getD_eq_getElem?_getD, List.getElem?_eq_getElem hj']; exact List.getElem_mem _
    have hns := node_same (E := E.noPan) hP _ (ha _ hmem)
    generalize d.nodes.getD j default = n at *
    try simp only [h2, h3, h5, nodeRows_len, rows_nodes, hrow, NodeD.row, go_sem, Nat.reduceEqDiff, reduceIte, Int.reduceEq, Int.reduceLT, Int.reduceLE, Nat.reduceAdd, Nat.reduceLT, Nat.reduceLeDiff, Int.reduceToNat, Int.reduceSub, Int.reduceAdd, Int.reduceNeg]
    refine ⟨by omega, hj', by omega, hj', ?_⟩
    refine o_pcall (args' := [.agg n.row, .agg n.row]) rfl hns (fun m => rfl) ?_
    simp only [h2, h3, h5, Bool.not_true, go_sem, Nat.reduceEqDiff, reduceIte, Int.reduceEq, Int.reduceLT, Int.reduceLE, Nat.reduceAdd, Nat.reduceLT, Nat.reduceLeDiff, Int.reduceToNat, Int.reduceSub, Int.reduceAdd, Int.reduceNeg]
    refine ⟨d.nodes.length - (j + 1), by omega, j + 1, by omega, rfl, ?_⟩
    rw [wrap64 (by omega) (by omega)]; rfl
  · rfl
end
end Go.X.TryzW
end
