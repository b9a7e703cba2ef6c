import Derived.Test.YtnejaochjehhgaaDoorXDag14
set_option linter.unusedVariables false
set_option linter.unusedSimpArgs false
set_option linter.unusedSectionVars false
open Go Go.X Go.Proofs
set_option maxRecDepth 100000
set_option maxHeartbeats 4000000
set_option linter.unusedSimpArgs false
set_option linter.unusedVariables false
namespace Go.X.TrydW
/- "tiller/tillerlaw08.cut" params { toList := [28] } results { toList := [Go.ResultVar.cell 2 28] } -/
def x12 : XC :=
 (.seq
  (.ops [
    ⟨(some 1), (.box (.t 0)), none⟩,
    ⟨(some 2), (.alloc [(.str []), .nsl]), none⟩])
  (.seq
   (.seq
    (.ops [
      ⟨(some 6), (.fldA 1 (.t 1)), none⟩,
      ⟨(some 7), (.load1 (.t 6)), none⟩,
      ⟨(some 8), (.len (.t 7)), none⟩,
      ⟨(some 9), (.bin .gtr (.t 8) (.c (.int .i64 40))), none⟩])
    (.cond (.t 9)
     (.ops [
       ⟨(some 10), (.fldA 1 (.t 1)), none⟩,
       ⟨(some 11), (.load1 (.t 10)), none⟩,
       ⟨(some 12), (.slice 7 (.t 11) none (some (.c (.int .i64 40)))), none⟩,
       ⟨(some 13), (.fldA 1 (.t 1)), none⟩,
       ⟨none, (.store 1 (.t 13) (.t 12)), none⟩])
     .skip))
   (.seq
    (.ops [
      ⟨(some 3), (.mov (.c .nsl)), none⟩])
    (.seq
     (.seq
      (.ops [
        ⟨(some 4), (.mov (.c (.int .i64 0))), none⟩])
      (.block 0
       (.loop
        (.seq
         (.seq
          (.ops [
            ⟨(some 14), (.mov (.t 4)), none⟩,
            ⟨(some 15), (.fldA 1 (.t 1)), none⟩,
            ⟨(some 16), (.load1 (.t 15)), none⟩,
            ⟨(some 17), (.len (.t 16)), none⟩,
            ⟨(some 18), (.bin .lss (.t 14) (.t 17)), none⟩])
          (.cond (.t 18)
           .skip
           (.exit 0)))
         (.seq
          (.block 1
           (.seq
            (.ops [
              ⟨(some 21), (.fldA 1 (.t 1)), none⟩,
              ⟨(some 22), (.load1 (.t 21)), none⟩,
              ⟨(some 23), (.mov (.t 4)), none⟩,
              ⟨(some 24), (.idxS 7 (.t 22) (.t 23)), none⟩,
              ⟨(some 25), (.loadN 7 (.t 24)), none⟩,
              ⟨(some 5), (.alloc [(.str []), (.int .i64 0), (.str []), (.str []), (.int .i64 0), (.int .i64 0), .nsl]), none⟩,
              ⟨none, (.store 7 (.t 5) (.t 25)), none⟩])
            (.seq
             (.seq
              (.ops [
                ⟨(some 26), (.fldA 6 (.t 5)), none⟩,
                ⟨(some 27), (.load1 (.t 26)), none⟩,
                ⟨(some 28), (.len (.t 27)), none⟩,
                ⟨(some 29), (.bin .gtr (.t 28) (.c (.int .i64 10))), none⟩])
              (.cond (.t 29)
               (.ops [
                 ⟨(some 30), (.fldA 6 (.t 5)), none⟩,
                 ⟨(some 31), (.load1 (.t 30)), none⟩,
                 ⟨(some 32), (.slice 1 (.t 31) none (some (.c (.int .i64 10)))), none⟩,
                 ⟨(some 33), (.fldA 6 (.t 5)), none⟩,
                 ⟨none, (.store 1 (.t 33) (.t 32)), none⟩])
               .skip))
             (.ops [
               ⟨(some 34), (.mov (.t 3)), none⟩,
               ⟨(some 35), (.loadN 7 (.t 5)), none⟩,
               ⟨(some 36), (.bslice 7 [(.str []), (.int .i64 0), (.str []), (.str []), (.int .i64 0), (.int .i64 0), .nsl] 1 [(0, (.t 35))]), none⟩,
               ⟨(some 37), (.append 7 96 (.t 34) (.t 36)), none⟩,
               ⟨(some 3), (.mov (.t 37)), none⟩]))))
          (.ops [
            ⟨(some 19), (.mov (.t 4)), none⟩,
            ⟨(some 20), (.bin .add (.t 19) (.c (.int .i64 1))), none⟩,
            ⟨(some 4), (.mov (.t 20)), none⟩]))))))
     (.seq
      (.ops [
        ⟨(some 38), (.mov (.t 3)), none⟩,
        ⟨(some 39), (.fldA 1 (.t 1)), none⟩,
        ⟨none, (.store 1 (.t 39) (.t 38)), none⟩])
      (.seq
       (.ops [
         ⟨(some 40), (.loadN 2 (.t 1)), none⟩,
         ⟨none, (.store 2 (.t 2) (.t 40)), none⟩])
       .ret))))))

section
variable {E : Env}
theorem xcut_norm {c : XC} {ρ : Rho} {L : List Blk} {K : XE → Rho → List Blk → Prop} (M : Rho → List Blk → Prop) (h1 : xrun E c ρ L (Norm M)) (h2 : ∀ ρ L, M ρ L → K .normal ρ L) : xrun E c ρ L K := by
  refine xrun_mono c (fun e ρ L h => ?_) h1
  cases e with
  | normal => exact h2 ρ L h
  | exit => exact h.elim
  | goto => exact h.elim
  | ret => exact h.elim
@[go_sem ↓] theorem norm_normal {M : Rho → List Blk → Prop} {ρ : Rho} {L : List Blk} : Norm M .normal ρ L = M ρ L := nr rfl
/-- One answer that lies in cells. -/
theorem xpureC {f : FuncId} {fn : Func} {t k n : Nat} {c : XC} {args : List IV} {r : IV} (hf : E.P.funcs[f]? = some fn) (hF : compFn E.P fn = some ⟨n, [.cellN t k], c⟩) (hnm : fn.name ≠ "runtime.NumGoroutine")
    (hargs : args.length ≤ fn.ntmps) (h : xrun E c (entry args) [] (doneK fun ρ L' => xop E ((XO.loadN k (.t t)).sub (Opd.ev ρ)) cev L' fun v _ => conv L' fuel renFreeze v = some r)) : XPure E f args r := by
  refine xpure_of_fun hf hF hnm hargs (xrun_mono _ (fun e ρ L h => ?_) h)
  have key : ∀ {ρ : Rho} {L : List Blk}, xop E ((XO.loadN k (.t t)).sub (Opd.ev ρ)) cev L (fun v _ => conv L fuel renFreeze v = some r) → xresults E [.cellN t k] ρ L fun r' => conv L fuel renFreeze r' = some r := fun h => by
    rw [← xop_sub] at h
    exact h
  cases e with
  | normal => exact ⟨Or.inr rfl, key h⟩
  | ret => exact ⟨Or.inl rfl, key h⟩
  | exit => exact h.elim
  | goto => exact h.elim

def NodeD.cut (n : NodeD) : NodeD := { n with after := n.after.take 10 }
def DefD.cut (d : DefD) : DefD := ⟨d.name, (d.nodes.take 40).map NodeD.cut⟩
theorem strRows_take (l : List (List UInt8)) (k : Nat) : (strRows l).take k = strRows (l.take k) := by simp [strRows, List.map_take]
theorem nodeRows_take (l : List NodeD) (k : Nat) : (nodeRows l).take k = nodeRows (l.take k) := by simp [nodeRows, List.map_take]

theorem get2' {a b x : Blk} {J : List Blk} : (a :: b :: (J ++ [x]))[J.length + 1 + 1]? = some x := by simp
theorem set2' {a b x y : Blk} {J : List Blk} : (a :: b :: (J ++ [x])).set (J.length + 1 + 1) y = a :: b :: (J ++ [y]) := by simp
theorem out_cell {sz : Nat} {p L : List Blk} {rows : List (List IV)} {v : IV} (h : OutOk sz p rows v L) : cellsOf v = [v] ∧ isCell v = true := by
  obtain ⟨J, _, ⟨_, rfl⟩ | ⟨s, _, rfl, _⟩⟩ := h <;> exact ⟨rfl, rfl⟩
theorem out_grow {sz : Nat} {p L : List Blk} {rows : List (List IV)} {v : IV} {b : Blk} (h : OutOk sz p rows v L) : OutOk sz p rows v (L ++ [b]) := by
  obtain ⟨J, rfl, h⟩ := h
  refine ⟨J ++ [b], by simp, ?_⟩
  rcases h with h | ⟨s, hs, h1, h2⟩
  · exact .inl h
  · exact .inr ⟨s, hs, h1, get_app h2⟩
theorem cut_pure (hP : E.P = Tryd.prog) (d : DefD) (hd : d.nodes.length ≤ 9223372036854775807) (ha : ∀ n ∈ d.nodes, n.after.length ≤ 9223372036854775807) : XPure E 12 [d.iv] d.cut.iv := by
  refine xpureC (n := Tryd.f12.ntmps) (c := x12) (t := 2) (k := 2) (by rw [hP]; rfl) (by rw [hP]; kernel_rfl) (by decide) (Nat.le_of_ble_eq_true rfl) ?_
  generalize hρ : entry _ = ρ
  have h0 : ρ 0 = .agg [.str d.name, .isl (nodeRows d.nodes)] := by rw [← hρ]; rfl
  clear hρ
  unfold x12
  simp only [h0, nodeRows_len, go_sem, Nat.reduceEqDiff, reduceIte, Bool.false_eq_true, Bool.not_true, Bool.not_false, Bool.and_true, Bool.true_and, Bool.or_false, Bool.false_or, Bool.and_false, Bool.false_and, Bool.or_true, Bool.true_or, true_and, and_true, eq_self, not_false_eq_true, List.map_cons, List.map_nil, List.nil_append, List.append_nil, decide_true, decide_false, Int.reduceEq, Int.reduceLT, Int.reduceLE, List.length_cons, List.length_nil, Nat.reduceAdd, Nat.reduceLT, Nat.reduceLeDiff, List.getD_cons_zero, List.getD_cons_succ, Int.cast_ofNat_Int, Int.reduceToNat, Int.reduceSub, Int.reduceAdd, Int.reduceNeg, Int.toNat_natCast, Int.natCast_nonneg, List.getElem?_cons_zero, List.getElem?_cons_succ, List.cons_append, List.set_cons_zero, List.set_cons_succ, List.take_zero, List.take_succ_cons, List.drop_zero, List.drop_succ_cons, List.drop_nil, List.take_nil, List.all_cons, List.all_nil, Nat.zero_add, Nat.zero_lt_one, Nat.le_refl]
  refine xcut_norm (fun ρ' L' => ρ' 1 = .ptr 0 0 0 ∧ ρ' 2 = .ptr 1 0 0 ∧ L' = [.cells 2 [[.str d.name, .isl (nodeRows (d.nodes.take 40))]], .cells 2 [[.str [], .nsl]]]) ?_ ?_
  · refine s_cond (b := decide _) (by simp only [h0, go_sem, Nat.reduceEqDiff, reduceIte, Bool.false_eq_true, Bool.not_true, Bool.not_false, Bool.and_true, Bool.true_and, Bool.or_false, Bool.false_or, Bool.and_false, Bool.false_and, Bool.or_true, Bool.true_or, true_and, and_true, eq_self, not_false_eq_true, List.map_cons, List.map_nil, List.nil_append, List.append_nil, decide_true, decide_false, Int.reduceEq, Int.reduceLT, Int.reduceLE, List.length_cons, List.length_nil, Nat.reduceAdd, Nat.reduceLT, Nat.reduceLeDiff, List.getD_cons_zero, List.getD_cons_succ, Int.cast_ofNat_Int, Int.reduceToNat, Int.reduceSub, Int.reduceAdd, Int.reduceNeg, Int.toNat_natCast, Int.natCast_nonneg, List.getElem?_cons_zero, List.getElem?_cons_succ, List.cons_append, List.set_cons_zero, List.set_cons_succ, List.take_zero, List.take_succ_cons, List.drop_zero, List.drop_succ_cons, List.drop_nil, List.take_nil, List.all_cons, List.all_nil, Nat.zero_add, Nat.zero_lt_one, Nat.le_refl]; try rfl) ?_ ?_ <;> intro hb <;> simp only [hb, h0, go_sem, Nat.reduceEqDiff, reduceIte, Bool.false_eq_true, Bool.not_true, Bool.not_false, Bool.and_true, Bool.true_and, Bool.or_false, Bool.false_or, Bool.and_false, Bool.false_and, Bool.or_true, Bool.true_or, true_and, and_true, eq_self, not_false_eq_true, List.map_cons, List.map_nil, List.nil_append, List.append_nil, decide_true, decide_false, Int.reduceEq, Int.reduceLT, Int.reduceLE, List.length_cons, List.length_nil, Nat.reduceAdd, Nat.reduceLT, Nat.reduceLeDiff, List.getD_cons_zero, List.getD_cons_succ, Int.cast_ofNat_Int, Int.reduceToNat, Int.reduceSub, Int.reduceAdd, Int.reduceNeg, Int.toNat_natCast, Int.natCast_nonneg, List.getElem?_cons_zero, List.getElem?_cons_succ, List.cons_append, List.set_cons_zero, List.set_cons_succ, List.take_zero, List.take_succ_cons, List.drop_zero, List.drop_succ_cons, List.drop_nil, List.take_nil, List.all_cons, List.all_nil, Nat.zero_add, Nat.zero_lt_one, Nat.le_refl]
    · rw [decide_eq_true_eq] at hb
      simp only [h0, nodeRows_len, rows_nodes, nodeRows_take, go_sem, Nat.reduceEqDiff, reduceIte, Bool.false_eq_true, Bool.not_true, Bool.not_false, Bool.and_true, Bool.true_and, Bool.or_false, Bool.false_or, Bool.and_false, Bool.false_and, Bool.or_true, Bool.true_or, true_and, and_true, eq_self, not_false_eq_true, List.map_cons, List.map_nil, List.nil_append, List.append_nil, decide_true, decide_false, Int.reduceEq, Int.reduceLT, Int.reduceLE, List.length_cons, List.length_nil, Nat.reduceAdd, Nat.reduceLT, Nat.reduceLeDiff, List.getD_cons_zero, List.getD_cons_succ, Int.cast_ofNat_Int, Int.reduceToNat, Int.reduceSub, Int.reduceAdd, Int.reduceNeg, Int.toNat_natCast, Int.natCast_nonneg, List.getElem?_cons_zero, List.getElem?_cons_succ, List.cons_append, List.set_cons_zero, List.set_cons_succ, List.take_zero, List.take_succ_cons, List.drop_zero, List.drop_succ_cons, List.drop_nil, List.take_nil, List.all_cons, List.all_nil, Nat.zero_add, Nat.zero_lt_one, Nat.le_refl]
      omega
    · rw [decide_eq_false_iff_not] at hb
      have : d.nodes.take 40 = d.nodes := List.take_of_length_le (by omega)
      simp only [h0, this, go_sem, Nat.reduceEqDiff, reduceIte, Bool.false_eq_true, Bool.not_true, Bool.not_false, Bool.and_true, Bool.true_and, Bool.or_false, Bool.false_or, Bool.and_false, Bool.false_and, Bool.or_true, Bool.true_or, true_and, and_true, eq_self, not_false_eq_true, List.map_cons, List.map_nil, List.nil_append, List.append_nil, decide_true, decide_false, Int.reduceEq, Int.reduceLT, Int.reduceLE, List.length_cons, List.length_nil, Nat.reduceAdd, Nat.reduceLT, Nat.reduceLeDiff, List.getD_cons_zero, List.getD_cons_succ, Int.cast_ofNat_Int, Int.reduceToNat, Int.reduceSub, Int.reduceAdd, Int.reduceNeg, Int.toNat_natCast, Int.natCast_nonneg, List.getElem?_cons_zero, List.getElem?_cons_succ, List.cons_append, List.set_cons_zero, List.set_cons_succ, List.take_zero, List.take_succ_cons, List.drop_zero, List.drop_succ_cons, List.drop_nil, List.take_nil, List.all_cons, List.all_nil, Nat.zero_add, Nat.zero_lt_one, Nat.le_refl]
  clear h0 ρ
  rintro ρ L ⟨h1, h2, rfl⟩
  have ha' : ∀ n ∈ d.nodes.take 40, n.after.length ≤ 9223372036854775807 := fun n hn => ha n (List.mem_of_mem_take hn)
  have hn40 : (d.nodes.take 40).length ≤ 40 := List.length_take_le ..
  have hcut : d.cut = ⟨d.name, (d.nodes.take 40).map NodeD.cut⟩ := rfl
  rw [hcut]
  generalize d.nodes.take 40 = ns at *
  simp only [h1, h2, go_sem, Nat.reduceEqDiff, reduceIte, Bool.false_eq_true, Bool.not_true, Bool.not_false, Bool.and_true, Bool.true_and, Bool.or_false, Bool.false_or, Bool.and_false, Bool.false_and, Bool.or_true, Bool.true_or, true_and, and_true, eq_self, not_false_eq_true, List.map_cons, List.map_nil, List.nil_append, List.append_nil, decide_true, decide_false, Int.reduceEq, Int.reduceLT, Int.reduceLE, List.length_cons, List.length_nil, Nat.reduceAdd, Nat.reduceLT, Nat.reduceLeDiff, List.getD_cons_zero, List.getD_cons_succ, Int.cast_ofNat_Int, Int.reduceToNat, Int.reduceSub, Int.reduceAdd, Int.reduceNeg, Int.toNat_natCast, Int.natCast_nonneg, List.getElem?_cons_zero, List.getElem?_cons_succ, List.cons_append, List.set_cons_zero, List.set_cons_succ, List.take_zero, List.take_succ_cons, List.drop_zero, List.drop_succ_cons, List.drop_nil, List.take_nil, List.all_cons, List.all_nil, Nat.zero_add, Nat.zero_lt_one, Nat.le_refl]
  refine s_loop (fun n' ρ L => ∃ i : Nat, i ≤ ns.length ∧ n' = ns.length - i ∧ OutOk 7 [.cells 2 [[.str d.name, .isl (nodeRows ns)]], .cells 2 [[.str [], .nsl]]] (nodeRows ((ns.take i).map NodeD.cut)) (ρ 3) L ∧
      ρ 1 = .ptr 0 0 0 ∧ ρ 2 = .ptr 1 0 0 ∧ ρ 4 = .int .i64 i)
    ⟨0, Nat.zero_le _, rfl, ?_, by simp only [h1, go_sem, Nat.reduceEqDiff, reduceIte, Bool.false_eq_true, Bool.not_true, Bool.not_false, Bool.and_true, Bool.true_and, Bool.or_false, Bool.false_or, Bool.and_false, Bool.false_and, Bool.or_true, Bool.true_or, true_and, and_true, eq_self, not_false_eq_true, List.map_cons, List.map_nil, List.nil_append, List.append_nil, decide_true, decide_false, Int.reduceEq, Int.reduceLT, Int.reduceLE, List.length_cons, List.length_nil, Nat.reduceAdd, Nat.reduceLT, Nat.reduceLeDiff, List.getD_cons_zero, List.getD_cons_succ, Int.cast_ofNat_Int, Int.reduceToNat, Int.reduceSub, Int.reduceAdd, Int.reduceNeg, Int.toNat_natCast, Int.natCast_nonneg, List.getElem?_cons_zero, List.getElem?_cons_succ, List.cons_append, List.set_cons_zero, List.set_cons_succ, List.take_zero, List.take_succ_cons, List.drop_zero, List.drop_succ_cons, List.drop_nil, List.take_nil, List.all_cons, List.all_nil, Nat.zero_add, Nat.zero_lt_one, Nat.le_refl], by simp only [h2, go_sem, Nat.reduceEqDiff, reduceIte, Bool.false_eq_true, Bool.not_true, Bool.not_false, Bool.and_true, Bool.true_and, Bool.or_false, Bool.false_or, Bool.and_false, Bool.false_and, Bool.or_true, Bool.true_or, true_and, and_true, eq_self, not_false_eq_true, List.map_cons, List.map_nil, List.nil_append, List.append_nil, decide_true, decide_false, Int.reduceEq, Int.reduceLT, Int.reduceLE, List.length_cons, List.length_nil, Nat.reduceAdd, Nat.reduceLT, Nat.reduceLeDiff, List.getD_cons_zero, List.getD_cons_succ, Int.cast_ofNat_Int, Int.reduceToNat, Int.reduceSub, Int.reduceAdd, Int.reduceNeg, Int.toNat_natCast, Int.natCast_nonneg, List.getElem?_cons_zero, List.getElem?_cons_succ, List.cons_append, List.set_cons_zero, List.set_cons_succ, List.take_zero, List.take_succ_cons, List.drop_zero, List.drop_succ_cons, List.drop_nil, List.take_nil, List.all_cons, List.all_nil, Nat.zero_add, Nat.zero_lt_one, Nat.le_refl], by simp only [go_sem, Nat.reduceEqDiff, reduceIte, Bool.false_eq_true, Bool.not_true, Bool.not_false, Bool.and_true, Bool.true_and, Bool.or_false, Bool.false_or, Bool.and_false, Bool.false_and, Bool.or_true, Bool.true_or, true_and, and_true, eq_self, not_false_eq_true, List.map_cons, List.map_nil, List.nil_append, List.append_nil, decide_true, decide_false, Int.reduceEq, Int.reduceLT, Int.reduceLE, List.length_cons, List.length_nil, Nat.reduceAdd, Nat.reduceLT, Nat.reduceLeDiff, List.getD_cons_zero, List.getD_cons_succ, Int.cast_ofNat_Int, Int.reduceToNat, Int.reduceSub, Int.reduceAdd, Int.reduceNeg, Int.toNat_natCast, Int.natCast_nonneg, List.getElem?_cons_zero, List.getElem?_cons_succ, List.cons_append, List.set_cons_zero, List.set_cons_succ, List.take_zero, List.take_succ_cons, List.drop_zero, List.drop_succ_cons, List.drop_nil, List.take_nil, List.all_cons, List.all_nil, Nat.zero_add, Nat.zero_lt_one, Nat.le_refl]; try rfl⟩ ?_
  · try simp only [go_sem, Nat.reduceEqDiff, reduceIte, Bool.false_eq_true, Bool.not_true, Bool.not_false, Bool.and_true, Bool.true_and, Bool.or_false, Bool.false_or, Bool.and_false, Bool.false_and, Bool.or_true, Bool.true_or, true_and, and_true, eq_self, not_false_eq_true, List.map_cons, List.map_nil, List.nil_append, List.append_nil, decide_true, decide_false, Int.reduceEq, Int.reduceLT, Int.reduceLE, List.length_cons, List.length_nil, Nat.reduceAdd, Nat.reduceLT, Nat.reduceLeDiff, List.getD_cons_zero, List.getD_cons_succ, Int.cast_ofNat_Int, Int.reduceToNat, Int.reduceSub, Int.reduceAdd, Int.reduceNeg, Int.toNat_natCast, Int.natCast_nonneg, List.getElem?_cons_zero, List.getElem?_cons_succ, List.cons_append, List.set_cons_zero, List.set_cons_succ, List.take_zero, List.take_succ_cons, List.drop_zero, List.drop_succ_cons, List.drop_nil, List.take_nil, List.all_cons, List.all_nil, Nat.zero_add, Nat.zero_lt_one, Nat.le_refl]
    exact out_nil (p := [.cells 2 [[.str d.name, .isl (nodeRows ns)]], .cells 2 [[.str [], .nsl]]]) (J := [])
  clear h1 h2 ρ
  rintro n' ρ L ⟨i, hi, rfl, hO, h1, h2, h4⟩
  generalize h3 : ρ 3 = v at hO
  have hOut := hO
  obtain ⟨J, rfl, hJ⟩ := hO
  simp only [h1, h2, h3, h4, nodeRows_len, go_sem, Nat.reduceEqDiff, reduceIte, Bool.false_eq_true, Bool.not_true, Bool.not_false, Bool.and_true, Bool.true_and, Bool.or_false, Bool.false_or, Bool.and_false, Bool.false_and, Bool.or_true, Bool.true_or, true_and, and_true, eq_self, not_false_eq_true, List.map_cons, List.map_nil, List.nil_append, List.append_nil, decide_true, decide_false, Int.reduceEq, Int.reduceLT, Int.reduceLE, List.length_cons, List.length_nil, Nat.reduceAdd, Nat.reduceLT, Nat.reduceLeDiff, List.getD_cons_zero, List.getD_cons_succ, Int.cast_ofNat_Int, Int.reduceToNat, Int.reduceSub, Int.reduceAdd, Int.reduceNeg, Int.toNat_natCast, Int.natCast_nonneg, List.getElem?_cons_zero, List.getElem?_cons_succ, List.cons_append, List.set_cons_zero, List.set_cons_succ, List.take_zero, List.take_succ_cons, List.drop_zero, List.drop_succ_cons, List.drop_nil, List.take_nil, List.all_cons, List.all_nil, Nat.zero_add, Nat.zero_lt_one, Nat.le_refl]
  refine s_cond (b := decide _) (by simp only [h1, h2, h3, h4, go_sem, Nat.reduceEqDiff, reduceIte, Bool.false_eq_true, Bool.not_true, Bool.not_false, Bool.and_true, Bool.true_and, Bool.or_false, Bool.false_or, Bool.and_false, Bool.false_and, Bool.or_true, Bool.true_or, true_and, and_true, eq_self, not_false_eq_true, List.map_cons, List.map_nil, List.nil_append, List.append_nil, decide_true, decide_false, Int.reduceEq, Int.reduceLT, Int.reduceLE, List.length_cons, List.length_nil, Nat.reduceAdd, Nat.reduceLT, Nat.reduceLeDiff, List.getD_cons_zero, List.getD_cons_succ, Int.cast_ofNat_Int, Int.reduceToNat, Int.reduceSub, Int.reduceAdd, Int.reduceNeg, Int.toNat_natCast, Int.natCast_nonneg, List.getElem?_cons_zero, List.getElem?_cons_succ, List.cons_append, List.set_cons_zero, List.set_cons_succ, List.take_zero, List.take_succ_cons, List.drop_zero, List.drop_succ_cons, List.drop_nil, List.take_nil, List.all_cons, List.all_nil, Nat.zero_add, Nat.zero_lt_one, Nat.le_refl]; try rfl) ?_ ?_ <;> intro hb <;> simp only [hb, h1, h2, h3, h4, go_sem, Nat.reduceEqDiff, reduceIte, Bool.false_eq_true, Bool.not_true, Bool.not_false, Bool.and_true, Bool.true_and, Bool.or_false, Bool.false_or, Bool.and_false, Bool.false_and, Bool.or_true, Bool.true_or, true_and, and_true, eq_self, not_false_eq_true, List.map_cons, List.map_nil, List.nil_append, List.append_nil, decide_true, decide_false, Int.reduceEq, Int.reduceLT, Int.reduceLE, List.length_cons, List.length_nil, Nat.reduceAdd, Nat.reduceLT, Nat.reduceLeDiff, List.getD_cons_zero, List.getD_cons_succ, Int.cast_ofNat_Int, Int.reduceToNat, Int.reduceSub, Int.reduceAdd, Int.reduceNeg, Int.toNat_natCast, Int.natCast_nonneg, List.getElem?_cons_zero, List.getElem?_cons_succ, List.cons_append, List.set_cons_zero, List.set_cons_succ, List.take_zero, List.take_succ_cons, List.drop_zero, List.drop_succ_cons, List.drop_nil, List.take_nil, List.all_cons, List.all_nil, Nat.zero_add, Nat.zero_lt_one, Nat.le_refl]
  · rw [decide_eq_true_eq] at hb
    have hi' : i < ns.length := by omega
    have hrow := nodeRows_get hi'
    have hmem : ns.getD i default ∈ ns := by rw [List.getD_eq_getElem?_getD, List.getElem?_eq_getElem hi']; exact List.getElem_mem _
    have haf := ha' _ hmem
    have htk : (ns.take (i + 1)).map NodeD.cut = (ns.take i).map NodeD.cut ++ [(ns.getD i default).cut] := by
      rw [List.take_add_one, getD_get (d := default) hi']; simp
    generalize ns.getD i default = nd at *
    simp only [h1, h2, h3, h4, nodeRows_len, rows_nodes, hrow, NodeD.row, get2', set2', strRows_len, go_sem, Nat.reduceEqDiff, reduceIte, Bool.false_eq_true, Bool.not_true, Bool.not_false, Bool.and_true, Bool.true_and, Bool.or_false, Bool.false_or, Bool.and_false, Bool.false_and, Bool.or_true, Bool.true_or, true_and, and_true, eq_self, not_false_eq_true, List.map_cons, List.map_nil, List.nil_append, List.append_nil, decide_true, decide_false, Int.reduceEq, Int.reduceLT, Int.reduceLE, List.length_cons, List.length_nil, Nat.reduceAdd, Nat.reduceLT, Nat.reduceLeDiff, List.getD_cons_zero, List.getD_cons_succ, Int.cast_ofNat_Int, Int.reduceToNat, Int.reduceSub, Int.reduceAdd, Int.reduceNeg, Int.toNat_natCast, Int.natCast_nonneg, List.getElem?_cons_zero, List.getElem?_cons_succ, List.cons_append, List.set_cons_zero, List.set_cons_succ, List.take_zero, List.take_succ_cons, List.drop_zero, List.drop_succ_cons, List.drop_nil, List.take_nil, List.all_cons, List.all_nil, Nat.zero_add, Nat.zero_lt_one, Nat.le_refl]
    refine ⟨by omega, hi', ?_⟩
    refine xcut_norm (fun ρ' L' => ρ' 1 = .ptr 0 0 0 ∧ ρ' 2 = .ptr 1 0 0 ∧ ρ' 3 = v ∧ ρ' 4 = .int .i64 i ∧ ρ' 5 = .ptr (J.length + 1 + 1) 0 0 ∧
      L' = .cells 2 [[.str d.name, .isl (nodeRows ns)]] :: .cells 2 [[.str [], .nsl]] :: (J ++ [.cells 7 [nd.cut.row]])) ?_ ?_
    · refine s_cond (b := decide _) (by simp only [h1, h2, h3, h4, go_sem, Nat.reduceEqDiff, reduceIte, Bool.false_eq_true, Bool.not_true, Bool.not_false, Bool.and_true, Bool.true_and, Bool.or_false, Bool.false_or, Bool.and_false, Bool.false_and, Bool.or_true, Bool.true_or, true_and, and_true, eq_self, not_false_eq_true, List.map_cons, List.map_nil, List.nil_append, List.append_nil, decide_true, decide_false, Int.reduceEq, Int.reduceLT, Int.reduceLE, List.length_cons, List.length_nil, Nat.reduceAdd, Nat.reduceLT, Nat.reduceLeDiff, List.getD_cons_zero, List.getD_cons_succ, Int.cast_ofNat_Int, Int.reduceToNat, Int.reduceSub, Int.reduceAdd, Int.reduceNeg, Int.toNat_natCast, Int.natCast_nonneg, List.getElem?_cons_zero, List.getElem?_cons_succ, List.cons_append, List.set_cons_zero, List.set_cons_succ, List.take_zero, List.take_succ_cons, List.drop_zero, List.drop_succ_cons, List.drop_nil, List.take_nil, List.all_cons, List.all_nil, Nat.zero_add, Nat.zero_lt_one, Nat.le_refl]; try rfl) ?_ ?_ <;> intro hc <;> simp only [hc, h1, h2, h3, h4, go_sem, Nat.reduceEqDiff, reduceIte, Bool.false_eq_true, Bool.not_true, Bool.not_false, Bool.and_true, Bool.true_and, Bool.or_false, Bool.false_or, Bool.and_false, Bool.false_and, Bool.or_true, Bool.true_or, true_and, and_true, eq_self, not_false_eq_true, List.map_cons, List.map_nil, List.nil_append, List.append_nil, decide_true, decide_false, Int.reduceEq, Int.reduceLT, Int.reduceLE, List.length_cons, List.length_nil, Nat.reduceAdd, Nat.reduceLT, Nat.reduceLeDiff, List.getD_cons_zero, List.getD_cons_succ, Int.cast_ofNat_Int, Int.reduceToNat, Int.reduceSub, Int.reduceAdd, Int.reduceNeg, Int.toNat_natCast, Int.natCast_nonneg, List.getElem?_cons_zero, List.getElem?_cons_succ, List.cons_append, List.set_cons_zero, List.set_cons_succ, List.take_zero, List.take_succ_cons, List.drop_zero, List.drop_succ_cons, List.drop_nil, List.take_nil, List.all_cons, List.all_nil, Nat.zero_add, Nat.zero_lt_one, Nat.le_refl]
      · rw [decide_eq_true_eq] at hc
        simp only [h1, h2, h3, h4, get2', set2', rows_strs, strRows_len, strRows_take, go_sem, Nat.reduceEqDiff, reduceIte, Bool.false_eq_true, Bool.not_true, Bool.not_false, Bool.and_true, Bool.true_and, Bool.or_false, Bool.false_or, Bool.and_false, Bool.false_and, Bool.or_true, Bool.true_or, true_and, and_true, eq_self, not_false_eq_true, List.map_cons, List.map_nil, List.nil_append, List.append_nil, decide_true, decide_false, Int.reduceEq, Int.reduceLT, Int.reduceLE, List.length_cons, List.length_nil, Nat.reduceAdd, Nat.reduceLT, Nat.reduceLeDiff, List.getD_cons_zero, List.getD_cons_succ, Int.cast_ofNat_Int, Int.reduceToNat, Int.reduceSub, Int.reduceAdd, Int.reduceNeg, Int.toNat_natCast, Int.natCast_nonneg, List.getElem?_cons_zero, List.getElem?_cons_succ, List.cons_append, List.set_cons_zero, List.set_cons_succ, List.take_zero, List.take_succ_cons, List.drop_zero, List.drop_succ_cons, List.drop_nil, List.take_nil, List.all_cons, List.all_nil, Nat.zero_add, Nat.zero_lt_one, Nat.le_refl]
        refine ⟨by omega, ?_⟩
        rfl
      · rw [decide_eq_false_iff_not] at hc
        have hcut : nd.cut = nd := by
          obtain ⟨_, _, _, _, _, _, af⟩ := nd
          simp only [NodeD.cut]
          rw [List.take_of_length_le (by simp only at hc; omega)]
        simp only [h1, h2, h3, h4, hcut, NodeD.row, go_sem, Nat.reduceEqDiff, reduceIte, Bool.false_eq_true, Bool.not_true, Bool.not_false, Bool.and_true, Bool.true_and, Bool.or_false, Bool.false_or, Bool.and_false, Bool.false_and, Bool.or_true, Bool.true_or, true_and, and_true, eq_self, not_false_eq_true, List.map_cons, List.map_nil, List.nil_append, List.append_nil, decide_true, decide_false, Int.reduceEq, Int.reduceLT, Int.reduceLE, List.length_cons, List.length_nil, Nat.reduceAdd, Nat.reduceLT, Nat.reduceLeDiff, List.getD_cons_zero, List.getD_cons_succ, Int.cast_ofNat_Int, Int.reduceToNat, Int.reduceSub, Int.reduceAdd, Int.reduceNeg, Int.toNat_natCast, Int.natCast_nonneg, List.getElem?_cons_zero, List.getElem?_cons_succ, List.cons_append, List.set_cons_zero, List.set_cons_succ, List.take_zero, List.take_succ_cons, List.drop_zero, List.drop_succ_cons, List.drop_nil, List.take_nil, List.all_cons, List.all_nil, Nat.zero_add, Nat.zero_lt_one, Nat.le_refl]
    · clear h1 h2 h3 h4 ρ
      rintro ρ L ⟨h1, h2, h3, h4, h5, rfl⟩
      simp only [h1, h2, h3, h4, h5, get2', set2', NodeD.row, go_sem, Nat.reduceEqDiff, reduceIte, Bool.false_eq_true, Bool.not_true, Bool.not_false, Bool.and_true, Bool.true_and, Bool.or_false, Bool.false_or, Bool.and_false, Bool.false_and, Bool.or_true, Bool.true_or, true_and, and_true, eq_self, not_false_eq_true, List.map_cons, List.map_nil, List.nil_append, List.append_nil, decide_true, decide_false, Int.reduceEq, Int.reduceLT, Int.reduceLE, List.length_cons, List.length_nil, Nat.reduceAdd, Nat.reduceLT, Nat.reduceLeDiff, List.getD_cons_zero, List.getD_cons_succ, Int.cast_ofNat_Int, Int.reduceToNat, Int.reduceSub, Int.reduceAdd, Int.reduceNeg, Int.toNat_natCast, Int.natCast_nonneg, List.getElem?_cons_zero, List.getElem?_cons_succ, List.cons_append, List.set_cons_zero, List.set_cons_succ, List.take_zero, List.take_succ_cons, List.drop_zero, List.drop_succ_cons, List.drop_nil, List.take_nil, List.all_cons, List.all_nil, Nat.zero_add, Nat.zero_lt_one, Nat.le_refl]
      have hgo : OutOk 7 [.cells 2 [[.str d.name, .isl (nodeRows ns)]], .cells 2 [[.str [], .nsl]]] (nodeRows ((ns.take i).map NodeD.cut)) v (.cells 2 [[.str d.name, .isl (nodeRows ns)]] :: .cells 2 [[.str [], .nsl]] :: (J ++ [.cells 7 [nd.cut.row]])) := out_grow hOut
      refine out_append (row := nd.cut.row) hgo rfl rfl ⟨rfl, rfl⟩ (by rw [nodeRows_len, List.length_map, List.length_take]; omega) ?_
      intro v' L' hO'
      refine ⟨ns.length - (i + 1), by omega, i + 1, by omega, rfl, ?_, by rw [wrap64 (by omega) (by omega)]; rfl⟩
      have hr : nodeRows ((ns.take (i + 1)).map NodeD.cut) = nodeRows ((ns.take i).map NodeD.cut) ++ [nd.cut.row] := by rw [htk]; simp [nodeRows]
      rw [hr]; exact hO'
  · rw [decide_eq_false_iff_not] at hb
    have hii : i = ns.length := by omega
    obtain ⟨hc1, hc2⟩ := out_cell hOut
    simp only [h1, h2, h3, h4, hc1, hc2, go_sem, Nat.reduceEqDiff, reduceIte, Bool.false_eq_true, Bool.not_true, Bool.not_false, Bool.and_true, Bool.true_and, Bool.or_false, Bool.false_or, Bool.and_false, Bool.false_and, Bool.or_true, Bool.true_or, true_and, and_true, eq_self, not_false_eq_true, List.map_cons, List.map_nil, List.nil_append, List.append_nil, decide_true, decide_false, Int.reduceEq, Int.reduceLT, Int.reduceLE, List.length_cons, List.length_nil, Nat.reduceAdd, Nat.reduceLT, Nat.reduceLeDiff, List.getD_cons_zero, List.getD_cons_succ, Int.cast_ofNat_Int, Int.reduceToNat, Int.reduceSub, Int.reduceAdd, Int.reduceNeg, Int.toNat_natCast, Int.natCast_nonneg, List.getElem?_cons_zero, List.getElem?_cons_succ, List.cons_append, List.set_cons_zero, List.set_cons_succ, List.take_zero, List.take_succ_cons, List.drop_zero, List.drop_succ_cons, List.drop_nil, List.take_nil, List.all_cons, List.all_nil, Nat.zero_add, Nat.zero_lt_one, Nat.le_refl]
    have hO2 : OutOk 7 [.cells 2 [[.str d.name, v]], .cells 2 [[.str d.name, v]]] (nodeRows (ns.map NodeD.cut)) v (.cells 2 [[.str d.name, v]] :: .cells 2 [[.str d.name, v]] :: J) := by
      refine ⟨J, rfl, ?_⟩
      rw [hii, List.take_length] at hJ
      rcases hJ with h | ⟨s, hs, h1, h2⟩
      · exact .inl h
      · refine .inr ⟨s, hs, h1, ?_⟩
        have hs' : 2 ≤ s := hs
        obtain ⟨s', rfl⟩ : ∃ s', s = s' + 2 := ⟨s - 2, by omega⟩
        exact h2
    exact conv_agg (mapO_cons rfl (mapO_cons (out_conv hO2 (mapO_nodes _ _ _ _)) rfl))
end
end Go.X.TrydW

