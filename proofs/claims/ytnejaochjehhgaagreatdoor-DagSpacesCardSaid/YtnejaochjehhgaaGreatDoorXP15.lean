/- Parts of the proof: XzValid, Xztext, Xzrtext, Xztrim, Xzcont, Xznode, Xzparse. -/
import Derived.Test.YtnejaochjehhgaaGreatDoorXP14
import Derived.Lib.ItoaLen
set_option linter.unusedVariables false
set_option linter.unusedSimpArgs false
set_option linter.unusedSectionVars false
section
/- What a definition that is taken is like; how long its text is. -/
namespace Go.X.TryzW
open Go Go.X
set_option maxRecDepth 100000

structure NodeOk (n : NodeD) : Prop where
  name : namedS n.name false 64 = true
  kind : 1 ≤ n.kind ∧ n.kind ≤ 5
  delay : 0 ≤ n.delay ∧ n.delay ≤ 1000000
  delay0 : n.kind ≠ 1 → n.kind ≠ 2 → n.delay = 0
  tries : n.kind = 1 → 1 ≤ n.tries ∧ n.tries ≤ 10
  tries0 : n.kind ≠ 1 → n.tries = 0
  arg2 : n.kind = 2 → n.arg = []
  arg : n.kind ≠ 2 → namedS n.arg false 64 = true
  to5 : n.kind = 5 → namedS n.to true 256 = true
  to0 : n.kind ≠ 5 → n.to = []
  after : ∀ s ∈ n.after, namedS s false 64 = true

theorem get_mem' {d : DefD} {n : NodeD} (h : n ∈ d.nodes) : ∃ i, i < d.nodes.length ∧ d.nodes.getD i default = n := by
  obtain ⟨i, hi, rfl⟩ := List.getElem_of_mem h
  exact ⟨i, hi, by rw [List.getD_eq_getElem?_getD, List.getElem?_eq_getElem hi]; rfl⟩

theorem nodeE_0 {d : DefD} {i : Nat} (h : d.nodeE i = 0) : d.namedE i = 0 ∧ fitsB (d.nodes.getD i default) = true := by
  unfold DefD.nodeE at h
  split at h
  · rename_i h1
    split at h
    · rename_i h2; exact ⟨h1, h2⟩
    · cases h
  · rename_i h1; exact absurd h h1

theorem namedE_0 {d : DefD} {i : Nat} (h : d.namedE i = 0) : namedS (d.nodes.getD i default).name false 64 = true ∧ ((d.nodes.getD i default).kind ≠ 2 → namedS (d.nodes.getD i default).arg false 64 = true) ∧ ((d.nodes.getD i default).kind = 5 → namedS (d.nodes.getD i default).to true 256 = true) := by
  unfold DefD.namedE at h
  generalize d.nodes.getD i default = n at *
  simp only at h
  split at h
  · cases h
  · rename_i hc
    simp only [Bool.or_eq_true, Bool.and_eq_true, Bool.not_eq_true', decide_eq_false_iff_not, decide_eq_true_eq, not_or, not_and, Bool.not_eq_false] at hc
    exact ⟨hc.1.1, hc.1.2, hc.2⟩

theorem node_ok {d : DefD} (h : d.check.2 = 0) {n : NodeD} (hn : n ∈ d.nodes) : NodeOk n := by
  obtain ⟨_, _, _, _, _, hall⟩ := check_ok h
  obtain ⟨i, hi, rfl⟩ := get_mem' hn
  obtain ⟨h1, h2⟩ := hall i hi
  obtain ⟨h3, h4⟩ := nodeE_0 h1
  obtain ⟨h5, h6, h7⟩ := namedE_0 h3
  have h8 := depE_0.1 h2
  have haf : ∀ s ∈ (d.nodes.getD i default).after, namedS s false 64 = true := by
    intro s hs
    have := h8.1 s hs
    obtain ⟨k, hk⟩ := Option.isSome_iff_exists.1 this
    have hkl : k < d.nodes.length := firstI_lt hk
    have hnm : (d.nodes.getD k default).name = s := by
      have key : ∀ (l : List NodeD) (k : Nat), firstI (fun n : NodeD => decide (n.name = s)) l = some k → (l.getD k default).name = s := by
        intro l
        induction l with
        | nil => intro k hk; cases hk
        | cons a l ih =>
          intro k hk
          simp only [firstI] at hk
          split at hk
          · rename_i ha; cases hk; simpa using ha
          · rw [Option.map_eq_some_iff] at hk
            obtain ⟨j, hj, rfl⟩ := hk
            exact ih j hj
      exact key _ _ hk
    rw [← hnm]
    exact (namedE_0 (nodeE_0 (hall k hkl).1).1).1
  generalize d.nodes.getD i default = n at *
  rw [fits_bad, Bool.not_eq_true'] at h4
  unfold badB at h4
  simp only [Bool.or_eq_false_iff] at h4
  obtain ⟨⟨⟨⟨⟨⟨a1, a2⟩, a3⟩, b1⟩, b2⟩, c1⟩, c2⟩ := h4
  unfold badA1 at a1; unfold badA2 at a2; unfold badA3 at a3; unfold badB1 at b1; unfold badB2 at b2; unfold badC1 at c1; unfold badC2 at c2
  simp only [Bool.or_eq_false_iff, Bool.and_eq_false_iff, decide_eq_false_iff_not, Bool.not_eq_false', decide_eq_true_eq] at a1 a2 a3 b1 b2 c1 c2
  exact {
    name := h5
    kind := by omega
    delay := by omega
    delay0 := by omega
    tries := by omega
    tries0 := by omega
    arg2 := fun h => by rcases c1 with c1 | c1; exact absurd h c1; exact c1
    arg := h6
    to5 := h7
    to0 := fun h => by rcases c2 with c2 | c2; exact absurd c2 h; exact c2
    after := haf }

theorem named_len {s : List UInt8} {b : Bool} {m : Int} (h : namedS s b m = true) : 1 ≤ s.length ∧ (s.length : Int) ≤ m := by
  unfold namedS at h
  simp only [Bool.and_eq_true, decide_eq_true_eq] at h
  omega

theorem join_len : ∀ (ws : List (List UInt8)) (m : Nat), (∀ w ∈ ws, w.length ≤ m) → (Lib.join ws [32]).length ≤ (m + 1) * ws.length
  | [], _, _ => by simp [Lib.join, List.intercalate]
  | [w], m, h => by rw [Lib.join_one]; have := h w List.mem_cons_self; simp; omega
  | w :: v :: r, m, h => by
    have ih := join_len (v :: r) m fun x hx => h x (List.mem_cons_of_mem _ hx)
    have h1 := h w List.mem_cons_self
    have e : Lib.join (w :: v :: r) [32] = w ++ ([32] ++ Lib.join (v :: r) [32]) := by
      rw [Lib.join_cons, Lib.join_cons]; simp [Lib.joinTail]
    rw [e]
    simp only [List.length_append, List.length_cons, List.length_nil] at ih ⊢
    rw [Nat.mul_add] at ih ⊢
    rw [Nat.mul_add] at ⊢
    omega

theorem itoa_len {n : Int} (h0 : 0 ≤ n) (h1 : n ≤ 1000000) : (Lib.itoa n).length ≤ 21 := Lib.itoa_length_le n (by omega) (by omega)

theorem words_len {n : NodeD} (h : NodeOk n) : n.words.length ≤ 9 + n.after.length ∧ ∀ w ∈ n.words, w.length ≤ 256 := by
  have h1 : n.w1.length ≤ 2 ∧ ∀ w ∈ n.w1, w.length ≤ 256 := by
    unfold NodeD.w1
    split
    · refine ⟨by simp, fun w hw => ?_⟩
      rw [List.mem_singleton] at hw; subst hw
      have := itoa_len h.delay.1 h.delay.2; omega
    · rename_i hk2
      split
      · rename_i hk
        refine ⟨by simp, fun w hw => ?_⟩
        simp only [List.mem_cons, List.not_mem_nil, or_false] at hw
        rcases hw with rfl | rfl
        · have := (named_len (h.to5 hk)).2; omega
        · have := (named_len (h.arg hk2)).2; omega
      · refine ⟨by simp, fun w hw => ?_⟩
        rw [List.mem_singleton] at hw; subst hw
        have := (named_len (h.arg hk2)).2; omega
  have h2 : n.w2.length ≤ 2 ∧ ∀ w ∈ n.w2, w.length ≤ 256 := by
    unfold NodeD.w2
    split
    · rename_i hk
      refine ⟨by simp, fun w hw => ?_⟩
      simp only [List.mem_cons, List.not_mem_nil, or_false] at hw
      have ht := h.tries hk.1
      rcases hw with rfl | rfl
      · simp
      · have := itoa_len (n := n.tries) (by omega) (by omega); omega
    · exact ⟨by simp, fun w hw => by simp at hw⟩
  have h3 : n.w3.length ≤ 2 ∧ ∀ w ∈ n.w3, w.length ≤ 256 := by
    unfold NodeD.w3
    split
    · refine ⟨by simp, fun w hw => ?_⟩
      simp only [List.mem_cons, List.not_mem_nil, or_false] at hw
      rcases hw with rfl | rfl
      · simp
      · have := itoa_len h.delay.1 h.delay.2; omega
    · exact ⟨by simp, fun w hw => by simp at hw⟩
  have h4 : n.w4.length ≤ 1 + n.after.length ∧ ∀ w ∈ n.w4, w.length ≤ 256 := by
    unfold NodeD.w4
    split
    · exact ⟨by simp, fun w hw => by simp at hw⟩
    · refine ⟨by simp; omega, fun w hw => ?_⟩
      rcases List.mem_cons.1 hw with rfl | hw
      · simp
      · have := (named_len (h.after w hw)).2; omega
  unfold NodeD.words
  refine ⟨by simp only [List.length_append, List.length_cons, List.length_nil]; omega, fun w hw => ?_⟩
  simp only [List.mem_append, List.mem_cons, List.not_mem_nil, or_false] at hw
  rcases hw with (((( rfl | rfl) | hw) | hw) | hw) | hw
  · have := (named_len h.name).2; omega
  · unfold kindS; repeat' split
    all_goals simp
  · exact h1.2 w hw
  · exact h2.2 w hw
  · exact h3.2 w hw
  · exact h4.2 w hw
theorem line_len {n : NodeD} (h : NodeOk n) (ha : n.after.length ≤ 10) : (Lib.join n.words [32]).length ≤ 5000 ∧ n.line.length ≤ 5001 := by
  obtain ⟨h1, h2⟩ := words_len h
  have := join_len n.words 256 h2
  unfold NodeD.line
  rw [List.length_append]
  simp only [List.length_cons, List.length_nil]
  omega
end Go.X.TryzW
end
section
open Go Go.X Go.Proofs
set_option maxRecDepth 100000
set_option maxHeartbeats 4000000
set_option linter.unusedSimpArgs false
set_option linter.unusedVariables false
namespace Go.X.TryzW
/- "tiller/dag.Text" params { toList := [24] } results { toList := [Go.ResultVar.tmp 2] } -/
def y6 : XC :=
 (.seq
  (.ops [
    ⟨(some 1), (.box (.t 0)), none⟩,
    ⟨(some 2), (.mov (.c (.str []))), none⟩])
  (.seq
   (.seq
    (.ops [
      ⟨(some 9), (.loadN 2 (.t 1)), none⟩,
      ⟨(some 10), (.call (.f 12) [(.t 9)]), none⟩,
      ⟨(some 8), (.mov (.t 10)), none⟩,
      ⟨(some 11), (.ext (.t 8) 0), none⟩,
      ⟨(some 12), (.ext (.t 8) 1), none⟩,
      ⟨(some 3), (.mov (.t 11)), none⟩,
      ⟨(some 4), (.mov (.t 12)), none⟩])
    (.seq
     (.ops [
       ⟨(some 13), (.mov (.t 4)), none⟩,
       ⟨(some 14), (.bin .neq (.t 13) (.c (.int .i64 0))), none⟩])
     (.cond (.t 14)
      (.seq
       (.ops [
         ⟨(some 2), (.mov (.c (.str []))), none⟩])
       .ret)
      .skip)))
   (.seq
    (.ops [
      ⟨(some 5), (.ex (.allocT 43 [(.raw (.pointer none)), (.raw (.slice none 0 0))]) []), none⟩])
    (.seq
     (.ops [
       ⟨(some 15), (.fldA 0 (.t 1)), none⟩,
       ⟨(some 16), (.load1 (.t 15)), none⟩,
       ⟨(some 17), (.bin .add (.c (.str [119, 111, 114, 107, 102, 108, 111, 119, 32])) (.t 16)), none⟩,
       ⟨(some 18), (.bin .add (.t 17) (.c (.str [10]))), none⟩,
       ⟨(some 19), (.call (.f 13) [(.t 5), (.t 18)]), none⟩])
     (.seq
      (.seq
       (.ops [
         ⟨(some 20), (.fldA 1 (.t 1)), none⟩,
         ⟨(some 21), (.load1 (.t 20)), none⟩,
         ⟨(some 22), (.len (.t 21)), none⟩,
         ⟨(some 23), (.mov (.c (.int .i64 0))), none⟩])
       (.block 0
        (.loop
         (.seq
          (.ops [
            ⟨(some 24), (.bin .lss (.t 23) (.t 22)), none⟩])
          (.seq
           (.cond (.t 24)
            .skip
            (.exit 0))
           (.seq
            (.block 1
             (.seq
              (.ops [
                ⟨(some 25), (.idxS 7 (.t 21) (.t 23)), none⟩,
                ⟨(some 26), (.loadN 7 (.t 25)), none⟩,
                ⟨(some 7), (.alloc [(.str []), (.int .i64 0), (.str []), (.str []), (.int .i64 0), (.int .i64 0), .nsl]), none⟩,
                ⟨none, (.store 7 (.t 7) (.t 26)), none⟩])
              (.ops [
                ⟨(some 27), (.loadN 7 (.t 7)), none⟩,
                ⟨(some 28), (.call (.f 14) [(.t 27)]), none⟩,
                ⟨(some 29), (.call (.f 13) [(.t 5), (.t 28)]), none⟩])))
            (.ops [
              ⟨(some 30), (.bin .add (.t 23) (.c (.int .i64 1))), none⟩,
              ⟨(some 23), (.mov (.t 30)), none⟩])))))))
      (.seq
       (.ops [
         ⟨(some 31), (.call (.f 15) [(.t 5)]), none⟩,
         ⟨(some 2), (.mov (.t 31)), none⟩])
       .ret))))))

section
variable {E : Env}
def hdrW : List UInt8 := [119, 111, 114, 107, 102, 108, 111, 119, 32]
def DefD.hdr (d : DefD) : List UInt8 := hdrW ++ d.name ++ [10]
def DefD.upto (d : DefD) (i : Nat) : List UInt8 := d.hdr ++ ((d.nodes.take i).map NodeD.line).flatten
def DefD.text (d : DefD) : List UInt8 := d.hdr ++ (d.nodes.map NodeD.line).flatten
def DefD.textS (d : DefD) : List UInt8 := if d.check.2 = 0 then d.text else []
theorem upto_succ {d : DefD} {i : Nat} (h : i < d.nodes.length) : d.upto (i + 1) = d.upto i ++ (d.nodes.getD i default).line := by
  unfold DefD.upto
  have : d.nodes.take (i + 1) = d.nodes.take i ++ [d.nodes.getD i default] := by
    rw [List.take_add_one, List.getD_eq_getElem?_getD, List.getElem?_eq_getElem h]; rfl
  rw [this]; simp
theorem upto_len {d : DefD} (hc : d.check.2 = 0) (haf : ∀ n ∈ d.nodes, n.after.length ≤ 10) (i : Nat) : (d.upto i).length ≤ 100 + 5001 * i := by
  have hn := (named_len (check_ok hc).2.2.2.2.1).2
  induction i with
  | zero => simp [DefD.upto, DefD.hdr, hdrW]; omega
  | succ i ih =>
    rcases Nat.lt_or_ge i d.nodes.length with h | h
    · rw [upto_succ h, List.length_append]
      have hmem : d.nodes.getD i default ∈ d.nodes := by rw [List.getD_eq_getElem?_getD, List.getElem?_eq_getElem h]; exact List.getElem_mem _
      have := (line_len (node_ok hc hmem) (haf _ hmem)).2
      omega
    · have : d.upto (i + 1) = d.upto i := by unfold DefD.upto; rw [List.take_of_length_le (by omega), List.take_of_length_le h]
      rw [this]; omega
theorem upto_all (d : DefD) : d.upto d.nodes.length = d.text := by unfold DefD.upto DefD.text; rw [List.take_length]
theorem dagText_pure (hP : E.P = Tryz.prog) {m : Int} (hm : E.gl 0 = some [.int .i64 m]) (ht : ∀ w, E.G w → Lib.TabIs Tryz.prog w "internal/strconv.uint64pow10" .u64 Lib.pow10Tab) (d : DefD) (hd : d.nodes.length ≤ 1000000) (hok : d.ok)
    (haf : ∀ n ∈ d.nodes, n.after.length ≤ 10) : XPure E 6 [d.iv] (.str d.textS) := by
  refine xpure1 (n := Tryz.f6.ntmps) (c := y6) (t := 2) (by rw [hP]; rfl) (by rw [hP]; kernel_rfl) (by decide) (Nat.le_of_ble_eq_true rfl) ?_
  generalize hρ : entry _ = ρ
  have h0 : ρ 0 = .agg [.str d.name, .isl (nodeRows d.nodes)] := by rw [← hρ]; rfl
  clear hρ
  unfold y6
  simp only [h0, go_sem, Nat.reduceEqDiff, reduceIte, Int.reduceEq, Int.reduceLT, Int.reduceLE, Nat.reduceAdd, Nat.reduceLT, Nat.reduceLeDiff, Int.reduceToNat, Int.reduceSub, Int.reduceAdd, Int.reduceNeg]
  refine xcall_pure (args' := [d.iv]) rfl (check_pure (E := E.noPan) hP hm d hd hok) rfl ?_
  simp only [h0, go_sem, Nat.reduceEqDiff, reduceIte, Int.reduceEq, Int.reduceLT, Int.reduceLE, Nat.reduceAdd, Nat.reduceLT, Nat.reduceLeDiff, Int.reduceToNat, Int.reduceSub, Int.reduceAdd, Int.reduceNeg]
  refine s_cond (b := !decide (d.check.2 = 0)) (by simp only [go_sem, Nat.reduceEqDiff, reduceIte, Int.reduceEq, Int.reduceLT, Int.reduceLE, Nat.reduceAdd, Nat.reduceLT, Nat.reduceLeDiff, Int.reduceToNat, Int.reduceSub, Int.reduceAdd, Int.reduceNeg]; try rfl) ?_ ?_ <;> intro hc0 <;> simp only [h0, go_sem, Nat.reduceEqDiff, reduceIte, Int.reduceEq, Int.reduceLT, Int.reduceLE, Nat.reduceAdd, Nat.reduceLT, Nat.reduceLeDiff, Int.reduceToNat, Int.reduceSub, Int.reduceAdd, Int.reduceNeg]
  · have hf : d.textS = [] := by unfold DefD.textS; rw [if_neg (by simpa using hc0)]
    rw [hf]; rfl
  have hc : d.check.2 = 0 := by simpa using hc0
  have hf : d.textS = d.text := by unfold DefD.textS; rw [if_pos hc]
  rw [hf]
  have hnl := named_len (check_ok hc).2.2.2.2.1
  have hnl2 := hnl.2
  have hn32 := (check_ok hc).2.2.1
  refine ⟨by first | omega | (simp; omega), by first | omega | (simp; omega), ?_⟩
  refine xcall_write0 (E := E.noPan) hP (s := 1) (x := hdrW ++ d.name ++ [10]) ?_ ?_ ?_ ?_
  · rfl
  · simp
  · simp [hdrW]; omega
  have hx0 : hdrW ++ d.name ++ [10] = d.upto 0 := by simp [DefD.upto, DefD.hdr]
  rw [hx0]
  simp only [h0, go_sem, Nat.reduceEqDiff, reduceIte, Int.reduceEq, Int.reduceLT, Int.reduceLE, Nat.reduceAdd, Nat.reduceLT, Nat.reduceLeDiff, Int.reduceToNat, Int.reduceSub, Int.reduceAdd, Int.reduceNeg]
  refine s_loop (fun n' ρ L => ∃ (i j : Nat) (J : List Blk), i ≤ d.nodes.length ∧ n' = d.nodes.length - i ∧ L = .cells 2 [[.str d.name, .isl (nodeRows d.nodes)]] :: .tcells 43 2 [usedB 1 (j + 2) (d.upto i).length] :: J ∧ J[j]? = some (.tcells 5 1 (bytesRows (d.upto i))) ∧
      ρ 5 = .ptr 1 0 0 ∧ ρ 21 = .isl (nodeRows d.nodes) ∧ ρ 22 = .int .i64 d.nodes.length ∧ ρ 23 = .int .i64 i)
    ⟨0, 0, _, Nat.zero_le _, rfl, rfl, rfl, by simp only [go_sem, Nat.reduceEqDiff, reduceIte, Int.reduceEq, Int.reduceLT, Int.reduceLE, Nat.reduceAdd, Nat.reduceLT, Nat.reduceLeDiff, Int.reduceToNat, Int.reduceSub, Int.reduceAdd, Int.reduceNeg], by simp only [go_sem, Nat.reduceEqDiff, reduceIte, Int.reduceEq, Int.reduceLT, Int.reduceLE, Nat.reduceAdd, Nat.reduceLT, Nat.reduceLeDiff, Int.reduceToNat, Int.reduceSub, Int.reduceAdd, Int.reduceNeg], by simp only [nodeRows_len, go_sem, Nat.reduceEqDiff, reduceIte, Int.reduceEq, Int.reduceLT, Int.reduceLE, Nat.reduceAdd, Nat.reduceLT, Nat.reduceLeDiff, Int.reduceToNat, Int.reduceSub, Int.reduceAdd, Int.reduceNeg], by simp only [go_sem, Nat.reduceEqDiff, reduceIte, Int.reduceEq, Int.reduceLT, Int.reduceLE, Nat.reduceAdd, Nat.reduceLT, Nat.reduceLeDiff, Int.reduceToNat, Int.reduceSub, Int.reduceAdd, Int.reduceNeg]; try rfl⟩ ?_
  clear h0 ρ
  rintro n' ρ L ⟨i, j, J, hi, rfl, rfl, hj, h5, h21, h22, h23⟩
  simp only [h5, h21, h22, h23, go_sem, Nat.reduceEqDiff, reduceIte, Int.reduceEq, Int.reduceLT, Int.reduceLE, Nat.reduceAdd, Nat.reduceLT, Nat.reduceLeDiff, Int.reduceToNat, Int.reduceSub, Int.reduceAdd, Int.reduceNeg]
  refine s_cond (b := decide _) (by simp only [h5, h21, h22, h23, go_sem, Nat.reduceEqDiff, reduceIte, Int.reduceEq, Int.reduceLT, Int.reduceLE, Nat.reduceAdd, Nat.reduceLT, Nat.reduceLeDiff, Int.reduceToNat, Int.reduceSub, Int.reduceAdd, Int.reduceNeg]; try rfl) ?_ ?_ <;> intro hb <;> simp only [hb, h5, h21, h22, h23, nodeRows_len, rows_nodes, go_sem, Nat.reduceEqDiff, reduceIte, Int.reduceEq, Int.reduceLT, Int.reduceLE, Nat.reduceAdd, Nat.reduceLT, Nat.reduceLeDiff, Int.reduceToNat, Int.reduceSub, Int.reduceAdd, Int.reduceNeg]
  · rw [decide_eq_true_eq] at hb
    have hi' : i < d.nodes.length := by omega
    have hrow := nodeRows_get hi'
    have hmem : d.nodes.getD i default ∈ d.nodes := by rw [List.getD_eq_getElem?_getD, List.getElem?_eq_getElem hi']; exact List.getElem_mem _
    have hnk := node_ok hc hmem
    have hll := line_len hnk (haf _ hmem)
    try simp only [h5, h21, h22, h23, hrow, NodeD.row, nodeRows_len, rows_nodes, go_sem, Nat.reduceEqDiff, reduceIte, Int.reduceEq, Int.reduceLT, Int.reduceLE, Nat.reduceAdd, Nat.reduceLT, Nat.reduceLeDiff, Int.reduceToNat, Int.reduceSub, Int.reduceAdd, Int.reduceNeg]
    refine ⟨by omega, ?_⟩
    try simp only [h5, h21, h22, h23, hrow, NodeD.row, nodeRows_len, rows_nodes, go_sem, Nat.reduceEqDiff, reduceIte, Int.reduceEq, Int.reduceLT, Int.reduceLE, Nat.reduceAdd, Nat.reduceLT, Nat.reduceLeDiff, Int.reduceToNat, Int.reduceSub, Int.reduceAdd, Int.reduceNeg]
    refine ⟨hi', ?_⟩
    generalize hn : d.nodes.getD i default = n at *
    refine xcall_pure (args' := [.agg n.row]) rfl (said_pure (E := E.noPan) hP ht n hnk.kind hnk.delay ?_ (by have := haf _ hmem; omega) (by omega)) rfl ?_
    · by_cases hk1 : n.kind = 1
      · have := hnk.tries hk1; omega
      · have := hnk.tries0 hk1; omega
    have hul := upto_len hc haf i
    simp only [h5, h21, h22, h23, go_sem, Nat.reduceEqDiff, reduceIte, Int.reduceEq, Int.reduceLT, Int.reduceLE, Nat.reduceAdd, Nat.reduceLT, Nat.reduceLeDiff, Int.reduceToNat, Int.reduceSub, Int.reduceAdd, Int.reduceNeg]
    refine xcall_write (E := E.noPan) hP (s := 1) (k := j + 2) (bs := d.upto i) (x := n.line) ?_ ?_ ?_ ?_ ?_
    · rfl
    · show (J ++ _)[j]? = _
      rw [List.getElem?_append_left (lt_of_get hj)]; exact hj
    · simp [NodeD.line]
    · omega
    simp only [h5, h21, h22, h23, go_sem, Nat.reduceEqDiff, reduceIte, Int.reduceEq, Int.reduceLT, Int.reduceLE, Nat.reduceAdd, Nat.reduceLT, Nat.reduceLeDiff, Int.reduceToNat, Int.reduceSub, Int.reduceAdd, Int.reduceNeg]
    have hwr : IntKind.i64.wrap ((i : Int) + 1) = ((i + 1 : Nat) : Int) := by rw [wrap64 (by omega) (by omega)]; rfl
    rw [hwr]
    have hsucc : d.upto (i + 1) = d.upto i ++ n.line := by rw [upto_succ hi', hn]
    refine ⟨d.nodes.length - (i + 1), by omega, i + 1, J.length + 1, (J ++ [Blk.cells 7 [n.row]]).set j .dead ++ [.tcells 5 1 (bytesRows (d.upto (i + 1)))], by omega, rfl, ?_, ?_, ?_⟩
    · simp [hsucc, NodeD.row]
    · rw [List.getElem?_append_right (by simp)]; simp
    · first | exact ⟨rfl, rfl⟩ | exact ⟨rfl, rfl, rfl⟩ | exact ⟨rfl, rfl, rfl, rfl⟩ | exact ⟨rfl, rfl, rfl, rfl, rfl⟩ | exact ⟨rfl, rfl, rfl, rfl, rfl, rfl⟩ | exact ⟨rfl, rfl, rfl, rfl, rfl, rfl, rfl⟩ | exact ⟨rfl, rfl, rfl, rfl, rfl, rfl, rfl, rfl⟩ | exact rfl
  · rw [decide_eq_false_iff_not] at hb
    have hi' : i = d.nodes.length := by omega
    subst hi'
    have hul := upto_len hc haf d.nodes.length
    refine xcall_string (E := E.noPan) hP (s := 1) (k := j + 2) (bs := d.upto d.nodes.length) ?_ ?_ ?_ ?_ ?_
    · rfl
    · exact hj
    · simp [DefD.upto, DefD.hdr]
    · omega
    simp only [go_sem, Nat.reduceEqDiff, reduceIte, Int.reduceEq, Int.reduceLT, Int.reduceLE, Nat.reduceAdd, Nat.reduceLT, Nat.reduceLeDiff, Int.reduceToNat, Int.reduceSub, Int.reduceAdd, Int.reduceNeg]
    rw [upto_all]; rfl
end
end Go.X.TryzW
end
section
open Go Go.X Go.Proofs
set_option maxRecDepth 100000
set_option maxHeartbeats 4000000
set_option linter.unusedSimpArgs false
set_option linter.unusedVariables false
namespace Go.X.TryzW
/- "tiller/tillerref08.Text" params { toList := [24] } results { toList := [Go.ResultVar.tmp 2] } -/
section
variable {E : Env}
def NodeD.seg (n : NodeD) : List UInt8 :=
  if n.kind = 1 then [32, 97, 99, 116, 105, 118, 105, 116, 121, 32] ++ n.arg ++ (if n.tries ≠ 1 then [32, 116, 114, 105, 101, 115, 32] ++ Lib.itoa n.tries else []) ++ (if n.delay ≠ 0 then [32, 116, 105, 109, 101, 111, 117, 116, 32] ++ Lib.itoa n.delay else [])
  else if n.kind = 2 then [32, 116, 105, 109, 101, 114, 32] ++ Lib.itoa n.delay
  else if n.kind = 3 then [32, 99, 104, 105, 108, 100, 32] ++ n.arg
  else if n.kind = 4 then [32, 119, 97, 105, 116, 32] ++ n.arg
  else [32, 115, 101, 110, 100, 32] ++ n.to ++ [32] ++ n.arg
theorem itoa_nat (N : Nat) : Lib.itoa (N : Int) = Lib.decDigits N := Lib.itoa_nonneg N
end
end Go.X.TryzW
end
section
open Go Go.X Go.Proofs
set_option maxRecDepth 100000
set_option maxHeartbeats 4000000
set_option linter.unusedSimpArgs false
set_option linter.unusedVariables false
namespace Go.X.TryzW
/- "(*strings.asciiSet).contains" params { toList := [115, 5] } results { toList := [Go.ResultVar.tmp 4] } -/
def y95 : XC :=
 (.seq
  (.ops [
    ⟨(some 4), (.mov (.c (.bool false))), none⟩])
  (.seq
   (.ops [
     ⟨(some 5), (.mov (.t 0)), none⟩,
     ⟨(some 6), (.mov (.t 1)), none⟩,
     ⟨(some 7), (.nilck (.t 5)), none⟩,
     ⟨(some 8), (.idxA 256 1 (.t 7) (.t 6)), none⟩,
     ⟨(some 9), (.load1 (.t 8)), none⟩,
     ⟨(some 4), (.mov (.t 9)), none⟩])
   .ret))

/- "strings.trimRightASCII" params { toList := [9, 115] } results { toList := [Go.ResultVar.tmp 4] } -/
def y80 : XC :=
 (.seq
  (.ops [
    ⟨(some 4), (.mov (.c (.str []))), none⟩])
  (.seq
   (.block 0
    (.loop
     (.seq
      (.seq
       (.ops [
         ⟨(some 5), (.mov (.t 0)), none⟩,
         ⟨(some 6), (.lenS (.t 5)), none⟩,
         ⟨(some 7), (.bin .gtr (.t 6) (.c (.int .i64 0))), none⟩])
       (.cond (.t 7)
        .skip
        (.exit 0)))
      (.block 1
       (.seq
        (.seq
         (.ops [
           ⟨(some 8), (.mov (.t 1)), none⟩,
           ⟨(some 9), (.mov (.t 0)), none⟩,
           ⟨(some 10), (.mov (.t 0)), none⟩,
           ⟨(some 11), (.lenS (.t 10)), none⟩,
           ⟨(some 12), (.bin .sub (.t 11) (.c (.int .i64 1))), none⟩,
           ⟨(some 13), (.idx (.t 9) (.t 12)), none⟩,
           ⟨(some 14), (.call (.f 95) [(.t 8), (.t 13)]), none⟩,
           ⟨(some 15), (.un .not (.t 14)), none⟩])
         (.cond (.t 15)
          (.exit 0)
          .skip))
        (.ops [
          ⟨(some 16), (.mov (.t 0)), none⟩,
          ⟨(some 17), (.mov (.t 0)), none⟩,
          ⟨(some 18), (.lenS (.t 17)), none⟩,
          ⟨(some 19), (.bin .sub (.t 18) (.c (.int .i64 1))), none⟩,
          ⟨(some 20), (.sliceS (.t 16) none (some (.t 19))), none⟩,
          ⟨(some 0), (.mov (.t 20)), none⟩]))))))
   (.seq
    (.ops [
      ⟨(some 21), (.mov (.t 0)), none⟩,
      ⟨(some 4), (.mov (.t 21)), none⟩])
    .ret)))

/- "strings.trimLeftASCII" params { toList := [9, 115] } results { toList := [Go.ResultVar.tmp 4] } -/
def y79 : XC :=
 (.seq
  (.ops [
    ⟨(some 4), (.mov (.c (.str []))), none⟩])
  (.seq
   (.block 0
    (.loop
     (.seq
      (.seq
       (.ops [
         ⟨(some 5), (.mov (.t 0)), none⟩,
         ⟨(some 6), (.lenS (.t 5)), none⟩,
         ⟨(some 7), (.bin .gtr (.t 6) (.c (.int .i64 0))), none⟩])
       (.cond (.t 7)
        .skip
        (.exit 0)))
      (.block 1
       (.seq
        (.seq
         (.ops [
           ⟨(some 8), (.mov (.t 1)), none⟩,
           ⟨(some 9), (.mov (.t 0)), none⟩,
           ⟨(some 10), (.idx (.t 9) (.c (.int .i64 0))), none⟩,
           ⟨(some 11), (.call (.f 95) [(.t 8), (.t 10)]), none⟩,
           ⟨(some 12), (.un .not (.t 11)), none⟩])
         (.cond (.t 12)
          (.exit 0)
          .skip))
        (.ops [
          ⟨(some 13), (.mov (.t 0)), none⟩,
          ⟨(some 14), (.sliceS (.t 13) (some (.c (.int .i64 1))) none), none⟩,
          ⟨(some 0), (.mov (.t 14)), none⟩]))))))
   (.seq
    (.ops [
      ⟨(some 15), (.mov (.t 0)), none⟩,
      ⟨(some 4), (.mov (.t 15)), none⟩])
    .ret)))

/- "strings.Trim" params { toList := [9, 9] } results { toList := [Go.ResultVar.tmp 4] } -/
def y67 : XC :=
 (.seq
  (.ops [
    ⟨(some 4), (.mov (.c (.str []))), none⟩])
  (.seq
   (.seq
    (.ops [
      ⟨(some 7), (.mov (.t 0)), none⟩,
      ⟨(some 8), (.bin .eql (.t 7) (.c (.str []))), none⟩,
      ⟨(some 9), (.mov (.t 8)), none⟩,
      ⟨(some 10), (.mov (.t 1)), (some (9, false))⟩,
      ⟨(some 11), (.bin .eql (.t 10) (.c (.str []))), (some (9, false))⟩,
      ⟨(some 12), (.pick (.t 9) (.c (.bool true)) (.t 11)), none⟩])
    (.cond (.t 12)
     (.seq
      (.ops [
        ⟨(some 13), (.mov (.t 0)), none⟩,
        ⟨(some 4), (.mov (.t 13)), none⟩])
      .ret)
     .skip))
   (.seq
    (.seq
     (.ops [
       ⟨(some 14), (.mov (.t 1)), none⟩,
       ⟨(some 15), (.lenS (.t 14)), none⟩,
       ⟨(some 16), (.bin .eql (.t 15) (.c (.int .i64 1))), none⟩,
       ⟨(some 17), (.mov (.t 16)), none⟩,
       ⟨(some 18), (.mov (.t 1)), (some (17, true))⟩,
       ⟨(some 19), (.idx (.t 18) (.c (.int .i64 0))), (some (17, true))⟩,
       ⟨(some 20), (.bin .lss (.t 19) (.c (.int .u8 128))), (some (17, true))⟩,
       ⟨(some 21), (.pick (.t 17) (.t 20) (.c (.bool false))), none⟩])
     (.cond (.t 21)
      (.seq
       (.drawE [
         ⟨(some 22), (.mov (.t 0)), none⟩,
         ⟨(some 23), (.mov (.t 1)), none⟩,
         ⟨(some 24), (.idx (.t 23) (.c (.int .i64 0))), none⟩,
         ⟨(some 25), (.pcall (.f 77) [(.t 22), (.t 24)]), none⟩,
         ⟨(some 26), (.mov (.t 1)), none⟩,
         ⟨(some 27), (.idx (.t 26) (.c (.int .i64 0))), none⟩,
         ⟨(some 28), (.pcall (.f 76) [(.t 25), (.t 27)]), none⟩,
         ⟨(some 4), (.mov (.t 28)), none⟩])
       .ret)
      .skip))
    (.seq
     (.seq
      (.ops [
        ⟨(some 30), (.mov (.t 1)), none⟩,
        ⟨(some 31), (.call (.f 78) [(.t 30)]), none⟩,
        ⟨(some 29), (.mov (.t 31)), none⟩,
        ⟨(some 32), (.ext (.t 29) 0), none⟩,
        ⟨(some 33), (.ext (.t 29) 1), none⟩,
        ⟨(some 5), (.alloc [(.bool false), (.bool false), (.bool false), (.bool false), (.bool false), (.bool false), (.bool false), (.bool false), (.bool false), (.bool false), (.bool false), (.bool false), (.bool false), (.bool false), (.bool false), (.bool false), (.bool false), (.bool false), (.bool false), (.bool false), (.bool false), (.bool false), (.bool false), (.bool false), (.bool false), (.bool false), (.bool false), (.bool false), (.bool false), (.bool false), (.bool false), (.bool false), (.bool false), (.bool false), (.bool false), (.bool false), (.bool false), (.bool false), (.bool false), (.bool false), (.bool false), (.bool false), (.bool false), (.bool false), (.bool false), (.bool false), (.bool false), (.bool false), (.bool false), (.bool false), (.bool false), (.bool false), (.bool false), (.bool false), (.bool false), (.bool false), (.bool false), (.bool false), (.bool false), (.bool false), (.bool false), (.bool false), (.bool false), (.bool false), (.bool false), (.bool false), (.bool false), (.bool false), (.bool false), (.bool false), (.bool false), (.bool false), (.bool false), (.bool false), (.bool false), (.bool false), (.bool false), (.bool false), (.bool false), (.bool false), (.bool false), (.bool false), (.bool false), (.bool false), (.bool false), (.bool false), (.bool false), (.bool false), (.bool false), (.bool false), (.bool false), (.bool false), (.bool false), (.bool false), (.bool false), (.bool false), (.bool false), (.bool false), (.bool false), (.bool false), (.bool false), (.bool false), (.bool false), (.bool false), (.bool false), (.bool false), (.bool false), (.bool false), (.bool false), (.bool false), (.bool false), (.bool false), (.bool false), (.bool false), (.bool false), (.bool false), (.bool false), (.bool false), (.bool false), (.bool false), (.bool false), (.bool false), (.bool false), (.bool false), (.bool false), (.bool false), (.bool false), (.bool false), (.bool false), (.bool false), (.bool false), (.bool false), (.bool false), (.bool false), (.bool false), (.bool false), (.bool false), (.bool false), (.bool false), (.bool false), (.bool false), (.bool false), (.bool false), (.bool false), (.bool false), (.bool false), (.bool false), (.bool false), (.bool false), (.bool false), (.bool false), (.bool false), (.bool false), (.bool false), (.bool false), (.bool false), (.bool false), (.bool false), (.bool false), (.bool false), (.bool false), (.bool false), (.bool false), (.bool false), (.bool false), (.bool false), (.bool false), (.bool false), (.bool false), (.bool false), (.bool false), (.bool false), (.bool false), (.bool false), (.bool false), (.bool false), (.bool false), (.bool false), (.bool false), (.bool false), (.bool false), (.bool false), (.bool false), (.bool false), (.bool false), (.bool false), (.bool false), (.bool false), (.bool false), (.bool false), (.bool false), (.bool false), (.bool false), (.bool false), (.bool false), (.bool false), (.bool false), (.bool false), (.bool false), (.bool false), (.bool false), (.bool false), (.bool false), (.bool false), (.bool false), (.bool false), (.bool false), (.bool false), (.bool false), (.bool false), (.bool false), (.bool false), (.bool false), (.bool false), (.bool false), (.bool false), (.bool false), (.bool false), (.bool false), (.bool false), (.bool false), (.bool false), (.bool false), (.bool false), (.bool false), (.bool false), (.bool false), (.bool false), (.bool false), (.bool false), (.bool false), (.bool false), (.bool false), (.bool false), (.bool false), (.bool false), (.bool false), (.bool false), (.bool false), (.bool false), (.bool false), (.bool false), (.bool false), (.bool false), (.bool false), (.bool false), (.bool false), (.bool false), (.bool false), (.bool false), (.bool false), (.bool false), (.bool false), (.bool false), (.bool false), (.bool false)]), none⟩,
        ⟨none, (.store 256 (.t 5) (.t 32)), none⟩,
        ⟨(some 6), (.mov (.t 33)), none⟩])
      (.seq
       (.ops [
         ⟨(some 34), (.mov (.t 6)), none⟩])
       (.cond (.t 34)
        (.seq
         (.ops [
           ⟨(some 35), (.mov (.t 0)), none⟩,
           ⟨(some 36), (.call (.f 80) [(.t 35), (.t 5)]), none⟩,
           ⟨(some 37), (.call (.f 79) [(.t 36), (.t 5)]), none⟩,
           ⟨(some 4), (.mov (.t 37)), none⟩])
         .ret)
        .skip)))
     (.seq
      (.ops [
        ⟨(some 38), (.mov (.t 0)), none⟩,
        ⟨(some 39), (.mov (.t 1)), none⟩,
        ⟨(some 40), (.call (.f 82) [(.t 38), (.t 39)]), none⟩,
        ⟨(some 41), (.mov (.t 1)), none⟩,
        ⟨(some 42), (.call (.f 81) [(.t 40), (.t 41)]), none⟩,
        ⟨(some 4), (.mov (.t 42)), none⟩])
      .ret)))))

/- "tiller/dag.number" params { toList := [9] } results { toList := [Go.ResultVar.tmp 2, Go.ResultVar.tmp 3] } -/
def y46 : XC :=
 (.seq
  (.ops [
    ⟨(some 2), (.mov (.c (.int .i64 0))), none⟩,
    ⟨(some 3), (.mov (.c (.bool false))), none⟩])
  (.seq
   (.seq
    (.ops [
      ⟨(some 6), (.mov (.t 0)), none⟩,
      ⟨(some 7), (.lenS (.t 6)), none⟩,
      ⟨(some 8), (.bin .gtr (.t 7) (.c (.int .i64 15))), none⟩,
      ⟨(some 9), (.mov (.t 8)), none⟩,
      ⟨(some 10), (.mov (.t 0)), (some (9, false))⟩,
      ⟨(some 11), (.lenS (.t 10)), (some (9, false))⟩,
      ⟨(some 12), (.bin .gtr (.t 11) (.c (.int .i64 1))), (some (9, false))⟩,
      ⟨(some 13), (.mov (.t 12)), (some (9, false))⟩,
      ⟨(some 14), (.mov (.t 0)), (some (13, true))⟩,
      ⟨(some 15), (.idx (.t 14) (.c (.int .i64 0))), (some (13, true))⟩,
      ⟨(some 16), (.bin .eql (.t 15) (.c (.int .u8 48))), (some (13, true))⟩,
      ⟨(some 17), (.pick (.t 13) (.t 16) (.c (.bool false))), (some (9, false))⟩,
      ⟨(some 18), (.pick (.t 9) (.c (.bool true)) (.t 17)), none⟩,
      ⟨(some 19), (.mov (.t 18)), none⟩,
      ⟨(some 20), (.mov (.t 0)), (some (19, false))⟩,
      ⟨(some 21), (.call (.f 67) [(.t 20), (.c (.str [48, 49, 50, 51, 52, 53, 54, 55, 56, 57]))]), (some (19, false))⟩,
      ⟨(some 22), (.bin .neq (.t 21) (.c (.str []))), (some (19, false))⟩,
      ⟨(some 23), (.pick (.t 19) (.c (.bool true)) (.t 22)), none⟩])
    (.cond (.t 23)
     (.seq
      (.ops [
        ⟨(some 2), (.mov (.c (.int .i64 0))), none⟩,
        ⟨(some 3), (.mov (.c (.bool false))), none⟩])
      .ret)
     .skip))
   (.seq
    (.ops [
      ⟨(some 25), (.mov (.t 0)), none⟩,
      ⟨(some 26), (.call (.f 68) [(.t 25)]), none⟩,
      ⟨(some 24), (.mov (.t 26)), none⟩,
      ⟨(some 27), (.ext (.t 24) 0), none⟩,
      ⟨(some 28), (.ext (.t 24) 1), none⟩,
      ⟨(some 4), (.mov (.t 27)), none⟩,
      ⟨(some 5), (.mov (.t 28)), none⟩])
    (.seq
     (.drawE [
       ⟨(some 29), (.mov (.t 4)), none⟩,
       ⟨(some 30), (.mov (.t 5)), none⟩,
       ⟨(some 31), (.isNil 1 false (.t 30)), none⟩,
       ⟨(some 2), (.mov (.t 29)), none⟩,
       ⟨(some 3), (.mov (.t 31)), none⟩])
     .ret))))

section
variable {E : Env}
def digS : List UInt8 := [48, 49, 50, 51, 52, 53, 54, 55, 56, 57]
def digB (b : UInt8) : Bool := decide (48 ≤ b.toNat ∧ b.toNat ≤ 57)
def setD : List IV := (List.range 256).map fun i => .bool (decide (48 ≤ i ∧ i ≤ 57))
theorem set_ev (gl : Nat → Option (List IV)) : evFun (tabD Tryz.prog) gl 300 30 78 [.str digS] = some (.tup [.agg setD, .bool true]) := by kernel_rfl
theorem setD_len : setD.length = 256 := by simp [setD]
theorem setD_get (b : UInt8) : setD.getD b.toNat .und = .bool (digB b) := by
  have := b.toNat_lt
  unfold setD digB
  rw [List.getD_eq_getElem?_getD, List.getElem?_map, List.getElem?_range this]
  rfl
theorem asciiHas_pure (hP : E.P = Tryz.prog) (b : UInt8) : XPure E 95 [.iptr [setD] 0 0, .int .u8 b.toNat] (.bool (digB b)) := by
  refine xpure1 (n := Tryz.f95.ntmps) (c := y95) (t := 4) (by rw [hP]; rfl) (by rw [hP]; kernel_rfl) (by decide) (Nat.le_of_ble_eq_true rfl) ?_
  generalize hρ : entry _ = ρ
  have h0 : ρ 0 = .iptr [setD] 0 0 := by rw [← hρ]; rfl
  have h1 : ρ 1 = .int .u8 b.toNat := by rw [← hρ]; rfl
  clear hρ
  unfold y95
  simp only [h0, h1, go_sem, Nat.reduceEqDiff, reduceIte, Int.reduceEq, Int.reduceLT, Int.reduceLE, Nat.reduceAdd, Nat.reduceLT, Nat.reduceLeDiff, Int.reduceToNat, Int.reduceSub, Int.reduceAdd, Int.reduceNeg]
  have := b.toNat_lt
  refine ⟨by omega, by rw [setD_len]; omega, ?_⟩
  rw [Nat.mul_one, setD_get]; rfl

theorem trimR_pure (hP : E.P = Tryz.prog) (s : List UInt8) (hs : ∀ b ∈ s, digB b = true) (hl : s.length ≤ 1000000) : XPure E 80 [.str s, .iptr [setD] 0 0] (.str []) := by
  refine xpure1 (n := Tryz.f80.ntmps) (c := y80) (t := 4) (by rw [hP]; rfl) (by rw [hP]; kernel_rfl) (by decide) (Nat.le_of_ble_eq_true rfl) ?_
  generalize hρ : entry _ = ρ
  have h0 : ρ 0 = .str s := by rw [← hρ]; rfl
  have h1 : ρ 1 = .iptr [setD] 0 0 := by rw [← hρ]; rfl
  clear hρ
  unfold y80
  simp only [h0, h1, go_sem, Nat.reduceEqDiff, reduceIte, Int.reduceEq, Int.reduceLT, Int.reduceLE, Nat.reduceAdd, Nat.reduceLT, Nat.reduceLeDiff, Int.reduceToNat, Int.reduceSub, Int.reduceAdd, Int.reduceNeg]
  refine s_loop (fun n ρ L => ∃ s' : List UInt8, (∀ b ∈ s', digB b = true) ∧ s'.length ≤ 1000000 ∧ n = s'.length ∧ L = [] ∧ ρ 0 = .str s' ∧ ρ 1 = .iptr [setD] 0 0)
    ⟨s, hs, hl, rfl, rfl, by simp only [h0, go_sem, Nat.reduceEqDiff, reduceIte, Int.reduceEq, Int.reduceLT, Int.reduceLE, Nat.reduceAdd, Nat.reduceLT, Nat.reduceLeDiff, Int.reduceToNat, Int.reduceSub, Int.reduceAdd, Int.reduceNeg], by simp only [h1, go_sem, Nat.reduceEqDiff, reduceIte, Int.reduceEq, Int.reduceLT, Int.reduceLE, Nat.reduceAdd, Nat.reduceLT, Nat.reduceLeDiff, Int.reduceToNat, Int.reduceSub, Int.reduceAdd, Int.reduceNeg]⟩ ?_
  clear h0 h1 hs hl ρ
  rintro n ρ L ⟨s', hs, hl, rfl, rfl, h0, h1⟩
  simp only [h0, h1, go_sem, Nat.reduceEqDiff, reduceIte, Int.reduceEq, Int.reduceLT, Int.reduceLE, Nat.reduceAdd, Nat.reduceLT, Nat.reduceLeDiff, Int.reduceToNat, Int.reduceSub, Int.reduceAdd, Int.reduceNeg]
  refine s_cond (b := decide _) (by simp only [go_sem, Nat.reduceEqDiff, reduceIte, Int.reduceEq, Int.reduceLT, Int.reduceLE, Nat.reduceAdd, Nat.reduceLT, Nat.reduceLeDiff, Int.reduceToNat, Int.reduceSub, Int.reduceAdd, Int.reduceNeg]; try rfl) ?_ ?_ <;> intro hb <;> simp only [hb, h0, h1, go_sem, Nat.reduceEqDiff, reduceIte, Int.reduceEq, Int.reduceLT, Int.reduceLE, Nat.reduceAdd, Nat.reduceLT, Nat.reduceLeDiff, Int.reduceToNat, Int.reduceSub, Int.reduceAdd, Int.reduceNeg]
  · rw [decide_eq_true_eq] at hb
    have hlt : s'.length - 1 < s'.length := by omega
    have hw : IntKind.i64.wrap ((s'.length : Int) - 1) = ((s'.length - 1 : Nat) : Int) := by rw [wrap64 (by omega) (by omega)]; omega
    have hbm : digB (s'.getD (s'.length - 1) 0) = true := hs _ (by rw [List.getD_eq_getElem?_getD, List.getElem?_eq_getElem hlt]; exact List.getElem_mem _)
    rw [hw]
    refine ⟨by omega, by omega, ?_⟩
    rw [Int.toNat_natCast]
    refine xcall_pure (args' := [.iptr [setD] 0 0, .int .u8 (s'.getD (s'.length - 1) 0).toNat]) rfl (asciiHas_pure (E := E.noPan) hP _) rfl ?_
    rw [hbm]
    simp only [h0, h1, go_sem, Nat.reduceEqDiff, reduceIte, Int.reduceEq, Int.reduceLT, Int.reduceLE, Nat.reduceAdd, Nat.reduceLT, Nat.reduceLeDiff, Int.reduceToNat, Int.reduceSub, Int.reduceAdd, Int.reduceNeg]
    rw [hw]
    refine ⟨by omega, by omega, s'.length - 1, by omega, s'.take (s'.length - 1), fun b hb => hs b (List.mem_of_mem_take hb), by rw [List.length_take]; omega, by rw [List.length_take]; omega, by rw [Int.toNat_natCast]⟩
  · rw [decide_eq_false_iff_not] at hb
    have : s' = [] := by cases s' with
      | nil => rfl
      | cons => simp at hb
    rw [this]; rfl

theorem trimL_pure (hP : E.P = Tryz.prog) : XPure E 79 [.str [], .iptr [setD] 0 0] (.str []) := by
  refine xpure1 (n := Tryz.f79.ntmps) (c := y79) (t := 4) (by rw [hP]; rfl) (by rw [hP]; kernel_rfl) (by decide) (Nat.le_of_ble_eq_true rfl) ?_
  generalize hρ : entry _ = ρ
  have h0 : ρ 0 = .str [] := by rw [← hρ]; rfl
  have h1 : ρ 1 = .iptr [setD] 0 0 := by rw [← hρ]; rfl
  clear hρ
  unfold y79
  simp only [h0, h1, go_sem, Nat.reduceEqDiff, reduceIte, Int.reduceEq, Int.reduceLT, Int.reduceLE, Nat.reduceAdd, Nat.reduceLT, Nat.reduceLeDiff, Int.reduceToNat, Int.reduceSub, Int.reduceAdd, Int.reduceNeg]
  refine s_loop (fun n ρ L => L = [] ∧ ρ 0 = .str [] ∧ ρ 1 = .iptr [setD] 0 0) (n := 0) ⟨rfl, by simp only [h0, go_sem, Nat.reduceEqDiff, reduceIte, Int.reduceEq, Int.reduceLT, Int.reduceLE, Nat.reduceAdd, Nat.reduceLT, Nat.reduceLeDiff, Int.reduceToNat, Int.reduceSub, Int.reduceAdd, Int.reduceNeg], by simp only [h1, go_sem, Nat.reduceEqDiff, reduceIte, Int.reduceEq, Int.reduceLT, Int.reduceLE, Nat.reduceAdd, Nat.reduceLT, Nat.reduceLeDiff, Int.reduceToNat, Int.reduceSub, Int.reduceAdd, Int.reduceNeg]⟩ ?_
  clear h0 h1 ρ
  rintro n ρ L ⟨rfl, h0, h1⟩
  simp only [h0, h1, go_sem, Nat.reduceEqDiff, reduceIte, Int.reduceEq, Int.reduceLT, Int.reduceLE, Nat.reduceAdd, Nat.reduceLT, Nat.reduceLeDiff, Int.reduceToNat, Int.reduceSub, Int.reduceAdd, Int.reduceNeg]
  first | rfl | (refine s_cond (b := decide _) (by simp only [go_sem, Nat.reduceEqDiff, reduceIte, Int.reduceEq, Int.reduceLT, Int.reduceLE, Nat.reduceAdd, Nat.reduceLT, Nat.reduceLeDiff, Int.reduceToNat, Int.reduceSub, Int.reduceAdd, Int.reduceNeg]; try rfl) ?_ ?_ <;> intro hb <;> simp only [hb, h0, h1, go_sem, Nat.reduceEqDiff, reduceIte, Int.reduceEq, Int.reduceLT, Int.reduceLE, Nat.reduceAdd, Nat.reduceLT, Nat.reduceLeDiff, Int.reduceToNat, Int.reduceSub, Int.reduceAdd, Int.reduceNeg])
  all_goals first | (exfalso; revert hb; decide) | rfl

theorem cv_bools {α : Type} (L : List Blk) (n : Nat) (m : Ren) (p : α → Bool) : ∀ l : List α, mapO (conv L (n + 1) m) (l.map fun i => IV.bool (p i)) = some (l.map fun i => IV.bool (p i))
  | [] => rfl
  | a :: l => by
    rw [List.map_cons]
    simp only [mapO, conv, cv_bools L n m p l]
theorem cv_set (SD : List IV) (s : List UInt8) (h : ∀ (L : List Blk) (n : Nat) (m : Ren), mapO (conv L (n + 1) m) SD = some SD) : mapO (conv [Blk.cells 256 [SD]] fuel renFreeze) [IV.str s, IV.ptr 0 0 0] = some [.str s, .iptr [SD] 0 0] := by
  simp [mapO, conv, renFreeze, fuel, h]
theorem dige : (digS = []) = False := by simp [digS]
theorem digl : ((digS.length : Int) = 1) = False := by simp [digS]
theorem trim_pure (hP : E.P = Tryz.prog) (s : List UInt8) (hs : ∀ b ∈ s, digB b = true) (hl : s.length ≤ 1000000) : XPure E 67 [.str s, .str digS] (.str []) := by
  refine xpure1 (n := Tryz.f67.ntmps) (c := y67) (t := 4) (by rw [hP]; rfl) (by rw [hP]; kernel_rfl) (by decide) (Nat.le_of_ble_eq_true rfl) ?_
  generalize hρ : entry _ = ρ
  have h0 : ρ 0 = .str s := by rw [← hρ]; rfl
  have h1 : ρ 1 = .str digS := by rw [← hρ]; rfl
  clear hρ
  unfold y67
  simp only [h0, h1, go_sem, Nat.reduceEqDiff, reduceIte, Int.reduceEq, Int.reduceLT, Int.reduceLE, Nat.reduceAdd, Nat.reduceLT, Nat.reduceLeDiff, Int.reduceToNat, Int.reduceSub, Int.reduceAdd, Int.reduceNeg]
  refine s_mg (by simp only [h0, h1, dige, go_sem, Nat.reduceEqDiff, reduceIte, Int.reduceEq, Int.reduceLT, Int.reduceLE, Nat.reduceAdd, Nat.reduceLT, Nat.reduceLeDiff, Int.reduceToNat, Int.reduceSub, Int.reduceAdd, Int.reduceNeg]; try rfl) ?_; simp only [cut_g, cut_t, cut_none, cut_out, memN_cons, memN_nil, Nat.reduceEqDiff, reduceIte, List.nil_append, List.cons_append, not_false_eq_true]; refine ex_merge rfl (by simp only [h0, h1, dige, go_sem, Nat.reduceEqDiff, reduceIte, Int.reduceEq, Int.reduceLT, Int.reduceLE, Nat.reduceAdd, Nat.reduceLT, Nat.reduceLeDiff, Int.reduceToNat, Int.reduceSub, Int.reduceAdd, Int.reduceNeg]) (by intro hb; simp only [hb, h0, h1, dige, go_sem, Nat.reduceEqDiff, reduceIte, Int.reduceEq, Int.reduceLT, Int.reduceLE, Nat.reduceAdd, Nat.reduceLT, Nat.reduceLeDiff, Int.reduceToNat, Int.reduceSub, Int.reduceAdd, Int.reduceNeg]; (repeat (refine s_mg (by simp only [h0, h1, dige, go_sem, Nat.reduceEqDiff, reduceIte, Int.reduceEq, Int.reduceLT, Int.reduceLE, Nat.reduceAdd, Nat.reduceLT, Nat.reduceLeDiff, Int.reduceToNat, Int.reduceSub, Int.reduceAdd, Int.reduceNeg]; try rfl) ?_; simp only [cut_g, cut_t, cut_none, cut_out, memN_cons, memN_nil, Nat.reduceEqDiff, reduceIte, List.nil_append, List.cons_append, not_false_eq_true]; refine ex_merge rfl (by simp only [h0, h1, dige, go_sem, Nat.reduceEqDiff, reduceIte, Int.reduceEq, Int.reduceLT, Int.reduceLE, Nat.reduceAdd, Nat.reduceLT, Nat.reduceLeDiff, Int.reduceToNat, Int.reduceSub, Int.reduceAdd, Int.reduceNeg]) (by intro hb; simp only [hb, h0, h1, dige, go_sem, Nat.reduceEqDiff, reduceIte, Int.reduceEq, Int.reduceLT, Int.reduceLE, Nat.reduceAdd, Nat.reduceLT, Nat.reduceLeDiff, Int.reduceToNat, Int.reduceSub, Int.reduceAdd, Int.reduceNeg]; first | exact rfl | exact ⟨rfl, rfl⟩) (fun vs => ?_); simp only [h0, h1, dige, go_sem, Nat.reduceEqDiff, reduceIte, Int.reduceEq, Int.reduceLT, Int.reduceLE, Nat.reduceAdd, Nat.reduceLT, Nat.reduceLeDiff, Int.reduceToNat, Int.reduceSub, Int.reduceAdd, Int.reduceNeg])); first | exact rfl | exact ⟨rfl, rfl⟩) (fun vs => ?_); simp only [h0, h1, dige, go_sem, Nat.reduceEqDiff, reduceIte, Int.reduceEq, Int.reduceLT, Int.reduceLE, Nat.reduceAdd, Nat.reduceLT, Nat.reduceLeDiff, Int.reduceToNat, Int.reduceSub, Int.reduceAdd, Int.reduceNeg]
  refine s_cond (b := decide (s = [])) (by simp only [h0, h1, go_sem, Nat.reduceEqDiff, reduceIte, Int.reduceEq, Int.reduceLT, Int.reduceLE, Nat.reduceAdd, Nat.reduceLT, Nat.reduceLeDiff, Int.reduceToNat, Int.reduceSub, Int.reduceAdd, Int.reduceNeg]; try rfl) ?_ ?_ <;> intro hc <;> simp only [hc, h0, h1, go_sem, Nat.reduceEqDiff, reduceIte, Int.reduceEq, Int.reduceLT, Int.reduceLE, Nat.reduceAdd, Nat.reduceLT, Nat.reduceLeDiff, Int.reduceToNat, Int.reduceSub, Int.reduceAdd, Int.reduceNeg]
  · rw [decide_eq_true_eq] at hc
    rw [hc]; rfl
  simp only [h0, h1, digl, go_sem, Nat.reduceEqDiff, reduceIte, Int.reduceEq, Int.reduceLT, Int.reduceLE, Nat.reduceAdd, Nat.reduceLT, Nat.reduceLeDiff, Int.reduceToNat, Int.reduceSub, Int.reduceAdd, Int.reduceNeg]
  refine xcall_pure (args' := [.str digS]) rfl (r := .tup [.agg setD, .bool true]) (evFun_sound (tabD_ok hP) (set_ev E.gl)) rfl ?_
  have hsl := setD_len
  have hcv : ∀ (L : List Blk) (n : Nat) (m : Ren), mapO (conv L (n + 1) m) setD = some setD := fun L n m => cv_bools L n m _ _
  have hsc : setD.all isCell = true := by kernel_rfl
  have hsL := trimL_pure (E := E.noPan) hP
  have hsR := trimR_pure (E := E.noPan) hP s hs hl
  generalize setD = SD at *
  simp only [h0, h1, go_sem, Nat.reduceEqDiff, reduceIte, Int.reduceEq, Int.reduceLT, Int.reduceLE, Nat.reduceAdd, Nat.reduceLT, Nat.reduceLeDiff, Int.reduceToNat, Int.reduceSub, Int.reduceAdd, Int.reduceNeg]
  refine ⟨hsl, hsc, ?_⟩
  rw [List.drop_eq_nil_of_le (by rw [hsl]; exact Nat.le_refl 256), List.append_nil]
  refine xcall_lend (args' := [.str s, .iptr [SD] 0 0]) (cv_set SD s hcv) hsR rfl rfl ?_
  simp only [h0, h1, go_sem, Nat.reduceEqDiff, reduceIte, Int.reduceEq, Int.reduceLT, Int.reduceLE, Nat.reduceAdd, Nat.reduceLT, Nat.reduceLeDiff, Int.reduceToNat, Int.reduceSub, Int.reduceAdd, Int.reduceNeg]
  refine xcall_lend (args' := [.str [], .iptr [SD] 0 0]) (cv_set SD [] hcv) hsL rfl rfl ?_
  simp only [h0, h1, go_sem, Nat.reduceEqDiff, reduceIte, Int.reduceEq, Int.reduceLT, Int.reduceLE, Nat.reduceAdd, Nat.reduceLT, Nat.reduceLeDiff, Int.reduceToNat, Int.reduceSub, Int.reduceAdd, Int.reduceNeg]
  rfl

theorem decFrom_app : ∀ (l r : List UInt8) (acc : Nat), Lib.decFrom acc (l ++ r) = (Lib.decFrom acc l).bind fun a => Lib.decFrom a r
  | [], _, _ => rfl
  | b :: l, r, acc => by
    simp only [List.cons_append, Lib.decFrom]
    cases Lib.digitVal b with
    | none => rfl
    | some d => exact decFrom_app l r _
theorem dig_toNat {k : Nat} (h : k < 10) : (UInt8.ofNat (48 + k)).toNat = 48 + k := by
  rw [UInt8.toNat_ofNat']; omega
theorem dec_from (u : Nat) : Lib.decFrom 0 (Lib.decDigits u) = some u := by
  induction u using Nat.strongRecOn with
  | _ u ih =>
    have hd : ∀ k, k < 10 → Lib.digitVal (UInt8.ofNat (48 + k)) = some k := fun k hk => by
      unfold Lib.digitVal; rw [dig_toNat hk, if_pos (by omega)]; congr 1; omega
    by_cases h : u < 10
    · rw [Lib.decDigits, dif_pos h]; simp only [Lib.decFrom, hd u h]; congr 1; omega
    · rw [Lib.decDigits, dif_neg h, decFrom_app, ih (u / 10) (by omega)]
      simp only [Option.bind_some, Lib.decFrom, hd (u % 10) (by omega)]; congr 1; omega
theorem dec_ne (u : Nat) : Lib.decDigits u ≠ [] := by
  rw [Lib.decDigits]; split <;> simp
theorem dec_dig (u : Nat) : ∀ b ∈ Lib.decDigits u, digB b = true := by
  have hd : ∀ k, k < 10 → digB (UInt8.ofNat (48 + k)) = true := fun k hk => by
    unfold digB; rw [dig_toNat hk, decide_eq_true_eq]; omega
  induction u using Nat.strongRecOn with
  | _ u ih =>
    by_cases h : u < 10
    · rw [Lib.decDigits, dif_pos h]; intro b hb; rw [List.mem_singleton] at hb; subst hb; exact hd u h
    · rw [Lib.decDigits, dif_neg h]; intro b hb
      rcases List.mem_append.1 hb with hb | hb
      · exact ih (u / 10) (by omega) b hb
      · rw [List.mem_singleton] at hb; subst hb; exact hd _ (by omega)
theorem dec_head (u : Nat) (h1 : 1 ≤ u) : (Lib.decDigits u).getD 0 0 ≠ 48 := by
  induction u using Nat.strongRecOn with
  | _ u ih =>
    have hd : ∀ k, k < 10 → 1 ≤ k → UInt8.ofNat (48 + k) ≠ 48 := fun k hk h1 h => by
      have := congrArg UInt8.toNat h
      rw [dig_toNat hk] at this
      have h48 : (48 : UInt8).toNat = 48 := rfl
      omega
    by_cases h : u < 10
    · rw [Lib.decDigits, dif_pos h]; exact hd u h h1
    · rw [Lib.decDigits, dif_neg h]
      have hi := ih (u / 10) (by omega) (by omega)
      have hn := dec_ne (u / 10)
      cases he : Lib.decDigits (u / 10) with
      | nil => exact absurd he hn
      | cons a l => rw [he] at hi; exact hi
theorem dec_atoi (N : Nat) : Lib.atoi (Lib.decDigits N) = some (N : Int) := by
  have hd := dec_dig N
  have hn := dec_ne N
  have hf := dec_from N
  cases he : Lib.decDigits N with
  | nil => exact absurd he hn
  | cons b l =>
    have hb := hd b (by rw [he]; exact List.mem_cons_self)
    unfold digB at hb
    rw [decide_eq_true_eq] at hb
    have e1 : (b == 45) = false := by rw [beq_eq_false_iff_ne]; intro h; subst h; revert hb; decide
    have e2 : (b == 43) = false := by rw [beq_eq_false_iff_ne]; intro h; subst h; revert hb; decide
    unfold Lib.atoi
    simp only [e1, e2, Bool.false_eq_true, if_false]
    unfold Lib.decNat
    rw [← he, hf, he]; rfl
theorem dec_small {N : Nat} (h : N ≤ 1000000) : (Lib.decDigits N).length ≤ 7 := by
  rw [Lib.decDigits_length]
  have hp := Lib.nDigits_pos N
  by_cases h0 : N < 10
  · rw [Lib.nDigits_small h0]; omega
  · by_cases h7 : Lib.nDigits N ≤ 7
    · exact h7
    · exfalso
      have : ∀ k, 1 ≤ k → ∀ u, k < Lib.nDigits u → 10 ^ k ≤ u := by
        intro k hk
        induction k with
        | zero => omega
        | succ k ih =>
          intro u hu
          by_cases hs : u < 10
          · rw [Lib.nDigits_small hs] at hu; omega
          · rw [Lib.nDigits_big hs] at hu
            by_cases hk0 : k = 0
            · subst hk0; simp; omega
            · have := ih (by omega) (u / 10) (by omega)
              rw [Nat.pow_succ]; omega
      have := this 7 (by omega) N (by omega)
      omega

theorem number_pure (hP : E.P = Tryz.prog) (N : Nat) (hN : N ≤ 1000000) : XPure E 46 [.str (Lib.decDigits N)] (.tup [.int .i64 N, .bool true]) := by
  have hlen := dec_small hN
  have hdig := dec_dig N
  have hat := dec_atoi N
  have hhd : 1 < (Lib.decDigits N).length → ((Lib.decDigits N).getD 0 0).toNat ≠ 48 := by
    intro hl h
    refine dec_head N ?_ (UInt8.toNat_inj.1 h)
    rw [Lib.decDigits] at hl
    split at hl
    · simp at hl
    · omega
  generalize Lib.decDigits N = s at *
  have e15 : ((15 : Int) < (s.length : Int)) = False := by simp; omega
  have hT := trim_pure (E := E.noPan) hP s hdig (by omega)
  have hA := atoi_pure (E := E.noPan) hP s N (by omega) hat
  refine xpure2 (n := Tryz.f46.ntmps) (c := y46) (t := 2) (t' := 3) (by rw [hP]; rfl) (by rw [hP]; kernel_rfl) (by decide) (Nat.le_of_ble_eq_true rfl) ?_
  generalize hρ : entry _ = ρ
  have h0 : ρ 0 = .str s := by rw [← hρ]; rfl
  clear hρ
  unfold y46
  by_cases hl : 1 < s.length
  · have e1 : ((1 : Int) < (s.length : Int)) = True := by simp; omega
    have e2 : (((s.getD 0 0).toNat : Int) = 48) = False := by simp only [eq_iff_iff, iff_false]; intro h; exact hhd hl (by omega)
    simp only [h0, e15, e1, go_sem, Nat.reduceEqDiff, reduceIte, Int.reduceEq, Int.reduceLT, Int.reduceLE, Nat.reduceAdd, Nat.reduceLT, Nat.reduceLeDiff, Int.reduceToNat, Int.reduceSub, Int.reduceAdd, Int.reduceNeg]
    first | (refine ⟨by first | omega | (rw [Int.toNat_zero]; omega), ?_⟩) | skip
    simp only [h0, e15, e1, e2, go_sem, Nat.reduceEqDiff, reduceIte, Int.reduceEq, Int.reduceLT, Int.reduceLE, Nat.reduceAdd, Nat.reduceLT, Nat.reduceLeDiff, Int.reduceToNat, Int.reduceSub, Int.reduceAdd, Int.reduceNeg]
    refine xcall_pure (args' := [.str s, .str digS]) rfl hT rfl ?_
    simp only [h0, e2, go_sem, Nat.reduceEqDiff, reduceIte, Int.reduceEq, Int.reduceLT, Int.reduceLE, Nat.reduceAdd, Nat.reduceLT, Nat.reduceLeDiff, Int.reduceToNat, Int.reduceSub, Int.reduceAdd, Int.reduceNeg]
    refine xcall_pure (args' := [.str s]) rfl hA rfl ?_
    simp only [h0, go_sem, Nat.reduceEqDiff, reduceIte, Int.reduceEq, Int.reduceLT, Int.reduceLE, Nat.reduceAdd, Nat.reduceLT, Nat.reduceLeDiff, Int.reduceToNat, Int.reduceSub, Int.reduceAdd, Int.reduceNeg]
    exact ⟨rfl, rfl⟩
  · have e1 : ((1 : Int) < (s.length : Int)) = False := by simp; omega
    simp only [h0, e15, e1, go_sem, Nat.reduceEqDiff, reduceIte, Int.reduceEq, Int.reduceLT, Int.reduceLE, Nat.reduceAdd, Nat.reduceLT, Nat.reduceLeDiff, Int.reduceToNat, Int.reduceSub, Int.reduceAdd, Int.reduceNeg]
    refine xcall_pure (args' := [.str s, .str digS]) rfl hT rfl ?_
    simp only [h0, go_sem, Nat.reduceEqDiff, reduceIte, Int.reduceEq, Int.reduceLT, Int.reduceLE, Nat.reduceAdd, Nat.reduceLT, Nat.reduceLeDiff, Int.reduceToNat, Int.reduceSub, Int.reduceAdd, Int.reduceNeg]
    refine xcall_pure (args' := [.str s]) rfl hA rfl ?_
    simp only [h0, go_sem, Nat.reduceEqDiff, reduceIte, Int.reduceEq, Int.reduceLT, Int.reduceLE, Nat.reduceAdd, Nat.reduceLT, Nat.reduceLeDiff, Int.reduceToNat, Int.reduceSub, Int.reduceAdd, Int.reduceNeg]
    exact ⟨rfl, rfl⟩
end
end Go.X.TryzW
end
section
open Go Go.X Go.Proofs
set_option maxRecDepth 100000
set_option maxHeartbeats 4000000
set_option linter.unusedSimpArgs false
set_option linter.unusedVariables false
namespace Go.X.TryzW
/- "tiller/dag.node$1" params { toList := [9] } results { toList := [Go.ResultVar.tmp 2] } -/
def y49 : XC :=
 (.seq
  (.ops [
    ⟨(some 2), (.mov (.c (.bool false))), none⟩])
  (.seq
   (.ops [
     ⟨(some 3), (.mov (.t 0)), none⟩,
     ⟨(some 4), (.call (.f 23) [(.t 3)]), none⟩,
     ⟨(some 5), (.un .not (.t 4)), none⟩,
     ⟨(some 2), (.mov (.t 5)), none⟩])
   .ret))

/- "slices.IndexFunc[[]string,string]" params { toList := [33, 58] } results { toList := [Go.ResultVar.tmp 4] } -/
def y51 : XC :=
 (.seq
  (.ops [
    ⟨(some 4), (.mov (.c (.int .i64 0))), none⟩])
  (.seq
   (.seq
    (.ops [
      ⟨(some 6), (.mov (.t 0)), none⟩,
      ⟨(some 7), (.len (.t 6)), none⟩,
      ⟨(some 8), (.mov (.c (.int .i64 0))), none⟩])
    (.block 0
     (.loop
      (.seq
       (.ops [
         ⟨(some 9), (.bin .lss (.t 8) (.t 7)), none⟩])
       (.seq
        (.cond (.t 9)
         .skip
         (.exit 0))
        (.seq
         (.block 1
          (.seq
           (.ops [
             ⟨(some 10), (.mov (.t 8)), none⟩,
             ⟨(some 5), (.mov (.t 10)), none⟩])
           (.seq
            (.ops [
              ⟨(some 11), (.mov (.t 1)), none⟩,
              ⟨(some 12), (.mov (.t 0)), none⟩,
              ⟨(some 13), (.mov (.t 5)), none⟩,
              ⟨(some 14), (.idxS 1 (.t 12) (.t 13)), none⟩,
              ⟨(some 15), (.load1 (.t 14)), none⟩,
              ⟨(some 16), (.call (.t 11) [(.t 15)]), none⟩])
            (.cond (.t 16)
             (.seq
              (.ops [
                ⟨(some 17), (.mov (.t 5)), none⟩,
                ⟨(some 4), (.mov (.t 17)), none⟩])
              .ret)
             .skip))))
         (.ops [
           ⟨(some 18), (.bin .add (.t 8) (.c (.int .i64 1))), none⟩,
           ⟨(some 8), (.mov (.t 18)), none⟩])))))))
   (.seq
    (.ops [
      ⟨(some 4), (.mov (.c (.int .i64 (-1)))), none⟩])
    .ret)))

/- "slices.ContainsFunc[[]string,string]" params { toList := [33, 58] } results { toList := [Go.ResultVar.tmp 4] } -/
def y28 : XC :=
 (.seq
  (.ops [
    ⟨(some 4), (.mov (.c (.bool false))), none⟩])
  (.seq
   (.ops [
     ⟨(some 5), (.mov (.t 0)), none⟩,
     ⟨(some 6), (.mov (.t 1)), none⟩,
     ⟨(some 7), (.call (.f 51) [(.t 5), (.t 6)]), none⟩,
     ⟨(some 8), (.bin .geq (.t 7) (.c (.int .i64 0))), none⟩,
     ⟨(some 4), (.mov (.t 8)), none⟩])
   .ret))

section
variable {E : Env}
theorem bad_pure (hP : E.P = Tryz.prog) {m : Int} (hm : E.gl 0 = some [.int .i64 m]) (s : List UInt8) (hs : s.length ≤ 9223372036854775807) : XPure E 49 [.str s] (.bool (!namedS s false 64)) := by
  refine xpure1 (n := Tryz.f49.ntmps) (c := y49) (t := 2) (by rw [hP]; rfl) (by rw [hP]; kernel_rfl) (by decide) (Nat.le_of_ble_eq_true rfl) ?_
  generalize hρ : entry _ = ρ
  have h0 : ρ 0 = .str s := by rw [← hρ]; rfl
  clear hρ
  unfold y49
  simp only [h0, go_sem, Nat.reduceEqDiff, reduceIte, Int.reduceEq, Int.reduceLT, Int.reduceLE, Nat.reduceAdd, Nat.reduceLT, Nat.reduceLeDiff, Int.reduceToNat, Int.reduceSub, Int.reduceAdd, Int.reduceNeg]
  refine xcall_pure (args' := [.str s]) rfl (dagName_pure (E := E.noPan) hP hm s hs) rfl ?_
  simp only [h0, go_sem, Nat.reduceEqDiff, reduceIte, Int.reduceEq, Int.reduceLT, Int.reduceLE, Nat.reduceAdd, Nat.reduceLT, Nat.reduceLeDiff, Int.reduceToNat, Int.reduceSub, Int.reduceAdd, Int.reduceNeg]
  rfl

theorem indexF_pure (hP : E.P = Tryz.prog) {m : Int} (hm : E.gl 0 = some [.int .i64 m]) (l : List (List UInt8)) (hl : l.length ≤ 1000000)
    (hok : ∀ s ∈ l, namedS s false 64 = true) (hsh : ∀ s ∈ l, s.length ≤ 1000000) : XPure E 51 [.isl (strRows l), .fn (.func 49) [] []] (.int .i64 (-1)) := by
  refine xpure1 (n := Tryz.f51.ntmps) (c := y51) (t := 4) (by rw [hP]; rfl) (by rw [hP]; kernel_rfl) (by decide) (Nat.le_of_ble_eq_true rfl) ?_
  generalize hρ : entry _ = ρ
  have h0 : ρ 0 = .isl (strRows l) := by rw [← hρ]; rfl
  have h1 : ρ 1 = .fn (.func 49) [] [] := by rw [← hρ]; rfl
  clear hρ
  unfold y51
  simp only [h0, h1, strRows_len, go_sem, Nat.reduceEqDiff, reduceIte, Int.reduceEq, Int.reduceLT, Int.reduceLE, Nat.reduceAdd, Nat.reduceLT, Nat.reduceLeDiff, Int.reduceToNat, Int.reduceSub, Int.reduceAdd, Int.reduceNeg]
  refine s_loop (fun n ρ L => ∃ j : Nat, j ≤ l.length ∧ n = l.length - j ∧ L = [] ∧ ρ 0 = .isl (strRows l) ∧ ρ 1 = .fn (.func 49) [] [] ∧ ρ 7 = .int .i64 l.length ∧ ρ 8 = .int .i64 j)
    ⟨0, Nat.zero_le _, rfl, rfl, by simp only [h0, go_sem, Nat.reduceEqDiff, reduceIte, Int.reduceEq, Int.reduceLT, Int.reduceLE, Nat.reduceAdd, Nat.reduceLT, Nat.reduceLeDiff, Int.reduceToNat, Int.reduceSub, Int.reduceAdd, Int.reduceNeg], by simp only [h1, go_sem, Nat.reduceEqDiff, reduceIte, Int.reduceEq, Int.reduceLT, Int.reduceLE, Nat.reduceAdd, Nat.reduceLT, Nat.reduceLeDiff, Int.reduceToNat, Int.reduceSub, Int.reduceAdd, Int.reduceNeg], by simp only [go_sem, Nat.reduceEqDiff, reduceIte, Int.reduceEq, Int.reduceLT, Int.reduceLE, Nat.reduceAdd, Nat.reduceLT, Nat.reduceLeDiff, Int.reduceToNat, Int.reduceSub, Int.reduceAdd, Int.reduceNeg], by simp only [go_sem, Nat.reduceEqDiff, reduceIte, Int.reduceEq, Int.reduceLT, Int.reduceLE, Nat.reduceAdd, Nat.reduceLT, Nat.reduceLeDiff, Int.reduceToNat, Int.reduceSub, Int.reduceAdd, Int.reduceNeg]; try rfl⟩ ?_
  clear h0 h1 ρ
  rintro n ρ L ⟨j, hj, rfl, rfl, h0, h1, h7, h8⟩
  simp only [h0, h1, h7, h8, go_sem, Nat.reduceEqDiff, reduceIte, Int.reduceEq, Int.reduceLT, Int.reduceLE, Nat.reduceAdd, Nat.reduceLT, Nat.reduceLeDiff, Int.reduceToNat, Int.reduceSub, Int.reduceAdd, Int.reduceNeg]
  refine s_cond (b := decide _) (by simp only [h0, h1, h7, h8, go_sem, Nat.reduceEqDiff, reduceIte, Int.reduceEq, Int.reduceLT, Int.reduceLE, Nat.reduceAdd, Nat.reduceLT, Nat.reduceLeDiff, Int.reduceToNat, Int.reduceSub, Int.reduceAdd, Int.reduceNeg]; try rfl) ?_ ?_ <;> intro hb <;> simp only [hb, h0, h1, h7, h8, strRows_len, go_sem, Nat.reduceEqDiff, reduceIte, Int.reduceEq, Int.reduceLT, Int.reduceLE, Nat.reduceAdd, Nat.reduceLT, Nat.reduceLeDiff, Int.reduceToNat, Int.reduceSub, Int.reduceAdd, Int.reduceNeg]
  · rw [decide_eq_true_eq] at hb
    have hj' : j < l.length := by omega
    have hsr := strRows_get hj'
    have hmem : l.getD j [] ∈ l := by rw [List.getD_eq_getElem?_getD, List.getElem?_eq_getElem hj']; exact List.getElem_mem _
    try simp only [h0, h1, h7, h8, rows_strs, hsr, go_sem, Nat.reduceEqDiff, reduceIte, Int.reduceEq, Int.reduceLT, Int.reduceLE, Nat.reduceAdd, Nat.reduceLT, Nat.reduceLeDiff, Int.reduceToNat, Int.reduceSub, Int.reduceAdd, Int.reduceNeg]
    refine ⟨by omega, hj', ?_⟩
    refine xcall_pure (args' := [.str (l.getD j [])]) rfl (bad_pure (E := E.noPan) hP hm _ (by have := hsh _ hmem; omega)) rfl ?_
    rw [hok _ hmem]
    simp only [h0, h1, h7, h8, go_sem, Nat.reduceEqDiff, reduceIte, Int.reduceEq, Int.reduceLT, Int.reduceLE, Nat.reduceAdd, Nat.reduceLT, Nat.reduceLeDiff, Int.reduceToNat, Int.reduceSub, Int.reduceAdd, Int.reduceNeg]
    refine ⟨l.length - (j + 1), by omega, j + 1, by omega, rfl, ?_⟩
    rw [wrap64 (by omega) (by omega)]; rfl
  · rfl

theorem containsF_pure (hP : E.P = Tryz.prog) {m : Int} (hm : E.gl 0 = some [.int .i64 m]) (l : List (List UInt8)) (hl : l.length ≤ 1000000)
    (hok : ∀ s ∈ l, namedS s false 64 = true) (hsh : ∀ s ∈ l, s.length ≤ 1000000) : XPure E 28 [.isl (strRows l), .fn (.func 49) [] []] (.bool false) := by
  refine xpure1 (n := Tryz.f28.ntmps) (c := y28) (t := 4) (by rw [hP]; rfl) (by rw [hP]; kernel_rfl) (by decide) (Nat.le_of_ble_eq_true rfl) ?_
  generalize hρ : entry _ = ρ
  have h0 : ρ 0 = .isl (strRows l) := by rw [← hρ]; rfl
  have h1 : ρ 1 = .fn (.func 49) [] [] := by rw [← hρ]; rfl
  clear hρ
  unfold y28
  simp only [h0, h1, go_sem, Nat.reduceEqDiff, reduceIte, Int.reduceEq, Int.reduceLT, Int.reduceLE, Nat.reduceAdd, Nat.reduceLT, Nat.reduceLeDiff, Int.reduceToNat, Int.reduceSub, Int.reduceAdd, Int.reduceNeg]
  refine xcall_pure (args' := [.isl (strRows l), .fn (.func 49) [] []]) rfl (indexF_pure (E := E.noPan) hP hm l hl hok hsh) rfl ?_
  simp only [h0, h1, go_sem, Nat.reduceEqDiff, reduceIte, Int.reduceEq, Int.reduceLT, Int.reduceLE, Nat.reduceAdd, Nat.reduceLT, Nat.reduceLeDiff, Int.reduceToNat, Int.reduceSub, Int.reduceAdd, Int.reduceNeg]
  rfl
end
end Go.X.TryzW
end
section
open Go Go.X Go.Proofs
set_option maxRecDepth 100000
set_option maxHeartbeats 4000000
set_option linter.unusedSimpArgs false
set_option linter.unusedVariables false
namespace Go.X.TryzW
def y24s : XC :=
 (.seq (.ops [ ⟨(some 39), (.mov (.t 6)), none⟩]) (.block 0 (.seq (.ops [ ⟨(some 42), (.bin .eql (.t 39) (.c (.str [97, 99, 116, 105, 118, 105, 116, 121]))), none⟩, ⟨(some 41), (.mov (.t 42)), none⟩]) (.cond (.t 41) (.seq (.ops [ ⟨(some 43), (.fldA 1 (.t 4)), none⟩, ⟨none, (.store 1 (.t 43) (.c (.int .i64 1))), none⟩, ⟨(some 44), (.fldA 5 (.t 4)), none⟩, ⟨none, (.store 1 (.t 44) (.c (.int .i64 1))), none⟩]) (.seq (.ops [ ⟨(some 45), (.fldA 5 (.t 4)), none⟩, ⟨(some 46), (.build [(.str []), (.raw (.pointer none))] [(0, (1, (.c (.str [116, 114, 105, 101, 115])))), (1, (1, (.t 45)))]), none⟩, ⟨(some 47), (.fldA 4 (.t 4)), none⟩, ⟨(some 48), (.build [(.str []), (.raw (.pointer none))] [(0, (1, (.c (.str [116, 105, 109, 101, 111, 117, 116])))), (1, (1, (.t 47)))]), none⟩, ⟨(some 49), (.bslice 2 [(.str []), (.raw (.pointer none))] 2 [(0, (.t 46)), (1, (.t 48))]), none⟩, ⟨(some 50), (.len (.t 49)), none⟩, ⟨(some 51), (.mov (.c (.int .i64 0))), none⟩]) (.block 1 (.loop (.seq (.ops [ ⟨(some 52), (.bin .lss (.t 51) (.t 50)), none⟩]) (.seq (.cond (.t 52) .skip (.exit 1)) (.seq (.block 2 (.seq (.ops [ ⟨(some 53), (.idxS 2 (.t 49) (.t 51)), none⟩, ⟨(some 54), (.loadN 2 (.t 53)), none⟩, ⟨(some 9), (.alloc [(.str []), (.raw (.pointer none))]), none⟩, ⟨none, (.store 2 (.t 9) (.t 54)), none⟩]) (.seq (.draw [ ⟨(some 55), (.mov (.t 7)), none⟩, ⟨(some 56), (.len (.t 55)), none⟩, ⟨(some 57), (.bin .gtr (.t 56) (.c (.int .i64 1))), none⟩, ⟨(some 58), (.mov (.t 57)), none⟩, ⟨(some 59), (.mov (.t 7)), (some (58, true))⟩, ⟨(some 60), (.idxS 1 (.t 59) (.c (.int .i64 0))), (some (58, true))⟩, ⟨(some 61), (.load1 (.t 60)), (some (58, true))⟩, ⟨(some 62), (.fldA 0 (.t 9)), (some (58, true))⟩, ⟨(some 63), (.load1 (.t 62)), (some (58, true))⟩, ⟨(some 64), (.bin .eql (.t 61) (.t 63)), (some (58, true))⟩, ⟨(some 65), (.pick (.t 58) (.t 64) (.c (.bool false))), none⟩]) (.cond (.t 65) (.seq (.ops [ ⟨(some 67), (.mov (.t 7)), none⟩, ⟨(some 68), (.idxS 1 (.t 67) (.c (.int .i64 1))), none⟩, ⟨(some 69), (.load1 (.t 68)), none⟩, ⟨(some 70), (.call (.f 46) [(.t 69)]), none⟩, ⟨(some 66), (.mov (.t 70)), none⟩, ⟨(some 71), (.ext (.t 66) 0), none⟩, ⟨(some 72), (.ext (.t 66) 1), none⟩, ⟨(some 10), (.mov (.t 71)), none⟩, ⟨(some 11), (.mov (.t 72)), none⟩]) (.seq (.ops [ ⟨(some 73), (.fldA 1 (.t 9)), none⟩, ⟨(some 74), (.load1 (.t 73)), none⟩, ⟨(some 75), (.mov (.t 10)), none⟩, ⟨(some 76), (.mov (.t 5)), none⟩, ⟨(some 77), (.mov (.t 76)), none⟩, ⟨(some 78), (.mov (.t 11)), (some (77, true))⟩, ⟨(some 79), (.pick (.t 77) (.t 78) (.c (.bool false))), none⟩, ⟨(some 80), (.nilck (.t 74)), none⟩, ⟨none, (.store 1 (.t 80) (.t 75)), none⟩, ⟨(some 5), (.mov (.t 79)), none⟩]) (.ops [ ⟨(some 81), (.mov (.t 7)), none⟩, ⟨(some 82), (.slice 1 (.t 81) (some (.c (.int .i64 2))) none), none⟩, ⟨(some 7), (.mov (.t 82)), none⟩]))) .skip)))) (.ops [ ⟨(some 83), (.bin .add (.t 51) (.c (.int .i64 1))), none⟩, ⟨(some 51), (.mov (.t 83)), none⟩])))))))) (.seq (.ops [ ⟨(some 85), (.bin .eql (.t 39) (.c (.str [116, 105, 109, 101, 114]))), none⟩, ⟨(some 84), (.mov (.t 85)), none⟩]) (.cond (.t 84) (.seq (.ops [ ⟨(some 86), (.fldA 1 (.t 4)), none⟩, ⟨none, (.store 1 (.t 86) (.c (.int .i64 2))), none⟩, ⟨(some 87), (.fldA 2 (.t 4)), none⟩, ⟨none, (.store 1 (.t 87) (.c (.str []))), none⟩]) (.ops [ ⟨(some 89), (.mov (.t 0)), none⟩, ⟨(some 90), (.idxS 1 (.t 89) (.c (.int .i64 2))), none⟩, ⟨(some 91), (.load1 (.t 90)), none⟩, ⟨(some 92), (.call (.f 46) [(.t 91)]), none⟩, ⟨(some 88), (.mov (.t 92)), none⟩, ⟨(some 93), (.ext (.t 88) 0), none⟩, ⟨(some 94), (.ext (.t 88) 1), none⟩, ⟨(some 95), (.fldA 4 (.t 4)), none⟩, ⟨none, (.store 1 (.t 95) (.t 93)), none⟩, ⟨(some 5), (.mov (.t 94)), none⟩])) (.seq (.ops [ ⟨(some 97), (.bin .eql (.t 39) (.c (.str [99, 104, 105, 108, 100]))), none⟩, ⟨(some 96), (.mov (.t 97)), none⟩]) (.cond (.t 96) (.ops [ ⟨(some 98), (.fldA 1 (.t 4)), none⟩, ⟨none, (.store 1 (.t 98) (.c (.int .i64 3))), none⟩]) (.seq (.ops [ ⟨(some 100), (.bin .eql (.t 39) (.c (.str [119, 97, 105, 116]))), none⟩, ⟨(some 99), (.mov (.t 100)), none⟩]) (.cond (.t 99) (.ops [ ⟨(some 101), (.fldA 1 (.t 4)), none⟩, ⟨none, (.store 1 (.t 101) (.c (.int .i64 4))), none⟩]) (.seq (.ops [ ⟨(some 103), (.bin .eql (.t 39) (.c (.str [115, 101, 110, 100]))), none⟩, ⟨(some 102), (.mov (.t 103)), none⟩]) (.cond (.t 102) (.seq (.seq (.ops [ ⟨(some 104), (.mov (.t 7)), none⟩, ⟨(some 105), (.len (.t 104)), none⟩, ⟨(some 106), (.bin .eql (.t 105) (.c (.int .i64 0))), none⟩]) (.cond (.t 106) (.seq (.ops [ ⟨(some 107), (.build [(.str []), (.int .i64 0), (.str []), (.str []), (.int .i64 0), (.int .i64 0), .nsl] []), none⟩, ⟨none, (.store 7 (.t 2) (.t 107)), none⟩, ⟨(some 3), (.mov (.c (.bool false))), none⟩]) .ret) .skip)) (.seq (.drawE [ ⟨(some 108), (.mov (.t 0)), none⟩, ⟨(some 109), (.idxS 1 (.t 108) (.c (.int .i64 2))), none⟩, ⟨(some 110), (.load1 (.t 109)), none⟩, ⟨(some 111), (.mov (.t 7)), none⟩, ⟨(some 112), (.idxS 1 (.t 111) (.c (.int .i64 0))), none⟩, ⟨(some 113), (.load1 (.t 112)), none⟩, ⟨(some 114), (.fldA 1 (.t 4)), none⟩, ⟨none, (.store 1 (.t 114) (.c (.int .i64 5))), none⟩, ⟨(some 115), (.fldA 3 (.t 4)), none⟩, ⟨none, (.store 1 (.t 115) (.t 110)), none⟩, ⟨(some 116), (.fldA 2 (.t 4)), none⟩, ⟨none, (.store 1 (.t 116) (.t 113)), none⟩]) (.seq (.ops [ ⟨(some 117), (.fldA 3 (.t 4)), none⟩, ⟨(some 118), (.load1 (.t 117)), none⟩, ⟨(some 119), (.call (.f 47) [(.t 118)]), none⟩, ⟨(some 120), (.mov (.t 119)), none⟩, ⟨(some 121), (.fldA 2 (.t 4)), (some (120, true))⟩, ⟨(some 122), (.load1 (.t 121)), (some (120, true))⟩, ⟨(some 123), (.call (.f 23) [(.t 122)]), (some (120, true))⟩, ⟨(some 124), (.pick (.t 120) (.t 123) (.c (.bool false))), none⟩, ⟨(some 5), (.mov (.t 124)), none⟩]) (.ops [ ⟨(some 125), (.mov (.t 7)), none⟩, ⟨(some 126), (.slice 1 (.t 125) (some (.c (.int .i64 1))) none), none⟩, ⟨(some 7), (.mov (.t 126)), none⟩])))) (.seq (.ops [ ⟨(some 40), (.build [(.str []), (.int .i64 0), (.str []), (.str []), (.int .i64 0), (.int .i64 0), .nsl] []), none⟩, ⟨none, (.store 7 (.t 2) (.t 40)), none⟩, ⟨(some 3), (.mov (.c (.bool false))), none⟩]) .ret)))))))))))))
/- "tiller/dag.node" params { toList := [33] } results { toList := [Go.ResultVar.cell 2 37, Go.ResultVar.tmp 3] } -/
def y24 : XC :=
 (.seq (.ops [ ⟨(some 2), (.alloc [(.str []), (.int .i64 0), (.str []), (.str []), (.int .i64 0), (.int .i64 0), .nsl]), none⟩, ⟨(some 3), (.mov (.c (.bool false))), none⟩]) (.seq (.seq (.ops [ ⟨(some 12), (.mov (.t 0)), none⟩, ⟨(some 13), (.len (.t 12)), none⟩, ⟨(some 14), (.bin .lss (.t 13) (.c (.int .i64 3))), none⟩, ⟨(some 15), (.mov (.t 14)), none⟩, ⟨(some 16), (.mov (.t 0)), (some (15, false))⟩, ⟨(some 17), (.idxS 1 (.t 16) (.c (.int .i64 0))), (some (15, false))⟩, ⟨(some 18), (.load1 (.t 17)), (some (15, false))⟩, ⟨(some 19), (.call (.f 23) [(.t 18)]), (some (15, false))⟩, ⟨(some 20), (.un .not (.t 19)), (some (15, false))⟩, ⟨(some 21), (.pick (.t 15) (.c (.bool true)) (.t 20)), none⟩]) (.cond (.t 21) (.seq (.ops [ ⟨(some 22), (.build [(.str []), (.int .i64 0), (.str []), (.str []), (.int .i64 0), (.int .i64 0), .nsl] []), none⟩, ⟨none, (.store 7 (.t 2) (.t 22)), none⟩, ⟨(some 3), (.mov (.c (.bool false))), none⟩]) .ret) .skip)) (.seq (.drawE [ ⟨(some 23), (.mov (.t 0)), none⟩, ⟨(some 24), (.idxS 1 (.t 23) (.c (.int .i64 0))), none⟩, ⟨(some 25), (.load1 (.t 24)), none⟩, ⟨(some 26), (.mov (.t 0)), none⟩, ⟨(some 27), (.idxS 1 (.t 26) (.c (.int .i64 2))), none⟩, ⟨(some 28), (.load1 (.t 27)), none⟩, ⟨(some 29), (.build [(.str []), (.int .i64 0), (.str []), (.str []), (.int .i64 0), (.int .i64 0), .nsl] [(0, (1, (.t 25))), (2, (1, (.t 28)))]), none⟩, ⟨(some 30), (.mov (.t 0)), none⟩, ⟨(some 31), (.idxS 1 (.t 30) (.c (.int .i64 2))), none⟩, ⟨(some 32), (.load1 (.t 31)), none⟩, ⟨(some 33), (.pcall (.f 23) [(.t 32)]), none⟩, ⟨(some 4), (.alloc [(.str []), (.int .i64 0), (.str []), (.str []), (.int .i64 0), (.int .i64 0), .nsl]), none⟩, ⟨none, (.store 7 (.t 4) (.t 29)), none⟩, ⟨(some 5), (.mov (.t 33)), none⟩]) (.seq (.draw [ ⟨(some 34), (.mov (.t 0)), none⟩, ⟨(some 35), (.idxS 1 (.t 34) (.c (.int .i64 1))), none⟩, ⟨(some 36), (.load1 (.t 35)), none⟩, ⟨(some 37), (.mov (.t 0)), none⟩, ⟨(some 38), (.slice 1 (.t 37) (some (.c (.int .i64 3))) none), none⟩, ⟨(some 6), (.mov (.t 36)), none⟩, ⟨(some 7), (.mov (.t 38)), none⟩]) (.seq y24s (.seq (.seq (.ops [ ⟨(some 127), (.mov (.t 7)), none⟩, ⟨(some 128), (.len (.t 127)), none⟩, ⟨(some 129), (.bin .gtr (.t 128) (.c (.int .i64 0))), none⟩]) (.cond (.t 129) (.seq (.ops [ ⟨(some 130), (.mov (.t 7)), none⟩, ⟨(some 131), (.slice 1 (.t 130) (some (.c (.int .i64 1))) none), none⟩, ⟨(some 132), (.call (.f 48) [(.t 131)]), none⟩, ⟨(some 133), (.fldA 6 (.t 4)), none⟩, ⟨none, (.store 1 (.t 133) (.t 132)), none⟩]) (.ops [ ⟨(some 134), (.mov (.t 5)), none⟩, ⟨(some 135), (.mov (.t 134)), none⟩, ⟨(some 136), (.mov (.t 7)), (some (135, true))⟩, ⟨(some 137), (.idxS 1 (.t 136) (.c (.int .i64 0))), (some (135, true))⟩, ⟨(some 138), (.load1 (.t 137)), (some (135, true))⟩, ⟨(some 139), (.bin .eql (.t 138) (.c (.str [97, 102, 116, 101, 114]))), (some (135, true))⟩, ⟨(some 140), (.pick (.t 135) (.t 139) (.c (.bool false))), none⟩, ⟨(some 141), (.mov (.t 140)), none⟩, ⟨(some 142), (.fldA 6 (.t 4)), (some (141, true))⟩, ⟨(some 143), (.load1 (.t 142)), (some (141, true))⟩, ⟨(some 144), (.len (.t 143)), (some (141, true))⟩, ⟨(some 145), (.bin .gtr (.t 144) (.c (.int .i64 0))), (some (141, true))⟩, ⟨(some 146), (.pick (.t 141) (.t 145) (.c (.bool false))), none⟩, ⟨(some 147), (.mov (.t 146)), none⟩, ⟨(some 148), (.fldA 6 (.t 4)), (some (147, true))⟩, ⟨(some 149), (.load1 (.t 148)), (some (147, true))⟩, ⟨(some 150), (.call (.f 28) [(.t 149), (.f 49)]), (some (147, true))⟩, ⟨(some 151), (.un .not (.t 150)), (some (147, true))⟩, ⟨(some 152), (.pick (.t 147) (.t 151) (.c (.bool false))), none⟩, ⟨(some 5), (.mov (.t 152)), none⟩])) .skip)) (.seq (.ops [ ⟨(some 153), (.loadN 7 (.t 4)), none⟩, ⟨(some 154), (.mov (.t 5)), none⟩, ⟨none, (.store 7 (.t 2) (.t 153)), none⟩, ⟨(some 3), (.mov (.t 154)), none⟩]) .ret)))))))
section
variable {E : Env}
theorem kd11 : (([97, 99, 116, 105, 118, 105, 116, 121] : List UInt8) = [97, 99, 116, 105, 118, 105, 116, 121]) = True := eq_true (by decide)
theorem kd12 : (([97, 99, 116, 105, 118, 105, 116, 121] : List UInt8) = [116, 105, 109, 101, 114]) = False := eq_false (by decide)
theorem kd13 : (([97, 99, 116, 105, 118, 105, 116, 121] : List UInt8) = [99, 104, 105, 108, 100]) = False := eq_false (by decide)
theorem kd14 : (([97, 99, 116, 105, 118, 105, 116, 121] : List UInt8) = [119, 97, 105, 116]) = False := eq_false (by decide)
theorem kd15 : (([97, 99, 116, 105, 118, 105, 116, 121] : List UInt8) = [115, 101, 110, 100]) = False := eq_false (by decide)
theorem kd21 : (([116, 105, 109, 101, 114] : List UInt8) = [97, 99, 116, 105, 118, 105, 116, 121]) = False := eq_false (by decide)
theorem kd22 : (([116, 105, 109, 101, 114] : List UInt8) = [116, 105, 109, 101, 114]) = True := eq_true (by decide)
theorem kd23 : (([116, 105, 109, 101, 114] : List UInt8) = [99, 104, 105, 108, 100]) = False := eq_false (by decide)
theorem kd24 : (([116, 105, 109, 101, 114] : List UInt8) = [119, 97, 105, 116]) = False := eq_false (by decide)
theorem kd25 : (([116, 105, 109, 101, 114] : List UInt8) = [115, 101, 110, 100]) = False := eq_false (by decide)
theorem kd31 : (([99, 104, 105, 108, 100] : List UInt8) = [97, 99, 116, 105, 118, 105, 116, 121]) = False := eq_false (by decide)
theorem kd32 : (([99, 104, 105, 108, 100] : List UInt8) = [116, 105, 109, 101, 114]) = False := eq_false (by decide)
theorem kd33 : (([99, 104, 105, 108, 100] : List UInt8) = [99, 104, 105, 108, 100]) = True := eq_true (by decide)
theorem kd34 : (([99, 104, 105, 108, 100] : List UInt8) = [119, 97, 105, 116]) = False := eq_false (by decide)
theorem kd35 : (([99, 104, 105, 108, 100] : List UInt8) = [115, 101, 110, 100]) = False := eq_false (by decide)
theorem kd41 : (([119, 97, 105, 116] : List UInt8) = [97, 99, 116, 105, 118, 105, 116, 121]) = False := eq_false (by decide)
theorem kd42 : (([119, 97, 105, 116] : List UInt8) = [116, 105, 109, 101, 114]) = False := eq_false (by decide)
theorem kd43 : (([119, 97, 105, 116] : List UInt8) = [99, 104, 105, 108, 100]) = False := eq_false (by decide)
theorem kd44 : (([119, 97, 105, 116] : List UInt8) = [119, 97, 105, 116]) = True := eq_true (by decide)
theorem kd45 : (([119, 97, 105, 116] : List UInt8) = [115, 101, 110, 100]) = False := eq_false (by decide)
theorem kd51 : (([115, 101, 110, 100] : List UInt8) = [97, 99, 116, 105, 118, 105, 116, 121]) = False := eq_false (by decide)
theorem kd52 : (([115, 101, 110, 100] : List UInt8) = [116, 105, 109, 101, 114]) = False := eq_false (by decide)
theorem kd53 : (([115, 101, 110, 100] : List UInt8) = [99, 104, 105, 108, 100]) = False := eq_false (by decide)
theorem kd54 : (([115, 101, 110, 100] : List UInt8) = [119, 97, 105, 116]) = False := eq_false (by decide)
theorem kd55 : (([115, 101, 110, 100] : List UInt8) = [115, 101, 110, 100]) = True := eq_true (by decide)
/-- An answer of which the first part lies in cells. -/
theorem xpureC2 {f : FuncId} {fn : Func} {t t' k n : Nat} {c : XC} {args : List IV} {r : IV} (hf : E.P.funcs[f]? = some fn) (hF : compFn E.P fn = some ⟨n, [.cellN t k, .tmp t'], c⟩) (hnm : fn.name ≠ "runtime.NumGoroutine")
    (hargs : args.length ≤ fn.ntmps) (h : xrun E.noPan c (entry args) [] (doneK fun ρ L' => xop E ((XO.loadN k (.t t)).sub (Opd.ev ρ)) cev L' fun v _ => conv L' fuel renFreeze (.tup [v, ρ t']) = some r)) : XPure E f args r := by
  refine xpure_of_fun hf hF hnm hargs (xrun_mono _ (fun e ρ L h => ?_) h)
  have key : ∀ {ρ : Rho} {L : List Blk}, xop E ((XO.loadN k (.t t)).sub (Opd.ev ρ)) cev L (fun v _ => conv L fuel renFreeze (.tup [v, ρ t']) = some r) → xresults E [.cellN t k, .tmp t'] ρ L fun r' => conv L fuel renFreeze r' = some r := fun h => by
    rw [← xop_sub] at h
    exact h
  cases e with
  | normal => exact ⟨Or.inr rfl, key h⟩
  | ret => exact ⟨Or.inl rfl, key h⟩
  | exit => exact h.elim
  | goto => exact h.elim
theorem xpureC3 {f : FuncId} {fn : Func} {t t' t'' k n : Nat} {c : XC} {args : List IV} {r : IV} (hf : E.P.funcs[f]? = some fn) (hF : compFn E.P fn = some ⟨n, [.cellN t k, .tmp t', .tmp t''], c⟩) (hnm : fn.name ≠ "runtime.NumGoroutine")
    (hargs : args.length ≤ fn.ntmps) (h : xrun E.noPan c (entry args) [] (doneK fun ρ L' => xop E ((XO.loadN k (.t t)).sub (Opd.ev ρ)) cev L' fun v _ => conv L' fuel renFreeze (.tup [v, ρ t', ρ t'']) = some r)) : XPure E f args r := by
  refine xpure_of_fun hf hF hnm hargs (xrun_mono _ (fun e ρ L h => ?_) h)
  have key : ∀ {ρ : Rho} {L : List Blk}, xop E ((XO.loadN k (.t t)).sub (Opd.ev ρ)) cev L (fun v _ => conv L fuel renFreeze (.tup [v, ρ t', ρ t'']) = some r) → xresults E [.cellN t k, .tmp t', .tmp t''] ρ L fun r' => conv L fuel renFreeze r' = some r := fun h => by
    rw [← xop_sub] at h
    exact h
  cases e with
  | normal => exact ⟨Or.inr rfl, key h⟩
  | ret => exact ⟨Or.inl rfl, key h⟩
  | exit => exact h.elim
  | goto => exact h.elim

def wRows (a b c : List UInt8) (R : List (List UInt8)) : List (List IV) := [.str a] :: [.str b] :: [.str c] :: strRows R
theorem wRows_len (a b c : List UInt8) (R : List (List UInt8)) : (wRows a b c R).length = R.length + 3 := by simp [wRows, strRows_len]
theorem wRows_0 (a b c : List UInt8) (R : List (List UInt8)) : (wRows a b c R).getD 0 [] = [.str a] := rfl
theorem wRows_1 (a b c : List UInt8) (R : List (List UInt8)) : (wRows a b c R).getD 1 [] = [.str b] := rfl
theorem wRows_2 (a b c : List UInt8) (R : List (List UInt8)) : (wRows a b c R).getD 2 [] = [.str c] := rfl
theorem wRows_3 (a b c : List UInt8) (R : List (List UInt8)) : (wRows a b c R).drop 3 = strRows R := rfl
theorem rows_w (m : Nat) (L : List Blk) (a b c : List UInt8) (R : List (List UInt8)) : rowsOf L (.isl (wRows a b c R)) = some (wRows a b c R) := rfl
def zB0 : Blk := .cells 7 [[.str [], .int .i64 0, .str [], .str [], .int .i64 0, .int .i64 0, .nsl]]
def zNB (nm : List UInt8) (k : Int) (a t : List UInt8) (d tr : Int) (v : IV) : Blk := .cells 7 [[.str nm, .int .i64 k, .str a, .str t, .int .i64 d, .int .i64 tr, v]]
def PreN (n : NodeD) (K c : List UInt8) (R : List (List UInt8)) (ρ : Rho) : Prop :=
  ρ 0 = .isl (wRows n.name K c R) ∧ ρ 2 = .ptr 0 0 0 ∧ ρ 4 = .ptr 1 0 0 ∧ ρ 5 = .bool (namedS c false 64) ∧ ρ 6 = .str K ∧ ρ 7 = .isl (strRows R)
def PostN (n : NodeD) (ρ : Rho) (L : List Blk) : Prop := ∃ J, L = zB0 :: zNB n.name n.kind n.arg n.to n.delay n.tries .nsl :: J ∧
  ρ 2 = .ptr 0 0 0 ∧ ρ 4 = .ptr 1 0 0 ∧ ρ 5 = .bool true ∧ ρ 7 = .isl (strRows n.w4)
theorem node_pre (hP : E.P = Tryz.prog) {m : Int} (hm : E.gl 0 = some [.int .i64 m]) (n : NodeD) (a K c : List UInt8) (R : List (List UInt8)) (hR : R.length ≤ 1000) (hc : c.length ≤ 1000)
    (hn : namedS n.name false 64 = true) (hal : n.after.length ≤ 1000) (haf : ∀ s ∈ n.after, namedS s false 64 = true)
    (hsw : ∀ ρ, PreN n K c R ρ → xrun E.noPan y24s ρ [zB0, zNB n.name 0 c [] 0 0 .nsl] (Norm (PostN n))) : XPure E 24 [.isl (wRows n.name K c R)] (.tup [.agg n.row, .bool true]) := by
  have hnl := named_len hn
  have hpN := dagName_pure (E := E.noPan) hP hm n.name (by omega)
  have hpC := dagName_pure (E := E.noPan) hP hm c (by omega)
  rw [hn] at hpN
  refine xpureC2 (n := Tryz.f24.ntmps) (c := y24) (t := 2) (k := 7) (t' := 3) (by rw [hP]; rfl) (by rw [hP]; kernel_rfl) (by decide) (Nat.le_of_ble_eq_true rfl) ?_
  generalize hρ : entry _ = ρ
  have h0 : ρ 0 = .isl (wRows n.name K c R) := by rw [← hρ]; rfl
  clear hρ
  unfold y24
  have e3 : (((R.length + 3 : Nat) : Int) < 3) = False := by simp; omega
  simp only [h0, wRows_len, rows_w, wRows_0, wRows_1, wRows_2, wRows_3, e3, go_sem, Nat.reduceEqDiff, reduceIte, Int.reduceEq, Int.reduceLT, Int.reduceLE, Nat.reduceAdd, Nat.reduceLT, Nat.reduceLeDiff, Int.reduceToNat, Int.reduceSub, Int.reduceAdd, Int.reduceNeg]
  have hrw : Rows 1 (wRows n.name K c R) := rows_strs (n.name :: K :: c :: R)
  refine ⟨hrw, by omega, by omega, ?_⟩
  refine xcall_pure (args' := [.str n.name]) rfl hpN rfl ?_
  simp only [h0, wRows_len, rows_w, wRows_0, wRows_1, wRows_2, wRows_3, e3, go_sem, Nat.reduceEqDiff, reduceIte, Int.reduceEq, Int.reduceLT, Int.reduceLE, Nat.reduceAdd, Nat.reduceLT, Nat.reduceLeDiff, Int.reduceToNat, Int.reduceSub, Int.reduceAdd, Int.reduceNeg]
  refine ⟨hrw, by omega, by omega, hrw, by omega, by omega, hrw, by omega, by omega, ?_⟩
  refine o_pcall (args' := [.str c]) rfl hpC (fun m => rfl) ?_
  simp only [h0, wRows_len, rows_w, wRows_0, wRows_1, wRows_2, wRows_3, e3, go_sem, Nat.reduceEqDiff, reduceIte, Int.reduceEq, Int.reduceLT, Int.reduceLE, Nat.reduceAdd, Nat.reduceLT, Nat.reduceLeDiff, Int.reduceToNat, Int.reduceSub, Int.reduceAdd, Int.reduceNeg]
  refine ⟨by rfl, hrw, by omega, by omega, hrw, ?_⟩
  refine xcut_norm (PostN n) (hsw _ ⟨by simp only [h0, go_sem, Nat.reduceEqDiff, reduceIte, Int.reduceEq, Int.reduceLT, Int.reduceLE, Nat.reduceAdd, Nat.reduceLT, Nat.reduceLeDiff, Int.reduceToNat, Int.reduceSub, Int.reduceAdd, Int.reduceNeg], by simp only [go_sem, Nat.reduceEqDiff, reduceIte, Int.reduceEq, Int.reduceLT, Int.reduceLE, Nat.reduceAdd, Nat.reduceLT, Nat.reduceLeDiff, Int.reduceToNat, Int.reduceSub, Int.reduceAdd, Int.reduceNeg]; try rfl, by simp only [go_sem, Nat.reduceEqDiff, reduceIte, Int.reduceEq, Int.reduceLT, Int.reduceLE, Nat.reduceAdd, Nat.reduceLT, Nat.reduceLeDiff, Int.reduceToNat, Int.reduceSub, Int.reduceAdd, Int.reduceNeg]; try rfl, by simp only [go_sem, Nat.reduceEqDiff, reduceIte, Int.reduceEq, Int.reduceLT, Int.reduceLE, Nat.reduceAdd, Nat.reduceLT, Nat.reduceLeDiff, Int.reduceToNat, Int.reduceSub, Int.reduceAdd, Int.reduceNeg], by simp only [go_sem, Nat.reduceEqDiff, reduceIte, Int.reduceEq, Int.reduceLT, Int.reduceLE, Nat.reduceAdd, Nat.reduceLT, Nat.reduceLeDiff, Int.reduceToNat, Int.reduceSub, Int.reduceAdd, Int.reduceNeg]; try rfl, by simp only [go_sem, Nat.reduceEqDiff, reduceIte, Int.reduceEq, Int.reduceLT, Int.reduceLE, Nat.reduceAdd, Nat.reduceLT, Nat.reduceLeDiff, Int.reduceToNat, Int.reduceSub, Int.reduceAdd, Int.reduceNeg]; try rfl⟩) (fun ρ' L h => ?_)
  clear h0 hsw e3 hpN hpC
  obtain ⟨J, rfl, h2, h4, h5, h7⟩ := h
  by_cases ha : n.after = []
  · have e4 : n.w4 = [] := by unfold NodeD.w4; rw [if_pos ha]
    rw [e4] at h7
    have h7' : ρ' 7 = .isl [] := h7
    simp only [h2, h4, h5, h7', zB0, zNB, List.length_nil, Int.ofNat_zero, Int.lt_irrefl, go_sem, Nat.reduceEqDiff, reduceIte, Int.reduceEq, Int.reduceLT, Int.reduceLE, Nat.reduceAdd, Nat.reduceLT, Nat.reduceLeDiff, Int.reduceToNat, Int.reduceSub, Int.reduceAdd, Int.reduceNeg]
    unfold NodeD.row
    rw [ha]; rfl
  · have e4 : n.w4 = [97, 102, 116, 101, 114] :: n.after := by unfold NodeD.w4; rw [if_neg ha]
    rw [e4] at h7
    have hal' : 1 ≤ n.after.length := by cases hh : n.after with
      | nil => exact absurd hh ha
      | cons a l => rw [List.length_cons]; omega
    have hrw7 : Rows 1 (strRows ([97, 102, 116, 101, 114] :: n.after)) := rows_strs _
    have e5 : ((0 : Int) < ((n.after.length + 1 : Nat) : Int)) = True := by simp only [eq_iff_iff, iff_true]; omega
    have e6 : ((0 : Int) < ((n.after.length : Nat) : Int)) = True := by simp only [eq_iff_iff, iff_true]; omega
    have ed : (strRows ([97, 102, 116, 101, 114] :: n.after)).drop 1 = strRows n.after := rfl
    have eg : (strRows ([97, 102, 116, 101, 114] :: n.after)).getD 0 [] = [.str [97, 102, 116, 101, 114]] := rfl
    simp only [h2, h4, h5, h7, zB0, zNB, strRows_len, List.length_cons, e5, rows_strs, ed, eg, go_sem, Nat.reduceEqDiff, reduceIte, Int.reduceEq, Int.reduceLT, Int.reduceLE, Nat.reduceAdd, Nat.reduceLT, Nat.reduceLeDiff, Int.reduceToNat, Int.reduceSub, Int.reduceAdd, Int.reduceNeg]
    refine xcall_pure (args' := [.isl (strRows n.after)]) rfl (cloneS_pure (E := E.noPan) hP n.after (by omega)) rfl ?_
    simp only [h2, h4, h5, h7, strRows_len, List.length_cons, e5, e6, rows_strs, ed, eg, go_sem, Nat.reduceEqDiff, reduceIte, Int.reduceEq, Int.reduceLT, Int.reduceLE, Nat.reduceAdd, Nat.reduceLT, Nat.reduceLeDiff, Int.reduceToNat, Int.reduceSub, Int.reduceAdd, Int.reduceNeg]
    refine ⟨by omega, ?_⟩
    refine xcall_pure (args' := [.isl (strRows n.after), .fn (.func 49) [] []]) rfl (containsF_pure (E := E.noPan) hP hm n.after (by omega) haf (fun s hs => by have := named_len (haf s hs); omega)) rfl ?_
    simp only [h2, h4, h5, h7, go_sem, Nat.reduceEqDiff, reduceIte, Int.reduceEq, Int.reduceLT, Int.reduceLE, Nat.reduceAdd, Nat.reduceLT, Nat.reduceLeDiff, Int.reduceToNat, Int.reduceSub, Int.reduceAdd, Int.reduceNeg]
    rfl

theorem node_child (hP : E.P = Tryz.prog) (n : NodeD) (hk : n.kind = 3) (hn : NodeOk n) (ρ : Rho) (h : PreN n [99, 104, 105, 108, 100] n.arg n.w4 ρ) :
    xrun E.noPan y24s ρ [zB0, zNB n.name 0 n.arg [] 0 0 .nsl] (Norm (PostN n)) := by
  obtain ⟨h0, h2, h4, h5, h6, h7⟩ := h
  have hto := hn.to0 (by omega)
  have htr := hn.tries0 (by omega)
  have hdl := hn.delay0 (by omega) (by omega)
  rw [hn.arg (by omega)] at h5
  unfold y24s
  simp only [h0, h2, h4, h5, h6, h7, zB0, zNB, kd31, kd32, kd33, kd34, kd35, go_sem, Nat.reduceEqDiff, reduceIte, Int.reduceEq, Int.reduceLT, Int.reduceLE, Nat.reduceAdd, Nat.reduceLT, Nat.reduceLeDiff, Int.reduceToNat, Int.reduceSub, Int.reduceAdd, Int.reduceNeg]
  exact ⟨[], by rw [zNB, hto, htr, hdl, hk]; rfl, by simp only [h2, go_sem, Nat.reduceEqDiff, reduceIte, Int.reduceEq, Int.reduceLT, Int.reduceLE, Nat.reduceAdd, Nat.reduceLT, Nat.reduceLeDiff, Int.reduceToNat, Int.reduceSub, Int.reduceAdd, Int.reduceNeg], by simp only [h4, go_sem, Nat.reduceEqDiff, reduceIte, Int.reduceEq, Int.reduceLT, Int.reduceLE, Nat.reduceAdd, Nat.reduceLT, Nat.reduceLeDiff, Int.reduceToNat, Int.reduceSub, Int.reduceAdd, Int.reduceNeg], by simp only [h5, go_sem, Nat.reduceEqDiff, reduceIte, Int.reduceEq, Int.reduceLT, Int.reduceLE, Nat.reduceAdd, Nat.reduceLT, Nat.reduceLeDiff, Int.reduceToNat, Int.reduceSub, Int.reduceAdd, Int.reduceNeg], by simp only [h7, go_sem, Nat.reduceEqDiff, reduceIte, Int.reduceEq, Int.reduceLT, Int.reduceLE, Nat.reduceAdd, Nat.reduceLT, Nat.reduceLeDiff, Int.reduceToNat, Int.reduceSub, Int.reduceAdd, Int.reduceNeg]⟩
theorem node_wait (hP : E.P = Tryz.prog) (n : NodeD) (hk : n.kind = 4) (hn : NodeOk n) (ρ : Rho) (h : PreN n [119, 97, 105, 116] n.arg n.w4 ρ) :
    xrun E.noPan y24s ρ [zB0, zNB n.name 0 n.arg [] 0 0 .nsl] (Norm (PostN n)) := by
  obtain ⟨h0, h2, h4, h5, h6, h7⟩ := h
  have hto := hn.to0 (by omega)
  have htr := hn.tries0 (by omega)
  have hdl := hn.delay0 (by omega) (by omega)
  rw [hn.arg (by omega)] at h5
  unfold y24s
  simp only [h0, h2, h4, h5, h6, h7, zB0, zNB, kd41, kd42, kd43, kd44, kd45, go_sem, Nat.reduceEqDiff, reduceIte, Int.reduceEq, Int.reduceLT, Int.reduceLE, Nat.reduceAdd, Nat.reduceLT, Nat.reduceLeDiff, Int.reduceToNat, Int.reduceSub, Int.reduceAdd, Int.reduceNeg]
  exact ⟨[], by rw [zNB, hto, htr, hdl, hk]; rfl, by simp only [h2, go_sem, Nat.reduceEqDiff, reduceIte, Int.reduceEq, Int.reduceLT, Int.reduceLE, Nat.reduceAdd, Nat.reduceLT, Nat.reduceLeDiff, Int.reduceToNat, Int.reduceSub, Int.reduceAdd, Int.reduceNeg], by simp only [h4, go_sem, Nat.reduceEqDiff, reduceIte, Int.reduceEq, Int.reduceLT, Int.reduceLE, Nat.reduceAdd, Nat.reduceLT, Nat.reduceLeDiff, Int.reduceToNat, Int.reduceSub, Int.reduceAdd, Int.reduceNeg], by simp only [h5, go_sem, Nat.reduceEqDiff, reduceIte, Int.reduceEq, Int.reduceLT, Int.reduceLE, Nat.reduceAdd, Nat.reduceLT, Nat.reduceLeDiff, Int.reduceToNat, Int.reduceSub, Int.reduceAdd, Int.reduceNeg], by simp only [h7, go_sem, Nat.reduceEqDiff, reduceIte, Int.reduceEq, Int.reduceLT, Int.reduceLE, Nat.reduceAdd, Nat.reduceLT, Nat.reduceLeDiff, Int.reduceToNat, Int.reduceSub, Int.reduceAdd, Int.reduceNeg]⟩
theorem node_timer (hP : E.P = Tryz.prog) (n : NodeD) (N : Nat) (hN : n.delay = N) (hk : n.kind = 2) (hn : NodeOk n) (ρ : Rho) (h : PreN n [116, 105, 109, 101, 114] (Lib.decDigits N) n.w4 ρ) :
    xrun E.noPan y24s ρ [zB0, zNB n.name 0 (Lib.decDigits N) [] 0 0 .nsl] (Norm (PostN n)) := by
  obtain ⟨h0, h2, h4, h5, h6, h7⟩ := h
  have hto := hn.to0 (by omega)
  have htr := hn.tries0 (by omega)
  have har := hn.arg2 hk
  have hd := hn.delay
  have hnum := number_pure (E := E.noPan) hP N (by omega)
  generalize hD : Lib.decDigits N = D at *
  have hrw : Rows 1 (wRows n.name [116, 105, 109, 101, 114] D n.w4) := rows_strs (n.name :: [116, 105, 109, 101, 114] :: D :: n.w4)
  unfold y24s
  simp only [h0, h2, h4, h5, h6, h7, zB0, zNB, wRows_len, wRows_2, kd21, kd22, kd23, kd24, kd25, go_sem, Nat.reduceEqDiff, reduceIte, Int.reduceEq, Int.reduceLT, Int.reduceLE, Nat.reduceAdd, Nat.reduceLT, Nat.reduceLeDiff, Int.reduceToNat, Int.reduceSub, Int.reduceAdd, Int.reduceNeg]
  refine ⟨hrw, by omega, by omega, ?_⟩
  refine xcall_pure (args' := [.str D]) rfl hnum rfl ?_
  simp only [h0, h2, h4, h5, h6, h7, go_sem, Nat.reduceEqDiff, reduceIte, Int.reduceEq, Int.reduceLT, Int.reduceLE, Nat.reduceAdd, Nat.reduceLT, Nat.reduceLeDiff, Int.reduceToNat, Int.reduceSub, Int.reduceAdd, Int.reduceNeg]
  exact ⟨[], by rw [zNB, hto, htr, har, hk, hN]; rfl, by simp only [h2, go_sem, Nat.reduceEqDiff, reduceIte, Int.reduceEq, Int.reduceLT, Int.reduceLE, Nat.reduceAdd, Nat.reduceLT, Nat.reduceLeDiff, Int.reduceToNat, Int.reduceSub, Int.reduceAdd, Int.reduceNeg], by simp only [h4, go_sem, Nat.reduceEqDiff, reduceIte, Int.reduceEq, Int.reduceLT, Int.reduceLE, Nat.reduceAdd, Nat.reduceLT, Nat.reduceLeDiff, Int.reduceToNat, Int.reduceSub, Int.reduceAdd, Int.reduceNeg], by simp only [h5, go_sem, Nat.reduceEqDiff, reduceIte, Int.reduceEq, Int.reduceLT, Int.reduceLE, Nat.reduceAdd, Nat.reduceLT, Nat.reduceLeDiff, Int.reduceToNat, Int.reduceSub, Int.reduceAdd, Int.reduceNeg], by simp only [h7, go_sem, Nat.reduceEqDiff, reduceIte, Int.reduceEq, Int.reduceLT, Int.reduceLE, Nat.reduceAdd, Nat.reduceLT, Nat.reduceLeDiff, Int.reduceToNat, Int.reduceSub, Int.reduceAdd, Int.reduceNeg]⟩
theorem node_send (hP : E.P = Tryz.prog) {m : Int} (hm : E.gl 0 = some [.int .i64 m]) (n : NodeD) (hk : n.kind = 5) (hn : NodeOk n) (hal : n.after.length ≤ 900) (ρ : Rho) (h : PreN n [115, 101, 110, 100] n.to (n.arg :: n.w4) ρ) :
    xrun E.noPan y24s ρ [zB0, zNB n.name 0 n.to [] 0 0 .nsl] (Norm (PostN n)) := by
  obtain ⟨h0, h2, h4, h5, h6, h7⟩ := h
  have hto := hn.to5 hk
  have har := hn.arg (by omega)
  have htr := hn.tries0 (by omega)
  have hdl := hn.delay0 (by omega) (by omega)
  have hlt := named_len hto
  have hla := named_len har
  have hpF := dagFlow_pure (E := E.noPan) hP hm n.to (by omega)
  have hpN := dagName_pure (E := E.noPan) hP hm n.arg (by omega)
  rw [hto] at hpF
  rw [har] at hpN
  have hrw : Rows 1 (wRows n.name [115, 101, 110, 100] n.to (n.arg :: n.w4)) := rows_strs (n.name :: [115, 101, 110, 100] :: n.to :: n.arg :: n.w4)
  have hrw2 : Rows 1 (strRows (n.arg :: n.w4)) := rows_strs (n.arg :: n.w4)
  have hg0 : (strRows (n.arg :: n.w4)).getD 0 [] = [.str n.arg] := rfl
  have hd1 : (strRows (n.arg :: n.w4)).drop 1 = strRows n.w4 := rfl
  have e1 : (((n.w4.length + 1 : Nat) : Int) = 0) = False := by simp only [eq_iff_iff, iff_false]; omega
  unfold y24s
  simp only [h0, h2, h4, h5, h6, h7, zB0, zNB, wRows_len, wRows_2, strRows_len, List.length_cons, e1, rows_strs, hg0, kd51, kd52, kd53, kd54, kd55, go_sem, Nat.reduceEqDiff, reduceIte, Int.reduceEq, Int.reduceLT, Int.reduceLE, Nat.reduceAdd, Nat.reduceLT, Nat.reduceLeDiff, Int.reduceToNat, Int.reduceSub, Int.reduceAdd, Int.reduceNeg]
  refine ⟨hrw, by omega, by omega, by omega, by omega, ?_⟩
  refine xcall_pure (args' := [.str n.to]) rfl hpF rfl ?_
  simp only [h0, h2, h4, h5, h6, h7, go_sem, Nat.reduceEqDiff, reduceIte, Int.reduceEq, Int.reduceLT, Int.reduceLE, Nat.reduceAdd, Nat.reduceLT, Nat.reduceLeDiff, Int.reduceToNat, Int.reduceSub, Int.reduceAdd, Int.reduceNeg]
  refine xcall_pure (args' := [.str n.arg]) rfl hpN rfl ?_
  simp only [h0, h2, h4, h5, h6, h7, strRows_len, List.length_cons, rows_strs, hd1, go_sem, Nat.reduceEqDiff, reduceIte, Int.reduceEq, Int.reduceLT, Int.reduceLE, Nat.reduceAdd, Nat.reduceLT, Nat.reduceLeDiff, Int.reduceToNat, Int.reduceSub, Int.reduceAdd, Int.reduceNeg]
  try refine ⟨by omega, ?_⟩
  exact ⟨[], by rw [zNB, htr, hdl, hk]; rfl, by simp only [h2, go_sem, Nat.reduceEqDiff, reduceIte, Int.reduceEq, Int.reduceLT, Int.reduceLE, Nat.reduceAdd, Nat.reduceLT, Nat.reduceLeDiff, Int.reduceToNat, Int.reduceSub, Int.reduceAdd, Int.reduceNeg], by simp only [h4, go_sem, Nat.reduceEqDiff, reduceIte, Int.reduceEq, Int.reduceLT, Int.reduceLE, Nat.reduceAdd, Nat.reduceLT, Nat.reduceLeDiff, Int.reduceToNat, Int.reduceSub, Int.reduceAdd, Int.reduceNeg], by simp only [h5, go_sem, Nat.reduceEqDiff, reduceIte, Int.reduceEq, Int.reduceLT, Int.reduceLE, Nat.reduceAdd, Nat.reduceLT, Nat.reduceLeDiff, Int.reduceToNat, Int.reduceSub, Int.reduceAdd, Int.reduceNeg], by simp only [h7, hd1, go_sem, Nat.reduceEqDiff, reduceIte, Int.reduceEq, Int.reduceLT, Int.reduceLE, Nat.reduceAdd, Nat.reduceLT, Nat.reduceLeDiff, Int.reduceToNat, Int.reduceSub, Int.reduceAdd, Int.reduceNeg]⟩
def optB : Blk := .cells 2 [[.str [116, 114, 105, 101, 115], .ptr 1 0 5], [.str [116, 105, 109, 101, 111, 117, 116], .ptr 1 0 4]]
def AS (n : NodeD) (d tr : Int) (R : List (List UInt8)) (j : Int) (ρ : Rho) (L : List Blk) : Prop := ∃ J, L = zB0 :: zNB n.name 1 n.arg [] d tr .nsl :: optB :: J ∧
  ρ 2 = .ptr 0 0 0 ∧ ρ 4 = .ptr 1 0 0 ∧ ρ 5 = .bool true ∧ ρ 7 = .isl (strRows R) ∧ ρ 49 = .sl 2 0 2 2 ∧ ρ 50 = .int .i64 2 ∧ ρ 51 = .int .i64 j
theorem get3' {a b c x : Blk} {J : List Blk} : (a :: b :: c :: (J ++ [x]))[J.length + 1 + 1 + 1]? = some x := by simp
theorem set3' {a b c x y : Blk} {J : List Blk} : (a :: b :: c :: (J ++ [x])).set (J.length + 1 + 1 + 1) y = a :: b :: c :: (J ++ [y]) := by simp
theorem hd_w4 (n : NodeD) : n.w4.length ≤ 1 ∨ ∃ x y r, n.w4 = x :: y :: r ∧ x ≠ [116, 105, 109, 101, 111, 117, 116] ∧ x ≠ [116, 114, 105, 101, 115] := by
  unfold NodeD.w4
  split
  · left; simp
  · rename_i h
    cases hh : n.after with
    | nil => exact absurd hh h
    | cons a l => exact .inr ⟨_, _, _, rfl, by decide, by decide⟩
theorem hd_w3 (n : NodeD) : (n.w3 ++ n.w4).length ≤ 1 ∨ ∃ x y r, n.w3 ++ n.w4 = x :: y :: r ∧ x ≠ [116, 114, 105, 101, 115] := by
  unfold NodeD.w3
  split
  · exact .inr ⟨_, _, _, rfl, by decide⟩
  · rcases hd_w4 n with h | ⟨x, y, r, h1, h2, h3⟩
    · exact .inl h
    · exact .inr ⟨x, y, r, h1, h3⟩
theorem node_act (hP : E.P = Tryz.prog) (n : NodeD) (T D : Nat) (hT : n.tries = T) (hD : n.delay = D) (hk : n.kind = 1) (hn : NodeOk n) (hal : n.after.length ≤ 900) (ρ : Rho) (h : PreN n [97, 99, 116, 105, 118, 105, 116, 121] n.arg (n.w2 ++ n.w3 ++ n.w4) ρ) :
    xrun E.noPan y24s ρ [zB0, zNB n.name 0 n.arg [] 0 0 .nsl] (Norm (PostN n)) := by
  obtain ⟨h0, h2, h4, h5, h6, h7⟩ := h
  have hto := hn.to0 (by omega)
  have htr := hn.tries hk
  have hdl := hn.delay
  rw [hn.arg (by omega)] at h5
  unfold y24s
  simp only [h0, h2, h4, h5, h6, h7, zB0, zNB, kd11, kd12, kd13, kd14, kd15, go_sem, Nat.reduceEqDiff, reduceIte, Int.reduceEq, Int.reduceLT, Int.reduceLE, Nat.reduceAdd, Nat.reduceLT, Nat.reduceLeDiff, Int.reduceToNat, Int.reduceSub, Int.reduceAdd, Int.reduceNeg]
  refine s_loop (fun m ρ L => (m = 2 ∧ AS n 0 1 (n.w2 ++ n.w3 ++ n.w4) 0 ρ L) ∨ (m = 1 ∧ AS n 0 n.tries (n.w3 ++ n.w4) 1 ρ L) ∨ (m = 0 ∧ AS n n.delay n.tries n.w4 2 ρ L))
    (.inl ⟨rfl, [], rfl, by simp only [h2, go_sem, Nat.reduceEqDiff, reduceIte, Int.reduceEq, Int.reduceLT, Int.reduceLE, Nat.reduceAdd, Nat.reduceLT, Nat.reduceLeDiff, Int.reduceToNat, Int.reduceSub, Int.reduceAdd, Int.reduceNeg], by simp only [h4, go_sem, Nat.reduceEqDiff, reduceIte, Int.reduceEq, Int.reduceLT, Int.reduceLE, Nat.reduceAdd, Nat.reduceLT, Nat.reduceLeDiff, Int.reduceToNat, Int.reduceSub, Int.reduceAdd, Int.reduceNeg], by simp only [h5, go_sem, Nat.reduceEqDiff, reduceIte, Int.reduceEq, Int.reduceLT, Int.reduceLE, Nat.reduceAdd, Nat.reduceLT, Nat.reduceLeDiff, Int.reduceToNat, Int.reduceSub, Int.reduceAdd, Int.reduceNeg], by simp only [h7, go_sem, Nat.reduceEqDiff, reduceIte, Int.reduceEq, Int.reduceLT, Int.reduceLE, Nat.reduceAdd, Nat.reduceLT, Nat.reduceLeDiff, Int.reduceToNat, Int.reduceSub, Int.reduceAdd, Int.reduceNeg], by simp only [go_sem, Nat.reduceEqDiff, reduceIte, Int.reduceEq, Int.reduceLT, Int.reduceLE, Nat.reduceAdd, Nat.reduceLT, Nat.reduceLeDiff, Int.reduceToNat, Int.reduceSub, Int.reduceAdd, Int.reduceNeg]; try rfl, by simp only [go_sem, Nat.reduceEqDiff, reduceIte, Int.reduceEq, Int.reduceLT, Int.reduceLE, Nat.reduceAdd, Nat.reduceLT, Nat.reduceLeDiff, Int.reduceToNat, Int.reduceSub, Int.reduceAdd, Int.reduceNeg], by simp only [go_sem, Nat.reduceEqDiff, reduceIte, Int.reduceEq, Int.reduceLT, Int.reduceLE, Nat.reduceAdd, Nat.reduceLT, Nat.reduceLeDiff, Int.reduceToNat, Int.reduceSub, Int.reduceAdd, Int.reduceNeg]⟩) ?_
  clear h0 h2 h4 h5 h6 h7 ρ
  rintro m ρ L (⟨rfl, J, rfl, h2, h4, h5, h7, h49, h50, h51⟩ | ⟨rfl, J, rfl, h2, h4, h5, h7, h49, h50, h51⟩ | ⟨rfl, J, rfl, h2, h4, h5, h7, h49, h50, h51⟩)
  · have hnext : ∀ ρ L, AS n 0 n.tries (n.w3 ++ n.w4) 1 ρ L → ∃ m, m < 2 ∧ ((m = 2 ∧ AS n 0 1 (n.w2 ++ n.w3 ++ n.w4) 0 ρ L) ∨ (m = 1 ∧ AS n 0 n.tries (n.w3 ++ n.w4) 1 ρ L) ∨ (m = 0 ∧ AS n n.delay n.tries n.w4 2 ρ L)) := fun ρ L h => ⟨1, by omega, .inr (.inl ⟨rfl, h⟩)⟩
    generalize hI : (fun (m : Nat) (ρ : Rho) (L : List Blk) => (m = 2 ∧ AS n 0 1 (n.w2 ++ n.w3 ++ n.w4) 0 ρ L) ∨ (m = 1 ∧ AS n 0 n.tries (n.w3 ++ n.w4) 1 ρ L) ∨ (m = 0 ∧ AS n n.delay n.tries n.w4 2 ρ L)) = I at *
    replace hnext : ∀ ρ L, AS n 0 n.tries (n.w3 ++ n.w4) 1 ρ L → ∃ m, m < 2 ∧ I m ρ L := by rw [← hI]; exact hnext
    clear hI
    by_cases hp : n.tries = 1
    · have e2 : n.w2 = [] := by unfold NodeD.w2; rw [if_neg (fun h => h.2 hp)]
      rw [e2, List.nil_append] at h7
      rw [hp] at hnext
      have hd := hd_w3 n
      generalize n.w3 ++ n.w4 = R at *
      rcases hd with hd | ⟨x, y, r, rfl, hd⟩
      · have e1 : ((1 : Int) < ((R.length : Nat) : Int)) = False := by simp only [eq_iff_iff, iff_false]; omega
        simp only [h2, h4, h5, h7, h49, h50, h51, zB0, zNB, optB, get3', set3', strRows_len, rows_strs, e1, go_sem, Nat.reduceEqDiff, reduceIte, Int.reduceEq, Int.reduceLT, Int.reduceLE, Nat.reduceAdd, Nat.reduceLT, Nat.reduceLeDiff, Int.reduceToNat, Int.reduceSub, Int.reduceAdd, Int.reduceNeg]
        exact ⟨by rfl, hnext _ _ ⟨J ++ [_], rfl, by simp only [h2, go_sem, Nat.reduceEqDiff, reduceIte, Int.reduceEq, Int.reduceLT, Int.reduceLE, Nat.reduceAdd, Nat.reduceLT, Nat.reduceLeDiff, Int.reduceToNat, Int.reduceSub, Int.reduceAdd, Int.reduceNeg]; try rfl, by simp only [h4, go_sem, Nat.reduceEqDiff, reduceIte, Int.reduceEq, Int.reduceLT, Int.reduceLE, Nat.reduceAdd, Nat.reduceLT, Nat.reduceLeDiff, Int.reduceToNat, Int.reduceSub, Int.reduceAdd, Int.reduceNeg]; try rfl, by simp only [h5, go_sem, Nat.reduceEqDiff, reduceIte, Int.reduceEq, Int.reduceLT, Int.reduceLE, Nat.reduceAdd, Nat.reduceLT, Nat.reduceLeDiff, Int.reduceToNat, Int.reduceSub, Int.reduceAdd, Int.reduceNeg]; try rfl, by simp only [h7, go_sem, Nat.reduceEqDiff, reduceIte, Int.reduceEq, Int.reduceLT, Int.reduceLE, Nat.reduceAdd, Nat.reduceLT, Nat.reduceLeDiff, Int.reduceToNat, Int.reduceSub, Int.reduceAdd, Int.reduceNeg]; try rfl, by simp only [h49, go_sem, Nat.reduceEqDiff, reduceIte, Int.reduceEq, Int.reduceLT, Int.reduceLE, Nat.reduceAdd, Nat.reduceLT, Nat.reduceLeDiff, Int.reduceToNat, Int.reduceSub, Int.reduceAdd, Int.reduceNeg]; try rfl, by simp only [h50, go_sem, Nat.reduceEqDiff, reduceIte, Int.reduceEq, Int.reduceLT, Int.reduceLE, Nat.reduceAdd, Nat.reduceLT, Nat.reduceLeDiff, Int.reduceToNat, Int.reduceSub, Int.reduceAdd, Int.reduceNeg]; try rfl, by simp only [h51, go_sem, Nat.reduceEqDiff, reduceIte, Int.reduceEq, Int.reduceLT, Int.reduceLE, Nat.reduceAdd, Nat.reduceLT, Nat.reduceLeDiff, Int.reduceToNat, Int.reduceSub, Int.reduceAdd, Int.reduceNeg]; try rfl⟩⟩
      · have e1 : ((1 : Int) < ((r.length + 1 + 1 : Nat) : Int)) = True := by simp only [eq_iff_iff, iff_true]; omega
        have eg : (strRows (x :: y :: r)).getD 0 [] = [.str x] := rfl
        have ex : (x = [116, 114, 105, 101, 115]) = False := eq_false hd
        simp only [h2, h4, h5, h7, h49, h50, h51, zB0, zNB, optB, get3', set3', strRows_len, rows_strs, List.length_cons, e1, eg, ex, go_sem, Nat.reduceEqDiff, reduceIte, Int.reduceEq, Int.reduceLT, Int.reduceLE, Nat.reduceAdd, Nat.reduceLT, Nat.reduceLeDiff, Int.reduceToNat, Int.reduceSub, Int.reduceAdd, Int.reduceNeg]
        refine ⟨by rfl, by omega, by omega, ?_⟩
        exact hnext _ _ ⟨J ++ [_], rfl, by simp only [h2, go_sem, Nat.reduceEqDiff, reduceIte, Int.reduceEq, Int.reduceLT, Int.reduceLE, Nat.reduceAdd, Nat.reduceLT, Nat.reduceLeDiff, Int.reduceToNat, Int.reduceSub, Int.reduceAdd, Int.reduceNeg]; try rfl, by simp only [h4, go_sem, Nat.reduceEqDiff, reduceIte, Int.reduceEq, Int.reduceLT, Int.reduceLE, Nat.reduceAdd, Nat.reduceLT, Nat.reduceLeDiff, Int.reduceToNat, Int.reduceSub, Int.reduceAdd, Int.reduceNeg]; try rfl, by simp only [h5, go_sem, Nat.reduceEqDiff, reduceIte, Int.reduceEq, Int.reduceLT, Int.reduceLE, Nat.reduceAdd, Nat.reduceLT, Nat.reduceLeDiff, Int.reduceToNat, Int.reduceSub, Int.reduceAdd, Int.reduceNeg]; try rfl, by simp only [h7, go_sem, Nat.reduceEqDiff, reduceIte, Int.reduceEq, Int.reduceLT, Int.reduceLE, Nat.reduceAdd, Nat.reduceLT, Nat.reduceLeDiff, Int.reduceToNat, Int.reduceSub, Int.reduceAdd, Int.reduceNeg]; try rfl, by simp only [h49, go_sem, Nat.reduceEqDiff, reduceIte, Int.reduceEq, Int.reduceLT, Int.reduceLE, Nat.reduceAdd, Nat.reduceLT, Nat.reduceLeDiff, Int.reduceToNat, Int.reduceSub, Int.reduceAdd, Int.reduceNeg]; try rfl, by simp only [h50, go_sem, Nat.reduceEqDiff, reduceIte, Int.reduceEq, Int.reduceLT, Int.reduceLE, Nat.reduceAdd, Nat.reduceLT, Nat.reduceLeDiff, Int.reduceToNat, Int.reduceSub, Int.reduceAdd, Int.reduceNeg]; try rfl, by simp only [h51, go_sem, Nat.reduceEqDiff, reduceIte, Int.reduceEq, Int.reduceLT, Int.reduceLE, Nat.reduceAdd, Nat.reduceLT, Nat.reduceLeDiff, Int.reduceToNat, Int.reduceSub, Int.reduceAdd, Int.reduceNeg]; try rfl⟩
    · have e2 : n.w2 ++ n.w3 ++ n.w4 = [116, 114, 105, 101, 115] :: Lib.decDigits T :: (n.w3 ++ n.w4) := by
        unfold NodeD.w2; rw [if_pos ⟨hk, hp⟩, hT, itoa_nat]; rfl
      rw [e2] at h7
      have hnum := number_pure (E := E.noPan) hP T (by omega)
      generalize n.w3 ++ n.w4 = R at *
      generalize Lib.decDigits T = dg at *
      have e1 : ((1 : Int) < ((R.length + 1 + 1 : Nat) : Int)) = True := by simp only [eq_iff_iff, iff_true]; omega
      have eg : (strRows ([116, 114, 105, 101, 115] :: dg :: R)).getD 0 [] = [.str [116, 114, 105, 101, 115]] := rfl
      have eg1 : (strRows ([116, 114, 105, 101, 115] :: dg :: R)).getD 1 [] = [.str dg] := rfl
      have ed : (strRows ([116, 114, 105, 101, 115] :: dg :: R)).drop 2 = strRows R := rfl
      have ex : (([116, 114, 105, 101, 115] : List UInt8) = [116, 114, 105, 101, 115]) = True := eq_self _
      simp only [h2, h4, h5, h7, h49, h50, h51, zB0, zNB, optB, get3', set3', strRows_len, rows_strs, List.length_cons, e1, eg, ex, eg1, go_sem, Nat.reduceEqDiff, reduceIte, Int.reduceEq, Int.reduceLT, Int.reduceLE, Nat.reduceAdd, Nat.reduceLT, Nat.reduceLeDiff, Int.reduceToNat, Int.reduceSub, Int.reduceAdd, Int.reduceNeg]
      refine ⟨by rfl, by omega, by omega, by omega, ?_⟩
      refine xcall_pure (args' := [.str dg]) rfl hnum rfl ?_
      simp only [h2, h4, h5, h7, h49, h50, h51, zB0, zNB, optB, get3', set3', strRows_len, rows_strs, List.length_cons, e1, eg, ex, eg1, ed, go_sem, Nat.reduceEqDiff, reduceIte, Int.reduceEq, Int.reduceLT, Int.reduceLE, Nat.reduceAdd, Nat.reduceLT, Nat.reduceLeDiff, Int.reduceToNat, Int.reduceSub, Int.reduceAdd, Int.reduceNeg]
      refine hnext _ _ ?_
      exact ⟨J ++ [_], by rw [hT]; rfl, by simp only [h2, go_sem, Nat.reduceEqDiff, reduceIte, Int.reduceEq, Int.reduceLT, Int.reduceLE, Nat.reduceAdd, Nat.reduceLT, Nat.reduceLeDiff, Int.reduceToNat, Int.reduceSub, Int.reduceAdd, Int.reduceNeg]; try rfl, by simp only [h4, go_sem, Nat.reduceEqDiff, reduceIte, Int.reduceEq, Int.reduceLT, Int.reduceLE, Nat.reduceAdd, Nat.reduceLT, Nat.reduceLeDiff, Int.reduceToNat, Int.reduceSub, Int.reduceAdd, Int.reduceNeg]; try rfl, by simp only [h5, go_sem, Nat.reduceEqDiff, reduceIte, Int.reduceEq, Int.reduceLT, Int.reduceLE, Nat.reduceAdd, Nat.reduceLT, Nat.reduceLeDiff, Int.reduceToNat, Int.reduceSub, Int.reduceAdd, Int.reduceNeg]; try rfl, by simp only [h7, ed, go_sem, Nat.reduceEqDiff, reduceIte, Int.reduceEq, Int.reduceLT, Int.reduceLE, Nat.reduceAdd, Nat.reduceLT, Nat.reduceLeDiff, Int.reduceToNat, Int.reduceSub, Int.reduceAdd, Int.reduceNeg]; try rfl, by simp only [h49, go_sem, Nat.reduceEqDiff, reduceIte, Int.reduceEq, Int.reduceLT, Int.reduceLE, Nat.reduceAdd, Nat.reduceLT, Nat.reduceLeDiff, Int.reduceToNat, Int.reduceSub, Int.reduceAdd, Int.reduceNeg]; try rfl, by simp only [h50, go_sem, Nat.reduceEqDiff, reduceIte, Int.reduceEq, Int.reduceLT, Int.reduceLE, Nat.reduceAdd, Nat.reduceLT, Nat.reduceLeDiff, Int.reduceToNat, Int.reduceSub, Int.reduceAdd, Int.reduceNeg]; try rfl, by simp only [h51, go_sem, Nat.reduceEqDiff, reduceIte, Int.reduceEq, Int.reduceLT, Int.reduceLE, Nat.reduceAdd, Nat.reduceLT, Nat.reduceLeDiff, Int.reduceToNat, Int.reduceSub, Int.reduceAdd, Int.reduceNeg]; try rfl⟩
  · have hnext : ∀ ρ L, AS n n.delay n.tries (n.w4) 2 ρ L → ∃ m, m < 1 ∧ ((m = 2 ∧ AS n 0 1 (n.w2 ++ n.w3 ++ n.w4) 0 ρ L) ∨ (m = 1 ∧ AS n 0 n.tries (n.w3 ++ n.w4) 1 ρ L) ∨ (m = 0 ∧ AS n n.delay n.tries n.w4 2 ρ L)) := fun ρ L h => ⟨0, by omega, .inr (.inr ⟨rfl, h⟩)⟩
    generalize hI : (fun (m : Nat) (ρ : Rho) (L : List Blk) => (m = 2 ∧ AS n 0 1 (n.w2 ++ n.w3 ++ n.w4) 0 ρ L) ∨ (m = 1 ∧ AS n 0 n.tries (n.w3 ++ n.w4) 1 ρ L) ∨ (m = 0 ∧ AS n n.delay n.tries n.w4 2 ρ L)) = I at *
    replace hnext : ∀ ρ L, AS n n.delay n.tries (n.w4) 2 ρ L → ∃ m, m < 1 ∧ I m ρ L := by rw [← hI]; exact hnext
    clear hI
    by_cases hp : n.delay = 0
    · have e2 : n.w3 = [] := by unfold NodeD.w3; rw [if_neg (fun h => h.2 hp)]
      rw [e2, List.nil_append] at h7
      rw [hp] at hnext
      have hd := hd_w4 n
      generalize n.w4 = R at *
      rcases hd with hd | ⟨x, y, r, rfl, hd, _⟩
      · have e1 : ((1 : Int) < ((R.length : Nat) : Int)) = False := by simp only [eq_iff_iff, iff_false]; omega
        simp only [h2, h4, h5, h7, h49, h50, h51, zB0, zNB, optB, get3', set3', strRows_len, rows_strs, e1, go_sem, Nat.reduceEqDiff, reduceIte, Int.reduceEq, Int.reduceLT, Int.reduceLE, Nat.reduceAdd, Nat.reduceLT, Nat.reduceLeDiff, Int.reduceToNat, Int.reduceSub, Int.reduceAdd, Int.reduceNeg]
        exact ⟨by rfl, hnext _ _ ⟨J ++ [_], rfl, by simp only [h2, go_sem, Nat.reduceEqDiff, reduceIte, Int.reduceEq, Int.reduceLT, Int.reduceLE, Nat.reduceAdd, Nat.reduceLT, Nat.reduceLeDiff, Int.reduceToNat, Int.reduceSub, Int.reduceAdd, Int.reduceNeg]; try rfl, by simp only [h4, go_sem, Nat.reduceEqDiff, reduceIte, Int.reduceEq, Int.reduceLT, Int.reduceLE, Nat.reduceAdd, Nat.reduceLT, Nat.reduceLeDiff, Int.reduceToNat, Int.reduceSub, Int.reduceAdd, Int.reduceNeg]; try rfl, by simp only [h5, go_sem, Nat.reduceEqDiff, reduceIte, Int.reduceEq, Int.reduceLT, Int.reduceLE, Nat.reduceAdd, Nat.reduceLT, Nat.reduceLeDiff, Int.reduceToNat, Int.reduceSub, Int.reduceAdd, Int.reduceNeg]; try rfl, by simp only [h7, go_sem, Nat.reduceEqDiff, reduceIte, Int.reduceEq, Int.reduceLT, Int.reduceLE, Nat.reduceAdd, Nat.reduceLT, Nat.reduceLeDiff, Int.reduceToNat, Int.reduceSub, Int.reduceAdd, Int.reduceNeg]; try rfl, by simp only [h49, go_sem, Nat.reduceEqDiff, reduceIte, Int.reduceEq, Int.reduceLT, Int.reduceLE, Nat.reduceAdd, Nat.reduceLT, Nat.reduceLeDiff, Int.reduceToNat, Int.reduceSub, Int.reduceAdd, Int.reduceNeg]; try rfl, by simp only [h50, go_sem, Nat.reduceEqDiff, reduceIte, Int.reduceEq, Int.reduceLT, Int.reduceLE, Nat.reduceAdd, Nat.reduceLT, Nat.reduceLeDiff, Int.reduceToNat, Int.reduceSub, Int.reduceAdd, Int.reduceNeg]; try rfl, by simp only [h51, go_sem, Nat.reduceEqDiff, reduceIte, Int.reduceEq, Int.reduceLT, Int.reduceLE, Nat.reduceAdd, Nat.reduceLT, Nat.reduceLeDiff, Int.reduceToNat, Int.reduceSub, Int.reduceAdd, Int.reduceNeg]; try rfl⟩⟩
      · have e1 : ((1 : Int) < ((r.length + 1 + 1 : Nat) : Int)) = True := by simp only [eq_iff_iff, iff_true]; omega
        have eg : (strRows (x :: y :: r)).getD 0 [] = [.str x] := rfl
        have ex : (x = [116, 105, 109, 101, 111, 117, 116]) = False := eq_false hd
        simp only [h2, h4, h5, h7, h49, h50, h51, zB0, zNB, optB, get3', set3', strRows_len, rows_strs, List.length_cons, e1, eg, ex, go_sem, Nat.reduceEqDiff, reduceIte, Int.reduceEq, Int.reduceLT, Int.reduceLE, Nat.reduceAdd, Nat.reduceLT, Nat.reduceLeDiff, Int.reduceToNat, Int.reduceSub, Int.reduceAdd, Int.reduceNeg]
        refine ⟨by rfl, by omega, by omega, ?_⟩
        exact hnext _ _ ⟨J ++ [_], rfl, by simp only [h2, go_sem, Nat.reduceEqDiff, reduceIte, Int.reduceEq, Int.reduceLT, Int.reduceLE, Nat.reduceAdd, Nat.reduceLT, Nat.reduceLeDiff, Int.reduceToNat, Int.reduceSub, Int.reduceAdd, Int.reduceNeg]; try rfl, by simp only [h4, go_sem, Nat.reduceEqDiff, reduceIte, Int.reduceEq, Int.reduceLT, Int.reduceLE, Nat.reduceAdd, Nat.reduceLT, Nat.reduceLeDiff, Int.reduceToNat, Int.reduceSub, Int.reduceAdd, Int.reduceNeg]; try rfl, by simp only [h5, go_sem, Nat.reduceEqDiff, reduceIte, Int.reduceEq, Int.reduceLT, Int.reduceLE, Nat.reduceAdd, Nat.reduceLT, Nat.reduceLeDiff, Int.reduceToNat, Int.reduceSub, Int.reduceAdd, Int.reduceNeg]; try rfl, by simp only [h7, go_sem, Nat.reduceEqDiff, reduceIte, Int.reduceEq, Int.reduceLT, Int.reduceLE, Nat.reduceAdd, Nat.reduceLT, Nat.reduceLeDiff, Int.reduceToNat, Int.reduceSub, Int.reduceAdd, Int.reduceNeg]; try rfl, by simp only [h49, go_sem, Nat.reduceEqDiff, reduceIte, Int.reduceEq, Int.reduceLT, Int.reduceLE, Nat.reduceAdd, Nat.reduceLT, Nat.reduceLeDiff, Int.reduceToNat, Int.reduceSub, Int.reduceAdd, Int.reduceNeg]; try rfl, by simp only [h50, go_sem, Nat.reduceEqDiff, reduceIte, Int.reduceEq, Int.reduceLT, Int.reduceLE, Nat.reduceAdd, Nat.reduceLT, Nat.reduceLeDiff, Int.reduceToNat, Int.reduceSub, Int.reduceAdd, Int.reduceNeg]; try rfl, by simp only [h51, go_sem, Nat.reduceEqDiff, reduceIte, Int.reduceEq, Int.reduceLT, Int.reduceLE, Nat.reduceAdd, Nat.reduceLT, Nat.reduceLeDiff, Int.reduceToNat, Int.reduceSub, Int.reduceAdd, Int.reduceNeg]; try rfl⟩
    · have e2 : n.w3 ++ n.w4 = [116, 105, 109, 101, 111, 117, 116] :: Lib.decDigits D :: (n.w4) := by
        unfold NodeD.w3; rw [if_pos ⟨hk, hp⟩, hD, itoa_nat]; rfl
      rw [e2] at h7
      have hnum := number_pure (E := E.noPan) hP D (by omega)
      generalize n.w4 = R at *
      generalize Lib.decDigits D = dg at *
      have e1 : ((1 : Int) < ((R.length + 1 + 1 : Nat) : Int)) = True := by simp only [eq_iff_iff, iff_true]; omega
      have eg : (strRows ([116, 105, 109, 101, 111, 117, 116] :: dg :: R)).getD 0 [] = [.str [116, 105, 109, 101, 111, 117, 116]] := rfl
      have eg1 : (strRows ([116, 105, 109, 101, 111, 117, 116] :: dg :: R)).getD 1 [] = [.str dg] := rfl
      have ed : (strRows ([116, 105, 109, 101, 111, 117, 116] :: dg :: R)).drop 2 = strRows R := rfl
      have ex : (([116, 105, 109, 101, 111, 117, 116] : List UInt8) = [116, 105, 109, 101, 111, 117, 116]) = True := eq_self _
      simp only [h2, h4, h5, h7, h49, h50, h51, zB0, zNB, optB, get3', set3', strRows_len, rows_strs, List.length_cons, e1, eg, ex, eg1, go_sem, Nat.reduceEqDiff, reduceIte, Int.reduceEq, Int.reduceLT, Int.reduceLE, Nat.reduceAdd, Nat.reduceLT, Nat.reduceLeDiff, Int.reduceToNat, Int.reduceSub, Int.reduceAdd, Int.reduceNeg]
      refine ⟨by rfl, by omega, by omega, by omega, ?_⟩
      refine xcall_pure (args' := [.str dg]) rfl hnum rfl ?_
      simp only [h2, h4, h5, h7, h49, h50, h51, zB0, zNB, optB, get3', set3', strRows_len, rows_strs, List.length_cons, e1, eg, ex, eg1, ed, go_sem, Nat.reduceEqDiff, reduceIte, Int.reduceEq, Int.reduceLT, Int.reduceLE, Nat.reduceAdd, Nat.reduceLT, Nat.reduceLeDiff, Int.reduceToNat, Int.reduceSub, Int.reduceAdd, Int.reduceNeg]
      refine hnext _ _ ?_
      exact ⟨J ++ [_], by rw [hD]; rfl, by simp only [h2, go_sem, Nat.reduceEqDiff, reduceIte, Int.reduceEq, Int.reduceLT, Int.reduceLE, Nat.reduceAdd, Nat.reduceLT, Nat.reduceLeDiff, Int.reduceToNat, Int.reduceSub, Int.reduceAdd, Int.reduceNeg]; try rfl, by simp only [h4, go_sem, Nat.reduceEqDiff, reduceIte, Int.reduceEq, Int.reduceLT, Int.reduceLE, Nat.reduceAdd, Nat.reduceLT, Nat.reduceLeDiff, Int.reduceToNat, Int.reduceSub, Int.reduceAdd, Int.reduceNeg]; try rfl, by simp only [h5, go_sem, Nat.reduceEqDiff, reduceIte, Int.reduceEq, Int.reduceLT, Int.reduceLE, Nat.reduceAdd, Nat.reduceLT, Nat.reduceLeDiff, Int.reduceToNat, Int.reduceSub, Int.reduceAdd, Int.reduceNeg]; try rfl, by simp only [h7, ed, go_sem, Nat.reduceEqDiff, reduceIte, Int.reduceEq, Int.reduceLT, Int.reduceLE, Nat.reduceAdd, Nat.reduceLT, Nat.reduceLeDiff, Int.reduceToNat, Int.reduceSub, Int.reduceAdd, Int.reduceNeg]; try rfl, by simp only [h49, go_sem, Nat.reduceEqDiff, reduceIte, Int.reduceEq, Int.reduceLT, Int.reduceLE, Nat.reduceAdd, Nat.reduceLT, Nat.reduceLeDiff, Int.reduceToNat, Int.reduceSub, Int.reduceAdd, Int.reduceNeg]; try rfl, by simp only [h50, go_sem, Nat.reduceEqDiff, reduceIte, Int.reduceEq, Int.reduceLT, Int.reduceLE, Nat.reduceAdd, Nat.reduceLT, Nat.reduceLeDiff, Int.reduceToNat, Int.reduceSub, Int.reduceAdd, Int.reduceNeg]; try rfl, by simp only [h51, go_sem, Nat.reduceEqDiff, reduceIte, Int.reduceEq, Int.reduceLT, Int.reduceLE, Nat.reduceAdd, Nat.reduceLT, Nat.reduceLeDiff, Int.reduceToNat, Int.reduceSub, Int.reduceAdd, Int.reduceNeg]; try rfl⟩
  · simp only [h2, h4, h5, h7, h49, h50, h51, zB0, zNB, optB, get3', set3', go_sem, Nat.reduceEqDiff, reduceIte, Int.reduceEq, Int.reduceLT, Int.reduceLE, Nat.reduceAdd, Nat.reduceLT, Nat.reduceLeDiff, Int.reduceToNat, Int.reduceSub, Int.reduceAdd, Int.reduceNeg]
    exact ⟨optB :: J, by rw [zNB, hto, hk]; rfl, by simp only [h2, go_sem, Nat.reduceEqDiff, reduceIte, Int.reduceEq, Int.reduceLT, Int.reduceLE, Nat.reduceAdd, Nat.reduceLT, Nat.reduceLeDiff, Int.reduceToNat, Int.reduceSub, Int.reduceAdd, Int.reduceNeg], by simp only [h4, go_sem, Nat.reduceEqDiff, reduceIte, Int.reduceEq, Int.reduceLT, Int.reduceLE, Nat.reduceAdd, Nat.reduceLT, Nat.reduceLeDiff, Int.reduceToNat, Int.reduceSub, Int.reduceAdd, Int.reduceNeg], by simp only [h5, go_sem, Nat.reduceEqDiff, reduceIte, Int.reduceEq, Int.reduceLT, Int.reduceLE, Nat.reduceAdd, Nat.reduceLT, Nat.reduceLeDiff, Int.reduceToNat, Int.reduceSub, Int.reduceAdd, Int.reduceNeg], by simp only [h7, go_sem, Nat.reduceEqDiff, reduceIte, Int.reduceEq, Int.reduceLT, Int.reduceLE, Nat.reduceAdd, Nat.reduceLT, Nat.reduceLeDiff, Int.reduceToNat, Int.reduceSub, Int.reduceAdd, Int.reduceNeg]⟩
/-- The words of a node that is right are read as it. -/
theorem node_pure (hP : E.P = Tryz.prog) {m : Int} (hm : E.gl 0 = some [.int .i64 m]) (n : NodeD) (hn : NodeOk n) (hal : n.after.length ≤ 10) : XPure E 24 [.isl (strRows n.words)] (.tup [.agg n.row, .bool true]) := by
  have hnm := hn.name
  have hto : n.to.length ≤ 256 := by
    by_cases h5 : n.kind = 5
    · have := named_len (hn.to5 h5); omega
    · rw [hn.to0 h5]; simp
  have harl : n.arg.length ≤ 256 := by
    by_cases h2 : n.kind = 2
    · rw [hn.arg2 h2]; simp
    · have := named_len (hn.arg h2); omega
  have h4 : n.w4.length ≤ 11 := by unfold NodeD.w4; split <;> simp; omega
  have h3 : n.w3.length ≤ 2 := by unfold NodeD.w3; split <;> simp
  have h2 : n.w2.length ≤ 2 := by unfold NodeD.w2; split <;> simp
  have hk : n.kind = 1 ∨ n.kind = 2 ∨ n.kind = 3 ∨ n.kind = 4 ∨ n.kind = 5 := by have := hn.kind; omega
  have hd := hn.delay
  rcases hk with hk | hk | hk | hk | hk
  · have ht := hn.tries hk
    have e : n.words = n.name :: [97, 99, 116, 105, 118, 105, 116, 121] :: n.arg :: (n.w2 ++ n.w3 ++ n.w4) := by unfold NodeD.words kindS NodeD.w1; rw [hk]; simp
    rw [e]
    exact node_pre hP hm n [] [97, 99, 116, 105, 118, 105, 116, 121] n.arg _ (by simp only [List.length_append]; omega) (by omega) hnm (by omega) hn.after fun ρ h => node_act (E := E) hP n n.tries.toNat n.delay.toNat (by omega) (by omega) hk hn (by omega) ρ h
  · have e : n.words = n.name :: [116, 105, 109, 101, 114] :: Lib.decDigits n.delay.toNat :: n.w4 := by
      have e0 : Lib.itoa n.delay = Lib.decDigits n.delay.toNat := by rw [← itoa_nat]; congr 1; omega
      unfold NodeD.words kindS NodeD.w1 NodeD.w2 NodeD.w3; rw [hk, ← e0]; simp
    rw [e]
    exact node_pre hP hm n [] [116, 105, 109, 101, 114] _ _ (by omega) (by have := dec_small (N := n.delay.toNat) (by omega); omega) hnm (by omega) hn.after fun ρ h => node_timer (E := E) hP n n.delay.toNat (by omega) hk hn ρ h
  · have e : n.words = n.name :: [99, 104, 105, 108, 100] :: n.arg :: n.w4 := by unfold NodeD.words kindS NodeD.w1 NodeD.w2 NodeD.w3; rw [hk]; simp
    rw [e]
    exact node_pre hP hm n [] [99, 104, 105, 108, 100] n.arg _ (by omega) (by omega) hnm (by omega) hn.after fun ρ h => node_child (E := E) hP n hk hn ρ h
  · have e : n.words = n.name :: [119, 97, 105, 116] :: n.arg :: n.w4 := by unfold NodeD.words kindS NodeD.w1 NodeD.w2 NodeD.w3; rw [hk]; simp
    rw [e]
    exact node_pre hP hm n [] [119, 97, 105, 116] n.arg _ (by omega) (by omega) hnm (by omega) hn.after fun ρ h => node_wait (E := E) hP n hk hn ρ h
  · have e : n.words = n.name :: [115, 101, 110, 100] :: n.to :: n.arg :: n.w4 := by unfold NodeD.words kindS NodeD.w1 NodeD.w2 NodeD.w3; rw [hk]; simp
    rw [e]
    exact node_pre hP hm n [] [115, 101, 110, 100] n.to _ (by simp only [List.length_cons]; omega) (by omega) hnm (by omega) hn.after fun ρ h => node_send (E := E) hP hm n hk hn (by omega) ρ h
end
end Go.X.TryzW
end
section
open Go Go.X Go.Proofs
set_option maxRecDepth 100000
set_option maxHeartbeats 4000000
set_option linter.unusedSimpArgs false
set_option linter.unusedVariables false
namespace Go.X.TryzW
def y9l : XC :=
 (.seq (.ops [ ⟨(some 35), (.bin .lss (.t 34) (.t 33)), none⟩]) (.seq (.cond (.t 35) .skip (.exit 0)) (.seq (.block 1 (.seq (.ops [ ⟨(some 36), (.mov (.t 34)), none⟩, ⟨(some 37), (.idxS 1 (.t 32) (.t 34)), none⟩, ⟨(some 38), (.load1 (.t 37)), none⟩, ⟨(some 7), (.mov (.t 36)), none⟩, ⟨(some 8), (.mov (.t 38)), none⟩]) (.seq (.ops [ ⟨(some 39), (.mov (.t 8)), none⟩, ⟨(some 40), (.call (.f 22) [(.t 39)]), none⟩, ⟨(some 9), (.mov (.t 40)), none⟩]) (.block 2 (.seq (.ops [ ⟨(some 63), (.mov (.t 9)), none⟩, ⟨(some 64), (.len (.t 63)), none⟩, ⟨(some 65), (.bin .eql (.t 64) (.c (.int .i64 0))), none⟩, ⟨(some 66), (.mov (.t 65)), none⟩, ⟨(some 67), (.mov (.t 9)), (some (66, false))⟩, ⟨(some 68), (.idxS 1 (.t 67) (.c (.int .i64 0))), (some (66, false))⟩, ⟨(some 69), (.load1 (.t 68)), (some (66, false))⟩, ⟨(some 70), (.idx (.t 69) (.c (.int .i64 0))), (some (66, false))⟩, ⟨(some 71), (.bin .eql (.t 70) (.c (.int .u8 35))), (some (66, false))⟩, ⟨(some 72), (.pick (.t 66) (.c (.bool true)) (.t 71)), none⟩, ⟨(some 62), (.mov (.t 72)), none⟩]) (.cond (.t 62) .skip (.seq (.ops [ ⟨(some 74), (.fldA 0 (.t 2)), none⟩, ⟨(some 75), (.load1 (.t 74)), none⟩, ⟨(some 76), (.bin .eql (.t 75) (.c (.str []))), none⟩, ⟨(some 73), (.mov (.t 76)), none⟩]) (.cond (.t 73) (.seq (.seq (.ops [ ⟨(some 77), (.mov (.t 9)), none⟩, ⟨(some 78), (.len (.t 77)), none⟩, ⟨(some 79), (.bin .neq (.t 78) (.c (.int .i64 2))), none⟩, ⟨(some 80), (.mov (.t 79)), none⟩, ⟨(some 81), (.mov (.t 9)), (some (80, false))⟩, ⟨(some 82), (.idxS 1 (.t 81) (.c (.int .i64 0))), (some (80, false))⟩, ⟨(some 83), (.load1 (.t 82)), (some (80, false))⟩, ⟨(some 84), (.bin .neq (.t 83) (.c (.str [119, 111, 114, 107, 102, 108, 111, 119]))), (some (80, false))⟩, ⟨(some 85), (.pick (.t 80) (.c (.bool true)) (.t 84)), none⟩, ⟨(some 86), (.mov (.t 85)), none⟩, ⟨(some 87), (.mov (.t 9)), (some (86, false))⟩, ⟨(some 88), (.idxS 1 (.t 87) (.c (.int .i64 1))), (some (86, false))⟩, ⟨(some 89), (.load1 (.t 88)), (some (86, false))⟩, ⟨(some 90), (.call (.f 23) [(.t 89)]), (some (86, false))⟩, ⟨(some 91), (.un .not (.t 90)), (some (86, false))⟩, ⟨(some 92), (.pick (.t 86) (.c (.bool true)) (.t 91)), none⟩]) (.cond (.t 92) (.seq (.ops [ ⟨(some 93), (.build [(.str []), .nsl] []), none⟩, ⟨(some 94), (.mov (.t 7)), none⟩, ⟨(some 95), (.bin .add (.t 94) (.c (.int .i64 1))), none⟩, ⟨none, (.store 2 (.t 2) (.t 93)), none⟩, ⟨(some 3), (.mov (.t 95)), none⟩, ⟨(some 4), (.mov (.c (.int .i64 2))), none⟩]) .ret) .skip)) (.ops [ ⟨(some 96), (.mov (.t 9)), none⟩, ⟨(some 97), (.idxS 1 (.t 96) (.c (.int .i64 1))), none⟩, ⟨(some 98), (.load1 (.t 97)), none⟩, ⟨(some 99), (.fldA 0 (.t 2)), none⟩, ⟨none, (.store 1 (.t 99) (.t 98)), none⟩])) (.seq (.ops [ ⟨(some 42), (.mov (.t 9)), none⟩, ⟨(some 43), (.call (.f 24) [(.t 42)]), none⟩, ⟨(some 41), (.mov (.t 43)), none⟩, ⟨(some 44), (.ext (.t 41) 0), none⟩, ⟨(some 45), (.ext (.t 41) 1), none⟩, ⟨(some 10), (.alloc [(.str []), (.int .i64 0), (.str []), (.str []), (.int .i64 0), (.int .i64 0), .nsl]), none⟩, ⟨none, (.store 7 (.t 10) (.t 44)), none⟩, ⟨(some 11), (.mov (.t 45)), none⟩]) (.seq (.seq (.ops [ ⟨(some 46), (.mov (.t 11)), none⟩, ⟨(some 47), (.un .not (.t 46)), none⟩]) (.cond (.t 47) (.seq (.ops [ ⟨(some 48), (.build [(.str []), .nsl] []), none⟩, ⟨(some 49), (.mov (.t 7)), none⟩, ⟨(some 50), (.bin .add (.t 49) (.c (.int .i64 1))), none⟩, ⟨none, (.store 2 (.t 2) (.t 48)), none⟩, ⟨(some 3), (.mov (.t 50)), none⟩, ⟨(some 4), (.mov (.c (.int .i64 2))), none⟩]) .ret) .skip)) (.seq (.ops [ ⟨(some 51), (.fldA 1 (.t 2)), none⟩, ⟨(some 52), (.load1 (.t 51)), none⟩, ⟨(some 53), (.loadN 7 (.t 10)), none⟩, ⟨(some 54), (.bslice 7 [(.str []), (.int .i64 0), (.str []), (.str []), (.int .i64 0), (.int .i64 0), .nsl] 1 [(0, (.t 53))]), none⟩, ⟨(some 55), (.append 7 96 (.t 52) (.t 54)), none⟩, ⟨(some 56), (.fldA 1 (.t 2)), none⟩, ⟨none, (.store 1 (.t 56) (.t 55)), none⟩]) (.ops [ ⟨(some 57), (.mov (.t 6)), none⟩, ⟨(some 58), (.mov (.t 7)), none⟩, ⟨(some 59), (.bin .add (.t 58) (.c (.int .i64 1))), none⟩, ⟨(some 60), (.bslice 1 [(.int .i64 0)] 1 [(0, (.t 59))]), none⟩, ⟨(some 61), (.append 1 8 (.t 57) (.t 60)), none⟩, ⟨(some 6), (.mov (.t 61)), none⟩])))))))))))) (.ops [ ⟨(some 100), (.bin .add (.t 34) (.c (.int .i64 1))), none⟩, ⟨(some 34), (.mov (.t 100)), none⟩]))))
/- "tiller/dag.Parse" params { toList := [9] } results { toList := [Go.ResultVar.cell 2 24, Go.ResultVar.tmp 3, Go.ResultVar.tmp 4] } -/
def y9 : XC :=
 (.seq (.ops [ ⟨(some 2), (.alloc [(.str []), .nsl]), none⟩, ⟨(some 3), (.mov (.c (.int .i64 0))), none⟩, ⟨(some 4), (.mov (.c (.int .i64 0))), none⟩]) (.seq (.seq (.ops [ ⟨(some 14), (.mov (.t 0)), none⟩, ⟨(some 15), (.lenS (.t 14)), none⟩, ⟨(some 16), (.bin .gtr (.t 15) (.c (.int .i64 16384))), none⟩]) (.cond (.t 16) (.seq (.ops [ ⟨(some 17), (.build [(.str []), .nsl] []), none⟩, ⟨none, (.store 2 (.t 2) (.t 17)), none⟩, ⟨(some 3), (.mov (.c (.int .i64 0))), none⟩, ⟨(some 4), (.mov (.c (.int .i64 9))), none⟩]) .ret) .skip)) (.seq (.ops [ ⟨(some 18), (.mov (.t 0)), none⟩, ⟨(some 19), (.call (.f 21) [(.t 18), (.c (.str [10]))]), none⟩, ⟨(some 5), (.mov (.t 19)), none⟩]) (.seq (.seq (.ops [ ⟨(some 20), (.mov (.t 5)), none⟩, ⟨(some 21), (.mov (.t 5)), none⟩, ⟨(some 22), (.len (.t 21)), none⟩, ⟨(some 23), (.bin .sub (.t 22) (.c (.int .i64 1))), none⟩, ⟨(some 24), (.idxS 1 (.t 20) (.t 23)), none⟩, ⟨(some 25), (.load1 (.t 24)), none⟩, ⟨(some 26), (.bin .eql (.t 25) (.c (.str []))), none⟩]) (.cond (.t 26) (.ops [ ⟨(some 27), (.mov (.t 5)), none⟩, ⟨(some 28), (.mov (.t 5)), none⟩, ⟨(some 29), (.len (.t 28)), none⟩, ⟨(some 30), (.bin .sub (.t 29) (.c (.int .i64 1))), none⟩, ⟨(some 31), (.slice 1 (.t 27) none (some (.t 30))), none⟩, ⟨(some 5), (.mov (.t 31)), none⟩]) .skip)) (.seq (.ops [ ⟨(some 6), (.mov (.c .nsl)), none⟩]) (.seq (.seq (.ops [ ⟨(some 32), (.mov (.t 5)), none⟩, ⟨(some 33), (.len (.t 32)), none⟩, ⟨(some 34), (.mov (.c (.int .i64 0))), none⟩]) (.block 0 (.loop y9l))) (.seq (.seq (.ops [ ⟨(some 101), (.fldA 0 (.t 2)), none⟩, ⟨(some 102), (.load1 (.t 101)), none⟩, ⟨(some 103), (.bin .eql (.t 102) (.c (.str []))), none⟩]) (.cond (.t 103) (.seq (.ops [ ⟨(some 104), (.build [(.str []), .nsl] []), none⟩, ⟨(some 105), (.mov (.t 5)), none⟩, ⟨(some 106), (.len (.t 105)), none⟩, ⟨(some 107), (.bin .add (.t 106) (.c (.int .i64 1))), none⟩, ⟨none, (.store 2 (.t 2) (.t 104)), none⟩, ⟨(some 3), (.mov (.t 107)), none⟩, ⟨(some 4), (.mov (.c (.int .i64 2))), none⟩]) .ret) .skip)) (.seq (.ops [ ⟨(some 109), (.loadN 2 (.t 2)), none⟩, ⟨(some 110), (.call (.f 12) [(.t 109)]), none⟩, ⟨(some 108), (.mov (.t 110)), none⟩, ⟨(some 111), (.ext (.t 108) 0), none⟩, ⟨(some 112), (.ext (.t 108) 1), none⟩, ⟨(some 12), (.mov (.t 111)), none⟩, ⟨(some 13), (.mov (.t 112)), none⟩]) (.seq (.block 3 (.seq (.ops [ ⟨(some 114), (.mov (.t 13)), none⟩, ⟨(some 115), (.bin .eql (.t 114) (.c (.int .i64 0))), none⟩, ⟨(some 113), (.mov (.t 115)), none⟩]) (.cond (.t 113) (.seq (.ops [ ⟨(some 116), (.loadN 2 (.t 2)), none⟩, ⟨none, (.store 2 (.t 2) (.t 116)), none⟩, ⟨(some 3), (.mov (.c (.int .i64 0))), none⟩, ⟨(some 4), (.mov (.c (.int .i64 0))), none⟩]) .ret) (.seq (.ops [ ⟨(some 118), (.mov (.t 12)), none⟩, ⟨(some 119), (.bin .lss (.t 118) (.c (.int .i64 0))), none⟩, ⟨(some 117), (.mov (.t 119)), none⟩]) (.cond (.t 117) (.seq (.ops [ ⟨(some 120), (.build [(.str []), .nsl] []), none⟩, ⟨(some 121), (.mov (.t 13)), none⟩, ⟨none, (.store 2 (.t 2) (.t 120)), none⟩, ⟨(some 3), (.mov (.c (.int .i64 0))), none⟩, ⟨(some 4), (.mov (.t 121)), none⟩]) .ret) .skip))))) (.seq (.drawR [(⟨(some 122), (.build [(.str []), .nsl] []), none⟩, ([], false)), (⟨(some 123), (.mov (.t 6)), none⟩, ([], false)), (⟨(some 124), (.mov (.t 12)), none⟩, ([], false)), (⟨(some 125), (.idxS 1 (.t 123) (.t 124)), none⟩, ([], true)), (⟨(some 126), (.load1 (.t 125)), none⟩, ([], true)), (⟨(some 127), (.mov (.t 13)), none⟩, ([], false)), (⟨none, (.store 2 (.t 2) (.t 122)), none⟩, ([3, 4], false)), (⟨(some 3), (.mov (.t 126)), none⟩, ([], false)), (⟨(some 4), (.mov (.t 127)), none⟩, ([], false))]) .ret))))))))))
section
variable {E : Env}
/-- A list of ours, or none yet. -/
def SlAt (sz : Nat) (rows : List (List IV)) (v : IV) (J : List Blk) : Prop := (rows = [] ∧ v = .nsl) ∨ ∃ s, J[s]? = some (.cells sz rows) ∧ rows ≠ [] ∧ v = .sl (s + 1) 0 rows.length rows.length
theorem slAt_grow {sz : Nat} {rows : List (List IV)} {v : IV} {J : List Blk} {b : Blk} (h : SlAt sz rows v J) : SlAt sz rows v (J ++ [b]) := by
  rcases h with h | ⟨s, h1, h2, h3⟩
  · exact .inl h
  · exact .inr ⟨s, by rw [List.getElem?_append_left (lt_of_get h1)]; exact h1, h2, h3⟩
theorem slAt_cell {sz : Nat} {rows : List (List IV)} {v : IV} {J : List Blk} (h : SlAt sz rows v J) : cellsOf v = [v] ∧ isCell v = true := by
  rcases h with ⟨_, rfl⟩ | ⟨s, _, _, rfl⟩ <;> exact ⟨rfl, rfl⟩
theorem slAt_append {sz bytes : Nat} {B0 : Blk} {J : List Blk} {rows : List (List IV)} {v : IV} {row : List IV} {t : Nat} {K : IV → List Blk → Prop} (h : SlAt sz rows v J) (ht : (B0 :: J)[t]? = some (.cells sz [row]))
    (hr : row.length = sz ∧ row.all isCell = true) (hb : (rows.length + 1) * bytes ≤ 70368744177664)
    (hk : ∀ v' J', SlAt sz (rows ++ [row]) v' J' → (∀ sz2 rows2 w, sz2 ≠ sz → SlAt sz2 rows2 w J → SlAt sz2 rows2 w J') → K v' (B0 :: J')) :
    xop E (.append sz bytes (.c v) (.c (.sl t 0 1 1))) cev (B0 :: J) K := by
  show xappend sz bytes v (.sl t 0 1 1) (B0 :: J) K
  unfold xappend
  have hx : rowsOf (B0 :: J) (.sl t 0 1 1) = some [row] := by simp [rowsOf, ht]
  rw [hx]
  show RowsC sz [row] ∧ _
  refine ⟨fun r hr' => by simp at hr'; subst hr'; exact hr, ?_⟩
  rcases h with ⟨rfl, rfl⟩ | ⟨s, h1, h2, rfl⟩
  · refine ⟨fun h => (by cases h), fun _ => ⟨by simpa using hb, ?_⟩⟩
    refine hk (.sl (J.length + 1) 0 1 1) (J ++ [.cells sz [row]]) (.inr ⟨J.length, by simp, by simp, by simp⟩) (fun sz2 rows2 w _ h => slAt_grow h)
  · have h1' : (B0 :: J)[s + 1]? = some (.cells sz rows) := by rw [List.getElem?_cons_succ]; exact h1
    simp only [h1']
    refine ⟨trivial, by omega, ?_⟩
    rw [if_neg (by simp)]
    refine ⟨by simpa using hb, ?_⟩
    have hset : (B0 :: J).set (s + 1) .dead = B0 :: J.set s .dead := rfl
    rw [hset, List.drop_zero, List.take_length, List.cons_append]
    have := hk (.sl (J.length + 1) 0 (rows.length + 1) (rows.length + 1)) (J.set s .dead ++ [.cells sz (rows ++ [row])]) (.inr ⟨J.length, by simp, by simp, by simp⟩) (fun sz2 rows2 w hne h => by
      rcases h with h | ⟨s', h1'', h2', h3'⟩
      · exact .inl h
      · refine .inr ⟨s', ?_, h2', h3'⟩
        have hss : s ≠ s' := fun e => by subst e; rw [h1] at h1''; cases h1''; exact hne rfl
        rw [List.getElem?_append_left (by rw [List.length_set]; exact lt_of_get h1''), List.getElem?_set_ne hss]; exact h1'')
    simpa using this
theorem slAt_conv {sz n : Nat} {B0 : Blk} {J : List Blk} {rows : List (List IV)} {v : IV} (h : SlAt sz rows v J) (hr : mapO (mapO (conv (B0 :: J) n renFreeze.inner)) rows = some rows) : conv (B0 :: J) (n + 1) renFreeze v = some (.isl rows) := by
  rcases h with ⟨rfl, rfl⟩ | ⟨s, h1, h2, rfl⟩
  · rfl
  · refine conv_sl_free rfl (sz := sz) (rows := rows) (by rw [List.getElem?_cons_succ]; exact h1) (by omega) ?_
    rw [List.drop_zero, List.take_length]; exact hr

/-- What the lines still have to say of d. -/
def skipW (ws : List (List UInt8)) : Prop := ws = [] ∨ ∃ r t, ws = (35 :: r) :: t
inductive Reads (d : DefD) : Option Nat → List (List UInt8) → Prop
  | done : Reads d (some d.nodes.length) []
  | skip (st l ls) : skipW (fieldsL l) → Reads d st ls → Reads d st (l :: ls)
  | hdr (l ls) : fieldsL l = [[119, 111, 114, 107, 102, 108, 111, 119], d.name] → Reads d (some 0) ls → Reads d none (l :: ls)
  | node (k l ls) : k < d.nodes.length → fieldsL l = (d.nodes.getD k default).words → Reads d (some (k + 1)) ls → Reads d (some k) (l :: ls)
def nmSt (d : DefD) : Option Nat → List UInt8
  | none => []
  | some _ => d.name
def cntSt : Option Nat → Nat
  | none => 0
  | some k => k
def PSt (d : DefD) (st : Option Nat) (ρ : Rho) (L : List Blk) : Prop := ∃ vn va rows J, ρ 2 = .ptr 0 0 0 ∧ ρ 6 = va ∧ L = .cells 2 [[.str (nmSt d st), vn]] :: J ∧
  SlAt 7 (nodeRows (d.nodes.take (cntSt st))) vn J ∧ SlAt 1 rows va J ∧ rows.length = cntSt st ∧ cntSt st ≤ d.nodes.length
def PInv (d : DefD) (ls : List (List UInt8)) (n : Nat) (ρ : Rho) (L : List Blk) : Prop := ∃ (i : Nat) (st : Option Nat), i ≤ ls.length ∧ n = ls.length - i ∧ Reads d st (ls.drop i) ∧ PSt d st ρ L ∧
  ρ 5 = .isl (strRows ls) ∧ ρ 32 = .isl (strRows ls) ∧ ρ 33 = .int .i64 ls.length ∧ ρ 34 = .int .i64 i

theorem get1' {a x : Blk} {J : List Blk} : (a :: (J ++ [x]))[J.length + 1]? = some x := by simp
theorem set1' {a x y : Blk} {J : List Blk} : (a :: (J ++ [x])).set (J.length + 1) y = a :: (J ++ [y]) := by simp
theorem parse_line (hP : E.P = Tryz.prog) {m : Int} (hm : E.gl 0 = some [.int .i64 m]) (d : DefD) (hc : d.check.2 = 0) (haf : ∀ n ∈ d.nodes, n.after.length ≤ 10) (ls : List (List UInt8)) (hl : ls.length ≤ 1000000) (hll : ∀ l ∈ ls, l.length ≤ 1000000)
    (n : Nat) (ρ : Rho) (L : List Blk) (h : PInv d ls n ρ L) {K : XE → Rho → List Blk → Prop} (hK : ∀ ρ L, PInv d ls 0 ρ L → ρ 34 = .int .i64 ls.length → K .normal ρ L) :
    xrun E.noPan y9l ρ L (loopK (PInv d ls) n (XE.inBlock 0 K)) := by
  obtain ⟨i, st, hi, rfl, hR, ⟨vn, va, rows, J, h2, h6, rfl, hn, ha, hrl, hcn⟩, h5, h32, h33, h34⟩ := h
  unfold y9l
  simp only [h32, h33, h34, go_sem, Nat.reduceEqDiff, reduceIte, Int.reduceEq, Int.reduceLT, Int.reduceLE, Nat.reduceAdd, Nat.reduceLT, Nat.reduceLeDiff, Int.reduceToNat, Int.reduceSub, Int.reduceAdd, Int.reduceNeg]
  refine s_cond (b := decide _) (by simp only [h2, h5, h6, h32, h33, h34, go_sem, Nat.reduceEqDiff, reduceIte, Int.reduceEq, Int.reduceLT, Int.reduceLE, Nat.reduceAdd, Nat.reduceLT, Nat.reduceLeDiff, Int.reduceToNat, Int.reduceSub, Int.reduceAdd, Int.reduceNeg]; try rfl) ?_ ?_ <;> intro hb <;> simp only [hb, h2, h5, h6, h32, h33, h34, strRows_len, rows_strs, go_sem, Nat.reduceEqDiff, reduceIte, Int.reduceEq, Int.reduceLT, Int.reduceLE, Nat.reduceAdd, Nat.reduceLT, Nat.reduceLeDiff, Int.reduceToNat, Int.reduceSub, Int.reduceAdd, Int.reduceNeg]
  · rw [decide_eq_true_eq] at hb
    have hi' : i < ls.length := by omega
    have hsr := strRows_get hi'
    have hmem : ls.getD i [] ∈ ls := by rw [List.getD_eq_getElem?_getD, List.getElem?_eq_getElem hi']; exact List.getElem_mem _
    have hdr : ls.drop i = ls.getD i [] :: ls.drop (i + 1) := by rw [List.getD_eq_getElem?_getD, List.getElem?_eq_getElem hi']; exact List.drop_eq_getElem_cons hi'
    rw [hdr] at hR
    have hlen := hll _ hmem
    generalize ls.getD i [] = l at *
    try simp only [h2, h5, h6, h32, h33, h34, strRows_len, rows_strs, hsr, go_sem, Nat.reduceEqDiff, reduceIte, Int.reduceEq, Int.reduceLT, Int.reduceLE, Nat.reduceAdd, Nat.reduceLT, Nat.reduceLeDiff, Int.reduceToNat, Int.reduceSub, Int.reduceAdd, Int.reduceNeg]
    refine ⟨by omega, hi', ?_⟩
    refine xcall_pure (args' := [.str l]) rfl (words_pure (E := E.noPan) hP l (by omega)) rfl ?_
    have hw : (IV.isl (sRows (fieldsL l))) = IV.isl (strRows (fieldsL l)) := rfl
    rw [hw]
    generalize hfl : fieldsL l = W at *
    have hnext : ∀ st' ρ L, Reads d st' (ls.drop (i + 1)) → PSt d st' ρ L → ρ 5 = .isl (strRows ls) → ρ 32 = .isl (strRows ls) → ρ 33 = .int .i64 ls.length → ρ 34 = .int .i64 (i + 1 : Nat) →
        ∃ m, m < ls.length - i ∧ PInv d ls m ρ L := fun st' ρ L h1 h2 h3 h4 h5 h6 => ⟨ls.length - (i + 1), by omega, i + 1, st', by omega, rfl, h1, h2, h3, h4, h5, h6⟩
    generalize ls.drop (i + 1) = rest at *
    have hwr : IntKind.i64.wrap ((i : Int) + 1) = ((i + 1 : Nat) : Int) := by rw [wrap64 (by omega) (by omega)]; rfl
    have hnmD := (check_ok hc).2.2.2.2.1
    have hnl := named_len hnmD
    have hpN := dagName_pure (E := E.noPan) hP hm d.name (by omega)
    rw [hnmD] at hpN
    cases hR with
    | skip _ _ _ hsk hrest =>
      rw [hfl] at hsk
      rcases hsk with rfl | ⟨r, t, rfl⟩
      · simp only [h2, h5, h6, h32, h33, h34, strRows_len, rows_strs, List.length_nil, Int.ofNat_zero, hwr, go_sem, Nat.reduceEqDiff, reduceIte, Int.reduceEq, Int.reduceLT, Int.reduceLE, Nat.reduceAdd, Nat.reduceLT, Nat.reduceLeDiff, Int.reduceToNat, Int.reduceSub, Int.reduceAdd, Int.reduceNeg]
        refine hnext st _ _ hrest ?_ ?_ ?_ ?_ ?_
        · exact ⟨vn, va, rows, J, by simp only [h2, go_sem, Nat.reduceEqDiff, reduceIte, Int.reduceEq, Int.reduceLT, Int.reduceLE, Nat.reduceAdd, Nat.reduceLT, Nat.reduceLeDiff, Int.reduceToNat, Int.reduceSub, Int.reduceAdd, Int.reduceNeg], by simp only [h6, go_sem, Nat.reduceEqDiff, reduceIte, Int.reduceEq, Int.reduceLT, Int.reduceLE, Nat.reduceAdd, Nat.reduceLT, Nat.reduceLeDiff, Int.reduceToNat, Int.reduceSub, Int.reduceAdd, Int.reduceNeg], rfl, hn, ha, hrl, hcn⟩
        all_goals simp only [h5, h32, h33, h34, go_sem, Nat.reduceEqDiff, reduceIte, Int.reduceEq, Int.reduceLT, Int.reduceLE, Nat.reduceAdd, Nat.reduceLT, Nat.reduceLeDiff, Int.reduceToNat, Int.reduceSub, Int.reduceAdd, Int.reduceNeg]
      · have e1 : (((t.length + 1 : Nat) : Int) = 0) = False := by simp only [eq_iff_iff, iff_false]; omega
        have eg : (strRows ((35 :: r) :: t)).getD 0 [] = [.str (35 :: r)] := rfl
        have ec : (((35 : UInt8).toNat : Int) = 35) = True := eq_true rfl
        simp only [h2, h5, h6, h32, h33, h34, strRows_len, rows_strs, List.length_cons, e1, eg, hwr, go_sem, Nat.reduceEqDiff, reduceIte, Int.reduceEq, Int.reduceLT, Int.reduceLE, Nat.reduceAdd, Nat.reduceLT, Nat.reduceLeDiff, Int.reduceToNat, Int.reduceSub, Int.reduceAdd, Int.reduceNeg]
        refine ⟨by omega, by omega, by omega, ?_⟩
        simp only [h2, h5, h6, h32, h33, h34, ec, hwr, go_sem, Nat.reduceEqDiff, reduceIte, Int.reduceEq, Int.reduceLT, Int.reduceLE, Nat.reduceAdd, Nat.reduceLT, Nat.reduceLeDiff, Int.reduceToNat, Int.reduceSub, Int.reduceAdd, Int.reduceNeg]
        refine hnext st _ _ hrest ?_ ?_ ?_ ?_ ?_
        · exact ⟨vn, va, rows, J, by simp only [h2, go_sem, Nat.reduceEqDiff, reduceIte, Int.reduceEq, Int.reduceLT, Int.reduceLE, Nat.reduceAdd, Nat.reduceLT, Nat.reduceLeDiff, Int.reduceToNat, Int.reduceSub, Int.reduceAdd, Int.reduceNeg], by simp only [h6, go_sem, Nat.reduceEqDiff, reduceIte, Int.reduceEq, Int.reduceLT, Int.reduceLE, Nat.reduceAdd, Nat.reduceLT, Nat.reduceLeDiff, Int.reduceToNat, Int.reduceSub, Int.reduceAdd, Int.reduceNeg], rfl, hn, ha, hrl, hcn⟩
        all_goals simp only [h5, h32, h33, h34, go_sem, Nat.reduceEqDiff, reduceIte, Int.reduceEq, Int.reduceLT, Int.reduceLE, Nat.reduceAdd, Nat.reduceLT, Nat.reduceLeDiff, Int.reduceToNat, Int.reduceSub, Int.reduceAdd, Int.reduceNeg]
    | hdr _ _ hw hrest =>
      rw [hfl] at hw
      subst hw
      have eg : (strRows [[119, 111, 114, 107, 102, 108, 111, 119], d.name]).getD 0 [] = [.str [119, 111, 114, 107, 102, 108, 111, 119]] := rfl
      have eg1 : (strRows [[119, 111, 114, 107, 102, 108, 111, 119], d.name]).getD 1 [] = [.str d.name] := rfl
      have ec : (((119 : UInt8).toNat : Int) = 35) = False := eq_false (by decide)
      have ee : (([] : List UInt8) = []) = True := eq_self _
      have ew : (([119, 111, 114, 107, 102, 108, 111, 119] : List UInt8) = [119, 111, 114, 107, 102, 108, 111, 119]) = True := eq_self _
      simp only [h2, h5, h6, h32, h33, h34, strRows_len, rows_strs, List.length_cons, List.length_nil, eg, eg1, nmSt, hwr, ec, ee, ew, Bool.not_true, go_sem, Nat.reduceEqDiff, reduceIte, Int.reduceEq, Int.reduceLT, Int.reduceLE, Nat.reduceAdd, Nat.reduceLT, Nat.reduceLeDiff, Int.reduceToNat, Int.reduceSub, Int.reduceAdd, Int.reduceNeg]
      refine xcall_pure (args' := [.str d.name]) rfl hpN rfl ?_
      simp only [h2, h5, h6, h32, h33, h34, strRows_len, rows_strs, List.length_cons, List.length_nil, eg, eg1, hwr, Bool.not_true, go_sem, Nat.reduceEqDiff, reduceIte, Int.reduceEq, Int.reduceLT, Int.reduceLE, Nat.reduceAdd, Nat.reduceLT, Nat.reduceLeDiff, Int.reduceToNat, Int.reduceSub, Int.reduceAdd, Int.reduceNeg]
      refine hnext (some 0) _ _ hrest ?_ ?_ ?_ ?_ ?_
      · exact ⟨vn, va, rows, J, by simp only [h2, go_sem, Nat.reduceEqDiff, reduceIte, Int.reduceEq, Int.reduceLT, Int.reduceLE, Nat.reduceAdd, Nat.reduceLT, Nat.reduceLeDiff, Int.reduceToNat, Int.reduceSub, Int.reduceAdd, Int.reduceNeg], by simp only [h6, go_sem, Nat.reduceEqDiff, reduceIte, Int.reduceEq, Int.reduceLT, Int.reduceLE, Nat.reduceAdd, Nat.reduceLT, Nat.reduceLeDiff, Int.reduceToNat, Int.reduceSub, Int.reduceAdd, Int.reduceNeg], rfl, hn, ha, hrl, Nat.zero_le _⟩
      all_goals simp only [h5, h32, h33, h34, go_sem, Nat.reduceEqDiff, reduceIte, Int.reduceEq, Int.reduceLT, Int.reduceLE, Nat.reduceAdd, Nat.reduceLT, Nat.reduceLeDiff, Int.reduceToNat, Int.reduceSub, Int.reduceAdd, Int.reduceNeg]
    | node k _ _ hk hw hrest =>
      rw [hfl] at hw
      subst hw
      have hmn : d.nodes.getD k default ∈ d.nodes := by rw [List.getD_eq_getElem?_getD, List.getElem?_eq_getElem hk]; exact List.getElem_mem _
      have hok := node_ok hc hmn
      have hal := haf _ hmn
      have hpn := node_pure (E := E.noPan) hP hm _ hok hal
      have htk : nodeRows (d.nodes.take (k + 1)) = nodeRows (d.nodes.take k) ++ [(d.nodes.getD k default).row] := by
        rw [List.take_add_one, getD_get (d := default) hk]; simp [nodeRows]
      have hnn := named_len hok.name
      have h35 : ∀ b r, (d.nodes.getD k default).name = b :: r → ((b.toNat : Int) = 35) = False := by
        intro b r he
        have := hok.name
        rw [he] at this
        unfold namedS at this
        simp only [List.all_cons, Bool.and_eq_true] at this
        have hb := this.1.1
        refine eq_false fun h => ?_
        have hb2 : b = 35 := UInt8.toNat_inj.1 (by have : (35 : UInt8).toNat = 35 := rfl; omega)
        rw [hb2] at hb; revert hb; decide
      have hwl := words_len hok
      have hws : ∃ W', (d.nodes.getD k default).words = (d.nodes.getD k default).name :: W' := ⟨_, by unfold NodeD.words; rfl⟩
      generalize d.nodes.getD k default = nd at *
      obtain ⟨W', hW⟩ := hws
      rw [hW] at hpn hwl hfl
      rw [hW]
      cases hnm : nd.name with
      | nil => rw [hnm] at hnn; simp at hnn
      | cons b r =>
      have e35 := h35 b r hnm
      rw [hnm] at hpn hwl
      have e1 : (((W'.length + 1 : Nat) : Int) = 0) = False := by simp only [eq_iff_iff, iff_false]; omega
      have eg : (strRows ((b :: r) :: W')).getD 0 [] = [.str (b :: r)] := rfl
      have en : (d.name = []) = False := eq_false (fun h => by rw [h] at hnl; simp at hnl)
      have hnS : nmSt d (some k) = d.name := rfl
      simp only [h2, h5, h6, h32, h33, h34, strRows_len, rows_strs, List.length_cons, e1, e35, eg, hwr, go_sem, Nat.reduceEqDiff, reduceIte, Int.reduceEq, Int.reduceLT, Int.reduceLE, Nat.reduceAdd, Nat.reduceLT, Nat.reduceLeDiff, Int.reduceToNat, Int.reduceSub, Int.reduceAdd, Int.reduceNeg]
      refine ⟨by omega, by omega, by omega, ?_⟩
      simp only [h2, h5, h6, h32, h33, h34, strRows_len, rows_strs, e35, en, hnS, hwr, go_sem, Nat.reduceEqDiff, reduceIte, Int.reduceEq, Int.reduceLT, Int.reduceLE, Nat.reduceAdd, Nat.reduceLT, Nat.reduceLeDiff, Int.reduceToNat, Int.reduceSub, Int.reduceAdd, Int.reduceNeg]
      refine xcall_pure (args' := [.isl (strRows ((b :: r) :: W'))]) rfl hpn rfl ?_
      simp only [h2, h5, h6, h32, h33, h34, NodeD.row, get1', set1', Bool.not_true, go_sem, Nat.reduceEqDiff, reduceIte, Int.reduceEq, Int.reduceLT, Int.reduceLE, Nat.reduceAdd, Nat.reduceLT, Nat.reduceLeDiff, Int.reduceToNat, Int.reduceSub, Int.reduceAdd, Int.reduceNeg]
      have hk32 : d.nodes.length ≤ 32 := (check_ok hc).2.2.1
      have hck : cntSt (some k) = k := rfl
      rw [hck] at hn hrl
      have hlt : (nodeRows (d.nodes.take k)).length ≤ 32 := by rw [nodeRows_len, List.length_take]; omega
      refine slAt_append (row := nd.row) (slAt_grow (slAt_grow hn)) get1' ⟨rfl, rfl⟩ (by omega) ?_
      intro vn' J' hn' hkeep
      have ha' := hkeep 1 rows va (by decide) (slAt_grow (slAt_grow ha))
      rw [← htk] at hn'
      obtain ⟨hc1, hc2⟩ := slAt_cell hn'
      simp only [h2, h5, h6, h32, h33, h34, hc1, hc2, hwr, go_sem, Nat.reduceEqDiff, reduceIte, Int.reduceEq, Int.reduceLT, Int.reduceLE, Nat.reduceAdd, Nat.reduceLT, Nat.reduceLeDiff, Int.reduceToNat, Int.reduceSub, Int.reduceAdd, Int.reduceNeg]
      refine slAt_append (row := [.int .i64 (i + 1 : Nat)]) (slAt_grow ha') get1' ⟨rfl, rfl⟩ (by omega) ?_
      intro va' J'' ha'' hkeep2
      have hn'' := hkeep2 7 _ _ (by decide) (slAt_grow hn')
      simp only [h2, h5, h6, h32, h33, h34, hwr, go_sem, Nat.reduceEqDiff, reduceIte, Int.reduceEq, Int.reduceLT, Int.reduceLE, Nat.reduceAdd, Nat.reduceLT, Nat.reduceLeDiff, Int.reduceToNat, Int.reduceSub, Int.reduceAdd, Int.reduceNeg]
      refine hnext (some (k + 1)) _ _ hrest ?_ ?_ ?_ ?_ ?_
      · exact ⟨vn', va', _, J'', by simp only [h2, go_sem, Nat.reduceEqDiff, reduceIte, Int.reduceEq, Int.reduceLT, Int.reduceLE, Nat.reduceAdd, Nat.reduceLT, Nat.reduceLeDiff, Int.reduceToNat, Int.reduceSub, Int.reduceAdd, Int.reduceNeg], by simp only [h6, go_sem, Nat.reduceEqDiff, reduceIte, Int.reduceEq, Int.reduceLT, Int.reduceLE, Nat.reduceAdd, Nat.reduceLT, Nat.reduceLeDiff, Int.reduceToNat, Int.reduceSub, Int.reduceAdd, Int.reduceNeg], rfl, hn'', ha'', by rw [List.length_append, hrl]; rfl, hk⟩
      all_goals simp only [h5, h32, h33, h34, go_sem, Nat.reduceEqDiff, reduceIte, Int.reduceEq, Int.reduceLT, Int.reduceLE, Nat.reduceAdd, Nat.reduceLT, Nat.reduceLeDiff, Int.reduceToNat, Int.reduceSub, Int.reduceAdd, Int.reduceNeg]
  · rw [decide_eq_false_iff_not] at hb
    have hil : i = ls.length := by omega
    subst hil
    refine hK _ _ ⟨ls.length, st, Nat.le_refl _, by omega, hR, ⟨vn, va, rows, J, ?_, ?_, rfl, hn, ha, hrl, hcn⟩, ?_, ?_, ?_, ?_⟩ ?_
    all_goals simp only [h2, h5, h6, h32, h33, h34, go_sem, Nat.reduceEqDiff, reduceIte, Int.reduceEq, Int.reduceLT, Int.reduceLE, Nat.reduceAdd, Nat.reduceLT, Nat.reduceLeDiff, Int.reduceToNat, Int.reduceSub, Int.reduceAdd, Int.reduceNeg]

theorem conv_tupZ {n : Nat} {L : List Blk} {m : Ren} {a a' : List IV} (h1 : mapO (conv L n m) a = some a') : conv L (n + 1) m (.tup a) = some (.tup a') := by
  simp only [conv, h1]; rfl
def parseLines (s : List UInt8) : List (List UInt8) := if (splitL [10] s).getD ((splitL [10] s).length - 1) [] = [] then (splitL [10] s).take ((splitL [10] s).length - 1) else splitL [10] s
theorem reads_end {d : DefD} {st : Option Nat} (h : Reads d st []) : st = some d.nodes.length := by cases h; rfl
theorem parse_pure (hP : E.P = Tryz.prog) {m : Int} (hm : E.gl 0 = some [.int .i64 m]) (d : DefD) (hc : d.check.2 = 0) (haf : ∀ n ∈ d.nodes, n.after.length ≤ 10) (hok : d.ok) (s : List UInt8) (hs : s.length ≤ 16384) (hne : splitL [10] s ≠ [])
    (hll : (splitL [10] s).length ≤ 100000) (hl : ∀ l ∈ splitL [10] s, l.length ≤ 100000) (hR : Reads d none (parseLines s)) : XPure E 9 [.str s] (.tup [d.iv, .int .i64 0, .int .i64 0]) := by
  have hsp := split_pure (E := E.noPan) hP hm s [10] (by omega) (by decide)
  have hw : (IV.isl (sRows (splitL [10] s))) = IV.isl (strRows (splitL [10] s)) := rfl
  rw [hw] at hsp
  have hchk := check_pure (E := E.noPan) hP hm d (by have := (check_ok hc).2.2.1; omega) hok
  have hnl := named_len (check_ok hc).2.2.2.2.1
  unfold parseLines at hR
  generalize splitL [10] s = l0 at *
  have hl0 : 1 ≤ l0.length := by cases l0 with
    | nil => exact absurd rfl hne
    | cons => simp
  refine xpureC3 (n := Tryz.f9.ntmps) (c := y9) (t := 2) (k := 2) (t' := 3) (t'' := 4) (by rw [hP]; rfl) (by rw [hP]; kernel_rfl) (by decide) (Nat.le_of_ble_eq_true rfl) ?_
  generalize hρ : entry _ = ρ
  have h0 : ρ 0 = .str s := by rw [← hρ]; rfl
  clear hρ
  unfold y9
  have e1 : ((16384 : Int) < (s.length : Int)) = False := eq_false (by omega)
  simp only [h0, e1, go_sem, Nat.reduceEqDiff, reduceIte, Int.reduceEq, Int.reduceLT, Int.reduceLE, Nat.reduceAdd, Nat.reduceLT, Nat.reduceLeDiff, Int.reduceToNat, Int.reduceSub, Int.reduceAdd, Int.reduceNeg]
  refine xcall_pure (args' := [.str s, .str [10]]) rfl hsp rfl ?_
  have hwr : IntKind.i64.wrap ((l0.length : Int) - 1) = ((l0.length - 1 : Nat) : Int) := by rw [wrap64 (by omega) (by omega)]; omega
  have hsr := strRows_get (l := l0) (i := l0.length - 1) (by omega)
  simp only [h0, strRows_len, rows_strs, hwr, Int.toNat_natCast, hsr, go_sem, Nat.reduceEqDiff, reduceIte, Int.reduceEq, Int.reduceLT, Int.reduceLE, Nat.reduceAdd, Nat.reduceLT, Nat.reduceLeDiff, Int.reduceToNat, Int.reduceSub, Int.reduceAdd, Int.reduceNeg]
  refine ⟨by omega, by omega, ?_⟩
  have hlsl : ∀ l ∈ (if l0.getD (l0.length - 1) [] = [] then l0.take (l0.length - 1) else l0), l ∈ l0 := by
    intro l h
    split at h
    · exact List.mem_of_mem_take h
    · exact h
  have hlsn : (if l0.getD (l0.length - 1) [] = [] then l0.take (l0.length - 1) else l0).length ≤ l0.length := by
    split
    · exact List.length_take_le' ..
    · exact Nat.le_refl _
  refine xcut_norm (fun ρ' L' => ρ' 2 = .ptr 0 0 0 ∧ ρ' 5 = .isl (strRows (if l0.getD (l0.length - 1) [] = [] then l0.take (l0.length - 1) else l0)) ∧ L' = [.cells 2 [[.str [], .nsl]]]) ?_ (fun ρ' L' h => ?_)
  · refine s_cond (b := decide (l0.getD (l0.length - 1) [] = [])) (by simp only [h0, go_sem, Nat.reduceEqDiff, reduceIte, Int.reduceEq, Int.reduceLT, Int.reduceLE, Nat.reduceAdd, Nat.reduceLT, Nat.reduceLeDiff, Int.reduceToNat, Int.reduceSub, Int.reduceAdd, Int.reduceNeg]; try rfl) ?_ ?_ <;> intro hb <;> simp only [hb, h0, strRows_len, rows_strs, hwr, Int.toNat_natCast, strRows_take, go_sem, Nat.reduceEqDiff, reduceIte, Int.reduceEq, Int.reduceLT, Int.reduceLE, Nat.reduceAdd, Nat.reduceLT, Nat.reduceLeDiff, Int.reduceToNat, Int.reduceSub, Int.reduceAdd, Int.reduceNeg]
    · rw [decide_eq_true_eq] at hb
      rw [if_pos hb]
      first | exact ⟨by omega, rfl⟩ | exact ⟨by omega, by omega, rfl⟩ | rfl
    · rw [decide_eq_false_iff_not] at hb
      rw [if_neg hb]
  clear h0 hsr
  obtain ⟨h2, h5, rfl⟩ := h
  generalize (if l0.getD (l0.length - 1) [] = [] then l0.take (l0.length - 1) else l0) = ls at *
  simp only [h2, h5, strRows_len, go_sem, Nat.reduceEqDiff, reduceIte, Int.reduceEq, Int.reduceLT, Int.reduceLE, Nat.reduceAdd, Nat.reduceLT, Nat.reduceLeDiff, Int.reduceToNat, Int.reduceSub, Int.reduceAdd, Int.reduceNeg]
  refine s_loop (PInv d ls) (n := ls.length) ⟨0, none, Nat.zero_le _, rfl, hR, ⟨.nsl, .nsl, [], [], by simp only [h2, go_sem, Nat.reduceEqDiff, reduceIte, Int.reduceEq, Int.reduceLT, Int.reduceLE, Nat.reduceAdd, Nat.reduceLT, Nat.reduceLeDiff, Int.reduceToNat, Int.reduceSub, Int.reduceAdd, Int.reduceNeg], by simp only [go_sem, Nat.reduceEqDiff, reduceIte, Int.reduceEq, Int.reduceLT, Int.reduceLE, Nat.reduceAdd, Nat.reduceLT, Nat.reduceLeDiff, Int.reduceToNat, Int.reduceSub, Int.reduceAdd, Int.reduceNeg], rfl, .inl ⟨rfl, rfl⟩, .inl ⟨rfl, rfl⟩, rfl, Nat.zero_le _⟩, by simp only [h5, go_sem, Nat.reduceEqDiff, reduceIte, Int.reduceEq, Int.reduceLT, Int.reduceLE, Nat.reduceAdd, Nat.reduceLT, Nat.reduceLeDiff, Int.reduceToNat, Int.reduceSub, Int.reduceAdd, Int.reduceNeg], by simp only [go_sem, Nat.reduceEqDiff, reduceIte, Int.reduceEq, Int.reduceLT, Int.reduceLE, Nat.reduceAdd, Nat.reduceLT, Nat.reduceLeDiff, Int.reduceToNat, Int.reduceSub, Int.reduceAdd, Int.reduceNeg], by simp only [go_sem, Nat.reduceEqDiff, reduceIte, Int.reduceEq, Int.reduceLT, Int.reduceLE, Nat.reduceAdd, Nat.reduceLT, Nat.reduceLeDiff, Int.reduceToNat, Int.reduceSub, Int.reduceAdd, Int.reduceNeg], by simp only [go_sem, Nat.reduceEqDiff, reduceIte, Int.reduceEq, Int.reduceLT, Int.reduceLE, Nat.reduceAdd, Nat.reduceLT, Nat.reduceLeDiff, Int.reduceToNat, Int.reduceSub, Int.reduceAdd, Int.reduceNeg]; try rfl⟩ ?_
  clear h2 h5
  intro n ρ L hI
  refine parse_line (E := E) hP hm d hc haf ls (by omega) (fun l h => by have := hl l (hlsl l h); omega) n ρ L hI ?_
  clear hI n ρ L
  rintro ρ L ⟨i, st, hi, hn0, hRe, ⟨vn, va, rows, J, h2, h6, rfl, hn, ha, hrl, hcn⟩, h5, h32, h33, h34⟩ h34'
  have hil : i = ls.length := by omega
  rw [hil, List.drop_length] at hRe
  have hst := reads_end hRe
  subst hst
  have en : (d.name = []) = False := eq_false (fun h => by rw [h] at hnl; simp at hnl)
  have hnS : nmSt d (some d.nodes.length) = d.name := rfl
  have hck : cntSt (some d.nodes.length) = d.nodes.length := rfl
  rw [hck, List.take_length] at hn
  simp only [h2, h6, en, hnS, go_sem, Nat.reduceEqDiff, reduceIte, Int.reduceEq, Int.reduceLT, Int.reduceLE, Nat.reduceAdd, Nat.reduceLT, Nat.reduceLeDiff, Int.reduceToNat, Int.reduceSub, Int.reduceAdd, Int.reduceNeg]
  have hcv : ∀ n, conv (.cells 2 [[.str d.name, vn]] :: J) (n + 3) renFreeze (.agg [.str d.name, vn]) = some d.iv := fun n => conv_agg (mapO_cons rfl (mapO_cons (slAt_conv hn (mapO_nodes _ _ _ _)) rfl))
  refine xcall_lend (args' := [d.iv]) (mapO_cons (hcv 9) rfl) hchk rfl rfl ?_
  have e0 : ((0 : Int) = 0) = True := eq_self _
  rw [hc]
  simp only [h2, h6, hc, e0, go_sem, Nat.reduceEqDiff, reduceIte, Int.reduceEq, Int.reduceLT, Int.reduceLE, Nat.reduceAdd, Nat.reduceLT, Nat.reduceLeDiff, Int.reduceToNat, Int.reduceSub, Int.reduceAdd, Int.reduceNeg]
  refine ⟨(slAt_cell hn).2, ?_⟩
  exact conv_tupZ (mapO_cons (hcv 8) (mapO_cons rfl (mapO_cons rfl rfl)))
end
end Go.X.TryzW
end
