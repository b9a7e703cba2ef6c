import Derived.Test.YtnejaochjehhgaaDoorXDag2
set_option linter.unusedVariables false
set_option linter.unusedSimpArgs false
set_option linter.unusedSectionVars false
open Go Go.X Go.Proofs
set_option maxRecDepth 100000
set_option maxHeartbeats 2000000
set_option linter.unusedSimpArgs false
set_option linter.unusedVariables false
namespace Go.X.TrydW
/- "tiller/dag.made" params { toList := [9, 9] } results { toList := [Go.ResultVar.tmp 4] } -/
def x21 : XC :=
 (.seq
  (.ops [
    ⟨(some 4), (.mov (.c (.bool false))), none⟩])
  (.seq
   (.seq
    (.ops [
      ⟨(some 8), (.mov (.t 0)), none⟩,
      ⟨(some 9), (.lenS (.t 8)), none⟩,
      ⟨(some 10), (.mov (.c (.int .i64 0))), none⟩])
    (.block 0
     (.loop
      (.seq
       (.ops [
         ⟨(some 11), (.bin .lss (.t 10) (.t 9)), none⟩])
       (.seq
        (.cond (.t 11)
         .skip
         (.exit 0))
        (.seq
         (.block 1
          (.seq
           (.ops [
             ⟨(some 12), (.mov (.t 10)), none⟩,
             ⟨(some 5), (.mov (.t 12)), none⟩])
           (.seq
            (.ops [
              ⟨(some 13), (.mov (.t 0)), none⟩,
              ⟨(some 14), (.mov (.t 5)), none⟩,
              ⟨(some 15), (.idx (.t 13) (.t 14)), none⟩,
              ⟨(some 6), (.mov (.t 15)), none⟩])
            (.seq
             (.ops [
               ⟨(some 16), (.mov (.t 6)), none⟩,
               ⟨(some 17), (.bin .geq (.t 16) (.c (.int .u8 97))), none⟩,
               ⟨(some 18), (.mov (.t 17)), none⟩,
               ⟨(some 19), (.mov (.t 6)), (some (18, true))⟩,
               ⟨(some 20), (.bin .leq (.t 19) (.c (.int .u8 122))), (some (18, true))⟩,
               ⟨(some 21), (.pick (.t 18) (.t 20) (.c (.bool false))), none⟩,
               ⟨(some 22), (.mov (.t 21)), none⟩,
               ⟨(some 23), (.mov (.t 6)), (some (22, false))⟩,
               ⟨(some 24), (.bin .geq (.t 23) (.c (.int .u8 65))), (some (22, false))⟩,
               ⟨(some 25), (.mov (.t 24)), (some (22, false))⟩,
               ⟨(some 26), (.mov (.t 6)), (some (25, true))⟩,
               ⟨(some 27), (.bin .leq (.t 26) (.c (.int .u8 90))), (some (25, true))⟩,
               ⟨(some 28), (.pick (.t 25) (.t 27) (.c (.bool false))), (some (22, false))⟩,
               ⟨(some 29), (.pick (.t 22) (.c (.bool true)) (.t 28)), none⟩,
               ⟨(some 30), (.mov (.t 29)), none⟩,
               ⟨(some 31), (.mov (.t 6)), (some (30, false))⟩,
               ⟨(some 32), (.bin .geq (.t 31) (.c (.int .u8 48))), (some (30, false))⟩,
               ⟨(some 33), (.mov (.t 32)), (some (30, false))⟩,
               ⟨(some 34), (.mov (.t 6)), (some (33, true))⟩,
               ⟨(some 35), (.bin .leq (.t 34) (.c (.int .u8 57))), (some (33, true))⟩,
               ⟨(some 36), (.pick (.t 33) (.t 35) (.c (.bool false))), (some (30, false))⟩,
               ⟨(some 37), (.pick (.t 30) (.c (.bool true)) (.t 36)), none⟩,
               ⟨(some 7), (.mov (.t 37)), none⟩])
             (.seq
              (.ops [
                ⟨(some 38), (.mov (.t 7)), none⟩,
                ⟨(some 39), (.un .not (.t 38)), none⟩,
                ⟨(some 40), (.mov (.t 39)), none⟩,
                ⟨(some 41), (.mov (.t 1)), (some (40, true))⟩,
                ⟨(some 42), (.mov (.t 6)), (some (40, true))⟩,
                ⟨(some 43), (.cvInt .i32 (.t 42)), (some (40, true))⟩,
                ⟨(some 44), (.cvIntStr (.t 43)), (some (40, true))⟩,
                ⟨(some 45), (.call (.f 37) [(.t 41), (.t 44)]), (some (40, true))⟩,
                ⟨(some 46), (.un .not (.t 45)), (some (40, true))⟩,
                ⟨(some 47), (.pick (.t 40) (.t 46) (.c (.bool false))), none⟩])
              (.cond (.t 47)
               (.seq
                (.ops [
                  ⟨(some 4), (.mov (.c (.bool false))), none⟩])
                .ret)
               .skip))))))
         (.ops [
           ⟨(some 48), (.bin .add (.t 10) (.c (.int .i64 1))), none⟩,
           ⟨(some 10), (.mov (.t 48)), none⟩])))))))
   (.seq
    (.ops [
      ⟨(some 49), (.mov (.t 0)), none⟩,
      ⟨(some 50), (.bin .neq (.t 49) (.c (.str []))), none⟩,
      ⟨(some 4), (.mov (.t 50)), none⟩])
    .ret)))

/- "tiller/dag.Name" params { toList := [9] } results { toList := [Go.ResultVar.tmp 2] } -/
def x7 : XC :=
 (.seq
  (.ops [
    ⟨(some 2), (.mov (.c (.bool false))), none⟩])
  (.seq
   (.ops [
     ⟨(some 3), (.mov (.t 0)), none⟩,
     ⟨(some 4), (.lenS (.t 3)), none⟩,
     ⟨(some 5), (.bin .leq (.t 4) (.c (.int .i64 64))), none⟩,
     ⟨(some 6), (.mov (.t 5)), none⟩,
     ⟨(some 7), (.mov (.t 0)), (some (6, true))⟩,
     ⟨(some 8), (.call (.f 21) [(.t 7), (.c (.str [46, 45, 95]))]), (some (6, true))⟩,
     ⟨(some 9), (.pick (.t 6) (.t 8) (.c (.bool false))), none⟩,
     ⟨(some 2), (.mov (.t 9)), none⟩])
   .ret))

/- "tiller/dag.Flow" params { toList := [9] } results { toList := [Go.ResultVar.tmp 2] } -/
def x9 : XC :=
 (.seq
  (.ops [
    ⟨(some 2), (.mov (.c (.bool false))), none⟩])
  (.seq
   (.ops [
     ⟨(some 3), (.mov (.t 0)), none⟩,
     ⟨(some 4), (.lenS (.t 3)), none⟩,
     ⟨(some 5), (.bin .leq (.t 4) (.c (.int .i64 256))), none⟩,
     ⟨(some 6), (.mov (.t 5)), none⟩,
     ⟨(some 7), (.mov (.t 0)), (some (6, true))⟩,
     ⟨(some 8), (.call (.f 21) [(.t 7), (.c (.str [46, 45, 95, 47]))]), (some (6, true))⟩,
     ⟨(some 9), (.pick (.t 6) (.t 8) (.c (.bool false))), none⟩,
     ⟨(some 2), (.mov (.t 9)), none⟩])
   .ret))

section
variable {E : Env}
theorem enc1 : ∀ n : Fin 128, (Utf8.encode (n.val : Int)).data.toList = [n.val.toUInt8] := by decide +kernel
theorem enc2 : ∀ n : Fin 128, ∃ c d : UInt8, (Utf8.encode ((n.val + 128 : Nat) : Int)).data.toList = [c, d] ∧ 128 ≤ c := by
  intro n
  have h : ∀ n : Fin 128, (Utf8.encode ((n.val + 128 : Nat) : Int)).data.toList = [((Utf8.encode ((n.val + 128 : Nat) : Int)).data.toList).getD 0 0, ((Utf8.encode ((n.val + 128 : Nat) : Int)).data.toList).getD 1 0] ∧ 128 ≤ ((Utf8.encode ((n.val + 128 : Nat) : Int)).data.toList).getD 0 0 := by decide +kernel
  exact ⟨_, _, h n⟩

theorem indexByte_iff (s : List UInt8) (c : UInt8) : decide (0 ≤ Lib.indexByte s c) = s.contains c := by
  induction s with
  | nil => rfl
  | cons b s ih =>
    have hg := Lib.indexByte_ge s c
    rw [Lib.indexByte, List.contains_cons, ← ih]
    by_cases hb : b = c
    · subst hb; simp
    · have h1 : (b == c) = false := by simpa using hb
      have h2 : (c == b) = false := by simpa using fun h => hb h.symm
      rw [h1, h2, Bool.false_or]
      simp only [Bool.false_eq_true, if_false]
      by_cases h3 : Lib.indexByte s c = -1
      · rw [h3]; rfl
      · rw [if_neg (by simpa using h3)]
        congr 1
        exact propext ⟨fun _ => by omega, fun _ => by omega⟩

theorem containsRune (hP : E.P = Tryd.prog) {m : Int} (hm : E.gl 0 = some [.int .i64 m]) (o : List UInt8) (ho : o = [46, 45, 95] ∨ o = [46, 45, 95, 47]) (b : UInt8) :
    XPure E 37 [.str o, .str (Utf8.encode (b.toNat : Int)).data.toList] (.bool (o.contains b)) := by
  by_cases hb : b.toNat < 128
  · have h1 : (Utf8.encode (b.toNat : Int)).data.toList = [b] := by rw [enc1 ⟨b.toNat, hb⟩]; exact congrArg (fun x => [x]) toU8
    rw [h1, ← indexByte_iff]
    exact contains_pure hP (sIndex1_pure hP o b)
  · have hlt : b.toNat < 256 := UInt8.toNat_lt b
    obtain ⟨c, d, h1, h2⟩ := enc2 ⟨b.toNat - 128, by omega⟩
    have h3 : b.toNat - 128 + 128 = b.toNat := by omega
    simp only [h3] at h1
    have hc : c ∉ o := by
      intro h
      have h4 : 128 ≤ c.toNat := h2
      rcases ho with rfl | rfl <;> simp at h <;> rcases h with rfl | rfl | rfl | rfl <;> simp at h4
    have hn : o.contains b = false := by
      rw [← Bool.not_eq_true, List.contains_iff_mem]
      intro h
      rcases ho with rfl | rfl <;> simp at h <;> rcases h with rfl | rfl | rfl | rfl <;> simp at hb
    rw [h1, hn]
    have hlen : 3 ≤ o.length ∧ o.length ≤ 64 := by rcases ho with rfl | rfl <;> simp
    exact contains_pure hP (sIndex2_pure hP hm o c d hlen.1 hlen.2 hc)

def letB (c : UInt8) : Bool :=
  let n : Int := c.toNat
  (decide (97 ≤ n) && decide (n ≤ 122)) || (decide (65 ≤ n) && decide (n ≤ 90)) || (decide (48 ≤ n) && decide (n ≤ 57))
def madeB (o : List UInt8) (c : UInt8) : Bool := letB c || o.contains c
def madeS (s o : List UInt8) : Bool := s.all (madeB o) && !decide (s = [])

theorem made_pure (hP : E.P = Tryd.prog) {m : Int} (hm : E.gl 0 = some [.int .i64 m]) (s o : List UInt8) (ho : o = [46, 45, 95] ∨ o = [46, 45, 95, 47]) (hs : s.length ≤ 9223372036854775807) : XPure E 21 [.str s, .str o] (.bool (madeS s o)) := by
  refine xpure1 (n := Tryd.f21.ntmps) (c := x21) (t := 4) (by rw [hP]; rfl) (by rw [hP]; rfl) (by decide) (Nat.le_of_ble_eq_true rfl) ?_
  generalize hρ : entry _ = ρ
  have h0 : ρ 0 = .str s := by rw [← hρ]; rfl
  have h1 : ρ 1 = .str o := by rw [← hρ]; rfl
  clear hρ
  unfold x21
  simp only [h0, h1, go_sem, Nat.reduceEqDiff, reduceIte, Bool.false_eq_true, Bool.not_true, Bool.not_false, Bool.and_true, Bool.true_and, Bool.or_false, Bool.false_or, Bool.and_false, Bool.false_and, Bool.or_true, Bool.true_or, true_and, and_true, eq_self, not_false_eq_true, List.map_cons, List.map_nil, List.nil_append, List.append_nil, decide_true, decide_false, Int.reduceEq, Int.reduceLT, Int.reduceLE, List.length_cons, List.length_nil, Nat.reduceAdd, Nat.reduceLT, Nat.reduceLeDiff, List.getD_cons_zero, List.getD_cons_succ, Int.cast_ofNat_Int, Int.reduceToNat, Int.reduceSub, Int.reduceAdd, Int.reduceNeg, Int.toNat_natCast, Int.natCast_nonneg, List.getElem?_cons_zero, List.getElem?_cons_succ, List.cons_append, List.set_cons_zero, List.set_cons_succ, List.take_zero, List.take_succ_cons, List.drop_zero, List.drop_succ_cons, List.drop_nil, List.take_nil, List.all_cons, List.all_nil, Nat.zero_add, Nat.zero_lt_one, Nat.le_refl]
  refine s_loop (fun n ρ L => ∃ i : Nat, i ≤ s.length ∧ n = s.length - i ∧ L = [] ∧ ρ 0 = .str s ∧ ρ 1 = .str o ∧ ρ 9 = .int .i64 s.length ∧ ρ 10 = .int .i64 i ∧ (s.take i).all (madeB o) = true)
    ⟨0, Nat.zero_le _, rfl, rfl, by simp only [h0, go_sem, Nat.reduceEqDiff, reduceIte, Bool.false_eq_true, Bool.not_true, Bool.not_false, Bool.and_true, Bool.true_and, Bool.or_false, Bool.false_or, Bool.and_false, Bool.false_and, Bool.or_true, Bool.true_or, true_and, and_true, eq_self, not_false_eq_true, List.map_cons, List.map_nil, List.nil_append, List.append_nil, decide_true, decide_false, Int.reduceEq, Int.reduceLT, Int.reduceLE, List.length_cons, List.length_nil, Nat.reduceAdd, Nat.reduceLT, Nat.reduceLeDiff, List.getD_cons_zero, List.getD_cons_succ, Int.cast_ofNat_Int, Int.reduceToNat, Int.reduceSub, Int.reduceAdd, Int.reduceNeg, Int.toNat_natCast, Int.natCast_nonneg, List.getElem?_cons_zero, List.getElem?_cons_succ, List.cons_append, List.set_cons_zero, List.set_cons_succ, List.take_zero, List.take_succ_cons, List.drop_zero, List.drop_succ_cons, List.drop_nil, List.take_nil, List.all_cons, List.all_nil, Nat.zero_add, Nat.zero_lt_one, Nat.le_refl], by simp only [h1, go_sem, Nat.reduceEqDiff, reduceIte, Bool.false_eq_true, Bool.not_true, Bool.not_false, Bool.and_true, Bool.true_and, Bool.or_false, Bool.false_or, Bool.and_false, Bool.false_and, Bool.or_true, Bool.true_or, true_and, and_true, eq_self, not_false_eq_true, List.map_cons, List.map_nil, List.nil_append, List.append_nil, decide_true, decide_false, Int.reduceEq, Int.reduceLT, Int.reduceLE, List.length_cons, List.length_nil, Nat.reduceAdd, Nat.reduceLT, Nat.reduceLeDiff, List.getD_cons_zero, List.getD_cons_succ, Int.cast_ofNat_Int, Int.reduceToNat, Int.reduceSub, Int.reduceAdd, Int.reduceNeg, Int.toNat_natCast, Int.natCast_nonneg, List.getElem?_cons_zero, List.getElem?_cons_succ, List.cons_append, List.set_cons_zero, List.set_cons_succ, List.take_zero, List.take_succ_cons, List.drop_zero, List.drop_succ_cons, List.drop_nil, List.take_nil, List.all_cons, List.all_nil, Nat.zero_add, Nat.zero_lt_one, Nat.le_refl], by simp only [go_sem, Nat.reduceEqDiff, reduceIte, Bool.false_eq_true, Bool.not_true, Bool.not_false, Bool.and_true, Bool.true_and, Bool.or_false, Bool.false_or, Bool.and_false, Bool.false_and, Bool.or_true, Bool.true_or, true_and, and_true, eq_self, not_false_eq_true, List.map_cons, List.map_nil, List.nil_append, List.append_nil, decide_true, decide_false, Int.reduceEq, Int.reduceLT, Int.reduceLE, List.length_cons, List.length_nil, Nat.reduceAdd, Nat.reduceLT, Nat.reduceLeDiff, List.getD_cons_zero, List.getD_cons_succ, Int.cast_ofNat_Int, Int.reduceToNat, Int.reduceSub, Int.reduceAdd, Int.reduceNeg, Int.toNat_natCast, Int.natCast_nonneg, List.getElem?_cons_zero, List.getElem?_cons_succ, List.cons_append, List.set_cons_zero, List.set_cons_succ, List.take_zero, List.take_succ_cons, List.drop_zero, List.drop_succ_cons, List.drop_nil, List.take_nil, List.all_cons, List.all_nil, Nat.zero_add, Nat.zero_lt_one, Nat.le_refl], by simp only [go_sem, Nat.reduceEqDiff, reduceIte, Bool.false_eq_true, Bool.not_true, Bool.not_false, Bool.and_true, Bool.true_and, Bool.or_false, Bool.false_or, Bool.and_false, Bool.false_and, Bool.or_true, Bool.true_or, true_and, and_true, eq_self, not_false_eq_true, List.map_cons, List.map_nil, List.nil_append, List.append_nil, decide_true, decide_false, Int.reduceEq, Int.reduceLT, Int.reduceLE, List.length_cons, List.length_nil, Nat.reduceAdd, Nat.reduceLT, Nat.reduceLeDiff, List.getD_cons_zero, List.getD_cons_succ, Int.cast_ofNat_Int, Int.reduceToNat, Int.reduceSub, Int.reduceAdd, Int.reduceNeg, Int.toNat_natCast, Int.natCast_nonneg, List.getElem?_cons_zero, List.getElem?_cons_succ, List.cons_append, List.set_cons_zero, List.set_cons_succ, List.take_zero, List.take_succ_cons, List.drop_zero, List.drop_succ_cons, List.drop_nil, List.take_nil, List.all_cons, List.all_nil, Nat.zero_add, Nat.zero_lt_one, Nat.le_refl]; try rfl, rfl⟩ ?_
  clear h0 h1 ρ
  rintro n ρ L ⟨i, hi, rfl, rfl, h0, h1, h9, h10, hall⟩
  have hw : IntKind.i32.wrap ((s.getD i 0).toNat : Int) = ((s.getD i 0).toNat : Int) := by
    have := UInt8.toNat_lt (s.getD i 0)
    rw [IntKind.wrap_i32]; omega
  simp only [h0, h1, h9, h10, hw, go_sem, Nat.reduceEqDiff, reduceIte, Bool.false_eq_true, Bool.not_true, Bool.not_false, Bool.and_true, Bool.true_and, Bool.or_false, Bool.false_or, Bool.and_false, Bool.false_and, Bool.or_true, Bool.true_or, true_and, and_true, eq_self, not_false_eq_true, List.map_cons, List.map_nil, List.nil_append, List.append_nil, decide_true, decide_false, Int.reduceEq, Int.reduceLT, Int.reduceLE, List.length_cons, List.length_nil, Nat.reduceAdd, Nat.reduceLT, Nat.reduceLeDiff, List.getD_cons_zero, List.getD_cons_succ, Int.cast_ofNat_Int, Int.reduceToNat, Int.reduceSub, Int.reduceAdd, Int.reduceNeg, Int.toNat_natCast, Int.natCast_nonneg, List.getElem?_cons_zero, List.getElem?_cons_succ, List.cons_append, List.set_cons_zero, List.set_cons_succ, List.take_zero, List.take_succ_cons, List.drop_zero, List.drop_succ_cons, List.drop_nil, List.take_nil, List.all_cons, List.all_nil, Nat.zero_add, Nat.zero_lt_one, Nat.le_refl]
  refine s_cond (b := decide _) (by simp only [h0, h1, h9, h10, hw, go_sem, Nat.reduceEqDiff, reduceIte, Bool.false_eq_true, Bool.not_true, Bool.not_false, Bool.and_true, Bool.true_and, Bool.or_false, Bool.false_or, Bool.and_false, Bool.false_and, Bool.or_true, Bool.true_or, true_and, and_true, eq_self, not_false_eq_true, List.map_cons, List.map_nil, List.nil_append, List.append_nil, decide_true, decide_false, Int.reduceEq, Int.reduceLT, Int.reduceLE, List.length_cons, List.length_nil, Nat.reduceAdd, Nat.reduceLT, Nat.reduceLeDiff, List.getD_cons_zero, List.getD_cons_succ, Int.cast_ofNat_Int, Int.reduceToNat, Int.reduceSub, Int.reduceAdd, Int.reduceNeg, Int.toNat_natCast, Int.natCast_nonneg, List.getElem?_cons_zero, List.getElem?_cons_succ, List.cons_append, List.set_cons_zero, List.set_cons_succ, List.take_zero, List.take_succ_cons, List.drop_zero, List.drop_succ_cons, List.drop_nil, List.take_nil, List.all_cons, List.all_nil, Nat.zero_add, Nat.zero_lt_one, Nat.le_refl]; try rfl) ?_ ?_ <;> intro hb <;> simp only [hb, h0, h1, h9, h10, hw, go_sem, Nat.reduceEqDiff, reduceIte, Bool.false_eq_true, Bool.not_true, Bool.not_false, Bool.and_true, Bool.true_and, Bool.or_false, Bool.false_or, Bool.and_false, Bool.false_and, Bool.or_true, Bool.true_or, true_and, and_true, eq_self, not_false_eq_true, List.map_cons, List.map_nil, List.nil_append, List.append_nil, decide_true, decide_false, Int.reduceEq, Int.reduceLT, Int.reduceLE, List.length_cons, List.length_nil, Nat.reduceAdd, Nat.reduceLT, Nat.reduceLeDiff, List.getD_cons_zero, List.getD_cons_succ, Int.cast_ofNat_Int, Int.reduceToNat, Int.reduceSub, Int.reduceAdd, Int.reduceNeg, Int.toNat_natCast, Int.natCast_nonneg, List.getElem?_cons_zero, List.getElem?_cons_succ, List.cons_append, List.set_cons_zero, List.set_cons_succ, List.take_zero, List.take_succ_cons, List.drop_zero, List.drop_succ_cons, List.drop_nil, List.take_nil, List.all_cons, List.all_nil, Nat.zero_add, Nat.zero_lt_one, Nat.le_refl]
  · rw [decide_eq_true_eq] at hb
    have hi' : i < s.length := by omega
    refine ⟨hb, ?_⟩
    repeat (refine s_mg (by simp only [h0, h1, h9, h10, hw, go_sem, Nat.reduceEqDiff, reduceIte, Bool.false_eq_true, Bool.not_true, Bool.not_false, Bool.and_true, Bool.true_and, Bool.or_false, Bool.false_or, Bool.and_false, Bool.false_and, Bool.or_true, Bool.true_or, true_and, and_true, eq_self, not_false_eq_true, List.map_cons, List.map_nil, List.nil_append, List.append_nil, decide_true, decide_false, Int.reduceEq, Int.reduceLT, Int.reduceLE, List.length_cons, List.length_nil, Nat.reduceAdd, Nat.reduceLT, Nat.reduceLeDiff, List.getD_cons_zero, List.getD_cons_succ, Int.cast_ofNat_Int, Int.reduceToNat, Int.reduceSub, Int.reduceAdd, Int.reduceNeg, Int.toNat_natCast, Int.natCast_nonneg, List.getElem?_cons_zero, List.getElem?_cons_succ, List.cons_append, List.set_cons_zero, List.set_cons_succ, List.take_zero, List.take_succ_cons, List.drop_zero, List.drop_succ_cons, List.drop_nil, List.take_nil, List.all_cons, List.all_nil, Nat.zero_add, Nat.zero_lt_one, Nat.le_refl]; try rfl) ?_; simp only [cut_g, cut_t, cut_none, cut_out, memN_cons, memN_nil, Nat.reduceEqDiff, reduceIte, List.nil_append, List.cons_append, not_false_eq_true]; refine ex_merge rfl (by simp only [h0, h1, h9, h10, hw, go_sem, Nat.reduceEqDiff, reduceIte, Bool.false_eq_true, Bool.not_true, Bool.not_false, Bool.and_true, Bool.true_and, Bool.or_false, Bool.false_or, Bool.and_false, Bool.false_and, Bool.or_true, Bool.true_or, true_and, and_true, eq_self, not_false_eq_true, List.map_cons, List.map_nil, List.nil_append, List.append_nil, decide_true, decide_false, Int.reduceEq, Int.reduceLT, Int.reduceLE, List.length_cons, List.length_nil, Nat.reduceAdd, Nat.reduceLT, Nat.reduceLeDiff, List.getD_cons_zero, List.getD_cons_succ, Int.cast_ofNat_Int, Int.reduceToNat, Int.reduceSub, Int.reduceAdd, Int.reduceNeg, Int.toNat_natCast, Int.natCast_nonneg, List.getElem?_cons_zero, List.getElem?_cons_succ, List.cons_append, List.set_cons_zero, List.set_cons_succ, List.take_zero, List.take_succ_cons, List.drop_zero, List.drop_succ_cons, List.drop_nil, List.take_nil, List.all_cons, List.all_nil, Nat.zero_add, Nat.zero_lt_one, Nat.le_refl]) (by intro hb; simp only [hb, h0, h1, h9, h10, hw, go_sem, Nat.reduceEqDiff, reduceIte, Bool.false_eq_true, Bool.not_true, Bool.not_false, Bool.and_true, Bool.true_and, Bool.or_false, Bool.false_or, Bool.and_false, Bool.false_and, Bool.or_true, Bool.true_or, true_and, and_true, eq_self, not_false_eq_true, List.map_cons, List.map_nil, List.nil_append, List.append_nil, decide_true, decide_false, Int.reduceEq, Int.reduceLT, Int.reduceLE, List.length_cons, List.length_nil, Nat.reduceAdd, Nat.reduceLT, Nat.reduceLeDiff, List.getD_cons_zero, List.getD_cons_succ, Int.cast_ofNat_Int, Int.reduceToNat, Int.reduceSub, Int.reduceAdd, Int.reduceNeg, Int.toNat_natCast, Int.natCast_nonneg, List.getElem?_cons_zero, List.getElem?_cons_succ, List.cons_append, List.set_cons_zero, List.set_cons_succ, List.take_zero, List.take_succ_cons, List.drop_zero, List.drop_succ_cons, List.drop_nil, List.take_nil, List.all_cons, List.all_nil, Nat.zero_add, Nat.zero_lt_one, Nat.le_refl]; (repeat (refine s_mg (by simp only [h0, h1, h9, h10, hw, go_sem, Nat.reduceEqDiff, reduceIte, Bool.false_eq_true, Bool.not_true, Bool.not_false, Bool.and_true, Bool.true_and, Bool.or_false, Bool.false_or, Bool.and_false, Bool.false_and, Bool.or_true, Bool.true_or, true_and, and_true, eq_self, not_false_eq_true, List.map_cons, List.map_nil, List.nil_append, List.append_nil, decide_true, decide_false, Int.reduceEq, Int.reduceLT, Int.reduceLE, List.length_cons, List.length_nil, Nat.reduceAdd, Nat.reduceLT, Nat.reduceLeDiff, List.getD_cons_zero, List.getD_cons_succ, Int.cast_ofNat_Int, Int.reduceToNat, Int.reduceSub, Int.reduceAdd, Int.reduceNeg, Int.toNat_natCast, Int.natCast_nonneg, List.getElem?_cons_zero, List.getElem?_cons_succ, List.cons_append, List.set_cons_zero, List.set_cons_succ, List.take_zero, List.take_succ_cons, List.drop_zero, List.drop_succ_cons, List.drop_nil, List.take_nil, List.all_cons, List.all_nil, Nat.zero_add, Nat.zero_lt_one, Nat.le_refl]; try rfl) ?_; simp only [cut_g, cut_t, cut_none, cut_out, memN_cons, memN_nil, Nat.reduceEqDiff, reduceIte, List.nil_append, List.cons_append, not_false_eq_true]; refine ex_merge rfl (by simp only [h0, h1, h9, h10, hw, go_sem, Nat.reduceEqDiff, reduceIte, Bool.false_eq_true, Bool.not_true, Bool.not_false, Bool.and_true, Bool.true_and, Bool.or_false, Bool.false_or, Bool.and_false, Bool.false_and, Bool.or_true, Bool.true_or, true_and, and_true, eq_self, not_false_eq_true, List.map_cons, List.map_nil, List.nil_append, List.append_nil, decide_true, decide_false, Int.reduceEq, Int.reduceLT, Int.reduceLE, List.length_cons, List.length_nil, Nat.reduceAdd, Nat.reduceLT, Nat.reduceLeDiff, List.getD_cons_zero, List.getD_cons_succ, Int.cast_ofNat_Int, Int.reduceToNat, Int.reduceSub, Int.reduceAdd, Int.reduceNeg, Int.toNat_natCast, Int.natCast_nonneg, List.getElem?_cons_zero, List.getElem?_cons_succ, List.cons_append, List.set_cons_zero, List.set_cons_succ, List.take_zero, List.take_succ_cons, List.drop_zero, List.drop_succ_cons, List.drop_nil, List.take_nil, List.all_cons, List.all_nil, Nat.zero_add, Nat.zero_lt_one, Nat.le_refl]) (by intro hb; simp only [hb, h0, h1, h9, h10, hw, go_sem, Nat.reduceEqDiff, reduceIte, Bool.false_eq_true, Bool.not_true, Bool.not_false, Bool.and_true, Bool.true_and, Bool.or_false, Bool.false_or, Bool.and_false, Bool.false_and, Bool.or_true, Bool.true_or, true_and, and_true, eq_self, not_false_eq_true, List.map_cons, List.map_nil, List.nil_append, List.append_nil, decide_true, decide_false, Int.reduceEq, Int.reduceLT, Int.reduceLE, List.length_cons, List.length_nil, Nat.reduceAdd, Nat.reduceLT, Nat.reduceLeDiff, List.getD_cons_zero, List.getD_cons_succ, Int.cast_ofNat_Int, Int.reduceToNat, Int.reduceSub, Int.reduceAdd, Int.reduceNeg, Int.toNat_natCast, Int.natCast_nonneg, List.getElem?_cons_zero, List.getElem?_cons_succ, List.cons_append, List.set_cons_zero, List.set_cons_succ, List.take_zero, List.take_succ_cons, List.drop_zero, List.drop_succ_cons, List.drop_nil, List.take_nil, List.all_cons, List.all_nil, Nat.zero_add, Nat.zero_lt_one, Nat.le_refl]; (repeat (refine s_mg (by simp only [h0, h1, h9, h10, hw, go_sem, Nat.reduceEqDiff, reduceIte, Bool.false_eq_true, Bool.not_true, Bool.not_false, Bool.and_true, Bool.true_and, Bool.or_false, Bool.false_or, Bool.and_false, Bool.false_and, Bool.or_true, Bool.true_or, true_and, and_true, eq_self, not_false_eq_true, List.map_cons, List.map_nil, List.nil_append, List.append_nil, decide_true, decide_false, Int.reduceEq, Int.reduceLT, Int.reduceLE, List.length_cons, List.length_nil, Nat.reduceAdd, Nat.reduceLT, Nat.reduceLeDiff, List.getD_cons_zero, List.getD_cons_succ, Int.cast_ofNat_Int, Int.reduceToNat, Int.reduceSub, Int.reduceAdd, Int.reduceNeg, Int.toNat_natCast, Int.natCast_nonneg, List.getElem?_cons_zero, List.getElem?_cons_succ, List.cons_append, List.set_cons_zero, List.set_cons_succ, List.take_zero, List.take_succ_cons, List.drop_zero, List.drop_succ_cons, List.drop_nil, List.take_nil, List.all_cons, List.all_nil, Nat.zero_add, Nat.zero_lt_one, Nat.le_refl]; try rfl) ?_; simp only [cut_g, cut_t, cut_none, cut_out, memN_cons, memN_nil, Nat.reduceEqDiff, reduceIte, List.nil_append, List.cons_append, not_false_eq_true]; refine ex_merge rfl (by simp only [h0, h1, h9, h10, hw, go_sem, Nat.reduceEqDiff, reduceIte, Bool.false_eq_true, Bool.not_true, Bool.not_false, Bool.and_true, Bool.true_and, Bool.or_false, Bool.false_or, Bool.and_false, Bool.false_and, Bool.or_true, Bool.true_or, true_and, and_true, eq_self, not_false_eq_true, List.map_cons, List.map_nil, List.nil_append, List.append_nil, decide_true, decide_false, Int.reduceEq, Int.reduceLT, Int.reduceLE, List.length_cons, List.length_nil, Nat.reduceAdd, Nat.reduceLT, Nat.reduceLeDiff, List.getD_cons_zero, List.getD_cons_succ, Int.cast_ofNat_Int, Int.reduceToNat, Int.reduceSub, Int.reduceAdd, Int.reduceNeg, Int.toNat_natCast, Int.natCast_nonneg, List.getElem?_cons_zero, List.getElem?_cons_succ, List.cons_append, List.set_cons_zero, List.set_cons_succ, List.take_zero, List.take_succ_cons, List.drop_zero, List.drop_succ_cons, List.drop_nil, List.take_nil, List.all_cons, List.all_nil, Nat.zero_add, Nat.zero_lt_one, Nat.le_refl]) (by intro hb; simp only [hb, h0, h1, h9, h10, hw, go_sem, Nat.reduceEqDiff, reduceIte, Bool.false_eq_true, Bool.not_true, Bool.not_false, Bool.and_true, Bool.true_and, Bool.or_false, Bool.false_or, Bool.and_false, Bool.false_and, Bool.or_true, Bool.true_or, true_and, and_true, eq_self, not_false_eq_true, List.map_cons, List.map_nil, List.nil_append, List.append_nil, decide_true, decide_false, Int.reduceEq, Int.reduceLT, Int.reduceLE, List.length_cons, List.length_nil, Nat.reduceAdd, Nat.reduceLT, Nat.reduceLeDiff, List.getD_cons_zero, List.getD_cons_succ, Int.cast_ofNat_Int, Int.reduceToNat, Int.reduceSub, Int.reduceAdd, Int.reduceNeg, Int.toNat_natCast, Int.natCast_nonneg, List.getElem?_cons_zero, List.getElem?_cons_succ, List.cons_append, List.set_cons_zero, List.set_cons_succ, List.take_zero, List.take_succ_cons, List.drop_zero, List.drop_succ_cons, List.drop_nil, List.take_nil, List.all_cons, List.all_nil, Nat.zero_add, Nat.zero_lt_one, Nat.le_refl]; first | exact rfl | exact ⟨rfl, rfl⟩) (fun vs => ?_); simp only [h0, h1, h9, h10, hw, go_sem, Nat.reduceEqDiff, reduceIte, Bool.false_eq_true, Bool.not_true, Bool.not_false, Bool.and_true, Bool.true_and, Bool.or_false, Bool.false_or, Bool.and_false, Bool.false_and, Bool.or_true, Bool.true_or, true_and, and_true, eq_self, not_false_eq_true, List.map_cons, List.map_nil, List.nil_append, List.append_nil, decide_true, decide_false, Int.reduceEq, Int.reduceLT, Int.reduceLE, List.length_cons, List.length_nil, Nat.reduceAdd, Nat.reduceLT, Nat.reduceLeDiff, List.getD_cons_zero, List.getD_cons_succ, Int.cast_ofNat_Int, Int.reduceToNat, Int.reduceSub, Int.reduceAdd, Int.reduceNeg, Int.toNat_natCast, Int.natCast_nonneg, List.getElem?_cons_zero, List.getElem?_cons_succ, List.cons_append, List.set_cons_zero, List.set_cons_succ, List.take_zero, List.take_succ_cons, List.drop_zero, List.drop_succ_cons, List.drop_nil, List.take_nil, List.all_cons, List.all_nil, Nat.zero_add, Nat.zero_lt_one, Nat.le_refl])); first | exact rfl | exact ⟨rfl, rfl⟩) (fun vs => ?_); simp only [h0, h1, h9, h10, hw, go_sem, Nat.reduceEqDiff, reduceIte, Bool.false_eq_true, Bool.not_true, Bool.not_false, Bool.and_true, Bool.true_and, Bool.or_false, Bool.false_or, Bool.and_false, Bool.false_and, Bool.or_true, Bool.true_or, true_and, and_true, eq_self, not_false_eq_true, List.map_cons, List.map_nil, List.nil_append, List.append_nil, decide_true, decide_false, Int.reduceEq, Int.reduceLT, Int.reduceLE, List.length_cons, List.length_nil, Nat.reduceAdd, Nat.reduceLT, Nat.reduceLeDiff, List.getD_cons_zero, List.getD_cons_succ, Int.cast_ofNat_Int, Int.reduceToNat, Int.reduceSub, Int.reduceAdd, Int.reduceNeg, Int.toNat_natCast, Int.natCast_nonneg, List.getElem?_cons_zero, List.getElem?_cons_succ, List.cons_append, List.set_cons_zero, List.set_cons_succ, List.take_zero, List.take_succ_cons, List.drop_zero, List.drop_succ_cons, List.drop_nil, List.take_nil, List.all_cons, List.all_nil, Nat.zero_add, Nat.zero_lt_one, Nat.le_refl])); first | exact rfl | exact ⟨rfl, rfl⟩) (fun vs => ?_); simp only [h0, h1, h9, h10, hw, go_sem, Nat.reduceEqDiff, reduceIte, Bool.false_eq_true, Bool.not_true, Bool.not_false, Bool.and_true, Bool.true_and, Bool.or_false, Bool.false_or, Bool.and_false, Bool.false_and, Bool.or_true, Bool.true_or, true_and, and_true, eq_self, not_false_eq_true, List.map_cons, List.map_nil, List.nil_append, List.append_nil, decide_true, decide_false, Int.reduceEq, Int.reduceLT, Int.reduceLE, List.length_cons, List.length_nil, Nat.reduceAdd, Nat.reduceLT, Nat.reduceLeDiff, List.getD_cons_zero, List.getD_cons_succ, Int.cast_ofNat_Int, Int.reduceToNat, Int.reduceSub, Int.reduceAdd, Int.reduceNeg, Int.toNat_natCast, Int.natCast_nonneg, List.getElem?_cons_zero, List.getElem?_cons_succ, List.cons_append, List.set_cons_zero, List.set_cons_succ, List.take_zero, List.take_succ_cons, List.drop_zero, List.drop_succ_cons, List.drop_nil, List.take_nil, List.all_cons, List.all_nil, Nat.zero_add, Nat.zero_lt_one, Nat.le_refl])
    refine s_mg (by simp only [h0, h1, h9, h10, hw, go_sem, Nat.reduceEqDiff, reduceIte, Bool.false_eq_true, Bool.not_true, Bool.not_false, Bool.and_true, Bool.true_and, Bool.or_false, Bool.false_or, Bool.and_false, Bool.false_and, Bool.or_true, Bool.true_or, true_and, and_true, eq_self, not_false_eq_true, List.map_cons, List.map_nil, List.nil_append, List.append_nil, decide_true, decide_false, Int.reduceEq, Int.reduceLT, Int.reduceLE, List.length_cons, List.length_nil, Nat.reduceAdd, Nat.reduceLT, Nat.reduceLeDiff, List.getD_cons_zero, List.getD_cons_succ, Int.cast_ofNat_Int, Int.reduceToNat, Int.reduceSub, Int.reduceAdd, Int.reduceNeg, Int.toNat_natCast, Int.natCast_nonneg, List.getElem?_cons_zero, List.getElem?_cons_succ, List.cons_append, List.set_cons_zero, List.set_cons_succ, List.take_zero, List.take_succ_cons, List.drop_zero, List.drop_succ_cons, List.drop_nil, List.take_nil, List.all_cons, List.all_nil, Nat.zero_add, Nat.zero_lt_one, Nat.le_refl]; try rfl) ?_; simp only [cut_g, cut_t, cut_none, cut_out, memN_cons, memN_nil, Nat.reduceEqDiff, reduceIte, List.nil_append, List.cons_append, not_false_eq_true]; refine ex_merge rfl (by simp only [h0, h1, h9, h10, hw, go_sem, Nat.reduceEqDiff, reduceIte, Bool.false_eq_true, Bool.not_true, Bool.not_false, Bool.and_true, Bool.true_and, Bool.or_false, Bool.false_or, Bool.and_false, Bool.false_and, Bool.or_true, Bool.true_or, true_and, and_true, eq_self, not_false_eq_true, List.map_cons, List.map_nil, List.nil_append, List.append_nil, decide_true, decide_false, Int.reduceEq, Int.reduceLT, Int.reduceLE, List.length_cons, List.length_nil, Nat.reduceAdd, Nat.reduceLT, Nat.reduceLeDiff, List.getD_cons_zero, List.getD_cons_succ, Int.cast_ofNat_Int, Int.reduceToNat, Int.reduceSub, Int.reduceAdd, Int.reduceNeg, Int.toNat_natCast, Int.natCast_nonneg, List.getElem?_cons_zero, List.getElem?_cons_succ, List.cons_append, List.set_cons_zero, List.set_cons_succ, List.take_zero, List.take_succ_cons, List.drop_zero, List.drop_succ_cons, List.drop_nil, List.take_nil, List.all_cons, List.all_nil, Nat.zero_add, Nat.zero_lt_one, Nat.le_refl]) (by intro hb; simp only [hb, h0, h1, h9, h10, hw, go_sem, Nat.reduceEqDiff, reduceIte, Bool.false_eq_true, Bool.not_true, Bool.not_false, Bool.and_true, Bool.true_and, Bool.or_false, Bool.false_or, Bool.and_false, Bool.false_and, Bool.or_true, Bool.true_or, true_and, and_true, eq_self, not_false_eq_true, List.map_cons, List.map_nil, List.nil_append, List.append_nil, decide_true, decide_false, Int.reduceEq, Int.reduceLT, Int.reduceLE, List.length_cons, List.length_nil, Nat.reduceAdd, Nat.reduceLT, Nat.reduceLeDiff, List.getD_cons_zero, List.getD_cons_succ, Int.cast_ofNat_Int, Int.reduceToNat, Int.reduceSub, Int.reduceAdd, Int.reduceNeg, Int.toNat_natCast, Int.natCast_nonneg, List.getElem?_cons_zero, List.getElem?_cons_succ, List.cons_append, List.set_cons_zero, List.set_cons_succ, List.take_zero, List.take_succ_cons, List.drop_zero, List.drop_succ_cons, List.drop_nil, List.take_nil, List.all_cons, List.all_nil, Nat.zero_add, Nat.zero_lt_one, Nat.le_refl]; refine xcall_pure (args' := [.str o, .str _]) rfl (containsRune hP hm o ho _) rfl ?_; first | exact rfl | exact ⟨rfl, rfl⟩) (fun vs => ?_); simp only [h0, h1, h9, h10, hw, go_sem, Nat.reduceEqDiff, reduceIte, Bool.false_eq_true, Bool.not_true, Bool.not_false, Bool.and_true, Bool.true_and, Bool.or_false, Bool.false_or, Bool.and_false, Bool.false_and, Bool.or_true, Bool.true_or, true_and, and_true, eq_self, not_false_eq_true, List.map_cons, List.map_nil, List.nil_append, List.append_nil, decide_true, decide_false, Int.reduceEq, Int.reduceLT, Int.reduceLE, List.length_cons, List.length_nil, Nat.reduceAdd, Nat.reduceLT, Nat.reduceLeDiff, List.getD_cons_zero, List.getD_cons_succ, Int.cast_ofNat_Int, Int.reduceToNat, Int.reduceSub, Int.reduceAdd, Int.reduceNeg, Int.toNat_natCast, Int.natCast_nonneg, List.getElem?_cons_zero, List.getElem?_cons_succ, List.cons_append, List.set_cons_zero, List.set_cons_succ, List.take_zero, List.take_succ_cons, List.drop_zero, List.drop_succ_cons, List.drop_nil, List.take_nil, List.all_cons, List.all_nil, Nat.zero_add, Nat.zero_lt_one, Nat.le_refl]
    refine s_cond (b := !letB (s.getD i 0) && !o.contains (s.getD i 0)) (by simp only [h0, h1, h9, h10, hw, go_sem, Nat.reduceEqDiff, reduceIte, Bool.false_eq_true, Bool.not_true, Bool.not_false, Bool.and_true, Bool.true_and, Bool.or_false, Bool.false_or, Bool.and_false, Bool.false_and, Bool.or_true, Bool.true_or, true_and, and_true, eq_self, not_false_eq_true, List.map_cons, List.map_nil, List.nil_append, List.append_nil, decide_true, decide_false, Int.reduceEq, Int.reduceLT, Int.reduceLE, List.length_cons, List.length_nil, Nat.reduceAdd, Nat.reduceLT, Nat.reduceLeDiff, List.getD_cons_zero, List.getD_cons_succ, Int.cast_ofNat_Int, Int.reduceToNat, Int.reduceSub, Int.reduceAdd, Int.reduceNeg, Int.toNat_natCast, Int.natCast_nonneg, List.getElem?_cons_zero, List.getElem?_cons_succ, List.cons_append, List.set_cons_zero, List.set_cons_succ, List.take_zero, List.take_succ_cons, List.drop_zero, List.drop_succ_cons, List.drop_nil, List.take_nil, List.all_cons, List.all_nil, Nat.zero_add, Nat.zero_lt_one, Nat.le_refl]; try rfl) ?_ ?_ <;> intro hc <;> simp only [hc, h0, h1, h9, h10, hw, go_sem, Nat.reduceEqDiff, reduceIte, Bool.false_eq_true, Bool.not_true, Bool.not_false, Bool.and_true, Bool.true_and, Bool.or_false, Bool.false_or, Bool.and_false, Bool.false_and, Bool.or_true, Bool.true_or, true_and, and_true, eq_self, not_false_eq_true, List.map_cons, List.map_nil, List.nil_append, List.append_nil, decide_true, decide_false, Int.reduceEq, Int.reduceLT, Int.reduceLE, List.length_cons, List.length_nil, Nat.reduceAdd, Nat.reduceLT, Nat.reduceLeDiff, List.getD_cons_zero, List.getD_cons_succ, Int.cast_ofNat_Int, Int.reduceToNat, Int.reduceSub, Int.reduceAdd, Int.reduceNeg, Int.toNat_natCast, Int.natCast_nonneg, List.getElem?_cons_zero, List.getElem?_cons_succ, List.cons_append, List.set_cons_zero, List.set_cons_succ, List.take_zero, List.take_succ_cons, List.drop_zero, List.drop_succ_cons, List.drop_nil, List.take_nil, List.all_cons, List.all_nil, Nat.zero_add, Nat.zero_lt_one, Nat.le_refl]
    · have hf : madeS s o = false := by rw [madeS, all_false hi' (by rw [madeB]; simpa using hc)]; rfl
      rw [hf]; rfl
    · refine ⟨s.length - (i + 1), by omega, i + 1, by omega, rfl, ?_, ?_⟩
      · rw [wrap64 (by omega) (by omega)]; rfl
      · rw [take_succ_all (d := 0) hi' hall, madeB]
        revert hc
        cases letB (s.getD i 0) <;> cases o.contains (s.getD i 0) <;> simp
  · rw [decide_eq_false_iff_not] at hb
    have hi' : i = s.length := by omega
    subst hi'
    rw [List.take_length] at hall
    have hf : madeS s o = !decide (s = []) := by rw [madeS, hall, Bool.true_and]
    rw [hf]; rfl
theorem okB_false (c : UInt8) : okB false c = madeB [46, 45, 95] c := by
  have : ∀ n : Fin 256, okB false n.val.toUInt8 = madeB [46, 45, 95] n.val.toUInt8 := by decide +kernel
  have h := this ⟨c.toNat, UInt8.toNat_lt c⟩
  rwa [toU8] at h
theorem okB_true (c : UInt8) : okB true c = madeB [46, 45, 95, 47] c := by
  have : ∀ n : Fin 256, okB true n.val.toUInt8 = madeB [46, 45, 95, 47] n.val.toUInt8 := by decide +kernel
  have h := this ⟨c.toNat, UInt8.toNat_lt c⟩
  rwa [toU8] at h
theorem nonempty_len (s : List UInt8) : (!decide (s = [])) = decide (1 ≤ (s.length : Int)) := by
  cases s with
  | nil => rfl
  | cons b s => simp; omega
theorem made_named (s : List UInt8) (slash : Bool) (o : List UInt8) (most : Int) (h : ∀ c, okB slash c = madeB o c) :
    (decide ((s.length : Int) ≤ most) && madeS s o) = namedS s slash most := by
  have h1 : okB slash = madeB o := funext h
  rw [namedS, madeS, h1, nonempty_len]
  cases s.all (madeB o) <;> cases decide (1 ≤ (s.length : Int)) <;> cases decide ((s.length : Int) ≤ most) <;> rfl

theorem dagName_pure (hP : E.P = Tryd.prog) {m : Int} (hm : E.gl 0 = some [.int .i64 m]) (s : List UInt8) (hs : s.length ≤ 9223372036854775807) : XPure E 7 [.str s] (.bool (namedS s false 64)) := by
  rw [← made_named s false _ 64 okB_false]
  refine xpure1 (n := Tryd.f7.ntmps) (c := x7) (t := 2) (by rw [hP]; rfl) (by rw [hP]; rfl) (by decide) (Nat.le_of_ble_eq_true rfl) ?_
  generalize hρ : entry _ = ρ
  have h0 : ρ 0 = .str s := by rw [← hρ]; rfl
  clear hρ
  unfold x7
  simp only [h0, go_sem, Nat.reduceEqDiff, reduceIte, Bool.false_eq_true, Bool.not_true, Bool.not_false, Bool.and_true, Bool.true_and, Bool.or_false, Bool.false_or, Bool.and_false, Bool.false_and, Bool.or_true, Bool.true_or, true_and, and_true, eq_self, not_false_eq_true, List.map_cons, List.map_nil, List.nil_append, List.append_nil, decide_true, decide_false, Int.reduceEq, Int.reduceLT, Int.reduceLE, List.length_cons, List.length_nil, Nat.reduceAdd, Nat.reduceLT, Nat.reduceLeDiff, List.getD_cons_zero, List.getD_cons_succ, Int.cast_ofNat_Int, Int.reduceToNat, Int.reduceSub, Int.reduceAdd, Int.reduceNeg, Int.toNat_natCast, Int.natCast_nonneg, List.getElem?_cons_zero, List.getElem?_cons_succ, List.cons_append, List.set_cons_zero, List.set_cons_succ, List.take_zero, List.take_succ_cons, List.drop_zero, List.drop_succ_cons, List.drop_nil, List.take_nil, List.all_cons, List.all_nil, Nat.zero_add, Nat.zero_lt_one, Nat.le_refl]
  refine s_mg (by simp only [h0, go_sem, Nat.reduceEqDiff, reduceIte, Bool.false_eq_true, Bool.not_true, Bool.not_false, Bool.and_true, Bool.true_and, Bool.or_false, Bool.false_or, Bool.and_false, Bool.false_and, Bool.or_true, Bool.true_or, true_and, and_true, eq_self, not_false_eq_true, List.map_cons, List.map_nil, List.nil_append, List.append_nil, decide_true, decide_false, Int.reduceEq, Int.reduceLT, Int.reduceLE, List.length_cons, List.length_nil, Nat.reduceAdd, Nat.reduceLT, Nat.reduceLeDiff, List.getD_cons_zero, List.getD_cons_succ, Int.cast_ofNat_Int, Int.reduceToNat, Int.reduceSub, Int.reduceAdd, Int.reduceNeg, Int.toNat_natCast, Int.natCast_nonneg, List.getElem?_cons_zero, List.getElem?_cons_succ, List.cons_append, List.set_cons_zero, List.set_cons_succ, List.take_zero, List.take_succ_cons, List.drop_zero, List.drop_succ_cons, List.drop_nil, List.take_nil, List.all_cons, List.all_nil, Nat.zero_add, Nat.zero_lt_one, Nat.le_refl]; try rfl) ?_; simp only [cut_g, cut_t, cut_none, cut_out, memN_cons, memN_nil, Nat.reduceEqDiff, reduceIte, List.nil_append, List.cons_append, not_false_eq_true]; refine ex_merge rfl (by simp only [h0, go_sem, Nat.reduceEqDiff, reduceIte, Bool.false_eq_true, Bool.not_true, Bool.not_false, Bool.and_true, Bool.true_and, Bool.or_false, Bool.false_or, Bool.and_false, Bool.false_and, Bool.or_true, Bool.true_or, true_and, and_true, eq_self, not_false_eq_true, List.map_cons, List.map_nil, List.nil_append, List.append_nil, decide_true, decide_false, Int.reduceEq, Int.reduceLT, Int.reduceLE, List.length_cons, List.length_nil, Nat.reduceAdd, Nat.reduceLT, Nat.reduceLeDiff, List.getD_cons_zero, List.getD_cons_succ, Int.cast_ofNat_Int, Int.reduceToNat, Int.reduceSub, Int.reduceAdd, Int.reduceNeg, Int.toNat_natCast, Int.natCast_nonneg, List.getElem?_cons_zero, List.getElem?_cons_succ, List.cons_append, List.set_cons_zero, List.set_cons_succ, List.take_zero, List.take_succ_cons, List.drop_zero, List.drop_succ_cons, List.drop_nil, List.take_nil, List.all_cons, List.all_nil, Nat.zero_add, Nat.zero_lt_one, Nat.le_refl]) (by intro hb; simp only [hb, h0, go_sem, Nat.reduceEqDiff, reduceIte, Bool.false_eq_true, Bool.not_true, Bool.not_false, Bool.and_true, Bool.true_and, Bool.or_false, Bool.false_or, Bool.and_false, Bool.false_and, Bool.or_true, Bool.true_or, true_and, and_true, eq_self, not_false_eq_true, List.map_cons, List.map_nil, List.nil_append, List.append_nil, decide_true, decide_false, Int.reduceEq, Int.reduceLT, Int.reduceLE, List.length_cons, List.length_nil, Nat.reduceAdd, Nat.reduceLT, Nat.reduceLeDiff, List.getD_cons_zero, List.getD_cons_succ, Int.cast_ofNat_Int, Int.reduceToNat, Int.reduceSub, Int.reduceAdd, Int.reduceNeg, Int.toNat_natCast, Int.natCast_nonneg, List.getElem?_cons_zero, List.getElem?_cons_succ, List.cons_append, List.set_cons_zero, List.set_cons_succ, List.take_zero, List.take_succ_cons, List.drop_zero, List.drop_succ_cons, List.drop_nil, List.take_nil, List.all_cons, List.all_nil, Nat.zero_add, Nat.zero_lt_one, Nat.le_refl]; refine xcall_pure (args' := [.str s, .str [46, 45, 95]]) rfl (made_pure hP hm s _ (.inl rfl) hs) rfl ?_; try simp only [h0, go_sem, Nat.reduceEqDiff, reduceIte, Bool.false_eq_true, Bool.not_true, Bool.not_false, Bool.and_true, Bool.true_and, Bool.or_false, Bool.false_or, Bool.and_false, Bool.false_and, Bool.or_true, Bool.true_or, true_and, and_true, eq_self, not_false_eq_true, List.map_cons, List.map_nil, List.nil_append, List.append_nil, decide_true, decide_false, Int.reduceEq, Int.reduceLT, Int.reduceLE, List.length_cons, List.length_nil, Nat.reduceAdd, Nat.reduceLT, Nat.reduceLeDiff, List.getD_cons_zero, List.getD_cons_succ, Int.cast_ofNat_Int, Int.reduceToNat, Int.reduceSub, Int.reduceAdd, Int.reduceNeg, Int.toNat_natCast, Int.natCast_nonneg, List.getElem?_cons_zero, List.getElem?_cons_succ, List.cons_append, List.set_cons_zero, List.set_cons_succ, List.take_zero, List.take_succ_cons, List.drop_zero, List.drop_succ_cons, List.drop_nil, List.take_nil, List.all_cons, List.all_nil, Nat.zero_add, Nat.zero_lt_one, Nat.le_refl]; first | exact rfl | exact ⟨rfl, rfl⟩) (fun vs => ?_); simp only [h0, go_sem, Nat.reduceEqDiff, reduceIte, Bool.false_eq_true, Bool.not_true, Bool.not_false, Bool.and_true, Bool.true_and, Bool.or_false, Bool.false_or, Bool.and_false, Bool.false_and, Bool.or_true, Bool.true_or, true_and, and_true, eq_self, not_false_eq_true, List.map_cons, List.map_nil, List.nil_append, List.append_nil, decide_true, decide_false, Int.reduceEq, Int.reduceLT, Int.reduceLE, List.length_cons, List.length_nil, Nat.reduceAdd, Nat.reduceLT, Nat.reduceLeDiff, List.getD_cons_zero, List.getD_cons_succ, Int.cast_ofNat_Int, Int.reduceToNat, Int.reduceSub, Int.reduceAdd, Int.reduceNeg, Int.toNat_natCast, Int.natCast_nonneg, List.getElem?_cons_zero, List.getElem?_cons_succ, List.cons_append, List.set_cons_zero, List.set_cons_succ, List.take_zero, List.take_succ_cons, List.drop_zero, List.drop_succ_cons, List.drop_nil, List.take_nil, List.all_cons, List.all_nil, Nat.zero_add, Nat.zero_lt_one, Nat.le_refl]
  rfl
theorem dagFlow_pure (hP : E.P = Tryd.prog) {m : Int} (hm : E.gl 0 = some [.int .i64 m]) (s : List UInt8) (hs : s.length ≤ 9223372036854775807) : XPure E 9 [.str s] (.bool (namedS s true 256)) := by
  rw [← made_named s true _ 256 okB_true]
  refine xpure1 (n := Tryd.f9.ntmps) (c := x9) (t := 2) (by rw [hP]; rfl) (by rw [hP]; rfl) (by decide) (Nat.le_of_ble_eq_true rfl) ?_
  generalize hρ : entry _ = ρ
  have h0 : ρ 0 = .str s := by rw [← hρ]; rfl
  clear hρ
  unfold x9
  simp only [h0, go_sem, Nat.reduceEqDiff, reduceIte, Bool.false_eq_true, Bool.not_true, Bool.not_false, Bool.and_true, Bool.true_and, Bool.or_false, Bool.false_or, Bool.and_false, Bool.false_and, Bool.or_true, Bool.true_or, true_and, and_true, eq_self, not_false_eq_true, List.map_cons, List.map_nil, List.nil_append, List.append_nil, decide_true, decide_false, Int.reduceEq, Int.reduceLT, Int.reduceLE, List.length_cons, List.length_nil, Nat.reduceAdd, Nat.reduceLT, Nat.reduceLeDiff, List.getD_cons_zero, List.getD_cons_succ, Int.cast_ofNat_Int, Int.reduceToNat, Int.reduceSub, Int.reduceAdd, Int.reduceNeg, Int.toNat_natCast, Int.natCast_nonneg, List.getElem?_cons_zero, List.getElem?_cons_succ, List.cons_append, List.set_cons_zero, List.set_cons_succ, List.take_zero, List.take_succ_cons, List.drop_zero, List.drop_succ_cons, List.drop_nil, List.take_nil, List.all_cons, List.all_nil, Nat.zero_add, Nat.zero_lt_one, Nat.le_refl]
  refine s_mg (by simp only [h0, go_sem, Nat.reduceEqDiff, reduceIte, Bool.false_eq_true, Bool.not_true, Bool.not_false, Bool.and_true, Bool.true_and, Bool.or_false, Bool.false_or, Bool.and_false, Bool.false_and, Bool.or_true, Bool.true_or, true_and, and_true, eq_self, not_false_eq_true, List.map_cons, List.map_nil, List.nil_append, List.append_nil, decide_true, decide_false, Int.reduceEq, Int.reduceLT, Int.reduceLE, List.length_cons, List.length_nil, Nat.reduceAdd, Nat.reduceLT, Nat.reduceLeDiff, List.getD_cons_zero, List.getD_cons_succ, Int.cast_ofNat_Int, Int.reduceToNat, Int.reduceSub, Int.reduceAdd, Int.reduceNeg, Int.toNat_natCast, Int.natCast_nonneg, List.getElem?_cons_zero, List.getElem?_cons_succ, List.cons_append, List.set_cons_zero, List.set_cons_succ, List.take_zero, List.take_succ_cons, List.drop_zero, List.drop_succ_cons, List.drop_nil, List.take_nil, List.all_cons, List.all_nil, Nat.zero_add, Nat.zero_lt_one, Nat.le_refl]; try rfl) ?_; simp only [cut_g, cut_t, cut_none, cut_out, memN_cons, memN_nil, Nat.reduceEqDiff, reduceIte, List.nil_append, List.cons_append, not_false_eq_true]; refine ex_merge rfl (by simp only [h0, go_sem, Nat.reduceEqDiff, reduceIte, Bool.false_eq_true, Bool.not_true, Bool.not_false, Bool.and_true, Bool.true_and, Bool.or_false, Bool.false_or, Bool.and_false, Bool.false_and, Bool.or_true, Bool.true_or, true_and, and_true, eq_self, not_false_eq_true, List.map_cons, List.map_nil, List.nil_append, List.append_nil, decide_true, decide_false, Int.reduceEq, Int.reduceLT, Int.reduceLE, List.length_cons, List.length_nil, Nat.reduceAdd, Nat.reduceLT, Nat.reduceLeDiff, List.getD_cons_zero, List.getD_cons_succ, Int.cast_ofNat_Int, Int.reduceToNat, Int.reduceSub, Int.reduceAdd, Int.reduceNeg, Int.toNat_natCast, Int.natCast_nonneg, List.getElem?_cons_zero, List.getElem?_cons_succ, List.cons_append, List.set_cons_zero, List.set_cons_succ, List.take_zero, List.take_succ_cons, List.drop_zero, List.drop_succ_cons, List.drop_nil, List.take_nil, List.all_cons, List.all_nil, Nat.zero_add, Nat.zero_lt_one, Nat.le_refl]) (by intro hb; simp only [hb, h0, go_sem, Nat.reduceEqDiff, reduceIte, Bool.false_eq_true, Bool.not_true, Bool.not_false, Bool.and_true, Bool.true_and, Bool.or_false, Bool.false_or, Bool.and_false, Bool.false_and, Bool.or_true, Bool.true_or, true_and, and_true, eq_self, not_false_eq_true, List.map_cons, List.map_nil, List.nil_append, List.append_nil, decide_true, decide_false, Int.reduceEq, Int.reduceLT, Int.reduceLE, List.length_cons, List.length_nil, Nat.reduceAdd, Nat.reduceLT, Nat.reduceLeDiff, List.getD_cons_zero, List.getD_cons_succ, Int.cast_ofNat_Int, Int.reduceToNat, Int.reduceSub, Int.reduceAdd, Int.reduceNeg, Int.toNat_natCast, Int.natCast_nonneg, List.getElem?_cons_zero, List.getElem?_cons_succ, List.cons_append, List.set_cons_zero, List.set_cons_succ, List.take_zero, List.take_succ_cons, List.drop_zero, List.drop_succ_cons, List.drop_nil, List.take_nil, List.all_cons, List.all_nil, Nat.zero_add, Nat.zero_lt_one, Nat.le_refl]; refine xcall_pure (args' := [.str s, .str [46, 45, 95, 47]]) rfl (made_pure hP hm s _ (.inr rfl) hs) rfl ?_; try simp only [h0, go_sem, Nat.reduceEqDiff, reduceIte, Bool.false_eq_true, Bool.not_true, Bool.not_false, Bool.and_true, Bool.true_and, Bool.or_false, Bool.false_or, Bool.and_false, Bool.false_and, Bool.or_true, Bool.true_or, true_and, and_true, eq_self, not_false_eq_true, List.map_cons, List.map_nil, List.nil_append, List.append_nil, decide_true, decide_false, Int.reduceEq, Int.reduceLT, Int.reduceLE, List.length_cons, List.length_nil, Nat.reduceAdd, Nat.reduceLT, Nat.reduceLeDiff, List.getD_cons_zero, List.getD_cons_succ, Int.cast_ofNat_Int, Int.reduceToNat, Int.reduceSub, Int.reduceAdd, Int.reduceNeg, Int.toNat_natCast, Int.natCast_nonneg, List.getElem?_cons_zero, List.getElem?_cons_succ, List.cons_append, List.set_cons_zero, List.set_cons_succ, List.take_zero, List.take_succ_cons, List.drop_zero, List.drop_succ_cons, List.drop_nil, List.take_nil, List.all_cons, List.all_nil, Nat.zero_add, Nat.zero_lt_one, Nat.le_refl]; first | exact rfl | exact ⟨rfl, rfl⟩) (fun vs => ?_); simp only [h0, go_sem, Nat.reduceEqDiff, reduceIte, Bool.false_eq_true, Bool.not_true, Bool.not_false, Bool.and_true, Bool.true_and, Bool.or_false, Bool.false_or, Bool.and_false, Bool.false_and, Bool.or_true, Bool.true_or, true_and, and_true, eq_self, not_false_eq_true, List.map_cons, List.map_nil, List.nil_append, List.append_nil, decide_true, decide_false, Int.reduceEq, Int.reduceLT, Int.reduceLE, List.length_cons, List.length_nil, Nat.reduceAdd, Nat.reduceLT, Nat.reduceLeDiff, List.getD_cons_zero, List.getD_cons_succ, Int.cast_ofNat_Int, Int.reduceToNat, Int.reduceSub, Int.reduceAdd, Int.reduceNeg, Int.toNat_natCast, Int.natCast_nonneg, List.getElem?_cons_zero, List.getElem?_cons_succ, List.cons_append, List.set_cons_zero, List.set_cons_succ, List.take_zero, List.take_succ_cons, List.drop_zero, List.drop_succ_cons, List.drop_nil, List.take_nil, List.all_cons, List.all_nil, Nat.zero_add, Nat.zero_lt_one, Nat.le_refl]
  rfl
end
end Go.X.TrydW

