/- Parts of the proof: Xgflimits, Xgfref3, Xgfwholep, Xgfbackp, Xgfquote, Xgfref5, Xgfref6, Xgrepl1, Xgrepl2. -/
import Derived.Test.YtepkimlnaoaboabGreatDoorXP27
import Derived.Lib.ValidLaws
set_option linter.unusedVariables false
set_option linter.unusedSimpArgs false
set_option linter.unusedSectionVars false
section
open Go Go.X Go.Proofs
set_option maxRecDepth 100000
set_option maxHeartbeats 4000000
set_option linter.unusedSimpArgs false
set_option linter.unusedVariables false
namespace Go.X.TryzW
/- "tiller/tillerlaw13.FrontLimits" params { toList := [3, 4] } results { toList := [Go.ResultVar.tmp 4] } -/
section
variable {E : Env} {L : List Blk} {K : IV → List Blk → Prop}
def getL : List UInt8 := [71, 69, 84, 32, 47]
/-- Bytes behind bytes whose type is not known. -/
theorem appG_cells {ty g t n : Nat} {bs x : List UInt8} {xv : IV} (hn : n = bs.length) (hL : L[t]? = some (.cells 1 (bytesRows bs))) (hx : rowsOf L xv = some (bytesRows x)) (hg : g = L.length) (hne : x ≠ []) (hb : bs.length + x.length ≤ 70368744177664)
    (h : K (.sl g 0 (bs.length + x.length) (bs.length + x.length)) (L.set t .dead ++ [.cells 1 (bytesRows (bs ++ x))])) : xappT ty 1 (.sl t 0 n n) xv g L K := by
  subst hn
  have hxl : 1 ≤ x.length := by cases x with
    | nil => exact absurd rfl hne
    | cons => simp
  unfold xappT
  rw [hx]
  refine ⟨bytesRows_rowsC x, rfl, rfl, ?_⟩
  rw [hL]
  show xappendR 1 1 (.sl t 0 bs.length bs.length) xv g _ L K
  unfold xappendR
  rw [hx]
  refine ⟨bytesRows_rowsC x, ?_⟩
  simp only [hL]
  refine ⟨trivial, by rw [bytesRows_len]; omega, ?_⟩
  rw [if_neg (by rw [bytesRows_len]; omega), bytesRows_len, Nat.mul_one, List.drop_zero, List.take_of_length_le (by rw [bytesRows_len]; exact Nat.le_refl _), ← bytesRows_app]
  refine ⟨hb, ?_⟩
  unfold layAt
  rw [if_pos (by rw [List.length_set]; exact hg)]
  exact h
end
end Go.X.TryzW
end
section
open Go Go.X Go.Proofs
set_option maxRecDepth 100000
set_option maxHeartbeats 4000000
set_option linter.unusedSimpArgs false
set_option linter.unusedVariables false
namespace Go.X.TryzW

end Go.X.TryzW
end
section
open Go Go.X Go.Proofs
set_option maxRecDepth 100000
set_option maxHeartbeats 4000000
set_option linter.unusedSimpArgs false
set_option linter.unusedVariables false
namespace Go.X.TryzW
def digB (b : UInt8) : Bool := decide (48 ≤ b.toNat ∧ b.toNat ≤ 57)
end Go.X.TryzW
end
section
open Go Go.X Go.Proofs
set_option maxRecDepth 100000
set_option maxHeartbeats 4000000
set_option linter.unusedSimpArgs false
set_option linter.unusedVariables false
namespace Go.X.TryzW

/-! ### What is there from a place on -/
def D (s : List UInt8) (i : Nat) (r : List UInt8) : Prop := s.drop i = r ∧ i ≤ s.length
theorem D.len {s r : List UInt8} {i : Nat} (h : D s i r) : s.length = i + r.length := by
  have := congrArg List.length h.1
  rw [List.length_drop] at this
  have := h.2
  omega
theorem D.get {s r : List UInt8} {i : Nat} (h : D s i r) (k : Nat) : s.getD (i + k) 0 = r.getD k 0 := by
  rw [← h.1, List.getD_eq_getElem?_getD, List.getD_eq_getElem?_getD, List.getElem?_drop]
theorem D.get0 {s r : List UInt8} {i : Nat} (h : D s i r) : s.getD i 0 = r.getD 0 0 := h.get 0
theorem D.step {s a r : List UInt8} {i : Nat} (h : D s i (a ++ r)) : D s (i + a.length) r := by
  have hl := h.len
  rw [List.length_append] at hl
  refine ⟨?_, by omega⟩
  rw [← List.drop_drop, h.1, List.drop_left]
theorem D.cons {s r : List UInt8} {c : UInt8} {i : Nat} (h : D s i (c :: r)) : D s (i + 1) r := D.step (a := [c]) h
theorem D.isAt {s r : List UInt8} {c : UInt8} {i : Nat} (h : D s i (c :: r)) (b : UInt8) : Fr.isAt s i b = decide (c = b) := by
  have hl := h.len
  unfold Fr.isAt
  rw [h.get0, decide_eq_true (by simp at hl; omega), Bool.true_and]; rfl
theorem D.must {s r : List UInt8} {c : UInt8} {i : Nat} (h : D s i (c :: r)) : Fr.must s i c = .ok (i + 1) := by
  unfold Fr.must
  rw [h.isAt, decide_eq_true rfl]; rfl
/-! ### Quote -/
def qL : List UInt8 := [8, 12, 10, 13, 9, 34, 92]
def qR : List UInt8 := [98, 102, 110, 114, 116, 34, 92]
def quoteCh (c n : Nat) (s : List UInt8) : List UInt8 :=
  if c = 65533 ∧ n = 1 then [92, 117, 102, 102, 102, 100]
  else match qL.findIdx? (fun b => decide (b.toNat = c)) with
    | some k => [92, qR.getD k 0]
    | none => if c < 32 then [92, 117, 48, 48, Fr.hexD.getD (c / 16) 0, Fr.hexD.getD (c % 16) 0] else s.take n
def quoteGo : Nat → List UInt8 → List UInt8
  | 0, _ => []
  | f + 1, s => if s = [] then [] else quoteCh (Lib.decodeL s).1 (Lib.decodeL s).2 s ++ quoteGo f (s.drop (Lib.decodeL s).2)
def quoteF (s : List UInt8) : List UInt8 := 34 :: (quoteGo s.length s ++ [34])
theorem decL_w (l : List UInt8) (h : l ≠ []) : 1 ≤ (Lib.decodeL l).2 ∧ (Lib.decodeL l).2 ≤ l.length := by
  rw [Lib.decodeL_N]
  have h0 : 1 ≤ l.length := List.length_pos_iff.2 h
  have b0 := (l.getD 0 0).toNat_lt
  unfold Lib.decodeN
  repeat' split
  all_goals simp only
  all_goals omega
theorem quoteGo_fuel : ∀ (n m : Nat) (l : List UInt8), l.length ≤ n → l.length ≤ m → quoteGo n l = quoteGo m l
  | 0, m, l, hn, _ => by
    have : l = [] := List.eq_nil_of_length_eq_zero (by omega)
    subst this
    cases m <;> rfl
  | n + 1, 0, l, _, hm => by
    have : l = [] := List.eq_nil_of_length_eq_zero (by omega)
    subst this; rfl
  | n + 1, m + 1, l, hn, hm => by
    unfold quoteGo
    by_cases hne : l = []
    · rw [if_pos hne, if_pos hne]
    · have hw := decL_w l hne
      rw [if_neg hne, if_neg hne, quoteGo_fuel n m _ (by rw [List.length_drop]; omega) (by rw [List.length_drop]; omega)]
theorem quoteGo_step (l : List UInt8) (hne : l ≠ []) : quoteGo l.length l = quoteCh (Lib.decodeL l).1 (Lib.decodeL l).2 l ++ quoteGo (l.drop (Lib.decodeL l).2).length (l.drop (Lib.decodeL l).2) := by
  have hw := decL_w l hne
  obtain ⟨n, hn⟩ : ∃ n, l.length = n + 1 := ⟨l.length - 1, by omega⟩
  rw [hn, quoteGo, if_neg hne, quoteGo_fuel n _ _ (by rw [List.length_drop]; omega) (Nat.le_refl _)]
theorem quoteCh_len (c n : Nat) (s : List UInt8) (h : n ≤ s.length) (hn : 1 ≤ n) : 1 ≤ (quoteCh c n s).length ∧ (quoteCh c n s).length ≤ 6 * n := by
  unfold quoteCh
  repeat' split
  all_goals simp only [List.length_cons, List.length_nil, List.length_take]
  all_goals omega
theorem quoteGo_len : ∀ (n : Nat) (l : List UInt8), l.length ≤ n → (quoteGo l.length l).length ≤ 6 * l.length
  | 0, l, h => by
    have : l = [] := List.eq_nil_of_length_eq_zero (by omega)
    subst this; simp [quoteGo]
  | n + 1, l, h => by
    by_cases hne : l = []
    · subst hne; simp [quoteGo]
    · have hw := decL_w l hne
      have hc := quoteCh_len (Lib.decodeL l).1 (Lib.decodeL l).2 l hw.2 hw.1
      rw [quoteGo_step l hne, List.length_append]
      have := quoteGo_len n (l.drop (Lib.decodeL l).2) (by rw [List.length_drop]; omega)
      rw [List.length_drop] at this ⊢
      omega
theorem quoteF_len (l : List UInt8) : (quoteF l).length ≤ 6 * l.length + 2 := by
  have := quoteGo_len _ l (Nat.le_refl _)
  unfold quoteF
  rw [List.length_cons, List.length_append]
  simp only [List.length_cons, List.length_nil]; omega

/-! ### Read again -/
theorem dec_ascii (l : List UInt8) (hne : l ≠ []) (h : (l.getD 0 0).toNat < 128) : Lib.decodeL l = ((l.getD 0 0).toNat, 1) := by
  rw [Lib.decodeL_N]; exact Lib.decodeN_ascii _ _ _ _ _ h
theorem dec_lt (l : List UInt8) (hne : l ≠ []) (h : (Lib.decodeL l).1 < 128) : (l.getD 0 0).toNat = (Lib.decodeL l).1 := by
  rw [Lib.decodeL_N] at h ⊢
  rcases Lib.decodeN_shape l.length (l.getD 0 0).toNat (l.getD 1 0).toNat (l.getD 2 0).toNat (l.getD 3 0).toNat with ⟨c, e⟩ | ⟨q1, q2, q3, cv, e⟩ | ⟨q1, q2, q3, q4, cv, cs, e⟩ | ⟨q1, q2, q3, q4, q5, cv, cw, e⟩ | e
  all_goals rw [e] at h ⊢
  all_goals simp only at h
  all_goals first | rfl | (exfalso; omega)
theorem quoteCh_big (c n : Nat) (s : List UInt8) (hv : ¬ (c = 65533 ∧ n = 1)) (h1 : 32 ≤ c) (h2 : c ≠ 34) (h3 : c ≠ 92) : quoteCh c n s = s.take n := by
  unfold quoteCh
  have : qL.findIdx? (fun b => decide (b.toNat = c)) = none := by
    rw [List.findIdx?_eq_none_iff]
    intro b hb
    rw [decide_eq_false_iff_not]
    unfold qL at hb
    simp only [List.mem_cons, List.not_mem_nil, or_false] at hb
    rcases hb with rfl | rfl | rfl | rfl | rfl | rfl | rfl
    all_goals intro he
    all_goals simp at he
    all_goals omega
  rw [if_neg hv, this]
  dsimp only
  rw [if_neg (by omega)]
/-! ### Numbers -/
/-! ### Fields, bodies -/
/-- A pair that may be written: its value's text. -/
inductive Wr : Fr.Pair → List UInt8 → Prop
  | text (k v : List UInt8) (hk : Lib.validD k = true) (hv : Lib.validD v = true) : Wr ⟨k, 34 :: v⟩ (quoteF v)
  | num (k : List UInt8) (N : Nat) (hk : Lib.validD k = true) (hN : N < 1000000000000000) : Wr ⟨k, Lib.decDigits N⟩ (Lib.decDigits N)
  | neg (k : List UInt8) (N : Nat) (hk : Lib.validD k = true) (h1 : 1 ≤ N) (hN : N < 1000000000000000) : Wr ⟨k, 45 :: Lib.decDigits N⟩ (45 :: Lib.decDigits N)
theorem Wr.key {p : Fr.Pair} {x : List UInt8} (h : Wr p x) : Lib.validD p.key = true := by cases h <;> assumption
end Go.X.TryzW
end
section
open Go Go.X Go.Proofs
set_option maxRecDepth 100000
set_option maxHeartbeats 4000000
set_option linter.unusedSimpArgs false
set_option linter.unusedVariables false
namespace Go.X.TryzW
/- "unicode/utf8.ValidRune" params { toList := [21] } results { toList := [Go.ResultVar.tmp 2] } -/
def y79 : XC :=
 (.seq
  (.ops [
    ⟨(some 2), (.mov (.c (.bool false))), none⟩])
  (.seq
   (.block 0
    (.seq
     (.ops [
       ⟨(some 4), (.mov (.t 0)), none⟩,
       ⟨(some 5), (.bin .leq (.c (.int .i32 0)) (.t 4)), none⟩,
       ⟨(some 6), (.mov (.t 5)), none⟩,
       ⟨(some 7), (.mov (.t 0)), (some (6, true))⟩,
       ⟨(some 8), (.bin .lss (.t 7) (.c (.int .i32 55296))), (some (6, true))⟩,
       ⟨(some 9), (.pick (.t 6) (.t 8) (.c (.bool false))), none⟩,
       ⟨(some 3), (.mov (.t 9)), none⟩])
     (.cond (.t 3)
      (.seq
       (.ops [
         ⟨(some 2), (.mov (.c (.bool true))), none⟩])
       .ret)
      (.seq
       (.ops [
         ⟨(some 11), (.mov (.t 0)), none⟩,
         ⟨(some 12), (.bin .lss (.c (.int .i32 57343)) (.t 11)), none⟩,
         ⟨(some 13), (.mov (.t 12)), none⟩,
         ⟨(some 14), (.mov (.t 0)), (some (13, true))⟩,
         ⟨(some 15), (.bin .leq (.t 14) (.c (.int .i32 1114111))), (some (13, true))⟩,
         ⟨(some 16), (.pick (.t 13) (.t 15) (.c (.bool false))), none⟩,
         ⟨(some 10), (.mov (.t 16)), none⟩])
       (.cond (.t 10)
        (.seq
         (.ops [
           ⟨(some 2), (.mov (.c (.bool true))), none⟩])
         .ret)
        .skip)))))
   (.seq
    (.ops [
      ⟨(some 2), (.mov (.c (.bool false))), none⟩])
    .ret)))

/- "strings.IndexRune" params { toList := [9, 21] } results { toList := [Go.ResultVar.tmp 4] } -/
def y50 : XC :=
 (.seq
  (.ops [
    ⟨(some 4), (.mov (.c (.int .i64 0))), none⟩])
  (.block 0
   (.seq
    (.ops [
      ⟨(some 161), (.mov (.t 1)), none⟩,
      ⟨(some 162), (.bin .leq (.c (.int .i32 0)) (.t 161)), none⟩,
      ⟨(some 163), (.mov (.t 162)), none⟩,
      ⟨(some 164), (.mov (.t 1)), (some (163, true))⟩,
      ⟨(some 165), (.bin .lss (.t 164) (.c (.int .i32 128))), (some (163, true))⟩,
      ⟨(some 166), (.pick (.t 163) (.t 165) (.c (.bool false))), none⟩,
      ⟨(some 160), (.mov (.t 166)), none⟩])
    (.cond (.t 160)
     (.seq
      (.ops [
        ⟨(some 167), (.mov (.t 0)), none⟩,
        ⟨(some 168), (.mov (.t 1)), none⟩,
        ⟨(some 169), (.cvInt .u8 (.t 168)), none⟩,
        ⟨(some 170), (.call (.f 41) [(.t 167), (.t 169)]), none⟩,
        ⟨(some 4), (.mov (.t 170)), none⟩])
      .ret)
     (.seq
      (.ops [
        ⟨(some 172), (.mov (.t 1)), none⟩,
        ⟨(some 173), (.bin .eql (.t 172) (.c (.int .i32 65533))), none⟩,
        ⟨(some 171), (.mov (.t 173)), none⟩])
      (.cond (.t 171)
       (.seq
        (.seq
         (.ops [
           ⟨(some 174), (.mov (.t 0)), none⟩,
           ⟨(some 175), (.rng (.t 174)), none⟩])
         (.block 9
          (.loop
           (.seq
            (.ops [
              ⟨(some 176), (.nxt (.t 175)), none⟩,
              ⟨(some 177), (.ext (.t 176) 0), none⟩])
            (.seq
             (.cond (.t 177)
              .skip
              (.exit 9))
             (.block 10
              (.seq
               (.ops [
                 ⟨(some 178), (.ext (.t 176) 1), none⟩,
                 ⟨(some 179), (.ext (.t 176) 2), none⟩,
                 ⟨(some 5), (.mov (.t 178)), none⟩,
                 ⟨(some 6), (.mov (.t 179)), none⟩])
               (.seq
                (.ops [
                  ⟨(some 180), (.mov (.t 6)), none⟩,
                  ⟨(some 181), (.bin .eql (.t 180) (.c (.int .i32 65533))), none⟩])
                (.cond (.t 181)
                 (.seq
                  (.ops [
                    ⟨(some 182), (.mov (.t 5)), none⟩,
                    ⟨(some 4), (.mov (.t 182)), none⟩])
                  .ret)
                 .skip)))))))))
        (.seq
         (.ops [
           ⟨(some 4), (.mov (.c (.int .i64 (-1)))), none⟩])
         .ret))
       (.seq
        (.ops [
          ⟨(some 184), (.mov (.t 1)), none⟩,
          ⟨(some 185), (.call (.f 42) [(.t 184)]), none⟩,
          ⟨(some 186), (.un .not (.t 185)), none⟩,
          ⟨(some 183), (.mov (.t 186)), none⟩])
        (.cond (.t 183)
         (.seq
          (.ops [
            ⟨(some 4), (.mov (.c (.int .i64 (-1)))), none⟩])
          .ret)
         (.scope
          (.seq
           (.ops [
             ⟨(some 17), (.mov (.t 1)), none⟩,
             ⟨(some 18), (.cvIntStr (.t 17)), none⟩,
             ⟨(some 7), (.mov (.t 18)), none⟩])
           (.seq
            (.ops [
              ⟨(some 19), (.mov (.t 7)), none⟩,
              ⟨(some 20), (.lenS (.t 19)), none⟩,
              ⟨(some 21), (.bin .sub (.t 20) (.c (.int .i64 1))), none⟩,
              ⟨(some 8), (.mov (.t 21)), none⟩])
            (.seq
             (.ops [
               ⟨(some 22), (.mov (.t 8)), none⟩,
               ⟨(some 9), (.mov (.t 22)), none⟩])
             (.seq
              (.ops [
                ⟨(some 10), (.mov (.c (.int .i64 0))), none⟩])
              (.seq
               (.block 1
                (.loop
                 (.seq
                  (.seq
                   (.ops [
                     ⟨(some 23), (.mov (.t 9)), none⟩,
                     ⟨(some 24), (.mov (.t 0)), none⟩,
                     ⟨(some 25), (.lenS (.t 24)), none⟩,
                     ⟨(some 26), (.bin .lss (.t 23) (.t 25)), none⟩])
                   (.cond (.t 26)
                    .skip
                    (.exit 1)))
                  (.block 2
                   (.scope
                    (.seq
                     (.seq
                      (.draw [
                        ⟨(some 27), (.mov (.t 0)), none⟩,
                        ⟨(some 28), (.mov (.t 9)), none⟩,
                        ⟨(some 29), (.idx (.t 27) (.t 28)), none⟩,
                        ⟨(some 30), (.mov (.t 7)), none⟩,
                        ⟨(some 31), (.mov (.t 8)), none⟩,
                        ⟨(some 32), (.idx (.t 30) (.t 31)), none⟩,
                        ⟨(some 33), (.bin .neq (.t 29) (.t 32)), none⟩])
                      (.cond (.t 33)
                       (.seq
                        (.drawE [
                          ⟨(some 34), (.mov (.t 0)), none⟩,
                          ⟨(some 35), (.mov (.t 9)), none⟩,
                          ⟨(some 36), (.bin .add (.t 35) (.c (.int .i64 1))), none⟩,
                          ⟨(some 37), (.sliceS (.t 34) (some (.t 36)) none), none⟩,
                          ⟨(some 38), (.mov (.t 7)), none⟩,
                          ⟨(some 39), (.mov (.t 8)), none⟩,
                          ⟨(some 40), (.idx (.t 38) (.t 39)), none⟩,
                          ⟨(some 41), (.pcall (.f 41) [(.t 37), (.t 40)]), none⟩,
                          ⟨(some 11), (.mov (.t 41)), none⟩])
                        (.seq
                         (.seq
                          (.ops [
                            ⟨(some 42), (.mov (.t 11)), none⟩,
                            ⟨(some 43), (.bin .lss (.t 42) (.c (.int .i64 0))), none⟩])
                          (.cond (.t 43)
                           (.seq
                            (.ops [
                              ⟨(some 4), (.mov (.c (.int .i64 (-1)))), none⟩])
                            .ret)
                           .skip))
                         (.ops [
                           ⟨(some 44), (.mov (.t 9)), none⟩,
                           ⟨(some 45), (.mov (.t 11)), none⟩,
                           ⟨(some 46), (.bin .add (.t 45) (.c (.int .i64 1))), none⟩,
                           ⟨(some 47), (.bin .add (.t 44) (.t 46)), none⟩,
                           ⟨(some 9), (.mov (.t 47)), none⟩])))
                       .skip))
                     (.seq
                      (.seq
                       (.ops [
                         ⟨(some 12), (.mov (.c (.int .i64 1))), none⟩])
                       (.block 3
                        (.loop
                         (.seq
                          (.seq
                           (.ops [
                             ⟨(some 48), (.mov (.t 12)), none⟩,
                             ⟨(some 49), (.mov (.t 7)), none⟩,
                             ⟨(some 50), (.lenS (.t 49)), none⟩,
                             ⟨(some 51), (.bin .lss (.t 48) (.t 50)), none⟩])
                           (.cond (.t 51)
                            .skip
                            (.exit 3)))
                          (.seq
                           (.block 4
                            (.seq
                             (.draw [
                               ⟨(some 54), (.mov (.t 0)), none⟩,
                               ⟨(some 55), (.mov (.t 9)), none⟩,
                               ⟨(some 56), (.mov (.t 12)), none⟩,
                               ⟨(some 57), (.bin .sub (.t 55) (.t 56)), none⟩,
                               ⟨(some 58), (.idx (.t 54) (.t 57)), none⟩,
                               ⟨(some 59), (.mov (.t 7)), none⟩,
                               ⟨(some 60), (.mov (.t 8)), none⟩,
                               ⟨(some 61), (.mov (.t 12)), none⟩,
                               ⟨(some 62), (.bin .sub (.t 60) (.t 61)), none⟩,
                               ⟨(some 63), (.idx (.t 59) (.t 62)), none⟩,
                               ⟨(some 64), (.bin .neq (.t 58) (.t 63)), none⟩])
                             (.cond (.t 64)
                              (.goto 0)
                              .skip)))
                           (.ops [
                             ⟨(some 52), (.mov (.t 12)), none⟩,
                             ⟨(some 53), (.bin .add (.t 52) (.c (.int .i64 1))), none⟩,
                             ⟨(some 12), (.mov (.t 53)), none⟩]))))))
                      (.seq
                       (.seq
                        (.ops [
                          ⟨(some 65), (.mov (.t 9)), none⟩,
                          ⟨(some 66), (.mov (.t 8)), none⟩,
                          ⟨(some 67), (.bin .sub (.t 65) (.t 66)), none⟩,
                          ⟨(some 4), (.mov (.t 67)), none⟩])
                        .ret)
                       (.seq
                        (.label 0)
                        (.seq
                         (.ops [
                           ⟨(some 68), (.mov (.t 10)), none⟩,
                           ⟨(some 69), (.bin .add (.t 68) (.c (.int .i64 1))), none⟩,
                           ⟨(some 10), (.mov (.t 69)), none⟩])
                         (.seq
                          (.ops [
                            ⟨(some 70), (.mov (.t 9)), none⟩,
                            ⟨(some 71), (.bin .add (.t 70) (.c (.int .i64 1))), none⟩,
                            ⟨(some 9), (.mov (.t 71)), none⟩])
                          (.seq
                           (.ops [
                             ⟨(some 72), (.mov (.c (.bool true))), none⟩,
                             ⟨(some 73), (.mov (.t 10)), (some (72, true))⟩,
                             ⟨(some 74), (.mov (.t 9)), (some (72, true))⟩,
                             ⟨(some 75), (.call (.f 43) [(.t 74)]), (some (72, true))⟩,
                             ⟨(some 76), (.bin .gtr (.t 73) (.t 75)), (some (72, true))⟩,
                             ⟨(some 77), (.pick (.t 72) (.t 76) (.c (.bool false))), none⟩,
                             ⟨(some 78), (.mov (.t 77)), none⟩,
                             ⟨(some 79), (.mov (.t 9)), (some (78, true))⟩,
                             ⟨(some 80), (.mov (.t 0)), (some (78, true))⟩,
                             ⟨(some 81), (.lenS (.t 80)), (some (78, true))⟩,
                             ⟨(some 82), (.bin .lss (.t 79) (.t 81)), (some (78, true))⟩,
                             ⟨(some 83), (.pick (.t 78) (.t 82) (.c (.bool false))), none⟩,
                             ⟨(some 84), (.mov (.t 83)), none⟩,
                             ⟨(some 85), (.mov (.c (.bool false))), (some (84, false))⟩,
                             ⟨(some 86), (.mov (.t 10)), (some (85, true))⟩,
                             ⟨(some 87), (.mov (.t 9)), (some (85, true))⟩,
                             ⟨(some 88), (.bin .shr (.t 87) (.c (.int .u64 4))), (some (85, true))⟩,
                             ⟨(some 89), (.bin .add (.c (.int .i64 4)) (.t 88)), (some (85, true))⟩,
                             ⟨(some 90), (.bin .geq (.t 86) (.t 89)), (some (85, true))⟩,
                             ⟨(some 91), (.pick (.t 85) (.t 90) (.c (.bool false))), (some (84, false))⟩,
                             ⟨(some 92), (.mov (.t 91)), (some (84, false))⟩,
                             ⟨(some 93), (.mov (.t 9)), (some (92, true))⟩,
                             ⟨(some 94), (.mov (.t 0)), (some (92, true))⟩,
                             ⟨(some 95), (.lenS (.t 94)), (some (92, true))⟩,
                             ⟨(some 96), (.bin .lss (.t 93) (.t 95)), (some (92, true))⟩,
                             ⟨(some 97), (.pick (.t 92) (.t 96) (.c (.bool false))), (some (84, false))⟩,
                             ⟨(some 98), (.pick (.t 84) (.c (.bool true)) (.t 97)), none⟩])
                           (.cond (.t 98)
                            (.goto 1)
                            .skip))))))))
                    (.cons 0 (.seq
                     .skip
                     (.seq
                      (.ops [
                        ⟨(some 68), (.mov (.t 10)), none⟩,
                        ⟨(some 69), (.bin .add (.t 68) (.c (.int .i64 1))), none⟩,
                        ⟨(some 10), (.mov (.t 69)), none⟩])
                      (.seq
                       (.ops [
                         ⟨(some 70), (.mov (.t 9)), none⟩,
                         ⟨(some 71), (.bin .add (.t 70) (.c (.int .i64 1))), none⟩,
                         ⟨(some 9), (.mov (.t 71)), none⟩])
                       (.seq
                        (.ops [
                          ⟨(some 72), (.mov (.c (.bool true))), none⟩,
                          ⟨(some 73), (.mov (.t 10)), (some (72, true))⟩,
                          ⟨(some 74), (.mov (.t 9)), (some (72, true))⟩,
                          ⟨(some 75), (.call (.f 43) [(.t 74)]), (some (72, true))⟩,
                          ⟨(some 76), (.bin .gtr (.t 73) (.t 75)), (some (72, true))⟩,
                          ⟨(some 77), (.pick (.t 72) (.t 76) (.c (.bool false))), none⟩,
                          ⟨(some 78), (.mov (.t 77)), none⟩,
                          ⟨(some 79), (.mov (.t 9)), (some (78, true))⟩,
                          ⟨(some 80), (.mov (.t 0)), (some (78, true))⟩,
                          ⟨(some 81), (.lenS (.t 80)), (some (78, true))⟩,
                          ⟨(some 82), (.bin .lss (.t 79) (.t 81)), (some (78, true))⟩,
                          ⟨(some 83), (.pick (.t 78) (.t 82) (.c (.bool false))), none⟩,
                          ⟨(some 84), (.mov (.t 83)), none⟩,
                          ⟨(some 85), (.mov (.c (.bool false))), (some (84, false))⟩,
                          ⟨(some 86), (.mov (.t 10)), (some (85, true))⟩,
                          ⟨(some 87), (.mov (.t 9)), (some (85, true))⟩,
                          ⟨(some 88), (.bin .shr (.t 87) (.c (.int .u64 4))), (some (85, true))⟩,
                          ⟨(some 89), (.bin .add (.c (.int .i64 4)) (.t 88)), (some (85, true))⟩,
                          ⟨(some 90), (.bin .geq (.t 86) (.t 89)), (some (85, true))⟩,
                          ⟨(some 91), (.pick (.t 85) (.t 90) (.c (.bool false))), (some (84, false))⟩,
                          ⟨(some 92), (.mov (.t 91)), (some (84, false))⟩,
                          ⟨(some 93), (.mov (.t 9)), (some (92, true))⟩,
                          ⟨(some 94), (.mov (.t 0)), (some (92, true))⟩,
                          ⟨(some 95), (.lenS (.t 94)), (some (92, true))⟩,
                          ⟨(some 96), (.bin .lss (.t 93) (.t 95)), (some (92, true))⟩,
                          ⟨(some 97), (.pick (.t 92) (.t 96) (.c (.bool false))), (some (84, false))⟩,
                          ⟨(some 98), (.pick (.t 84) (.c (.bool true)) (.t 97)), none⟩])
                        (.cond (.t 98)
                         (.goto 1)
                         .skip))))) .nil))))))
               (.seq
                (.seq
                 (.ops [
                   ⟨(some 4), (.mov (.c (.int .i64 (-1)))), none⟩])
                 .ret)
                (.seq
                 (.label 1)
                 (.seq
                  (.cond (.c (.bool true))
                   (.seq
                    (.ops [
                      ⟨(some 99), (.mov (.t 0)), none⟩,
                      ⟨(some 100), (.mov (.t 9)), none⟩,
                      ⟨(some 101), (.mov (.t 8)), none⟩,
                      ⟨(some 102), (.bin .sub (.t 100) (.t 101)), none⟩,
                      ⟨(some 103), (.sliceS (.t 99) (some (.t 102)) none), none⟩,
                      ⟨(some 104), (.mov (.t 1)), none⟩,
                      ⟨(some 105), (.cvIntStr (.t 104)), none⟩,
                      ⟨(some 106), (.call (.f 44) [(.t 103), (.t 105)]), none⟩,
                      ⟨(some 13), (.mov (.t 106)), none⟩])
                    (.seq
                     (.ops [
                       ⟨(some 107), (.mov (.t 13)), none⟩,
                       ⟨(some 108), (.bin .geq (.t 107) (.c (.int .i64 0))), none⟩])
                     (.cond (.t 108)
                      (.seq
                       (.ops [
                         ⟨(some 109), (.mov (.t 9)), none⟩,
                         ⟨(some 110), (.mov (.t 13)), none⟩,
                         ⟨(some 111), (.bin .add (.t 109) (.t 110)), none⟩,
                         ⟨(some 112), (.mov (.t 8)), none⟩,
                         ⟨(some 113), (.bin .sub (.t 111) (.t 112)), none⟩,
                         ⟨(some 4), (.mov (.t 113)), none⟩])
                       .ret)
                      .skip)))
                   (.scope
                    (.seq
                     (.ops [
                       ⟨(some 114), (.mov (.t 7)), none⟩,
                       ⟨(some 115), (.mov (.t 8)), none⟩,
                       ⟨(some 116), (.idx (.t 114) (.t 115)), none⟩,
                       ⟨(some 14), (.mov (.t 116)), none⟩])
                     (.seq
                      (.ops [
                        ⟨(some 117), (.mov (.t 7)), none⟩,
                        ⟨(some 118), (.mov (.t 8)), none⟩,
                        ⟨(some 119), (.bin .sub (.t 118) (.c (.int .i64 1))), none⟩,
                        ⟨(some 120), (.idx (.t 117) (.t 119)), none⟩,
                        ⟨(some 15), (.mov (.t 120)), none⟩])
                      (.seq
                       (.label 2)
                       (.block 5
                        (.loop
                         (.seq
                          (.seq
                           (.ops [
                             ⟨(some 121), (.mov (.t 9)), none⟩,
                             ⟨(some 122), (.mov (.t 0)), none⟩,
                             ⟨(some 123), (.lenS (.t 122)), none⟩,
                             ⟨(some 124), (.bin .lss (.t 121) (.t 123)), none⟩])
                           (.cond (.t 124)
                            .skip
                            (.exit 5)))
                          (.seq
                           (.block 6
                            (.seq
                             (.ops [
                               ⟨(some 127), (.mov (.t 0)), none⟩,
                               ⟨(some 128), (.mov (.t 9)), none⟩,
                               ⟨(some 129), (.idx (.t 127) (.t 128)), none⟩,
                               ⟨(some 130), (.mov (.t 14)), none⟩,
                               ⟨(some 131), (.bin .eql (.t 129) (.t 130)), none⟩,
                               ⟨(some 132), (.mov (.t 131)), none⟩,
                               ⟨(some 133), (.mov (.t 0)), (some (132, true))⟩,
                               ⟨(some 134), (.mov (.t 9)), (some (132, true))⟩,
                               ⟨(some 135), (.bin .sub (.t 134) (.c (.int .i64 1))), (some (132, true))⟩,
                               ⟨(some 136), (.idx (.t 133) (.t 135)), (some (132, true))⟩,
                               ⟨(some 137), (.mov (.t 15)), (some (132, true))⟩,
                               ⟨(some 138), (.bin .eql (.t 136) (.t 137)), (some (132, true))⟩,
                               ⟨(some 139), (.pick (.t 132) (.t 138) (.c (.bool false))), none⟩])
                             (.cond (.t 139)
                              (.seq
                               (.seq
                                (.ops [
                                  ⟨(some 16), (.mov (.c (.int .i64 2))), none⟩])
                                (.block 7
                                 (.loop
                                  (.seq
                                   (.seq
                                    (.ops [
                                      ⟨(some 140), (.mov (.t 16)), none⟩,
                                      ⟨(some 141), (.mov (.t 7)), none⟩,
                                      ⟨(some 142), (.lenS (.t 141)), none⟩,
                                      ⟨(some 143), (.bin .lss (.t 140) (.t 142)), none⟩])
                                    (.cond (.t 143)
                                     .skip
                                     (.exit 7)))
                                   (.seq
                                    (.block 8
                                     (.seq
                                      (.draw [
                                        ⟨(some 146), (.mov (.t 0)), none⟩,
                                        ⟨(some 147), (.mov (.t 9)), none⟩,
                                        ⟨(some 148), (.mov (.t 16)), none⟩,
                                        ⟨(some 149), (.bin .sub (.t 147) (.t 148)), none⟩,
                                        ⟨(some 150), (.idx (.t 146) (.t 149)), none⟩,
                                        ⟨(some 151), (.mov (.t 7)), none⟩,
                                        ⟨(some 152), (.mov (.t 8)), none⟩,
                                        ⟨(some 153), (.mov (.t 16)), none⟩,
                                        ⟨(some 154), (.bin .sub (.t 152) (.t 153)), none⟩,
                                        ⟨(some 155), (.idx (.t 151) (.t 154)), none⟩,
                                        ⟨(some 156), (.bin .neq (.t 150) (.t 155)), none⟩])
                                      (.cond (.t 156)
                                       (.exit 6)
                                       .skip)))
                                    (.ops [
                                      ⟨(some 144), (.mov (.t 16)), none⟩,
                                      ⟨(some 145), (.bin .add (.t 144) (.c (.int .i64 1))), none⟩,
                                      ⟨(some 16), (.mov (.t 145)), none⟩]))))))
                               (.seq
                                (.ops [
                                  ⟨(some 157), (.mov (.t 9)), none⟩,
                                  ⟨(some 158), (.mov (.t 8)), none⟩,
                                  ⟨(some 159), (.bin .sub (.t 157) (.t 158)), none⟩,
                                  ⟨(some 4), (.mov (.t 159)), none⟩])
                                .ret))
                              .skip)))
                           (.ops [
                             ⟨(some 125), (.mov (.t 9)), none⟩,
                             ⟨(some 126), (.bin .add (.t 125) (.c (.int .i64 1))), none⟩,
                             ⟨(some 9), (.mov (.t 126)), none⟩]))))))))
                    (.cons 2 (.seq
                     .skip
                     (.block 5
                      (.loop
                       (.seq
                        (.seq
                         (.ops [
                           ⟨(some 121), (.mov (.t 9)), none⟩,
                           ⟨(some 122), (.mov (.t 0)), none⟩,
                           ⟨(some 123), (.lenS (.t 122)), none⟩,
                           ⟨(some 124), (.bin .lss (.t 121) (.t 123)), none⟩])
                         (.cond (.t 124)
                          .skip
                          (.exit 5)))
                        (.seq
                         (.block 6
                          (.seq
                           (.ops [
                             ⟨(some 127), (.mov (.t 0)), none⟩,
                             ⟨(some 128), (.mov (.t 9)), none⟩,
                             ⟨(some 129), (.idx (.t 127) (.t 128)), none⟩,
                             ⟨(some 130), (.mov (.t 14)), none⟩,
                             ⟨(some 131), (.bin .eql (.t 129) (.t 130)), none⟩,
                             ⟨(some 132), (.mov (.t 131)), none⟩,
                             ⟨(some 133), (.mov (.t 0)), (some (132, true))⟩,
                             ⟨(some 134), (.mov (.t 9)), (some (132, true))⟩,
                             ⟨(some 135), (.bin .sub (.t 134) (.c (.int .i64 1))), (some (132, true))⟩,
                             ⟨(some 136), (.idx (.t 133) (.t 135)), (some (132, true))⟩,
                             ⟨(some 137), (.mov (.t 15)), (some (132, true))⟩,
                             ⟨(some 138), (.bin .eql (.t 136) (.t 137)), (some (132, true))⟩,
                             ⟨(some 139), (.pick (.t 132) (.t 138) (.c (.bool false))), none⟩])
                           (.cond (.t 139)
                            (.seq
                             (.seq
                              (.ops [
                                ⟨(some 16), (.mov (.c (.int .i64 2))), none⟩])
                              (.block 7
                               (.loop
                                (.seq
                                 (.seq
                                  (.ops [
                                    ⟨(some 140), (.mov (.t 16)), none⟩,
                                    ⟨(some 141), (.mov (.t 7)), none⟩,
                                    ⟨(some 142), (.lenS (.t 141)), none⟩,
                                    ⟨(some 143), (.bin .lss (.t 140) (.t 142)), none⟩])
                                  (.cond (.t 143)
                                   .skip
                                   (.exit 7)))
                                 (.seq
                                  (.block 8
                                   (.seq
                                    (.draw [
                                      ⟨(some 146), (.mov (.t 0)), none⟩,
                                      ⟨(some 147), (.mov (.t 9)), none⟩,
                                      ⟨(some 148), (.mov (.t 16)), none⟩,
                                      ⟨(some 149), (.bin .sub (.t 147) (.t 148)), none⟩,
                                      ⟨(some 150), (.idx (.t 146) (.t 149)), none⟩,
                                      ⟨(some 151), (.mov (.t 7)), none⟩,
                                      ⟨(some 152), (.mov (.t 8)), none⟩,
                                      ⟨(some 153), (.mov (.t 16)), none⟩,
                                      ⟨(some 154), (.bin .sub (.t 152) (.t 153)), none⟩,
                                      ⟨(some 155), (.idx (.t 151) (.t 154)), none⟩,
                                      ⟨(some 156), (.bin .neq (.t 150) (.t 155)), none⟩])
                                    (.cond (.t 156)
                                     (.exit 6)
                                     .skip)))
                                  (.ops [
                                    ⟨(some 144), (.mov (.t 16)), none⟩,
                                    ⟨(some 145), (.bin .add (.t 144) (.c (.int .i64 1))), none⟩,
                                    ⟨(some 16), (.mov (.t 145)), none⟩]))))))
                             (.seq
                              (.ops [
                                ⟨(some 157), (.mov (.t 9)), none⟩,
                                ⟨(some 158), (.mov (.t 8)), none⟩,
                                ⟨(some 159), (.bin .sub (.t 157) (.t 158)), none⟩,
                                ⟨(some 4), (.mov (.t 159)), none⟩])
                              .ret))
                            .skip)))
                         (.ops [
                           ⟨(some 125), (.mov (.t 9)), none⟩,
                           ⟨(some 126), (.bin .add (.t 125) (.c (.int .i64 1))), none⟩,
                           ⟨(some 9), (.mov (.t 126)), none⟩])))))) .nil)))
                  (.seq
                   (.ops [
                     ⟨(some 4), (.mov (.c (.int .i64 (-1)))), none⟩])
                   .ret)))))))))
          (.cons 1 (.seq
           .skip
           (.seq
            (.cond (.c (.bool true))
             (.seq
              (.ops [
                ⟨(some 99), (.mov (.t 0)), none⟩,
                ⟨(some 100), (.mov (.t 9)), none⟩,
                ⟨(some 101), (.mov (.t 8)), none⟩,
                ⟨(some 102), (.bin .sub (.t 100) (.t 101)), none⟩,
                ⟨(some 103), (.sliceS (.t 99) (some (.t 102)) none), none⟩,
                ⟨(some 104), (.mov (.t 1)), none⟩,
                ⟨(some 105), (.cvIntStr (.t 104)), none⟩,
                ⟨(some 106), (.call (.f 44) [(.t 103), (.t 105)]), none⟩,
                ⟨(some 13), (.mov (.t 106)), none⟩])
              (.seq
               (.ops [
                 ⟨(some 107), (.mov (.t 13)), none⟩,
                 ⟨(some 108), (.bin .geq (.t 107) (.c (.int .i64 0))), none⟩])
               (.cond (.t 108)
                (.seq
                 (.ops [
                   ⟨(some 109), (.mov (.t 9)), none⟩,
                   ⟨(some 110), (.mov (.t 13)), none⟩,
                   ⟨(some 111), (.bin .add (.t 109) (.t 110)), none⟩,
                   ⟨(some 112), (.mov (.t 8)), none⟩,
                   ⟨(some 113), (.bin .sub (.t 111) (.t 112)), none⟩,
                   ⟨(some 4), (.mov (.t 113)), none⟩])
                 .ret)
                .skip)))
             (.scope
              (.seq
               (.ops [
                 ⟨(some 114), (.mov (.t 7)), none⟩,
                 ⟨(some 115), (.mov (.t 8)), none⟩,
                 ⟨(some 116), (.idx (.t 114) (.t 115)), none⟩,
                 ⟨(some 14), (.mov (.t 116)), none⟩])
               (.seq
                (.ops [
                  ⟨(some 117), (.mov (.t 7)), none⟩,
                  ⟨(some 118), (.mov (.t 8)), none⟩,
                  ⟨(some 119), (.bin .sub (.t 118) (.c (.int .i64 1))), none⟩,
                  ⟨(some 120), (.idx (.t 117) (.t 119)), none⟩,
                  ⟨(some 15), (.mov (.t 120)), none⟩])
                (.seq
                 (.label 2)
                 (.block 5
                  (.loop
                   (.seq
                    (.seq
                     (.ops [
                       ⟨(some 121), (.mov (.t 9)), none⟩,
                       ⟨(some 122), (.mov (.t 0)), none⟩,
                       ⟨(some 123), (.lenS (.t 122)), none⟩,
                       ⟨(some 124), (.bin .lss (.t 121) (.t 123)), none⟩])
                     (.cond (.t 124)
                      .skip
                      (.exit 5)))
                    (.seq
                     (.block 6
                      (.seq
                       (.ops [
                         ⟨(some 127), (.mov (.t 0)), none⟩,
                         ⟨(some 128), (.mov (.t 9)), none⟩,
                         ⟨(some 129), (.idx (.t 127) (.t 128)), none⟩,
                         ⟨(some 130), (.mov (.t 14)), none⟩,
                         ⟨(some 131), (.bin .eql (.t 129) (.t 130)), none⟩,
                         ⟨(some 132), (.mov (.t 131)), none⟩,
                         ⟨(some 133), (.mov (.t 0)), (some (132, true))⟩,
                         ⟨(some 134), (.mov (.t 9)), (some (132, true))⟩,
                         ⟨(some 135), (.bin .sub (.t 134) (.c (.int .i64 1))), (some (132, true))⟩,
                         ⟨(some 136), (.idx (.t 133) (.t 135)), (some (132, true))⟩,
                         ⟨(some 137), (.mov (.t 15)), (some (132, true))⟩,
                         ⟨(some 138), (.bin .eql (.t 136) (.t 137)), (some (132, true))⟩,
                         ⟨(some 139), (.pick (.t 132) (.t 138) (.c (.bool false))), none⟩])
                       (.cond (.t 139)
                        (.seq
                         (.seq
                          (.ops [
                            ⟨(some 16), (.mov (.c (.int .i64 2))), none⟩])
                          (.block 7
                           (.loop
                            (.seq
                             (.seq
                              (.ops [
                                ⟨(some 140), (.mov (.t 16)), none⟩,
                                ⟨(some 141), (.mov (.t 7)), none⟩,
                                ⟨(some 142), (.lenS (.t 141)), none⟩,
                                ⟨(some 143), (.bin .lss (.t 140) (.t 142)), none⟩])
                              (.cond (.t 143)
                               .skip
                               (.exit 7)))
                             (.seq
                              (.block 8
                               (.seq
                                (.draw [
                                  ⟨(some 146), (.mov (.t 0)), none⟩,
                                  ⟨(some 147), (.mov (.t 9)), none⟩,
                                  ⟨(some 148), (.mov (.t 16)), none⟩,
                                  ⟨(some 149), (.bin .sub (.t 147) (.t 148)), none⟩,
                                  ⟨(some 150), (.idx (.t 146) (.t 149)), none⟩,
                                  ⟨(some 151), (.mov (.t 7)), none⟩,
                                  ⟨(some 152), (.mov (.t 8)), none⟩,
                                  ⟨(some 153), (.mov (.t 16)), none⟩,
                                  ⟨(some 154), (.bin .sub (.t 152) (.t 153)), none⟩,
                                  ⟨(some 155), (.idx (.t 151) (.t 154)), none⟩,
                                  ⟨(some 156), (.bin .neq (.t 150) (.t 155)), none⟩])
                                (.cond (.t 156)
                                 (.exit 6)
                                 .skip)))
                              (.ops [
                                ⟨(some 144), (.mov (.t 16)), none⟩,
                                ⟨(some 145), (.bin .add (.t 144) (.c (.int .i64 1))), none⟩,
                                ⟨(some 16), (.mov (.t 145)), none⟩]))))))
                         (.seq
                          (.ops [
                            ⟨(some 157), (.mov (.t 9)), none⟩,
                            ⟨(some 158), (.mov (.t 8)), none⟩,
                            ⟨(some 159), (.bin .sub (.t 157) (.t 158)), none⟩,
                            ⟨(some 4), (.mov (.t 159)), none⟩])
                          .ret))
                        .skip)))
                     (.ops [
                       ⟨(some 125), (.mov (.t 9)), none⟩,
                       ⟨(some 126), (.bin .add (.t 125) (.c (.int .i64 1))), none⟩,
                       ⟨(some 9), (.mov (.t 126)), none⟩]))))))))
              (.cons 2 (.seq
               .skip
               (.block 5
                (.loop
                 (.seq
                  (.seq
                   (.ops [
                     ⟨(some 121), (.mov (.t 9)), none⟩,
                     ⟨(some 122), (.mov (.t 0)), none⟩,
                     ⟨(some 123), (.lenS (.t 122)), none⟩,
                     ⟨(some 124), (.bin .lss (.t 121) (.t 123)), none⟩])
                   (.cond (.t 124)
                    .skip
                    (.exit 5)))
                  (.seq
                   (.block 6
                    (.seq
                     (.ops [
                       ⟨(some 127), (.mov (.t 0)), none⟩,
                       ⟨(some 128), (.mov (.t 9)), none⟩,
                       ⟨(some 129), (.idx (.t 127) (.t 128)), none⟩,
                       ⟨(some 130), (.mov (.t 14)), none⟩,
                       ⟨(some 131), (.bin .eql (.t 129) (.t 130)), none⟩,
                       ⟨(some 132), (.mov (.t 131)), none⟩,
                       ⟨(some 133), (.mov (.t 0)), (some (132, true))⟩,
                       ⟨(some 134), (.mov (.t 9)), (some (132, true))⟩,
                       ⟨(some 135), (.bin .sub (.t 134) (.c (.int .i64 1))), (some (132, true))⟩,
                       ⟨(some 136), (.idx (.t 133) (.t 135)), (some (132, true))⟩,
                       ⟨(some 137), (.mov (.t 15)), (some (132, true))⟩,
                       ⟨(some 138), (.bin .eql (.t 136) (.t 137)), (some (132, true))⟩,
                       ⟨(some 139), (.pick (.t 132) (.t 138) (.c (.bool false))), none⟩])
                     (.cond (.t 139)
                      (.seq
                       (.seq
                        (.ops [
                          ⟨(some 16), (.mov (.c (.int .i64 2))), none⟩])
                        (.block 7
                         (.loop
                          (.seq
                           (.seq
                            (.ops [
                              ⟨(some 140), (.mov (.t 16)), none⟩,
                              ⟨(some 141), (.mov (.t 7)), none⟩,
                              ⟨(some 142), (.lenS (.t 141)), none⟩,
                              ⟨(some 143), (.bin .lss (.t 140) (.t 142)), none⟩])
                            (.cond (.t 143)
                             .skip
                             (.exit 7)))
                           (.seq
                            (.block 8
                             (.seq
                              (.draw [
                                ⟨(some 146), (.mov (.t 0)), none⟩,
                                ⟨(some 147), (.mov (.t 9)), none⟩,
                                ⟨(some 148), (.mov (.t 16)), none⟩,
                                ⟨(some 149), (.bin .sub (.t 147) (.t 148)), none⟩,
                                ⟨(some 150), (.idx (.t 146) (.t 149)), none⟩,
                                ⟨(some 151), (.mov (.t 7)), none⟩,
                                ⟨(some 152), (.mov (.t 8)), none⟩,
                                ⟨(some 153), (.mov (.t 16)), none⟩,
                                ⟨(some 154), (.bin .sub (.t 152) (.t 153)), none⟩,
                                ⟨(some 155), (.idx (.t 151) (.t 154)), none⟩,
                                ⟨(some 156), (.bin .neq (.t 150) (.t 155)), none⟩])
                              (.cond (.t 156)
                               (.exit 6)
                               .skip)))
                            (.ops [
                              ⟨(some 144), (.mov (.t 16)), none⟩,
                              ⟨(some 145), (.bin .add (.t 144) (.c (.int .i64 1))), none⟩,
                              ⟨(some 16), (.mov (.t 145)), none⟩]))))))
                       (.seq
                        (.ops [
                          ⟨(some 157), (.mov (.t 9)), none⟩,
                          ⟨(some 158), (.mov (.t 8)), none⟩,
                          ⟨(some 159), (.bin .sub (.t 157) (.t 158)), none⟩,
                          ⟨(some 4), (.mov (.t 159)), none⟩])
                        .ret))
                      .skip)))
                   (.ops [
                     ⟨(some 125), (.mov (.t 9)), none⟩,
                     ⟨(some 126), (.bin .add (.t 125) (.c (.int .i64 1))), none⟩,
                     ⟨(some 9), (.mov (.t 126)), none⟩])))))) .nil)))
            (.seq
             (.ops [
               ⟨(some 4), (.mov (.c (.int .i64 (-1)))), none⟩])
             .ret))) .nil))))))))))

/- "tiller/front.Quote" params { toList := [9] } results { toList := [Go.ResultVar.tmp 2] } -/
def y23 : XC :=
 (.seq
  (.ops [
    ⟨(some 2), (.mov (.c (.str []))), none⟩])
  (.seq
   (.ops [
     ⟨(some 3), (.ex (.allocT 47 [(.raw (.pointer none)), (.raw (.slice none 0 0))]) []), none⟩])
   (.seq
    (.ops [
      ⟨(some 8), (.call (.f 20) [(.t 3), (.c (.int .u8 34))]), none⟩])
    (.seq
     (.seq
      (.ops [
        ⟨(some 4), (.mov (.c (.int .i64 0))), none⟩])
      (.block 0
       (.loop
        (.seq
         (.seq
          (.ops [
            ⟨(some 9), (.mov (.t 4)), none⟩,
            ⟨(some 10), (.mov (.t 0)), none⟩,
            ⟨(some 11), (.lenS (.t 10)), none⟩,
            ⟨(some 12), (.bin .lss (.t 9) (.t 11)), none⟩])
          (.cond (.t 12)
           .skip
           (.exit 0)))
         (.block 1
          (.seq
           (.ops [
             ⟨(some 14), (.mov (.t 0)), none⟩,
             ⟨(some 15), (.mov (.t 4)), none⟩,
             ⟨(some 16), (.sliceS (.t 14) (some (.t 15)) none), none⟩,
             ⟨(some 17), (.call (.f 21) [(.t 16)]), none⟩,
             ⟨(some 13), (.mov (.t 17)), none⟩,
             ⟨(some 18), (.ext (.t 13) 0), none⟩,
             ⟨(some 19), (.ext (.t 13) 1), none⟩,
             ⟨(some 5), (.mov (.t 18)), none⟩,
             ⟨(some 6), (.mov (.t 19)), none⟩])
           (.seq
            (.ops [
              ⟨(some 20), (.mov (.t 5)), none⟩,
              ⟨(some 21), (.call (.f 22) [(.c (.str [8, 12, 10, 13, 9, 34, 92])), (.t 20)]), none⟩,
              ⟨(some 7), (.mov (.t 21)), none⟩])
            (.seq
             (.block 2
              (.seq
               (.ops [
                 ⟨(some 30), (.mov (.t 5)), none⟩,
                 ⟨(some 31), (.bin .eql (.t 30) (.c (.int .i32 65533))), none⟩,
                 ⟨(some 32), (.mov (.t 31)), none⟩,
                 ⟨(some 33), (.mov (.t 6)), (some (32, true))⟩,
                 ⟨(some 34), (.bin .eql (.t 33) (.c (.int .i64 1))), (some (32, true))⟩,
                 ⟨(some 35), (.pick (.t 32) (.t 34) (.c (.bool false))), none⟩,
                 ⟨(some 29), (.mov (.t 35)), none⟩])
               (.cond (.t 29)
                (.ops [
                  ⟨(some 36), (.call (.f 23) [(.t 3), (.c (.str [92, 117, 102, 102, 102, 100]))]), none⟩])
                (.seq
                 (.ops [
                   ⟨(some 38), (.mov (.t 7)), none⟩,
                   ⟨(some 39), (.bin .geq (.t 38) (.c (.int .i64 0))), none⟩,
                   ⟨(some 37), (.mov (.t 39)), none⟩])
                 (.cond (.t 37)
                  (.ops [
                    ⟨(some 40), (.mov (.t 7)), none⟩,
                    ⟨(some 41), (.mov (.t 7)), none⟩,
                    ⟨(some 42), (.bin .add (.t 41) (.c (.int .i64 1))), none⟩,
                    ⟨(some 43), (.sliceS (.c (.str [98, 102, 110, 114, 116, 34, 92])) (some (.t 40)) (some (.t 42))), none⟩,
                    ⟨(some 44), (.bin .add (.c (.str [92])) (.t 43)), none⟩,
                    ⟨(some 45), (.call (.f 23) [(.t 3), (.t 44)]), none⟩])
                  (.seq
                   (.ops [
                     ⟨(some 47), (.mov (.t 5)), none⟩,
                     ⟨(some 48), (.bin .lss (.t 47) (.c (.int .i32 32))), none⟩,
                     ⟨(some 46), (.mov (.t 48)), none⟩])
                   (.cond (.t 46)
                    (.drawE [
                      ⟨(some 49), (.mov (.t 5)), none⟩,
                      ⟨(some 50), (.bin .quo (.t 49) (.c (.int .i32 16))), none⟩,
                      ⟨(some 51), (.mov (.t 5)), none⟩,
                      ⟨(some 52), (.bin .quo (.t 51) (.c (.int .i32 16))), none⟩,
                      ⟨(some 53), (.bin .add (.t 52) (.c (.int .i32 1))), none⟩,
                      ⟨(some 54), (.sliceS (.c (.str [48, 49, 50, 51, 52, 53, 54, 55, 56, 57, 97, 98, 99, 100, 101, 102])) (some (.t 50)) (some (.t 53))), none⟩,
                      ⟨(some 55), (.bin .add (.c (.str [92, 117, 48, 48])) (.t 54)), none⟩,
                      ⟨(some 56), (.mov (.t 5)), none⟩,
                      ⟨(some 57), (.bin .rem (.t 56) (.c (.int .i32 16))), none⟩,
                      ⟨(some 58), (.mov (.t 5)), none⟩,
                      ⟨(some 59), (.bin .rem (.t 58) (.c (.int .i32 16))), none⟩,
                      ⟨(some 60), (.bin .add (.t 59) (.c (.int .i32 1))), none⟩,
                      ⟨(some 61), (.sliceS (.c (.str [48, 49, 50, 51, 52, 53, 54, 55, 56, 57, 97, 98, 99, 100, 101, 102])) (some (.t 57)) (some (.t 60))), none⟩,
                      ⟨(some 62), (.bin .add (.t 55) (.t 61)), none⟩,
                      ⟨(some 63), (.call (.f 23) [(.t 3), (.t 62)]), none⟩])
                    (.ops [
                      ⟨(some 22), (.mov (.t 0)), none⟩,
                      ⟨(some 23), (.mov (.t 4)), none⟩,
                      ⟨(some 24), (.mov (.t 4)), none⟩,
                      ⟨(some 25), (.mov (.t 6)), none⟩,
                      ⟨(some 26), (.bin .add (.t 24) (.t 25)), none⟩,
                      ⟨(some 27), (.sliceS (.t 22) (some (.t 23)) (some (.t 26))), none⟩,
                      ⟨(some 28), (.call (.f 23) [(.t 3), (.t 27)]), none⟩]))))))))
             (.ops [
               ⟨(some 64), (.mov (.t 4)), none⟩,
               ⟨(some 65), (.mov (.t 6)), none⟩,
               ⟨(some 66), (.bin .add (.t 64) (.t 65)), none⟩,
               ⟨(some 4), (.mov (.t 66)), none⟩])))))))))
     (.seq
      (.ops [
        ⟨(some 67), (.call (.f 20) [(.t 3), (.c (.int .u8 34))]), none⟩])
      (.seq
       (.ops [
         ⟨(some 68), (.call (.f 24) [(.t 3)]), none⟩,
         ⟨(some 2), (.mov (.t 68)), none⟩])
       .ret))))))

section
variable {E : Env} {L : List Blk} {K : IV → List Blk → Prop}
/-- No label is gone to. -/
def noGoto (K : XE → Rho → List Blk → Prop) : XE → Rho → List Blk → Prop
  | .goto _, _, _ => False
  | e, ρ, L => K e ρ L
section
variable {ρ : Rho} {KX : XE → Rho → List Blk → Prop}
@[go_sem ↓] theorem noGoto_n : noGoto KX .normal ρ L = KX .normal ρ L := nr rfl
@[go_sem ↓] theorem noGoto_r : noGoto KX .ret ρ L = KX .ret ρ L := nr rfl
@[go_sem ↓] theorem noGoto_e {i : Nat} : noGoto KX (.exit i) ρ L = KX (.exit i) ρ L := nr rfl
theorem s_scope0 {b : XC} {ls : XLabs} (h : xrun E b ρ L (noGoto KX)) : xrun E (.scope b ls) ρ L KX := by
  simp only [xrun]
  refine ⟨0, xrun_mono _ (fun e ρ' L' h => ?_) h⟩
  cases e with
  | goto l => exact h.elim
  | normal => exact h
  | exit => exact h
  | ret => exact h
end
def Scalar (c : Nat) : Prop := c < 55296 ∨ (57343 < c ∧ c ≤ 1114111)
theorem validRune_pure (hP : E.P = Tryz.prog) (c : Nat) (h : Scalar c) : XPure E 42 [.int .i32 c] (.bool true) := by
  refine xpure1 (n := Tryz.f42.ntmps) (c := y79) (t := 2) (by rw [hP]; rfl) (by rw [hP]; kernel_rfl) (by decide) (Nat.le_of_ble_eq_true rfl) ?_
  generalize hρ : entry _ = ρ
  have h0 : ρ 0 = .int .i32 c := by rw [← hρ]; rfl
  clear hρ
  unfold y79
  have e0 : ((0 : Int) ≤ (c : Int)) = True := eq_true (by omega)
  rcases h with h | ⟨h1, h2⟩
  · have e1 : ((c : Int) < 55296) = True := eq_true (by omega)
    simp only [h0, e0, e1, go_sem, Nat.reduceEqDiff, reduceIte, Int.reduceEq, Int.reduceLT, Int.reduceLE, Nat.reduceAdd, Nat.reduceLT, Nat.reduceLeDiff, Int.reduceToNat, Int.reduceSub, Int.reduceAdd, Int.reduceNeg]
    rfl
  · have e1 : ((c : Int) < 55296) = False := eq_false (by omega)
    have e2 : ((57343 : Int) < (c : Int)) = True := eq_true (by omega)
    have e3 : ((c : Int) ≤ 1114111) = True := eq_true (by omega)
    simp only [h0, e0, e1, e2, e3, go_sem, Nat.reduceEqDiff, reduceIte, Int.reduceEq, Int.reduceLT, Int.reduceLE, Nat.reduceAdd, Nat.reduceLT, Nat.reduceLeDiff, Int.reduceToNat, Int.reduceSub, Int.reduceAdd, Int.reduceNeg]
    rfl
def idx7 (c : Nat) : Int := match qL.findIdx? (fun b => decide (b.toNat = c)) with
  | some k => k
  | none => -1
theorem idx7_ascii : ∀ c : Fin 128, Lib.indexByte qL (UInt8.ofNat c.val) = idx7 c.val := by decide +kernel
theorem idx7_big (c : Nat) (h : 128 ≤ c) : idx7 c = -1 := by
  have : qL.findIdx? (fun b => decide (b.toNat = c)) = none := by
    rw [List.findIdx?_eq_none_iff]
    intro b hb
    rw [decide_eq_false_iff_not]
    unfold qL at hb
    simp only [List.mem_cons, List.not_mem_nil, or_false] at hb
    rcases hb with rfl | rfl | rfl | rfl | rfl | rfl | rfl
    all_goals intro he
    all_goals simp at he
    all_goals omega
  unfold idx7
  rw [this]
theorem qL_idx : ∀ b : UInt8, 128 ≤ b.toNat → ∀ k, k ≤ 7 → Lib.indexByte (qL.drop k) b = -1 := by
  intro b hb k hk
  have : ∀ x ∈ qL.drop k, x ≠ b := fun x hx he => by
    subst he
    have hm := List.mem_of_mem_drop hx
    unfold qL at hm
    simp only [List.mem_cons, List.not_mem_nil, or_false] at hm
    rcases hm with rfl | rfl | rfl | rfl | rfl | rfl | rfl
    all_goals revert hb; decide
  revert this
  generalize qL.drop k = l
  clear hk k
  induction l with
  | nil => intro _; rfl
  | cons x l ih =>
    intro h
    unfold Lib.indexByte
    have hx : (x == b) = false := by rw [beq_eq_false_iff_ne]; exact h x (by simp)
    rw [hx, ih (fun y hy => h y (by simp [hy]))]; rfl
theorem o_nxtT {KV : IV → List Blk → Prop} {s p : Nat} {t : List UInt8} (hL : L[s]? = some (.siter t p)) (h : p < t.length) : xop E (.nxt (.c (.ptr s 0 0))) cev L KV = KV (.tup [.bool true, .int .i64 p, .int .i32 (Utf8.decode ⟨t.toArray⟩ p).1]) (L.set s (.siter t (p + (Utf8.decode ⟨t.toArray⟩ p).2))) := by
  simp only [xop, cev, Opd.ev, hL, if_pos h]
theorem o_nxtF {KV : IV → List Blk → Prop} {s p : Nat} {t : List UInt8} (hL : L[s]? = some (.siter t p)) (h : ¬ p < t.length) : xop E (.nxt (.c (.ptr s 0 0))) cev L KV = KV (.tup [.bool false]) L := by
  simp only [xop, cev, Opd.ev, hL, if_neg h]
theorem qL_get : ∀ k : Fin 7, (qL.getD k.val 0).toNat < 128 := by decide
theorem enc_last (c : Nat) (h128 : 128 ≤ c) (hc : Scalar c) : ∃ t b, (Utf8.encode (c : Int)).data.toList = t ++ [b] ∧ 1 ≤ t.length ∧ t.length ≤ 3 ∧ 128 ≤ b.toNat := by
  have hv : Utf8.valid (c : Int) = true := by
    unfold Scalar at hc
    simp [Utf8.valid]; omega
  unfold Utf8.encode
  rw [hv]
  simp only [if_true, Int.toNat_natCast]
  have hb : ∀ n, 128 ≤ n → n < 256 → 128 ≤ (UInt8.ofNat n).toNat := fun n h1 h2 => by rw [UInt8.toNat_ofNat']; omega
  unfold Scalar at hc
  repeat' split
  · exfalso; omega
  · exact ⟨[_], _, rfl, by simp, by simp, hb _ (by omega) (by omega)⟩
  · exact ⟨[_, _], _, rfl, by simp, by simp, hb _ (by omega) (by omega)⟩
  · exact ⟨[_, _, _], _, rfl, by simp, by simp, hb _ (by omega) (by omega)⟩
theorem index7_pure (hP : E.P = Tryz.prog) (c : Nat) (hc : Scalar c) : XPure E 22 [.str [8, 12, 10, 13, 9, 34, 92], .int .i32 c] (.int .i64 (idx7 c)) := by
  refine xpure1 (n := Tryz.f22.ntmps) (c := y50) (t := 4) (by rw [hP]; rfl) (by rw [hP]; kernel_rfl) (by decide) (Nat.le_of_ble_eq_true rfl) ?_
  generalize hρ : entry _ = ρ
  have h0 : ρ 0 = .str [8, 12, 10, 13, 9, 34, 92] := by rw [← hρ]; rfl
  have h1 : ρ 1 = .int .i32 c := by rw [← hρ]; rfl
  clear hρ
  unfold y50
  have e0 : ((0 : Int) ≤ (c : Int)) = True := eq_true (by omega)
  by_cases a : c < 128
  · have e1 : ((c : Int) < 128) = True := eq_true (by omega)
    have hw : IntKind.u8.wrap (c : Int) = ((UInt8.ofNat c).toNat : Int) := by
      rw [u8n c (by omega), UInt8.toNat_ofNat', Nat.mod_eq_of_lt (by omega)]
    simp only [h0, h1, e0, e1, hw, go_sem, Nat.reduceEqDiff, reduceIte, Int.reduceEq, Int.reduceLT, Int.reduceLE, Nat.reduceAdd, Nat.reduceLT, Nat.reduceLeDiff, Int.reduceToNat, Int.reduceSub, Int.reduceAdd, Int.reduceNeg]
    have hi := idx7_ascii ⟨c, a⟩
    dsimp only at hi
    refine xcall_pure (args' := [.str qL, .int .u8 (UInt8.ofNat c).toNat]) rfl (indexByte_pure (E := E.noPan) hP qL (UInt8.ofNat c)) rfl ?_
    rw [hi]
    simp only [h0, h1, go_sem, Nat.reduceEqDiff, reduceIte, Int.reduceEq, Int.reduceLT, Int.reduceLE, Nat.reduceAdd, Nat.reduceLT, Nat.reduceLeDiff, Int.reduceToNat, Int.reduceSub, Int.reduceAdd, Int.reduceNeg]
    rfl
  have e1 : ((c : Int) < 128) = False := eq_false (by omega)
  rw [idx7_big c (by omega)]
  by_cases b : c = 65533
  · have e2 : ((c : Int) = 65533) = True := eq_true (by omega)
    simp only [h0, h1, e0, e1, e2, go_sem, Nat.reduceEqDiff, reduceIte, Int.reduceEq, Int.reduceLT, Int.reduceLE, Nat.reduceAdd, Nat.reduceLT, Nat.reduceLeDiff, Int.reduceToNat, Int.reduceSub, Int.reduceAdd, Int.reduceNeg]
    refine s_loop (fun n ρ L => ∃ p : Nat, p ≤ 7 ∧ n = 7 - p ∧ ρ 175 = .ptr 0 0 0 ∧ L = [.siter qL p]) (n := 7) ⟨0, by omega, rfl, by simp only [go_sem, Nat.reduceEqDiff, reduceIte, Int.reduceEq, Int.reduceLT, Int.reduceLE, Nat.reduceAdd, Nat.reduceLT, Nat.reduceLeDiff, Int.reduceToNat, Int.reduceSub, Int.reduceAdd, Int.reduceNeg]; try rfl, rfl⟩ ?_
    clear h0 h1 ρ
    rintro n ρ L ⟨p, hp, rfl, h175, rfl⟩
    have hd : ∀ p : Fin 7, (Utf8.decode ⟨qL.toArray⟩ p.val).2 = 1 ∧ (Utf8.decode ⟨qL.toArray⟩ p.val).1 < 128 := by decide +kernel
    by_cases h7 : p < 7
    · obtain ⟨d1, d2⟩ := hd ⟨p, h7⟩
      dsimp only at d1 d2
      have hlt : p < qL.length := h7
      simp only [h175, o_nxtT (L := [.siter qL p]) (s := 0) rfl hlt, go_sem, Nat.reduceEqDiff, reduceIte, Int.reduceEq, Int.reduceLT, Int.reduceLE, Nat.reduceAdd, Nat.reduceLT, Nat.reduceLeDiff, Int.reduceToNat, Int.reduceSub, Int.reduceAdd, Int.reduceNeg]
      generalize Utf8.decode ⟨qL.toArray⟩ p = d at *
      have f1 : ((d.1 : Int) = 65533) = False := eq_false (by omega)
      simp only [h175, f1, go_sem, Nat.reduceEqDiff, reduceIte, Int.reduceEq, Int.reduceLT, Int.reduceLE, Nat.reduceAdd, Nat.reduceLT, Nat.reduceLeDiff, Int.reduceToNat, Int.reduceSub, Int.reduceAdd, Int.reduceNeg]
      exact ⟨7 - (p + 1), by omega, p + 1, by omega, rfl, by rw [d1]⟩
    · have hlt : ¬ p < qL.length := h7
      simp only [h175, o_nxtF (L := [.siter qL p]) (s := 0) rfl hlt, go_sem, Nat.reduceEqDiff, reduceIte, Int.reduceEq, Int.reduceLT, Int.reduceLE, Nat.reduceAdd, Nat.reduceLT, Nat.reduceLeDiff, Int.reduceToNat, Int.reduceSub, Int.reduceAdd, Int.reduceNeg]
      rfl
  have e2 : ((c : Int) = 65533) = False := eq_false (by omega)
  simp only [h0, h1, e0, e1, e2, go_sem, Nat.reduceEqDiff, reduceIte, Int.reduceEq, Int.reduceLT, Int.reduceLE, Nat.reduceAdd, Nat.reduceLT, Nat.reduceLeDiff, Int.reduceToNat, Int.reduceSub, Int.reduceAdd, Int.reduceNeg]
  refine xcall_pure (args' := [.int .i32 c]) rfl (validRune_pure (E := E.noPan) hP c hc) rfl ?_
  simp only [h0, h1, e0, e1, e2, go_sem, Nat.reduceEqDiff, reduceIte, Int.reduceEq, Int.reduceLT, Int.reduceLE, Nat.reduceAdd, Nat.reduceLT, Nat.reduceLeDiff, Int.reduceToNat, Int.reduceSub, Int.reduceAdd, Int.reduceNeg]
  refine s_scope0 ?_
  obtain ⟨t, b, ht, t1, t3, hb⟩ := enc_last c (by omega) hc
  have hw : IntKind.i64.wrap (((t ++ [b]).length : Int) - 1) = (t.length : Int) := by rw [List.length_append, List.length_singleton, wrap64 (by omega) (by omega)]; omega
  simp only [h0, h1, ht, hw, go_sem, Nat.reduceEqDiff, reduceIte, Int.reduceEq, Int.reduceLT, Int.reduceLE, Nat.reduceAdd, Nat.reduceLT, Nat.reduceLeDiff, Int.reduceToNat, Int.reduceSub, Int.reduceAdd, Int.reduceNeg]
  refine s_loop1 ?_
  have e3 : ((t.length : Int) < 7) = True := eq_true (by omega)
  simp only [h0, h1, ht, hw, e3, go_sem, Nat.reduceEqDiff, reduceIte, Int.reduceEq, Int.reduceLT, Int.reduceLE, Nat.reduceAdd, Nat.reduceLT, Nat.reduceLeDiff, Int.reduceToNat, Int.reduceSub, Int.reduceAdd, Int.reduceNeg]
  refine s_scope0 ?_
  have e4 : ((t.length : Int) < ((t ++ [b]).length : Int)) = True := eq_true (by rw [List.length_append, List.length_singleton]; omega)
  have e5 : ((0 : Int) ≤ (t.length : Int)) = True := eq_true (by omega)
  have g1 : (t ++ [b]).getD t.length 0 = b := by rw [List.getD_eq_getElem?_getD, List.getElem?_append_right (Nat.le_refl _), Nat.sub_self]; rfl
  have e6 : (((([8, 12, 10, 13, 9, 34, 92] : List UInt8).getD t.length 0).toNat : Int) = (b.toNat : Int)) = False := eq_false (fun h => by
    have := qL_get ⟨t.length, by omega⟩
    unfold qL at this
    dsimp only at this
    omega)
  simp only [h0, h1, ht, hw, e3, e4, e5, g1, e6, go_sem, Nat.reduceEqDiff, reduceIte, Int.reduceEq, Int.reduceLT, Int.reduceLE, Nat.reduceAdd, Nat.reduceLT, Nat.reduceLeDiff, Int.reduceToNat, Int.reduceSub, Int.reduceAdd, Int.reduceNeg]
  have hw2 : IntKind.i64.wrap ((t.length : Int) + 1) = ((t.length + 1 : Nat) : Int) := by rw [wrap64 (by omega) (by omega)]; rfl
  rw [hw2]
  refine ⟨by rfl, by omega, by omega, ?_⟩
  have hix := qL_idx b hb (t.length + 1) (by omega)
  refine o_pcall (args' := [.str (qL.drop (t.length + 1)), .int .u8 b.toNat]) (r := .int .i64 (-1)) rfl (by rw [← hix]; exact indexByte_pure hP _ b) (fun m => rfl) ?_
  simp only [h0, h1, go_sem, Nat.reduceEqDiff, reduceIte, Int.reduceEq, Int.reduceLT, Int.reduceLE, Nat.reduceAdd, Nat.reduceLT, Nat.reduceLeDiff, Int.reduceToNat, Int.reduceSub, Int.reduceAdd, Int.reduceNeg]
  rfl
theorem decL_le4 (l : List UInt8) : (Lib.decodeL l).2 ≤ 4 := by
  rw [Lib.decodeL_N]
  unfold Lib.decodeN
  repeat' split
  all_goals simp only
  all_goals omega
theorem dec_scalar (l : List UInt8) : Scalar (Lib.decodeL l).1 := by
  rw [Lib.decodeL_N]
  unfold Scalar
  have k0 := (l.getD 0 0).toNat_lt
  rcases Lib.decodeN_shape l.length (l.getD 0 0).toNat (l.getD 1 0).toNat (l.getD 2 0).toNat (l.getD 3 0).toNat with ⟨c, e⟩ | ⟨q1, q2, q3, cv, e⟩ | ⟨q1, q2, q3, q4, cv, cs, e⟩ | ⟨q1, q2, q3, q4, q5, cv, cw, e⟩ | e
  all_goals rw [e]
  all_goals simp only
  all_goals omega
theorem idx7_some {c k : Nat} (h : qL.findIdx? (fun b => decide (b.toNat = c)) = some k) : idx7 c = k ∧ k < 7 := by
  unfold idx7
  rw [h]
  exact ⟨rfl, (List.findIdx?_eq_some_iff_getElem.1 h).1⟩
theorem idx7_none {c : Nat} (h : qL.findIdx? (fun b => decide (b.toNat = c)) = none) : idx7 c = -1 := by
  unfold idx7
  rw [h]
theorem qR_cut : ∀ k : Fin 7, List.drop k.val (98 :: List.take k.val [102, 110, 114, 116, 34, 92]) = [qR.getD k.val 0] := by decide
theorem hex_cut : ∀ k : Fin 16, List.drop k.val (48 :: List.take k.val [49, 50, 51, 52, 53, 54, 55, 56, 57, 97, 98, 99, 100, 101, 102]) = [Fr.hexD.getD k.val 0] := by decide
theorem wrap32n {n : Nat} (h : n < 2147483648) : IntKind.i32.wrap (n : Int) = n := by
  unfold IntKind.wrap
  simp [IntKind.signed, IntKind.bits]
  omega
theorem quote_pure (hP : E.P = Tryz.prog) (ht : ∀ w, E.G w → Lib.Utf8Tabs 0 1 w) (s : List UInt8) (hs : s.length ≤ 140737488351) : XPure E 7 [.str s] (.str (quoteF s)) := by
  refine xpure1 (n := Tryz.f7.ntmps) (c := y23) (t := 2) (by rw [hP]; rfl) (by rw [hP]; kernel_rfl) (by decide) (Nat.le_of_ble_eq_true rfl) ?_
  generalize hρ : entry _ = ρ
  have h0 : ρ 0 = .str s := by rw [← hρ]; rfl
  clear hρ
  unfold y23
  simp only [h0, go_sem, Nat.reduceEqDiff, reduceIte, Int.reduceEq, Int.reduceLT, Int.reduceLE, Nat.reduceAdd, Nat.reduceLT, Nat.reduceLeDiff, Int.reduceToNat, Int.reduceSub, Int.reduceAdd, Int.reduceNeg]
  refine wr_call (E := E.noPan) (writeByte_ok (E := E.noPan) hP 34) rfl rfl (.inl ⟨rfl, rfl⟩) (by simp) (by simp) fun L1 hB1 _ => ?_
  rw [List.nil_append] at hB1
  simp only [h0, go_sem, Nat.reduceEqDiff, reduceIte, Int.reduceEq, Int.reduceLT, Int.reduceLE, Nat.reduceAdd, Nat.reduceLT, Nat.reduceLeDiff, Int.reduceToNat, Int.reduceSub, Int.reduceAdd, Int.reduceNeg]
  refine xrun_cut (fun e ρ' L' => e = .exit 0 ∧ ρ' 3 = .ptr 0 0 0 ∧ Bld L' 0 (34 :: quoteGo s.length s)) ?_ ?_
  rotate_left
  · rintro e ρ L ⟨rfl, h3, hB⟩
    have hql := quoteGo_len _ s (Nat.le_refl _)
    simp only [h3, go_sem, Nat.reduceEqDiff, reduceIte, Int.reduceEq, Int.reduceLT, Int.reduceLE, Nat.reduceAdd, Nat.reduceLT, Nat.reduceLeDiff, Int.reduceToNat, Int.reduceSub, Int.reduceAdd, Int.reduceNeg]
    refine wr_call (E := E.noPan) (writeByte_ok (E := E.noPan) hP 34) rfl rfl hB (by simp) (by simp; omega) fun L2 hB2 _ => ?_
    simp only [h3, go_sem, Nat.reduceEqDiff, reduceIte, Int.reduceEq, Int.reduceLT, Int.reduceLE, Nat.reduceAdd, Nat.reduceLT, Nat.reduceLeDiff, Int.reduceToNat, Int.reduceSub, Int.reduceAdd, Int.reduceNeg]
    refine str_call (E := E.noPan) hP hB2 (by simp; omega) fun L3 _ => ?_
    simp only [h3, go_sem, Nat.reduceEqDiff, reduceIte, Int.reduceEq, Int.reduceLT, Int.reduceLE, Nat.reduceAdd, Nat.reduceLT, Nat.reduceLeDiff, Int.reduceToNat, Int.reduceSub, Int.reduceAdd, Int.reduceNeg]
    rfl
  refine s_loop (fun n ρ L => ∃ (i : Nat) (out : List UInt8), i ≤ s.length ∧ n = s.length - i ∧ ρ 0 = .str s ∧ ρ 3 = .ptr 0 0 0 ∧ ρ 4 = .int .i64 i ∧ Bld L 0 out ∧ out.length ≤ 6 * i + 1 ∧
      out ++ quoteGo (s.drop i).length (s.drop i) = 34 :: quoteGo s.length s) (n := s.length)
    ⟨0, [34], Nat.zero_le _, rfl, by simp only [h0, go_sem, Nat.reduceEqDiff, reduceIte, Int.reduceEq, Int.reduceLT, Int.reduceLE, Nat.reduceAdd, Nat.reduceLT, Nat.reduceLeDiff, Int.reduceToNat, Int.reduceSub, Int.reduceAdd, Int.reduceNeg], by simp only [go_sem, Nat.reduceEqDiff, reduceIte, Int.reduceEq, Int.reduceLT, Int.reduceLE, Nat.reduceAdd, Nat.reduceLT, Nat.reduceLeDiff, Int.reduceToNat, Int.reduceSub, Int.reduceAdd, Int.reduceNeg]; try rfl, by simp only [go_sem, Nat.reduceEqDiff, reduceIte, Int.reduceEq, Int.reduceLT, Int.reduceLE, Nat.reduceAdd, Nat.reduceLT, Nat.reduceLeDiff, Int.reduceToNat, Int.reduceSub, Int.reduceAdd, Int.reduceNeg]; try rfl, hB1, by simp, rfl⟩ ?_
  clear h0 ρ hB1
  rintro n ρ L ⟨i, out, hi, rfl, h0, h3, h4, hB, hol, hq⟩
  by_cases hil : i < s.length
  case neg =>
    have e1 : ((i : Int) < (s.length : Int)) = False := eq_false (by omega)
    simp only [h0, h3, h4, e1, go_sem, Nat.reduceEqDiff, reduceIte, Int.reduceEq, Int.reduceLT, Int.reduceLE, Nat.reduceAdd, Nat.reduceLT, Nat.reduceLeDiff, Int.reduceToNat, Int.reduceSub, Int.reduceAdd, Int.reduceNeg]
    rw [List.drop_of_length_le (by omega)] at hq
    rw [← hq]
    simpa [quoteGo] using hB
  have e1 : ((i : Int) < (s.length : Int)) = True := eq_true (by omega)
  have hne : s.drop i ≠ [] := fun h => by have := congrArg List.length h; rw [List.length_drop] at this; simp at this; omega
  have hw := decL_w (s.drop i) hne
  have hsc := dec_scalar (s.drop i)
  have h4m := decL_le4 (s.drop i)
  have hst := quoteGo_step (s.drop i) hne
  have hcl := quoteCh_len (Lib.decodeL (s.drop i)).1 (Lib.decodeL (s.drop i)).2 (s.drop i) hw.2 hw.1
  rw [hst, ← List.append_assoc, List.drop_drop] at hq
  rw [List.length_drop] at hw
  simp only [h0, h3, h4, e1, go_sem, Nat.reduceEqDiff, reduceIte, Int.reduceEq, Int.reduceLT, Int.reduceLE, Nat.reduceAdd, Nat.reduceLT, Nat.reduceLeDiff, Int.reduceToNat, Int.reduceSub, Int.reduceAdd, Int.reduceNeg]
  refine ⟨by omega, ?_⟩
  refine xcall_pure (args' := [.str (s.drop i)]) rfl (decode_pure (E := E.noPan) hP ht (s.drop i) hne) rfl ?_
  generalize hd : Lib.decodeL (s.drop i) = d at *
  obtain ⟨c, m⟩ := d
  dsimp only at *
  have hne2 : quoteCh c m (s.drop i) ≠ [] := fun h => by rw [h] at hcl; simp at hcl
  have hwi : IntKind.i64.wrap ((i : Int) + (m : Int)) = ((i + m : Nat) : Int) := by rw [wrap64 (by omega) (by omega)]; rfl
  simp only [h0, h3, h4, go_sem, Nat.reduceEqDiff, reduceIte, Int.reduceEq, Int.reduceLT, Int.reduceLE, Nat.reduceAdd, Nat.reduceLT, Nat.reduceLeDiff, Int.reduceToNat, Int.reduceSub, Int.reduceAdd, Int.reduceNeg]
  refine xcall_pure (args' := [.str [8, 12, 10, 13, 9, 34, 92], .int .i32 c]) rfl (index7_pure (E := E.noPan) hP c hsc) rfl ?_
  have hol2 : out.length + (quoteCh c m (s.drop i)).length ≤ 70368744177664 := by omega
  have x65 : ((c : Int) = 65533) = (c = 65533) := propext ⟨fun h => by omega, fun h => by omega⟩
  have x1 : ((m : Int) = 1) = (m = 1) := propext ⟨fun h => by omega, fun h => by omega⟩
  by_cases hbad : c = 65533 ∧ m = 1
  · have f3 := x65.trans (eq_true hbad.1)
    have f4 := x1.trans (eq_true hbad.2)
    have hch : quoteCh c m (s.drop i) = [92, 117, 102, 102, 102, 100] := if_pos hbad
    rw [hch] at hcl hol2 hq
    simp only [h0, h3, h4, f3, f4, go_sem, Nat.reduceEqDiff, reduceIte, Int.reduceEq, Int.reduceLT, Int.reduceLE, Nat.reduceAdd, Nat.reduceLT, Nat.reduceLeDiff, Int.reduceToNat, Int.reduceSub, Int.reduceAdd, Int.reduceNeg]
    refine wr_call (E := E.noPan) (write_ok (E := E.noPan) hP [92, 117, 102, 102, 102, 100] (by simp) (by simp)) rfl rfl hB (by simp) hol2 fun L' hB' _ => ?_
    simp only [h0, h3, h4, hwi, go_sem, Nat.reduceEqDiff, reduceIte, Int.reduceEq, Int.reduceLT, Int.reduceLE, Nat.reduceAdd, Nat.reduceLT, Nat.reduceLeDiff, Int.reduceToNat, Int.reduceSub, Int.reduceAdd, Int.reduceNeg]
    exact ⟨s.length - (i + m), by omega, i + m, _, by omega, rfl, rfl, hB', by rw [List.length_append]; omega, hq⟩
  by_cases h65 : c = 65533
  all_goals
    (first
      | have f3 := x65.trans (eq_true h65)
      | have f3 := x65.trans (eq_false h65))
    (first
      | have f4 := x1.trans (eq_false (fun h2 => hbad ⟨h65, h2⟩))
      | have f4 := True.intro)
    cases hk : qL.findIdx? (fun b => decide (b.toNat = c)) with
    | some k =>
      obtain ⟨hk1, hk2⟩ := idx7_some hk
      have hch : quoteCh c m (s.drop i) = [92, qR.getD k 0] := by unfold quoteCh; rw [if_neg hbad, hk]
      rw [hch] at hcl hol2 hq
      have e2 : ((0 : Int) ≤ (k : Int)) = True := eq_true (by omega)
      have hwk : IntKind.i64.wrap ((k : Int) + 1) = ((k + 1 : Nat) : Int) := by rw [wrap64 (by omega) (by omega)]; rfl
      have hqr := qR_cut ⟨k, hk2⟩
      dsimp only at hqr
      simp only [h0, h3, h4, f3, f4, hk1, e2, hwk, go_sem, Nat.reduceEqDiff, reduceIte, Int.reduceEq, Int.reduceLT, Int.reduceLE, Nat.reduceAdd, Nat.reduceLT, Nat.reduceLeDiff, Int.reduceToNat, Int.reduceSub, Int.reduceAdd, Int.reduceNeg]
      rw [hqr]
      refine ⟨by omega, by omega, by simp, ?_⟩
      refine wr_call (E := E.noPan) (write_ok (E := E.noPan) hP [92, qR.getD k 0] (by simp) (by simp)) rfl rfl hB (by simp) hol2 fun L' hB' _ => ?_
      simp only [h0, h3, h4, hwi, go_sem, Nat.reduceEqDiff, reduceIte, Int.reduceEq, Int.reduceLT, Int.reduceLE, Nat.reduceAdd, Nat.reduceLT, Nat.reduceLeDiff, Int.reduceToNat, Int.reduceSub, Int.reduceAdd, Int.reduceNeg]
      exact ⟨s.length - (i + m), by omega, i + m, _, by omega, rfl, rfl, hB', by rw [List.length_append]; omega, hq⟩
    | none =>
      have hk1 := idx7_none hk
      by_cases h32 : c < 32
      · have hch : quoteCh c m (s.drop i) = [92, 117, 48, 48, Fr.hexD.getD (c / 16) 0, Fr.hexD.getD (c % 16) 0] := by unfold quoteCh; rw [if_neg hbad, hk]; exact if_pos h32
        rw [hch] at hcl hol2 hq
        have e2 : ((c : Int) < 32) = True := eq_true (by omega)
        have q1 : IntKind.i32.wrap ((c : Int).tdiv 16) = ((c / 16 : Nat) : Int) := by rw [Int.tdiv_eq_ediv_of_nonneg (by omega), show (c : Int) / 16 = ((c / 16 : Nat) : Int) by omega, wrap32n (by omega)]
        have q2 : (c : Int).tmod 16 = ((c % 16 : Nat) : Int) := by rw [Int.tmod_eq_emod_of_nonneg (by omega)]; omega
        have q3 : IntKind.i32.wrap (((c / 16 : Nat) : Int) + 1) = ((c / 16 + 1 : Nat) : Int) := by rw [show ((c / 16 : Nat) : Int) + 1 = ((c / 16 + 1 : Nat) : Int) by omega, wrap32n (by omega)]
        have q4 : IntKind.i32.wrap (((c % 16 : Nat) : Int) + 1) = ((c % 16 + 1 : Nat) : Int) := by rw [show ((c % 16 : Nat) : Int) + 1 = ((c % 16 + 1 : Nat) : Int) by omega, wrap32n (by omega)]
        have e3 : ((0 : Int) ≤ ((c / 16 : Nat) : Int)) = True := eq_true (by omega)
        have e4 : ((0 : Int) ≤ ((c % 16 : Nat) : Int)) = True := eq_true (by omega)
        have hx1 := hex_cut ⟨c / 16, by omega⟩
        have hx2 := hex_cut ⟨c % 16, by omega⟩
        dsimp only at hx1 hx2
        simp only [h0, h3, h4, f3, f4, hk1, e2, e3, e4, q1, q2, q3, q4, go_sem, Nat.reduceEqDiff, reduceIte, Int.reduceEq, Int.reduceLT, Int.reduceLE, Nat.reduceAdd, Nat.reduceLT, Nat.reduceLeDiff, Int.reduceToNat, Int.reduceSub, Int.reduceAdd, Int.reduceNeg]
        rw [hx1, hx2]
        refine ⟨by omega, by omega, by omega, by omega, by simp, by omega, by omega, by omega, by omega, by simp, ?_⟩
        refine wr_call (E := E.noPan) (write_ok (E := E.noPan) hP [92, 117, 48, 48, Fr.hexD.getD (c / 16) 0, Fr.hexD.getD (c % 16) 0] (by simp) (by simp)) rfl rfl hB (by simp) hol2 fun L' hB' _ => ?_
        simp only [h0, h3, h4, hwi, go_sem, Nat.reduceEqDiff, reduceIte, Int.reduceEq, Int.reduceLT, Int.reduceLE, Nat.reduceAdd, Nat.reduceLT, Nat.reduceLeDiff, Int.reduceToNat, Int.reduceSub, Int.reduceAdd, Int.reduceNeg]
        exact ⟨s.length - (i + m), by omega, i + m, _, by omega, rfl, rfl, hB', by rw [List.length_append]; omega, hq⟩
      · have hch : quoteCh c m (s.drop i) = (s.drop i).take m := by unfold quoteCh; rw [if_neg hbad, hk]; exact if_neg h32
        rw [hch] at hcl hol2 hq hne2
        have e2 : ((c : Int) < 32) = False := eq_false (by omega)
        simp only [h0, h3, h4, f3, f4, hk1, e2, hwi, go_sem, Nat.reduceEqDiff, reduceIte, Int.reduceEq, Int.reduceLT, Int.reduceLE, Nat.reduceAdd, Nat.reduceLT, Nat.reduceLeDiff, Int.reduceToNat, Int.reduceSub, Int.reduceAdd, Int.reduceNeg]
        refine ⟨by omega, by omega, ?_⟩
        have hcut : (s.take (i + m)).drop i = (s.drop i).take m := by rw [List.drop_take, show i + m - i = m by omega]
        rw [hcut]
        refine wr_call (E := E.noPan) (write_ok (E := E.noPan) hP ((s.drop i).take m) hne2 (by rw [List.length_take]; omega)) rfl rfl hB hne2 hol2 fun L' hB' _ => ?_
        simp only [h0, h3, h4, hwi, go_sem, Nat.reduceEqDiff, reduceIte, Int.reduceEq, Int.reduceLT, Int.reduceLE, Nat.reduceAdd, Nat.reduceLT, Nat.reduceLeDiff, Int.reduceToNat, Int.reduceSub, Int.reduceAdd, Int.reduceNeg]
        exact ⟨s.length - (i + m), by omega, i + m, _, by omega, rfl, rfl, hB', by rw [List.length_append]; omega, hq⟩
end
end Go.X.TryzW
end
section
open Go Go.X Go.Proofs
set_option maxRecDepth 100000
set_option maxHeartbeats 4000000
set_option linter.unusedSimpArgs false
set_option linter.unusedVariables false
namespace Go.X.TryzW
def z37 : XC :=
 (.seq (.ops [ ⟨(some 9), (.mov (.c (.int .i64 1))), none⟩]) (.block 1 (.loop (.seq (.seq (.ops [ ⟨(some 52), (.mov (.t 9)), none⟩, ⟨(some 53), (.mov (.t 6)), none⟩, ⟨(some 54), (.bin .lss (.t 52) (.t 53)), none⟩]) (.cond (.t 54) .skip (.exit 1))) (.seq (.block 2 (.seq (.ops [ ⟨(some 57), (.mov (.t 0)), none⟩, ⟨(some 58), (.mov (.t 1)), none⟩, ⟨(some 59), (.mov (.t 9)), none⟩, ⟨(some 60), (.bin .add (.t 58) (.t 59)), none⟩, ⟨(some 61), (.idx (.t 57) (.t 60)), none⟩, ⟨(some 62), (.cvInt .i64 (.t 61)), none⟩, ⟨(some 10), (.mov (.t 62)), none⟩]) (.seq (.seq (.ops [ ⟨(some 63), (.mov (.t 10)), none⟩, ⟨(some 64), (.bin .lss (.t 63) (.c (.int .i64 128))), none⟩, ⟨(some 65), (.mov (.t 64)), none⟩, ⟨(some 66), (.mov (.t 10)), (some (65, false))⟩, ⟨(some 67), (.bin .geq (.t 66) (.c (.int .i64 192))), (some (65, false))⟩, ⟨(some 68), (.pick (.t 65) (.c (.bool true)) (.t 67)), none⟩]) (.cond (.t 68) (.seq (.ops [ ⟨(some 4), (.mov (.c (.int .i64 0))), none⟩]) .ret) .skip)) (.ops [ ⟨(some 69), (.mov (.t 7)), none⟩, ⟨(some 70), (.bin .mul (.c (.int .i64 64)) (.t 69)), none⟩, ⟨(some 71), (.mov (.t 10)), none⟩, ⟨(some 72), (.bin .add (.t 70) (.t 71)), none⟩, ⟨(some 73), (.bin .sub (.t 72) (.c (.int .i64 128))), none⟩, ⟨(some 7), (.mov (.t 73)), none⟩])))) (.ops [ ⟨(some 55), (.mov (.t 9)), none⟩, ⟨(some 56), (.bin .add (.t 55) (.c (.int .i64 1))), none⟩, ⟨(some 9), (.mov (.t 56)), none⟩]))))))
/- "tiller/tillerref13.UTF8" params { toList := [9, 3] } results { toList := [Go.ResultVar.tmp 4] } -/
def y37 : XC :=
 (.seq (.ops [ ⟨(some 4), (.mov (.c (.int .i64 0))), none⟩]) (.seq (.ops [ ⟨(some 11), (.mov (.t 0)), none⟩, ⟨(some 12), (.mov (.t 1)), none⟩, ⟨(some 13), (.idx (.t 11) (.t 12)), none⟩, ⟨(some 14), (.cvInt .i64 (.t 13)), none⟩, ⟨(some 5), (.mov (.t 14)), none⟩]) (.seq (.ops [ ⟨(some 15), (.mov (.t 5)), none⟩, ⟨(some 6), (.mov (.c (.int .i64 1))), none⟩, ⟨(some 7), (.mov (.t 15)), none⟩, ⟨(some 8), (.mov (.c (.int .i64 0))), none⟩]) (.seq (.block 0 (.seq (.ops [ ⟨(some 17), (.mov (.t 5)), none⟩, ⟨(some 18), (.bin .geq (.t 17) (.c (.int .i64 240))), none⟩, ⟨(some 19), (.mov (.t 18)), none⟩, ⟨(some 20), (.mov (.t 5)), (some (19, true))⟩, ⟨(some 21), (.bin .lss (.t 20) (.c (.int .i64 248))), (some (19, true))⟩, ⟨(some 22), (.pick (.t 19) (.t 21) (.c (.bool false))), none⟩, ⟨(some 16), (.mov (.t 22)), none⟩]) (.cond (.t 16) (.ops [ ⟨(some 23), (.mov (.t 5)), none⟩, ⟨(some 24), (.bin .sub (.t 23) (.c (.int .i64 240))), none⟩, ⟨(some 6), (.mov (.c (.int .i64 4))), none⟩, ⟨(some 7), (.mov (.t 24)), none⟩, ⟨(some 8), (.mov (.c (.int .i64 65536))), none⟩]) (.seq (.ops [ ⟨(some 26), (.mov (.t 5)), none⟩, ⟨(some 27), (.bin .geq (.t 26) (.c (.int .i64 224))), none⟩, ⟨(some 28), (.mov (.t 27)), none⟩, ⟨(some 29), (.mov (.t 5)), (some (28, true))⟩, ⟨(some 30), (.bin .lss (.t 29) (.c (.int .i64 240))), (some (28, true))⟩, ⟨(some 31), (.pick (.t 28) (.t 30) (.c (.bool false))), none⟩, ⟨(some 25), (.mov (.t 31)), none⟩]) (.cond (.t 25) (.ops [ ⟨(some 32), (.mov (.t 5)), none⟩, ⟨(some 33), (.bin .sub (.t 32) (.c (.int .i64 224))), none⟩, ⟨(some 6), (.mov (.c (.int .i64 3))), none⟩, ⟨(some 7), (.mov (.t 33)), none⟩, ⟨(some 8), (.mov (.c (.int .i64 2048))), none⟩]) (.seq (.ops [ ⟨(some 35), (.mov (.t 5)), none⟩, ⟨(some 36), (.bin .geq (.t 35) (.c (.int .i64 192))), none⟩, ⟨(some 37), (.mov (.t 36)), none⟩, ⟨(some 38), (.mov (.t 5)), (some (37, true))⟩, ⟨(some 39), (.bin .lss (.t 38) (.c (.int .i64 224))), (some (37, true))⟩, ⟨(some 40), (.pick (.t 37) (.t 39) (.c (.bool false))), none⟩, ⟨(some 34), (.mov (.t 40)), none⟩]) (.cond (.t 34) (.ops [ ⟨(some 41), (.mov (.t 5)), none⟩, ⟨(some 42), (.bin .sub (.t 41) (.c (.int .i64 192))), none⟩, ⟨(some 6), (.mov (.c (.int .i64 2))), none⟩, ⟨(some 7), (.mov (.t 42)), none⟩, ⟨(some 8), (.mov (.c (.int .i64 128))), none⟩]) (.seq (.ops [ ⟨(some 44), (.mov (.t 5)), none⟩, ⟨(some 45), (.bin .geq (.t 44) (.c (.int .i64 128))), none⟩, ⟨(some 43), (.mov (.t 45)), none⟩]) (.cond (.t 43) (.seq (.ops [ ⟨(some 4), (.mov (.c (.int .i64 0))), none⟩]) .ret) .skip))))))))) (.seq (.seq (.ops [ ⟨(some 46), (.mov (.t 1)), none⟩, ⟨(some 47), (.mov (.t 6)), none⟩, ⟨(some 48), (.bin .add (.t 46) (.t 47)), none⟩, ⟨(some 49), (.mov (.t 0)), none⟩, ⟨(some 50), (.lenS (.t 49)), none⟩, ⟨(some 51), (.bin .gtr (.t 48) (.t 50)), none⟩]) (.cond (.t 51) (.seq (.ops [ ⟨(some 4), (.mov (.c (.int .i64 0))), none⟩]) .ret) .skip)) (.seq z37 (.seq (.seq (.ops [ ⟨(some 74), (.mov (.t 7)), none⟩, ⟨(some 75), (.mov (.t 8)), none⟩, ⟨(some 76), (.bin .lss (.t 74) (.t 75)), none⟩, ⟨(some 77), (.mov (.t 76)), none⟩, ⟨(some 78), (.mov (.t 7)), (some (77, false))⟩, ⟨(some 79), (.bin .gtr (.t 78) (.c (.int .i64 1114111))), (some (77, false))⟩, ⟨(some 80), (.pick (.t 77) (.c (.bool true)) (.t 79)), none⟩, ⟨(some 81), (.mov (.t 80)), none⟩, ⟨(some 82), (.mov (.t 7)), (some (81, false))⟩, ⟨(some 83), (.bin .geq (.t 82) (.c (.int .i64 55296))), (some (81, false))⟩, ⟨(some 84), (.mov (.t 83)), (some (81, false))⟩, ⟨(some 85), (.mov (.t 7)), (some (84, true))⟩, ⟨(some 86), (.bin .leq (.t 85) (.c (.int .i64 57343))), (some (84, true))⟩, ⟨(some 87), (.pick (.t 84) (.t 86) (.c (.bool false))), (some (81, false))⟩, ⟨(some 88), (.pick (.t 81) (.c (.bool true)) (.t 87)), none⟩]) (.cond (.t 88) (.seq (.ops [ ⟨(some 4), (.mov (.c (.int .i64 0))), none⟩]) .ret) .skip)) (.seq (.ops [ ⟨(some 89), (.mov (.t 6)), none⟩, ⟨(some 4), (.mov (.t 89)), none⟩]) .ret))))))))
/- "tiller/tillerref13.Valid" params { toList := [9] } results { toList := [Go.ResultVar.tmp 2] } -/
section
variable {E : Env} {L : List Blk} {K : IV → List Blk → Prop}
def goodC (b : UInt8) : Bool := decide (128 ≤ b.toNat ∧ b.toNat < 192)
def gC (s : List UInt8) (i : Nat) : Nat → Bool
  | 0 => true
  | k + 1 => gC s i k && goodC (s.getD (i + (k + 1)) 0)
def cC (c0 : Int) (s : List UInt8) (i : Nat) : Nat → Int
  | 0 => c0
  | k + 1 => 64 * cC c0 s i k + ((s.getD (i + (k + 1)) 0).toNat : Int) - 128
theorem gC_mono (s : List UInt8) (i : Nat) : ∀ (n k : Nat), k ≤ n → gC s i n = true → gC s i k = true
  | 0, k, hk, h => by
    have : k = 0 := by omega
    subst this; exact h
  | n + 1, k, hk, h => by
    by_cases hkn : k = n + 1
    · subst hkn; exact h
    · unfold gC at h
      rw [Bool.and_eq_true] at h
      exact gC_mono s i n k (by omega) h.1
theorem cC_bnd (c0 : Int) (s : List UInt8) (i : Nat) (h0 : 0 ≤ c0) (h1 : c0 < 128) : ∀ k, gC s i k = true → 0 ≤ cC c0 s i k ∧ cC c0 s i k < 128 * 64 ^ k
  | 0, _ => by simp [cC]; omega
  | k + 1, h => by
    unfold gC at h
    rw [Bool.and_eq_true] at h
    obtain ⟨q1, q2⟩ := cC_bnd c0 s i h0 h1 k h.1
    have q3 := h.2
    unfold goodC at q3
    rw [decide_eq_true_eq] at q3
    unfold cC
    rw [Int.pow_succ]
    omega
theorem utf_cont (s : List UInt8) (i n : Nat) (c0 : Int) (x : IV) (hn : 1 ≤ n) (hn4 : n ≤ 4) (hin : i + n ≤ s.length) (hs : s.length ≤ 140737488351232) (hc0 : 0 ≤ c0) (hc1 : c0 < 128) {ρ : Rho}
    (h0 : ρ 0 = .str s) (h1 : ρ 1 = .int .i64 i) (h6 : ρ 6 = .int .i64 n) (h7 : ρ 7 = .int .i64 c0) (h8 : ρ 8 = x) :
    xrun E.noPan z37 ρ [] (fun e ρ' L' => L' = [] ∧ ((e = .ret ∧ ρ' 4 = .int .i64 0 ∧ gC s i (n - 1) = false) ∨
      (e = .normal ∧ gC s i (n - 1) = true ∧ ρ' 6 = .int .i64 n ∧ ρ' 7 = .int .i64 (cC c0 s i (n - 1)) ∧ ρ' 8 = x))) := by
  unfold z37
  simp only [h0, h1, h6, h7, h8, go_sem, Nat.reduceEqDiff, reduceIte, Int.reduceEq, Int.reduceLT, Int.reduceLE, Nat.reduceAdd, Nat.reduceLT, Nat.reduceLeDiff, Int.reduceToNat, Int.reduceSub, Int.reduceAdd, Int.reduceNeg]
  refine s_loop (fun c ρ L => ∃ j : Nat, j + 1 ≤ n ∧ c = n - 1 - j ∧ L = [] ∧ ρ 0 = .str s ∧ ρ 1 = .int .i64 i ∧ ρ 6 = .int .i64 n ∧ ρ 7 = .int .i64 (cC c0 s i j) ∧ ρ 8 = x ∧ ρ 9 = .int .i64 ((j + 1 : Nat) : Int) ∧ gC s i j = true) (n := n - 1)
    ⟨0, hn, rfl, rfl, by simp only [h0, go_sem, Nat.reduceEqDiff, reduceIte, Int.reduceEq, Int.reduceLT, Int.reduceLE, Nat.reduceAdd, Nat.reduceLT, Nat.reduceLeDiff, Int.reduceToNat, Int.reduceSub, Int.reduceAdd, Int.reduceNeg], by simp only [h1, go_sem, Nat.reduceEqDiff, reduceIte, Int.reduceEq, Int.reduceLT, Int.reduceLE, Nat.reduceAdd, Nat.reduceLT, Nat.reduceLeDiff, Int.reduceToNat, Int.reduceSub, Int.reduceAdd, Int.reduceNeg], by simp only [h6, go_sem, Nat.reduceEqDiff, reduceIte, Int.reduceEq, Int.reduceLT, Int.reduceLE, Nat.reduceAdd, Nat.reduceLT, Nat.reduceLeDiff, Int.reduceToNat, Int.reduceSub, Int.reduceAdd, Int.reduceNeg], by simp only [h7, go_sem, Nat.reduceEqDiff, reduceIte, Int.reduceEq, Int.reduceLT, Int.reduceLE, Nat.reduceAdd, Nat.reduceLT, Nat.reduceLeDiff, Int.reduceToNat, Int.reduceSub, Int.reduceAdd, Int.reduceNeg]; try rfl, by simp only [h8, go_sem, Nat.reduceEqDiff, reduceIte, Int.reduceEq, Int.reduceLT, Int.reduceLE, Nat.reduceAdd, Nat.reduceLT, Nat.reduceLeDiff, Int.reduceToNat, Int.reduceSub, Int.reduceAdd, Int.reduceNeg], by simp only [go_sem, Nat.reduceEqDiff, reduceIte, Int.reduceEq, Int.reduceLT, Int.reduceLE, Nat.reduceAdd, Nat.reduceLT, Nat.reduceLeDiff, Int.reduceToNat, Int.reduceSub, Int.reduceAdd, Int.reduceNeg]; try rfl, rfl⟩ ?_
  clear h0 h1 h6 h7 h8 ρ
  rintro c ρ L ⟨j, hj, rfl, rfl, h0, h1, h6, h7, h8, h9, hg⟩
  have hb := cC_bnd c0 s i hc0 hc1 j hg
  have hpow : (128 : Int) * 64 ^ j ≤ 128 * 64 ^ 3 := by
    have : j = 0 ∨ j = 1 ∨ j = 2 ∨ j = 3 := by omega
    rcases this with rfl | rfl | rfl | rfl <;> decide
  have hpow2 : (128 : Int) * 64 ^ 3 = 33554432 := by decide
  by_cases hjn : j + 1 < n
  · have e1 : (((j + 1 : Nat) : Int) < (n : Int)) = True := eq_true (by omega)
    have hwj : IntKind.i64.wrap ((i : Int) + ((j + 1 : Nat) : Int)) = ((i + (j + 1) : Nat) : Int) := by rw [wrap64 (by omega) (by omega)]; omega
    have hw1 : IntKind.i64.wrap (((j + 1 : Nat) : Int) + 1) = ((j + 1 + 1 : Nat) : Int) := by rw [wrap64 (by omega) (by omega)]; omega
    have e2 : (((i + (j + 1) : Nat) : Int) < (s.length : Int)) = True := eq_true (by omega)
    have hbl := (s.getD (i + (j + 1)) 0).toNat_lt
    have hcv : IntKind.i64.wrap (((s.getD (i + (j + 1)) 0).toNat : Nat) : Int) = (((s.getD (i + (j + 1)) 0).toNat : Nat) : Int) := wrap64 (by omega) (by omega)
    have hcs : cC c0 s i (j + 1) = 64 * cC c0 s i j + ((s.getD (i + (j + 1)) 0).toNat : Int) - 128 := rfl
    have hgs : gC s i (j + 1) = (gC s i j && goodC (s.getD (i + (j + 1)) 0)) := rfl
    have hbad : goodC (s.getD (i + (j + 1)) 0) = false → gC s i (n - 1) = false := fun h => by
      cases hq : gC s i (n - 1) with
      | false => rfl
      | true =>
        have := gC_mono s i (n - 1) (j + 1) (by omega) hq
        rw [hgs, h, Bool.and_false] at this
        cases this
    have hgood : goodC (s.getD (i + (j + 1)) 0) = decide (128 ≤ (s.getD (i + (j + 1)) 0).toNat ∧ (s.getD (i + (j + 1)) 0).toNat < 192) := rfl
    generalize hbe : s.getD (i + (j + 1)) 0 = b at *
    by_cases q1 : b.toNat < 128
    · have k1 : ((b.toNat : Int) < 128) = True := eq_true (by omega)
      simp only [h0, h1, h6, h7, h8, h9, e1, hwj, e2, hbe, k1, hcv, go_sem, Nat.reduceEqDiff, reduceIte, Int.reduceEq, Int.reduceLT, Int.reduceLE, Nat.reduceAdd, Nat.reduceLT, Nat.reduceLeDiff, Int.reduceToNat, Int.reduceSub, Int.reduceAdd, Int.reduceNeg]
      repeat (refine ⟨by omega, ?_⟩)
      have := hbad (by rw [hgood, decide_eq_false (by omega)])
      simp [this]
    have k1 : ((b.toNat : Int) < 128) = False := eq_false (by omega)
    by_cases q2 : 192 ≤ b.toNat
    · have k2 : ((192 : Int) ≤ (b.toNat : Int)) = True := eq_true (by omega)
      simp only [h0, h1, h6, h7, h8, h9, e1, hwj, e2, hbe, k1, k2, hcv, go_sem, Nat.reduceEqDiff, reduceIte, Int.reduceEq, Int.reduceLT, Int.reduceLE, Nat.reduceAdd, Nat.reduceLT, Nat.reduceLeDiff, Int.reduceToNat, Int.reduceSub, Int.reduceAdd, Int.reduceNeg]
      repeat (refine ⟨by omega, ?_⟩)
      have := hbad (by rw [hgood, decide_eq_false (by omega)])
      simp [this]
    have k2 : ((192 : Int) ≤ (b.toNat : Int)) = False := eq_false (by omega)
    have hm1 : IntKind.i64.wrap (64 * cC c0 s i j) = 64 * cC c0 s i j := wrap64 (by omega) (by omega)
    have hm2 : IntKind.i64.wrap (64 * cC c0 s i j + (b.toNat : Int)) = 64 * cC c0 s i j + (b.toNat : Int) := wrap64 (by omega) (by omega)
    have hm3 : IntKind.i64.wrap (64 * cC c0 s i j + (b.toNat : Int) - 128) = cC c0 s i (j + 1) := by rw [hcs, wrap64 (by omega) (by omega)]
    simp only [h0, h1, h6, h7, h8, h9, e1, hwj, e2, hbe, k1, k2, hcv, hm1, hm2, hm3, go_sem, Nat.reduceEqDiff, reduceIte, Int.reduceEq, Int.reduceLT, Int.reduceLE, Nat.reduceAdd, Nat.reduceLT, Nat.reduceLeDiff, Int.reduceToNat, Int.reduceSub, Int.reduceAdd, Int.reduceNeg]
    trace_state
    exact ⟨n - 1 - (j + 1), by omega, j + 1, by omega, rfl, rfl, by rw [hw1], by rw [hgs, hg, hgood, decide_eq_true (by omega)]; rfl⟩
  · have e1 : (((j + 1 : Nat) : Int) < (n : Int)) = False := eq_false (by omega)
    have hjn' : n - 1 = j := by omega
    rw [hjn']
    simp only [h0, h1, h6, h7, h8, h9, e1, go_sem, Nat.reduceEqDiff, reduceIte, Int.reduceEq, Int.reduceLT, Int.reduceLE, Nat.reduceAdd, Nat.reduceLT, Nat.reduceLeDiff, Int.reduceToNat, Int.reduceSub, Int.reduceAdd, Int.reduceNeg]
    simp [hg]
def finU (s : List UInt8) (i n : Nat) (c0 least : Int) : Nat :=
  if s.length < i + n then 0 else if gC s i (n - 1) = false then 0 else if cC c0 s i (n - 1) < least ∨ 1114111 < cC c0 s i (n - 1) ∨ (55296 ≤ cC c0 s i (n - 1) ∧ cC c0 s i (n - 1) ≤ 57343) then 0 else n
def utfR (s : List UInt8) (i : Nat) : Nat :=
  if 240 ≤ (s.getD i 0).toNat ∧ (s.getD i 0).toNat < 248 then finU s i 4 (((s.getD i 0).toNat : Int) - 240) 65536
  else if 224 ≤ (s.getD i 0).toNat ∧ (s.getD i 0).toNat < 240 then finU s i 3 (((s.getD i 0).toNat : Int) - 224) 2048
  else if 192 ≤ (s.getD i 0).toNat ∧ (s.getD i 0).toNat < 224 then finU s i 2 (((s.getD i 0).toNat : Int) - 192) 128
  else if 128 ≤ (s.getD i 0).toNat then 0
  else finU s i 1 ((s.getD i 0).toNat : Int) 0
theorem utf8_pure (hP : E.P = Tryz.prog) (s : List UInt8) (i : Nat) (hi : i < s.length) (hs : s.length ≤ 140737488351232) : XPure E 25 [.str s, .int .i64 i] (.int .i64 (utfR s i)) := by
  refine xpure1 (n := Tryz.f25.ntmps) (c := y37) (t := 4) (by rw [hP]; rfl) (by rw [hP]; kernel_rfl) (by decide) (Nat.le_of_ble_eq_true rfl) ?_
  generalize hρ : entry _ = ρ
  have h0 : ρ 0 = .str s := by rw [← hρ]; rfl
  have h1 : ρ 1 = .int .i64 i := by rw [← hρ]; rfl
  clear hρ
  unfold y37
  have e0 : ((0 : Int) ≤ (i : Int)) = True := eq_true (by omega)
  have e1 : ((i : Int) < (s.length : Int)) = True := eq_true (by omega)
  have hbl := (s.getD i 0).toNat_lt
  have hcv : IntKind.i64.wrap (((s.getD i 0).toNat : Nat) : Int) = (((s.getD i 0).toNat : Nat) : Int) := wrap64 (by omega) (by omega)
  unfold utfR
  generalize hbe : (s.getD i 0).toNat = b at *
  by_cases a1 : 240 ≤ b
  · have f1 : ((240 : Int) ≤ (b : Int)) = True := eq_true (by omega)
    by_cases a2 : b < 248
    · have f2 : ((b : Int) < 248) = True := eq_true (by omega)
      have hw : IntKind.i64.wrap ((b : Int) - 240) = (b : Int) - 240 := wrap64 (by omega) (by omega)
      rw [if_pos ⟨a1, a2⟩]
      by_cases hlen : i + 4 ≤ s.length
      case neg =>
        have k1 : ((s.length : Int) < ((i + 4 : Nat) : Int)) = True := eq_true (by omega)
        have hwn : IntKind.i64.wrap ((i : Int) + 4) = ((i + 4 : Nat) : Int) := by rw [wrap64 (by omega) (by omega)]; rfl
        simp only [h0, h1, e0, e1, hcv, hbe, f1, f2, hw, k1, hwn, go_sem, Nat.reduceEqDiff, reduceIte, Int.reduceEq, Int.reduceLT, Int.reduceLE, Nat.reduceAdd, Nat.reduceLT, Nat.reduceLeDiff, Int.reduceToNat, Int.reduceSub, Int.reduceAdd, Int.reduceNeg]
        repeat (refine ⟨by omega, ?_⟩)
        unfold finU
        rw [if_pos (by omega)]
        rfl
      have k1 : ((s.length : Int) < ((i + 4 : Nat) : Int)) = False := eq_false (by omega)
      have hwn : IntKind.i64.wrap ((i : Int) + 4) = ((i + 4 : Nat) : Int) := by rw [wrap64 (by omega) (by omega)]; rfl
      simp only [h0, h1, e0, e1, hcv, hbe, f1, f2, hw, k1, hwn, go_sem, Nat.reduceEqDiff, reduceIte, Int.reduceEq, Int.reduceLT, Int.reduceLE, Nat.reduceAdd, Nat.reduceLT, Nat.reduceLeDiff, Int.reduceToNat, Int.reduceSub, Int.reduceAdd, Int.reduceNeg]
      refine xrun_cut _ (utf_cont s i 4 ((b : Int) - 240) (.int .i64 65536) (by omega) (by omega) hlen hs (by omega) (by omega) (by simp only [h0, h1, e0, e1, hcv, hbe, go_sem, Nat.reduceEqDiff, reduceIte, Int.reduceEq, Int.reduceLT, Int.reduceLE, Nat.reduceAdd, Nat.reduceLT, Nat.reduceLeDiff, Int.reduceToNat, Int.reduceSub, Int.reduceAdd, Int.reduceNeg]) (by simp only [h0, h1, e0, e1, hcv, hbe, go_sem, Nat.reduceEqDiff, reduceIte, Int.reduceEq, Int.reduceLT, Int.reduceLE, Nat.reduceAdd, Nat.reduceLT, Nat.reduceLeDiff, Int.reduceToNat, Int.reduceSub, Int.reduceAdd, Int.reduceNeg]) (by simp only [h0, h1, e0, e1, hcv, hbe, go_sem, Nat.reduceEqDiff, reduceIte, Int.reduceEq, Int.reduceLT, Int.reduceLE, Nat.reduceAdd, Nat.reduceLT, Nat.reduceLeDiff, Int.reduceToNat, Int.reduceSub, Int.reduceAdd, Int.reduceNeg]; try rfl) (by simp only [h0, h1, e0, e1, hcv, hbe, go_sem, Nat.reduceEqDiff, reduceIte, Int.reduceEq, Int.reduceLT, Int.reduceLE, Nat.reduceAdd, Nat.reduceLT, Nat.reduceLeDiff, Int.reduceToNat, Int.reduceSub, Int.reduceAdd, Int.reduceNeg]; try rfl) (by simp only [h0, h1, e0, e1, hcv, hbe, go_sem, Nat.reduceEqDiff, reduceIte, Int.reduceEq, Int.reduceLT, Int.reduceLE, Nat.reduceAdd, Nat.reduceLT, Nat.reduceLeDiff, Int.reduceToNat, Int.reduceSub, Int.reduceAdd, Int.reduceNeg]; try rfl)) ?_
      clear h0 h1 ρ
      rintro e ρ L ⟨rfl, ⟨rfl, h4, hg⟩ | ⟨rfl, hg, h6, h7, h8⟩⟩
      · simp only [h4, go_sem, Nat.reduceEqDiff, reduceIte, Int.reduceEq, Int.reduceLT, Int.reduceLE, Nat.reduceAdd, Nat.reduceLT, Nat.reduceLeDiff, Int.reduceToNat, Int.reduceSub, Int.reduceAdd, Int.reduceNeg]
        unfold finU
        rw [if_neg (by omega), if_pos hg]
        rfl
      unfold finU
      rw [if_neg (by omega), if_neg (by rw [hg]; decide)]
      generalize cC ((b : Int) - 240) s i (4 - 1) = c at *
      by_cases r1 : c < 65536
      · have m1 : (c < 65536) = True := eq_true r1
        rw [if_pos (.inl r1)]
        simp only [h6, h7, h8, m1, go_sem, Nat.reduceEqDiff, reduceIte, Int.reduceEq, Int.reduceLT, Int.reduceLE, Nat.reduceAdd, Nat.reduceLT, Nat.reduceLeDiff, Int.reduceToNat, Int.reduceSub, Int.reduceAdd, Int.reduceNeg]
        rfl
      have m1 : (c < 65536) = False := eq_false r1
      by_cases r2 : 1114111 < c
      · have m2 : ((1114111 : Int) < c) = True := eq_true r2
        rw [if_pos (.inr (.inl r2))]
        simp only [h6, h7, h8, m1, m2, go_sem, Nat.reduceEqDiff, reduceIte, Int.reduceEq, Int.reduceLT, Int.reduceLE, Nat.reduceAdd, Nat.reduceLT, Nat.reduceLeDiff, Int.reduceToNat, Int.reduceSub, Int.reduceAdd, Int.reduceNeg]
        rfl
      have m2 : ((1114111 : Int) < c) = False := eq_false r2
      by_cases r3 : 55296 ≤ c
      case neg =>
        have m3 : ((55296 : Int) ≤ c) = False := eq_false r3
        rw [if_neg (by omega)]
        simp only [h6, h7, h8, m1, m2, m3, go_sem, Nat.reduceEqDiff, reduceIte, Int.reduceEq, Int.reduceLT, Int.reduceLE, Nat.reduceAdd, Nat.reduceLT, Nat.reduceLeDiff, Int.reduceToNat, Int.reduceSub, Int.reduceAdd, Int.reduceNeg]
        rfl
      have m3 : ((55296 : Int) ≤ c) = True := eq_true r3
      by_cases r4 : c ≤ 57343
      · have m4 : (c ≤ (57343 : Int)) = True := eq_true r4
        rw [if_pos (.inr (.inr ⟨r3, r4⟩))]
        simp only [h6, h7, h8, m1, m2, m3, m4, go_sem, Nat.reduceEqDiff, reduceIte, Int.reduceEq, Int.reduceLT, Int.reduceLE, Nat.reduceAdd, Nat.reduceLT, Nat.reduceLeDiff, Int.reduceToNat, Int.reduceSub, Int.reduceAdd, Int.reduceNeg]
        rfl
      have m4 : (c ≤ (57343 : Int)) = False := eq_false r4
      rw [if_neg (by omega)]
      simp only [h6, h7, h8, m1, m2, m3, m4, go_sem, Nat.reduceEqDiff, reduceIte, Int.reduceEq, Int.reduceLT, Int.reduceLE, Nat.reduceAdd, Nat.reduceLT, Nat.reduceLeDiff, Int.reduceToNat, Int.reduceSub, Int.reduceAdd, Int.reduceNeg]
      rfl
    have f2 : ((b : Int) < 248) = False := eq_false (by omega)
    have f3 : ((224 : Int) ≤ (b : Int)) = True := eq_true (by omega)
    have f4 : ((b : Int) < 240) = False := eq_false (by omega)
    have f5 : ((192 : Int) ≤ (b : Int)) = True := eq_true (by omega)
    have f6 : ((b : Int) < 224) = False := eq_false (by omega)
    have f7 : ((128 : Int) ≤ (b : Int)) = True := eq_true (by omega)
    rw [if_neg (by omega), if_neg (by omega), if_neg (by omega), if_pos (by omega)]
    simp only [h0, h1, e0, e1, hcv, hbe, f1, f2, f3, f4, f5, f6, f7, go_sem, Nat.reduceEqDiff, reduceIte, Int.reduceEq, Int.reduceLT, Int.reduceLE, Nat.reduceAdd, Nat.reduceLT, Nat.reduceLeDiff, Int.reduceToNat, Int.reduceSub, Int.reduceAdd, Int.reduceNeg]
    repeat (refine ⟨by omega, ?_⟩)
    rfl
  have f1 : ((240 : Int) ≤ (b : Int)) = False := eq_false (by omega)
  rw [if_neg (by omega)]
  by_cases a3 : 224 ≤ b
  · have f3 : ((224 : Int) ≤ (b : Int)) = True := eq_true (by omega)
    have f4 : ((b : Int) < 240) = True := eq_true (by omega)
    have hw : IntKind.i64.wrap ((b : Int) - 224) = (b : Int) - 224 := wrap64 (by omega) (by omega)
    rw [if_pos (by omega)]
    by_cases hlen : i + 3 ≤ s.length
    case neg =>
      have k1 : ((s.length : Int) < ((i + 3 : Nat) : Int)) = True := eq_true (by omega)
      have hwn : IntKind.i64.wrap ((i : Int) + 3) = ((i + 3 : Nat) : Int) := by rw [wrap64 (by omega) (by omega)]; rfl
      simp only [h0, h1, e0, e1, hcv, hbe, f1, f3, f4, hw, k1, hwn, go_sem, Nat.reduceEqDiff, reduceIte, Int.reduceEq, Int.reduceLT, Int.reduceLE, Nat.reduceAdd, Nat.reduceLT, Nat.reduceLeDiff, Int.reduceToNat, Int.reduceSub, Int.reduceAdd, Int.reduceNeg]
      repeat (refine ⟨by omega, ?_⟩)
      unfold finU
      rw [if_pos (by omega)]
      rfl
    have k1 : ((s.length : Int) < ((i + 3 : Nat) : Int)) = False := eq_false (by omega)
    have hwn : IntKind.i64.wrap ((i : Int) + 3) = ((i + 3 : Nat) : Int) := by rw [wrap64 (by omega) (by omega)]; rfl
    simp only [h0, h1, e0, e1, hcv, hbe, f1, f3, f4, hw, k1, hwn, go_sem, Nat.reduceEqDiff, reduceIte, Int.reduceEq, Int.reduceLT, Int.reduceLE, Nat.reduceAdd, Nat.reduceLT, Nat.reduceLeDiff, Int.reduceToNat, Int.reduceSub, Int.reduceAdd, Int.reduceNeg]
    refine xrun_cut _ (utf_cont s i 3 ((b : Int) - 224) (.int .i64 2048) (by omega) (by omega) hlen hs (by omega) (by omega) (by simp only [h0, h1, e0, e1, hcv, hbe, go_sem, Nat.reduceEqDiff, reduceIte, Int.reduceEq, Int.reduceLT, Int.reduceLE, Nat.reduceAdd, Nat.reduceLT, Nat.reduceLeDiff, Int.reduceToNat, Int.reduceSub, Int.reduceAdd, Int.reduceNeg]) (by simp only [h0, h1, e0, e1, hcv, hbe, go_sem, Nat.reduceEqDiff, reduceIte, Int.reduceEq, Int.reduceLT, Int.reduceLE, Nat.reduceAdd, Nat.reduceLT, Nat.reduceLeDiff, Int.reduceToNat, Int.reduceSub, Int.reduceAdd, Int.reduceNeg]) (by simp only [h0, h1, e0, e1, hcv, hbe, go_sem, Nat.reduceEqDiff, reduceIte, Int.reduceEq, Int.reduceLT, Int.reduceLE, Nat.reduceAdd, Nat.reduceLT, Nat.reduceLeDiff, Int.reduceToNat, Int.reduceSub, Int.reduceAdd, Int.reduceNeg]; try rfl) (by simp only [h0, h1, e0, e1, hcv, hbe, go_sem, Nat.reduceEqDiff, reduceIte, Int.reduceEq, Int.reduceLT, Int.reduceLE, Nat.reduceAdd, Nat.reduceLT, Nat.reduceLeDiff, Int.reduceToNat, Int.reduceSub, Int.reduceAdd, Int.reduceNeg]; try rfl) (by simp only [h0, h1, e0, e1, hcv, hbe, go_sem, Nat.reduceEqDiff, reduceIte, Int.reduceEq, Int.reduceLT, Int.reduceLE, Nat.reduceAdd, Nat.reduceLT, Nat.reduceLeDiff, Int.reduceToNat, Int.reduceSub, Int.reduceAdd, Int.reduceNeg]; try rfl)) ?_
    clear h0 h1 ρ
    rintro e ρ L ⟨rfl, ⟨rfl, h4, hg⟩ | ⟨rfl, hg, h6, h7, h8⟩⟩
    · simp only [h4, go_sem, Nat.reduceEqDiff, reduceIte, Int.reduceEq, Int.reduceLT, Int.reduceLE, Nat.reduceAdd, Nat.reduceLT, Nat.reduceLeDiff, Int.reduceToNat, Int.reduceSub, Int.reduceAdd, Int.reduceNeg]
      unfold finU
      rw [if_neg (by omega), if_pos hg]
      rfl
    unfold finU
    rw [if_neg (by omega), if_neg (by rw [hg]; decide)]
    generalize cC ((b : Int) - 224) s i (3 - 1) = c at *
    by_cases r1 : c < 2048
    · have m1 : (c < 2048) = True := eq_true r1
      rw [if_pos (.inl r1)]
      simp only [h6, h7, h8, m1, go_sem, Nat.reduceEqDiff, reduceIte, Int.reduceEq, Int.reduceLT, Int.reduceLE, Nat.reduceAdd, Nat.reduceLT, Nat.reduceLeDiff, Int.reduceToNat, Int.reduceSub, Int.reduceAdd, Int.reduceNeg]
      rfl
    have m1 : (c < 2048) = False := eq_false r1
    by_cases r2 : 1114111 < c
    · have m2 : ((1114111 : Int) < c) = True := eq_true r2
      rw [if_pos (.inr (.inl r2))]
      simp only [h6, h7, h8, m1, m2, go_sem, Nat.reduceEqDiff, reduceIte, Int.reduceEq, Int.reduceLT, Int.reduceLE, Nat.reduceAdd, Nat.reduceLT, Nat.reduceLeDiff, Int.reduceToNat, Int.reduceSub, Int.reduceAdd, Int.reduceNeg]
      rfl
    have m2 : ((1114111 : Int) < c) = False := eq_false r2
    by_cases r3 : 55296 ≤ c
    case neg =>
      have m3 : ((55296 : Int) ≤ c) = False := eq_false r3
      rw [if_neg (by omega)]
      simp only [h6, h7, h8, m1, m2, m3, go_sem, Nat.reduceEqDiff, reduceIte, Int.reduceEq, Int.reduceLT, Int.reduceLE, Nat.reduceAdd, Nat.reduceLT, Nat.reduceLeDiff, Int.reduceToNat, Int.reduceSub, Int.reduceAdd, Int.reduceNeg]
      rfl
    have m3 : ((55296 : Int) ≤ c) = True := eq_true r3
    by_cases r4 : c ≤ 57343
    · have m4 : (c ≤ (57343 : Int)) = True := eq_true r4
      rw [if_pos (.inr (.inr ⟨r3, r4⟩))]
      simp only [h6, h7, h8, m1, m2, m3, m4, go_sem, Nat.reduceEqDiff, reduceIte, Int.reduceEq, Int.reduceLT, Int.reduceLE, Nat.reduceAdd, Nat.reduceLT, Nat.reduceLeDiff, Int.reduceToNat, Int.reduceSub, Int.reduceAdd, Int.reduceNeg]
      rfl
    have m4 : (c ≤ (57343 : Int)) = False := eq_false r4
    rw [if_neg (by omega)]
    simp only [h6, h7, h8, m1, m2, m3, m4, go_sem, Nat.reduceEqDiff, reduceIte, Int.reduceEq, Int.reduceLT, Int.reduceLE, Nat.reduceAdd, Nat.reduceLT, Nat.reduceLeDiff, Int.reduceToNat, Int.reduceSub, Int.reduceAdd, Int.reduceNeg]
    rfl
  have f3 : ((224 : Int) ≤ (b : Int)) = False := eq_false (by omega)
  rw [if_neg (by omega)]
  by_cases a4 : 192 ≤ b
  · have f5 : ((192 : Int) ≤ (b : Int)) = True := eq_true (by omega)
    have f6 : ((b : Int) < 224) = True := eq_true (by omega)
    have hw : IntKind.i64.wrap ((b : Int) - 192) = (b : Int) - 192 := wrap64 (by omega) (by omega)
    rw [if_pos (by omega)]
    by_cases hlen : i + 2 ≤ s.length
    case neg =>
      have k1 : ((s.length : Int) < ((i + 2 : Nat) : Int)) = True := eq_true (by omega)
      have hwn : IntKind.i64.wrap ((i : Int) + 2) = ((i + 2 : Nat) : Int) := by rw [wrap64 (by omega) (by omega)]; rfl
      simp only [h0, h1, e0, e1, hcv, hbe, f1, f3, f5, f6, hw, k1, hwn, go_sem, Nat.reduceEqDiff, reduceIte, Int.reduceEq, Int.reduceLT, Int.reduceLE, Nat.reduceAdd, Nat.reduceLT, Nat.reduceLeDiff, Int.reduceToNat, Int.reduceSub, Int.reduceAdd, Int.reduceNeg]
      repeat (refine ⟨by omega, ?_⟩)
      unfold finU
      rw [if_pos (by omega)]
      rfl
    have k1 : ((s.length : Int) < ((i + 2 : Nat) : Int)) = False := eq_false (by omega)
    have hwn : IntKind.i64.wrap ((i : Int) + 2) = ((i + 2 : Nat) : Int) := by rw [wrap64 (by omega) (by omega)]; rfl
    simp only [h0, h1, e0, e1, hcv, hbe, f1, f3, f5, f6, hw, k1, hwn, go_sem, Nat.reduceEqDiff, reduceIte, Int.reduceEq, Int.reduceLT, Int.reduceLE, Nat.reduceAdd, Nat.reduceLT, Nat.reduceLeDiff, Int.reduceToNat, Int.reduceSub, Int.reduceAdd, Int.reduceNeg]
    refine xrun_cut _ (utf_cont s i 2 ((b : Int) - 192) (.int .i64 128) (by omega) (by omega) hlen hs (by omega) (by omega) (by simp only [h0, h1, e0, e1, hcv, hbe, go_sem, Nat.reduceEqDiff, reduceIte, Int.reduceEq, Int.reduceLT, Int.reduceLE, Nat.reduceAdd, Nat.reduceLT, Nat.reduceLeDiff, Int.reduceToNat, Int.reduceSub, Int.reduceAdd, Int.reduceNeg]) (by simp only [h0, h1, e0, e1, hcv, hbe, go_sem, Nat.reduceEqDiff, reduceIte, Int.reduceEq, Int.reduceLT, Int.reduceLE, Nat.reduceAdd, Nat.reduceLT, Nat.reduceLeDiff, Int.reduceToNat, Int.reduceSub, Int.reduceAdd, Int.reduceNeg]) (by simp only [h0, h1, e0, e1, hcv, hbe, go_sem, Nat.reduceEqDiff, reduceIte, Int.reduceEq, Int.reduceLT, Int.reduceLE, Nat.reduceAdd, Nat.reduceLT, Nat.reduceLeDiff, Int.reduceToNat, Int.reduceSub, Int.reduceAdd, Int.reduceNeg]; try rfl) (by simp only [h0, h1, e0, e1, hcv, hbe, go_sem, Nat.reduceEqDiff, reduceIte, Int.reduceEq, Int.reduceLT, Int.reduceLE, Nat.reduceAdd, Nat.reduceLT, Nat.reduceLeDiff, Int.reduceToNat, Int.reduceSub, Int.reduceAdd, Int.reduceNeg]; try rfl) (by simp only [h0, h1, e0, e1, hcv, hbe, go_sem, Nat.reduceEqDiff, reduceIte, Int.reduceEq, Int.reduceLT, Int.reduceLE, Nat.reduceAdd, Nat.reduceLT, Nat.reduceLeDiff, Int.reduceToNat, Int.reduceSub, Int.reduceAdd, Int.reduceNeg]; try rfl)) ?_
    clear h0 h1 ρ
    rintro e ρ L ⟨rfl, ⟨rfl, h4, hg⟩ | ⟨rfl, hg, h6, h7, h8⟩⟩
    · simp only [h4, go_sem, Nat.reduceEqDiff, reduceIte, Int.reduceEq, Int.reduceLT, Int.reduceLE, Nat.reduceAdd, Nat.reduceLT, Nat.reduceLeDiff, Int.reduceToNat, Int.reduceSub, Int.reduceAdd, Int.reduceNeg]
      unfold finU
      rw [if_neg (by omega), if_pos hg]
      rfl
    unfold finU
    rw [if_neg (by omega), if_neg (by rw [hg]; decide)]
    generalize cC ((b : Int) - 192) s i (2 - 1) = c at *
    by_cases r1 : c < 128
    · have m1 : (c < 128) = True := eq_true r1
      rw [if_pos (.inl r1)]
      simp only [h6, h7, h8, m1, go_sem, Nat.reduceEqDiff, reduceIte, Int.reduceEq, Int.reduceLT, Int.reduceLE, Nat.reduceAdd, Nat.reduceLT, Nat.reduceLeDiff, Int.reduceToNat, Int.reduceSub, Int.reduceAdd, Int.reduceNeg]
      rfl
    have m1 : (c < 128) = False := eq_false r1
    by_cases r2 : 1114111 < c
    · have m2 : ((1114111 : Int) < c) = True := eq_true r2
      rw [if_pos (.inr (.inl r2))]
      simp only [h6, h7, h8, m1, m2, go_sem, Nat.reduceEqDiff, reduceIte, Int.reduceEq, Int.reduceLT, Int.reduceLE, Nat.reduceAdd, Nat.reduceLT, Nat.reduceLeDiff, Int.reduceToNat, Int.reduceSub, Int.reduceAdd, Int.reduceNeg]
      rfl
    have m2 : ((1114111 : Int) < c) = False := eq_false r2
    by_cases r3 : 55296 ≤ c
    case neg =>
      have m3 : ((55296 : Int) ≤ c) = False := eq_false r3
      rw [if_neg (by omega)]
      simp only [h6, h7, h8, m1, m2, m3, go_sem, Nat.reduceEqDiff, reduceIte, Int.reduceEq, Int.reduceLT, Int.reduceLE, Nat.reduceAdd, Nat.reduceLT, Nat.reduceLeDiff, Int.reduceToNat, Int.reduceSub, Int.reduceAdd, Int.reduceNeg]
      rfl
    have m3 : ((55296 : Int) ≤ c) = True := eq_true r3
    by_cases r4 : c ≤ 57343
    · have m4 : (c ≤ (57343 : Int)) = True := eq_true r4
      rw [if_pos (.inr (.inr ⟨r3, r4⟩))]
      simp only [h6, h7, h8, m1, m2, m3, m4, go_sem, Nat.reduceEqDiff, reduceIte, Int.reduceEq, Int.reduceLT, Int.reduceLE, Nat.reduceAdd, Nat.reduceLT, Nat.reduceLeDiff, Int.reduceToNat, Int.reduceSub, Int.reduceAdd, Int.reduceNeg]
      rfl
    have m4 : (c ≤ (57343 : Int)) = False := eq_false r4
    rw [if_neg (by omega)]
    simp only [h6, h7, h8, m1, m2, m3, m4, go_sem, Nat.reduceEqDiff, reduceIte, Int.reduceEq, Int.reduceLT, Int.reduceLE, Nat.reduceAdd, Nat.reduceLT, Nat.reduceLeDiff, Int.reduceToNat, Int.reduceSub, Int.reduceAdd, Int.reduceNeg]
    rfl
  have f5 : ((192 : Int) ≤ (b : Int)) = False := eq_false (by omega)
  rw [if_neg (by omega)]
  by_cases a5 : 128 ≤ b
  · have f7 : ((128 : Int) ≤ (b : Int)) = True := eq_true (by omega)
    rw [if_pos a5]
    simp only [h0, h1, e0, e1, hcv, hbe, f1, f3, f5, f7, go_sem, Nat.reduceEqDiff, reduceIte, Int.reduceEq, Int.reduceLT, Int.reduceLE, Nat.reduceAdd, Nat.reduceLT, Nat.reduceLeDiff, Int.reduceToNat, Int.reduceSub, Int.reduceAdd, Int.reduceNeg]
    repeat (refine ⟨by omega, ?_⟩)
    rfl
  have f7 : ((128 : Int) ≤ (b : Int)) = False := eq_false (by omega)
  rw [if_neg a5]
  by_cases hlen : i + 1 ≤ s.length
  case neg =>
    have k1 : ((s.length : Int) < ((i + 1 : Nat) : Int)) = True := eq_true (by omega)
    have hwn : IntKind.i64.wrap ((i : Int) + 1) = ((i + 1 : Nat) : Int) := by rw [wrap64 (by omega) (by omega)]; rfl
    simp only [h0, h1, e0, e1, hcv, hbe, f1, f3, f5, f7, k1, hwn, go_sem, Nat.reduceEqDiff, reduceIte, Int.reduceEq, Int.reduceLT, Int.reduceLE, Nat.reduceAdd, Nat.reduceLT, Nat.reduceLeDiff, Int.reduceToNat, Int.reduceSub, Int.reduceAdd, Int.reduceNeg]
    repeat (refine ⟨by omega, ?_⟩)
    unfold finU
    rw [if_pos (by omega)]
    rfl
  have k1 : ((s.length : Int) < ((i + 1 : Nat) : Int)) = False := eq_false (by omega)
  have hwn : IntKind.i64.wrap ((i : Int) + 1) = ((i + 1 : Nat) : Int) := by rw [wrap64 (by omega) (by omega)]; rfl
  simp only [h0, h1, e0, e1, hcv, hbe, f1, f3, f5, f7, k1, hwn, go_sem, Nat.reduceEqDiff, reduceIte, Int.reduceEq, Int.reduceLT, Int.reduceLE, Nat.reduceAdd, Nat.reduceLT, Nat.reduceLeDiff, Int.reduceToNat, Int.reduceSub, Int.reduceAdd, Int.reduceNeg]
  refine xrun_cut _ (utf_cont s i 1 ((b : Int)) (.int .i64 0) (by omega) (by omega) hlen hs (by omega) (by omega) (by simp only [h0, h1, e0, e1, hcv, hbe, go_sem, Nat.reduceEqDiff, reduceIte, Int.reduceEq, Int.reduceLT, Int.reduceLE, Nat.reduceAdd, Nat.reduceLT, Nat.reduceLeDiff, Int.reduceToNat, Int.reduceSub, Int.reduceAdd, Int.reduceNeg]) (by simp only [h0, h1, e0, e1, hcv, hbe, go_sem, Nat.reduceEqDiff, reduceIte, Int.reduceEq, Int.reduceLT, Int.reduceLE, Nat.reduceAdd, Nat.reduceLT, Nat.reduceLeDiff, Int.reduceToNat, Int.reduceSub, Int.reduceAdd, Int.reduceNeg]) (by simp only [h0, h1, e0, e1, hcv, hbe, go_sem, Nat.reduceEqDiff, reduceIte, Int.reduceEq, Int.reduceLT, Int.reduceLE, Nat.reduceAdd, Nat.reduceLT, Nat.reduceLeDiff, Int.reduceToNat, Int.reduceSub, Int.reduceAdd, Int.reduceNeg]; try rfl) (by simp only [h0, h1, e0, e1, hcv, hbe, go_sem, Nat.reduceEqDiff, reduceIte, Int.reduceEq, Int.reduceLT, Int.reduceLE, Nat.reduceAdd, Nat.reduceLT, Nat.reduceLeDiff, Int.reduceToNat, Int.reduceSub, Int.reduceAdd, Int.reduceNeg]; try rfl) (by simp only [h0, h1, e0, e1, hcv, hbe, go_sem, Nat.reduceEqDiff, reduceIte, Int.reduceEq, Int.reduceLT, Int.reduceLE, Nat.reduceAdd, Nat.reduceLT, Nat.reduceLeDiff, Int.reduceToNat, Int.reduceSub, Int.reduceAdd, Int.reduceNeg]; try rfl)) ?_
  clear h0 h1 ρ
  rintro e ρ L ⟨rfl, ⟨rfl, h4, hg⟩ | ⟨rfl, hg, h6, h7, h8⟩⟩
  · simp only [h4, go_sem, Nat.reduceEqDiff, reduceIte, Int.reduceEq, Int.reduceLT, Int.reduceLE, Nat.reduceAdd, Nat.reduceLT, Nat.reduceLeDiff, Int.reduceToNat, Int.reduceSub, Int.reduceAdd, Int.reduceNeg]
    unfold finU
    rw [if_neg (by omega), if_pos hg]
    rfl
  unfold finU
  rw [if_neg (by omega), if_neg (by rw [hg]; decide)]
  generalize cC ((b : Int)) s i (1 - 1) = c at *
  by_cases r1 : c < 0
  · have m1 : (c < 0) = True := eq_true r1
    rw [if_pos (.inl r1)]
    simp only [h6, h7, h8, m1, go_sem, Nat.reduceEqDiff, reduceIte, Int.reduceEq, Int.reduceLT, Int.reduceLE, Nat.reduceAdd, Nat.reduceLT, Nat.reduceLeDiff, Int.reduceToNat, Int.reduceSub, Int.reduceAdd, Int.reduceNeg]
    rfl
  have m1 : (c < 0) = False := eq_false r1
  by_cases r2 : 1114111 < c
  · have m2 : ((1114111 : Int) < c) = True := eq_true r2
    rw [if_pos (.inr (.inl r2))]
    simp only [h6, h7, h8, m1, m2, go_sem, Nat.reduceEqDiff, reduceIte, Int.reduceEq, Int.reduceLT, Int.reduceLE, Nat.reduceAdd, Nat.reduceLT, Nat.reduceLeDiff, Int.reduceToNat, Int.reduceSub, Int.reduceAdd, Int.reduceNeg]
    rfl
  have m2 : ((1114111 : Int) < c) = False := eq_false r2
  by_cases r3 : 55296 ≤ c
  case neg =>
    have m3 : ((55296 : Int) ≤ c) = False := eq_false r3
    rw [if_neg (by omega)]
    simp only [h6, h7, h8, m1, m2, m3, go_sem, Nat.reduceEqDiff, reduceIte, Int.reduceEq, Int.reduceLT, Int.reduceLE, Nat.reduceAdd, Nat.reduceLT, Nat.reduceLeDiff, Int.reduceToNat, Int.reduceSub, Int.reduceAdd, Int.reduceNeg]
    rfl
  have m3 : ((55296 : Int) ≤ c) = True := eq_true r3
  by_cases r4 : c ≤ 57343
  · have m4 : (c ≤ (57343 : Int)) = True := eq_true r4
    rw [if_pos (.inr (.inr ⟨r3, r4⟩))]
    simp only [h6, h7, h8, m1, m2, m3, m4, go_sem, Nat.reduceEqDiff, reduceIte, Int.reduceEq, Int.reduceLT, Int.reduceLE, Nat.reduceAdd, Nat.reduceLT, Nat.reduceLeDiff, Int.reduceToNat, Int.reduceSub, Int.reduceAdd, Int.reduceNeg]
    rfl
  have m4 : (c ≤ (57343 : Int)) = False := eq_false r4
  rw [if_neg (by omega)]
  simp only [h6, h7, h8, m1, m2, m3, m4, go_sem, Nat.reduceEqDiff, reduceIte, Int.reduceEq, Int.reduceLT, Int.reduceLE, Nat.reduceAdd, Nat.reduceLT, Nat.reduceLeDiff, Int.reduceToNat, Int.reduceSub, Int.reduceAdd, Int.reduceNeg]
  rfl
end
end Go.X.TryzW
end
section
open Go Go.X Go.Proofs
set_option maxRecDepth 100000
set_option maxHeartbeats 4000000
set_option linter.unusedSimpArgs false
set_option linter.unusedVariables false
namespace Go.X.TryzW
section
variable {E : Env} {L : List Blk} {K : IV → List Blk → Prop}
theorem get_ba (l : List UInt8) (k : Nat) : (⟨l.toArray⟩ : ByteArray).get! k = l.getD k 0 := by
  show (l.toArray)[k]! = _
  rw [List.getD_eq_getElem?_getD]
  by_cases h : k < l.length
  · rw [getElem!_pos l.toArray k (by simpa using h), List.getElem?_eq_getElem h]; simp
  · rw [getElem!_neg l.toArray k (by simpa using h), List.getElem?_eq_none (by omega)]; rfl
theorem decodeL_eq (s : List UInt8) (i : Nat) : Lib.decodeL (s.drop i) = Lib.decodeN (s.length - i) (s.getD i 0).toNat (s.getD (i + 1) 0).toNat (s.getD (i + 2) 0).toNat (s.getD (i + 3) 0).toNat := by
  unfold Lib.decodeL
  rw [Lib.decode_at]
  simp only [get_ba]
  have e : ∀ k, (s.drop i).getD k 0 = s.getD (i + k) 0 := fun k => by rw [List.getD_eq_getElem?_getD, List.getD_eq_getElem?_getD, List.getElem?_drop]
  simp only [e]
  rw [show (⟨(s.drop i).toArray⟩ : ByteArray).size - 0 = s.length - i by simp [ByteArray.size]]
  simp
theorem gC0 (s : List UInt8) (i : Nat) : (gC s i 0 = false) = False := by simp [gC]
theorem gC1 (s : List UInt8) (i : Nat) : (gC s i 1 = false) = ¬ (128 ≤ (s.getD (i + 1) 0).toNat ∧ (s.getD (i + 1) 0).toNat < 192) := by
  unfold gC gC goodC
  rw [Bool.true_and, decide_eq_false_iff_not]
theorem gC2 (s : List UInt8) (i : Nat) : (gC s i 2 = false) = ¬ ((128 ≤ (s.getD (i + 1) 0).toNat ∧ (s.getD (i + 1) 0).toNat < 192) ∧ (128 ≤ (s.getD (i + 2) 0).toNat ∧ (s.getD (i + 2) 0).toNat < 192)) := by
  unfold gC gC gC goodC
  rw [Bool.true_and, ← Bool.decide_and, decide_eq_false_iff_not]
theorem gC3 (s : List UInt8) (i : Nat) : (gC s i 3 = false) = ¬ (((128 ≤ (s.getD (i + 1) 0).toNat ∧ (s.getD (i + 1) 0).toNat < 192) ∧ (128 ≤ (s.getD (i + 2) 0).toNat ∧ (s.getD (i + 2) 0).toNat < 192)) ∧ (128 ≤ (s.getD (i + 3) 0).toNat ∧ (s.getD (i + 3) 0).toNat < 192)) := by
  unfold gC gC gC gC goodC
  rw [Bool.true_and, ← Bool.decide_and, ← Bool.decide_and, decide_eq_false_iff_not]
theorem rhs_bad : (if ((65533, 1) : Nat × Nat).1 = 65533 ∧ ((65533, 1) : Nat × Nat).2 = 1 then 0 else ((65533, 1) : Nat × Nat).2) = 0 := if_pos ⟨rfl, rfl⟩
theorem rhs_ok (c n : Nat) (hn : n ≠ 1) : (if ((c, n) : Nat × Nat).1 = 65533 ∧ ((c, n) : Nat × Nat).2 = 1 then 0 else ((c, n) : Nat × Nat).2) = n := if_neg (fun h => hn h.2)
theorem utf_dec (s : List UInt8) (i : Nat) (hi : i < s.length) : utfR s i = if (Lib.decodeL (s.drop i)).1 = 65533 ∧ (Lib.decodeL (s.drop i)).2 = 1 then 0 else (Lib.decodeL (s.drop i)).2 := by
  rw [decodeL_eq]
  have c1 : cC (((s.getD i 0).toNat : Int) - 192) s i 1 = 64 * (((s.getD i 0).toNat : Int) - 192) + ((s.getD (i + 1) 0).toNat : Int) - 128 := rfl
  have c2 : cC (((s.getD i 0).toNat : Int) - 224) s i 2 = 64 * (64 * (((s.getD i 0).toNat : Int) - 224) + ((s.getD (i + 1) 0).toNat : Int) - 128) + ((s.getD (i + 2) 0).toNat : Int) - 128 := rfl
  have c3 : cC (((s.getD i 0).toNat : Int) - 240) s i 3 = 64 * (64 * (64 * (((s.getD i 0).toNat : Int) - 240) + ((s.getD (i + 1) 0).toNat : Int) - 128) + ((s.getD (i + 2) 0).toNat : Int) - 128) + ((s.getD (i + 3) 0).toNat : Int) - 128 := rfl
  have c0 : cC ((s.getD i 0).toNat : Int) s i 0 = ((s.getD i 0).toNat : Int) := rfl
  have g0 := gC0 s i
  have g1 := gC1 s i
  have g2 := gC2 s i
  have g3 := gC3 s i
  have l0 := (s.getD i 0).toNat_lt
  have l1 := (s.getD (i + 1) 0).toNat_lt
  have l2 := (s.getD (i + 2) 0).toNat_lt
  have l3 := (s.getD (i + 3) 0).toNat_lt
  unfold utfR finU
  simp only [Nat.reduceSub, c0, c1, c2, c3, g0, g1, g2, g3, Nat.sub_self]
  clear c0 c1 c2 c3 g0 g1 g2 g3
  generalize (s.getD i 0).toNat = b0 at *
  generalize (s.getD (i + 1) 0).toNat = b1 at *
  generalize (s.getD (i + 2) 0).toNat = b2 at *
  generalize (s.getD (i + 3) 0).toNat = b3 at *
  obtain ⟨m, hm⟩ : ∃ m, s.length = i + m := ⟨s.length - i, by omega⟩
  have hm0 : 0 < m := by omega
  rw [hm, show i + m - i = m by omega]
  simp only [Nat.add_lt_add_iff_left]
  clear hm hi
  by_cases a1 : b0 < 128
  · have hd : Lib.decodeN m b0 b1 b2 b3 = (b0, 1) := by unfold Lib.decodeN; rw [if_pos a1]
    rw [hd, if_neg (by omega), if_neg (by omega), if_neg (by omega), if_neg (by omega)]
    rw [if_neg (by omega), if_neg (fun h => h), if_neg (by omega), if_neg (by simp; omega)]
  by_cases a2 : b0 < 192
  · have hd : Lib.decodeN m b0 b1 b2 b3 = (65533, 1) := by
      unfold Lib.decodeN
      rw [if_neg a1, if_neg (by omega), if_neg (by omega), if_neg (by omega)]
    rw [hd, if_neg (by omega), if_neg (by omega), if_neg (by omega), if_pos (by omega), if_pos ⟨rfl, rfl⟩]
  by_cases a3 : b0 < 224
  · have hd : Lib.decodeN m b0 b1 b2 b3 = if (1 < m ∧ b1 / 64 = 2) ∧ b0 % 32 * 64 + b1 % 64 ≥ 128 then (b0 % 32 * 64 + b1 % 64, 2) else (65533, 1) := by
      unfold Lib.decodeN
      rw [if_neg a1]
      by_cases q : 1 < m ∧ b1 / 64 = 2
      · rw [if_pos ⟨by omega, q⟩]
        by_cases q2 : b0 % 32 * 64 + b1 % 64 ≥ 128
        · rw [if_pos q2, if_pos ⟨q, q2⟩]
        · rw [if_neg q2, if_neg (fun h => q2 h.2)]
      · rw [if_neg (fun h => q h.2), if_neg (by omega), if_neg (by omega), if_neg (fun h => q h.1)]
    by_cases q : (1 < m ∧ b1 / 64 = 2) ∧ b0 % 32 * 64 + b1 % 64 ≥ 128
    · rw [hd, if_pos q, rhs_ok _ _ (by decide)]
      rw [if_neg (by omega), if_neg (by omega), if_pos (by omega)]
      rw [if_neg (by omega), if_neg (fun h => h (by omega)), if_neg (by omega)]
    · rw [hd, if_neg q, rhs_bad]
      rw [if_neg (by omega), if_neg (by omega), if_pos (by omega)]
      split
      · rfl
      split
      · rfl
      split
      · rfl
      exfalso
      rename_i h1 h2 h3
      have h2' := Decidable.of_not_not h2
      omega
  by_cases a4 : b0 < 240
  · have hd : Lib.decodeN m b0 b1 b2 b3 = if ((1 < m ∧ b1 / 64 = 2) ∧ (2 < m ∧ b2 / 64 = 2)) ∧ (b0 % 16 * 4096 + b1 % 64 * 64 + b2 % 64 ≥ 2048 ∧ (b0 % 16 * 4096 + b1 % 64 * 64 + b2 % 64 < 55296 ∨ (57344 ≤ b0 % 16 * 4096 + b1 % 64 * 64 + b2 % 64 ∧ b0 % 16 * 4096 + b1 % 64 * 64 + b2 % 64 ≤ 1114111))) then (b0 % 16 * 4096 + b1 % 64 * 64 + b2 % 64, 3) else (65533, 1) := by
      unfold Lib.decodeN
      rw [if_neg a1, if_neg (by omega)]
      by_cases q : (1 < m ∧ b1 / 64 = 2) ∧ (2 < m ∧ b2 / 64 = 2)
      · rw [if_pos ⟨by omega, q.1, q.2⟩]
        by_cases q2 : b0 % 16 * 4096 + b1 % 64 * 64 + b2 % 64 ≥ 2048 ∧ (b0 % 16 * 4096 + b1 % 64 * 64 + b2 % 64 < 55296 ∨ (57344 ≤ b0 % 16 * 4096 + b1 % 64 * 64 + b2 % 64 ∧ b0 % 16 * 4096 + b1 % 64 * 64 + b2 % 64 ≤ 1114111))
        · rw [if_pos q2, if_pos ⟨q, q2⟩]
        · rw [if_neg q2, if_neg (fun h => q2 h.2)]
      · rw [if_neg (fun h => q ⟨h.2.1, h.2.2⟩), if_neg (by omega), if_neg (fun h => q h.1)]
    by_cases q : ((1 < m ∧ b1 / 64 = 2) ∧ (2 < m ∧ b2 / 64 = 2)) ∧ (b0 % 16 * 4096 + b1 % 64 * 64 + b2 % 64 ≥ 2048 ∧ (b0 % 16 * 4096 + b1 % 64 * 64 + b2 % 64 < 55296 ∨ (57344 ≤ b0 % 16 * 4096 + b1 % 64 * 64 + b2 % 64 ∧ b0 % 16 * 4096 + b1 % 64 * 64 + b2 % 64 ≤ 1114111)))
    · rw [hd, if_pos q, rhs_ok _ _ (by decide)]
      rw [if_neg (by omega), if_pos (by omega)]
      rw [if_neg (by omega), if_neg (fun h => h (by omega)), if_neg (by omega)]
    · rw [hd, if_neg q, rhs_bad]
      rw [if_neg (by omega), if_pos (by omega)]
      split
      · rfl
      split
      · rfl
      split
      · rfl
      exfalso
      rename_i h1 h2 h3
      have h2' := Decidable.of_not_not h2
      omega
  by_cases a5 : b0 < 248
  · have hd : Lib.decodeN m b0 b1 b2 b3 = if ((1 < m ∧ b1 / 64 = 2) ∧ (2 < m ∧ b2 / 64 = 2) ∧ (3 < m ∧ b3 / 64 = 2)) ∧ (b0 % 8 * 262144 + b1 % 64 * 4096 + b2 % 64 * 64 + b3 % 64 ≥ 65536 ∧ (b0 % 8 * 262144 + b1 % 64 * 4096 + b2 % 64 * 64 + b3 % 64 < 55296 ∨ (57344 ≤ b0 % 8 * 262144 + b1 % 64 * 4096 + b2 % 64 * 64 + b3 % 64 ∧ b0 % 8 * 262144 + b1 % 64 * 4096 + b2 % 64 * 64 + b3 % 64 ≤ 1114111))) then (b0 % 8 * 262144 + b1 % 64 * 4096 + b2 % 64 * 64 + b3 % 64, 4) else (65533, 1) := by
      unfold Lib.decodeN
      rw [if_neg a1, if_neg (by omega), if_neg (by omega)]
      by_cases q : (1 < m ∧ b1 / 64 = 2) ∧ (2 < m ∧ b2 / 64 = 2) ∧ (3 < m ∧ b3 / 64 = 2)
      · rw [if_pos ⟨by omega, q⟩]
        by_cases q2 : (b0 % 8 * 262144 + b1 % 64 * 4096 + b2 % 64 * 64 + b3 % 64 ≥ 65536 ∧ (b0 % 8 * 262144 + b1 % 64 * 4096 + b2 % 64 * 64 + b3 % 64 < 55296 ∨ (57344 ≤ b0 % 8 * 262144 + b1 % 64 * 4096 + b2 % 64 * 64 + b3 % 64 ∧ b0 % 8 * 262144 + b1 % 64 * 4096 + b2 % 64 * 64 + b3 % 64 ≤ 1114111)))
        · rw [if_pos q2, if_pos ⟨q, q2⟩]
        · rw [if_neg q2, if_neg (fun h => q2 h.2)]
      · rw [if_neg (fun h => q h.2), if_neg (fun h => q h.1)]
    by_cases q : ((1 < m ∧ b1 / 64 = 2) ∧ (2 < m ∧ b2 / 64 = 2) ∧ (3 < m ∧ b3 / 64 = 2)) ∧ (b0 % 8 * 262144 + b1 % 64 * 4096 + b2 % 64 * 64 + b3 % 64 ≥ 65536 ∧ (b0 % 8 * 262144 + b1 % 64 * 4096 + b2 % 64 * 64 + b3 % 64 < 55296 ∨ (57344 ≤ b0 % 8 * 262144 + b1 % 64 * 4096 + b2 % 64 * 64 + b3 % 64 ∧ b0 % 8 * 262144 + b1 % 64 * 4096 + b2 % 64 * 64 + b3 % 64 ≤ 1114111)))
    · rw [hd, if_pos q, rhs_ok _ _ (by decide)]
      rw [if_pos (by omega)]
      rw [if_neg (by omega), if_neg (fun h => h (by omega)), if_neg (by omega)]
    · rw [hd, if_neg q, rhs_bad]
      rw [if_pos (by omega)]
      split
      · rfl
      split
      · rfl
      split
      · rfl
      exfalso
      rename_i h1 h2 h3
      have h2' := Decidable.of_not_not h2
      omega
  · have hd : Lib.decodeN m b0 b1 b2 b3 = (65533, 1) := by
      unfold Lib.decodeN
      rw [if_neg a1, if_neg (by omega), if_neg (by omega), if_neg (by omega)]
    rw [hd, rhs_bad, if_neg (by omega), if_neg (by omega), if_neg (by omega), if_pos (by omega)]
end
end Go.X.TryzW
end
section
open Go Go.X Go.Proofs
set_option maxRecDepth 100000
set_option maxHeartbeats 4000000
set_option linter.unusedSimpArgs false
set_option linter.unusedVariables false
namespace Go.X.TryzW
/- "tiller/tillerlaw13.short" params { toList := [9] } results { toList := [Go.ResultVar.tmp 2] } -/
def q5 : XC :=
 (.seq
  (.ops [
    ⟨(some 2), (.mov (.c (.str []))), none⟩])
  (.seq
   (.seq
    (.ops [
      ⟨(some 3), (.mov (.t 0)), none⟩,
      ⟨(some 4), (.lenS (.t 3)), none⟩,
      ⟨(some 5), (.bin .gtr (.t 4) (.c (.int .i64 1500))), none⟩])
    (.cond (.t 5)
     (.seq
      (.ops [
        ⟨(some 6), (.mov (.t 0)), none⟩,
        ⟨(some 7), (.sliceS (.t 6) none (some (.c (.int .i64 1500)))), none⟩,
        ⟨(some 2), (.mov (.t 7)), none⟩])
      .ret)
     .skip))
   (.seq
    (.ops [
      ⟨(some 8), (.mov (.t 0)), none⟩,
      ⟨(some 2), (.mov (.t 8)), none⟩])
    .ret)))

/- "tiller/front.Query" params { toList := [9] } results { toList := [Go.ResultVar.tmp 2, Go.ResultVar.tmp 3] } -/
/- "tiller/tillerref13.Query" params { toList := [9] } results { toList := [Go.ResultVar.tmp 2, Go.ResultVar.tmp 3] } -/
/- "tiller/front.word" params { toList := [3] } results { toList := [Go.ResultVar.tmp 2] } -/
/- "tiller/tillerref13.Reply" params { toList := [3, 9] } results { toList := [Go.ResultVar.tmp 4] } -/
/- "tiller/front.Error" params { toList := [32] } results { toList := [Go.ResultVar.tmp 2, Go.ResultVar.tmp 3] } -/
/- "tiller/tillerref13.Error" params { toList := [32] } results { toList := [Go.ResultVar.tmp 2, Go.ResultVar.tmp 3] } -/
section
variable {E : Env} {L : List Blk} {K : IV → List Blk → Prop}
def shortF (s : List UInt8) : List UInt8 := s.take 1500
theorem short_pure (hP : E.P = Tryz.prog) (s : List UInt8) : XPure E 5 [.str s] (.str (shortF s)) := by
  refine xpure1 (n := Tryz.f5.ntmps) (c := q5) (t := 2) (by rw [hP]; rfl) (by rw [hP]; kernel_rfl) (by decide) (Nat.le_of_ble_eq_true rfl) ?_
  generalize hρ : entry _ = ρ
  have h0 : ρ 0 = .str s := by rw [← hρ]; rfl
  clear hρ
  unfold q5
  by_cases h : 1500 < s.length
  · have e1 : ((1500 : Int) < (s.length : Int)) = True := eq_true (by omega)
    simp only [h0, e1, go_sem, Nat.reduceEqDiff, reduceIte, Int.reduceEq, Int.reduceLT, Int.reduceLE, Nat.reduceAdd, Nat.reduceLT, Nat.reduceLeDiff, Int.reduceToNat, Int.reduceSub, Int.reduceAdd, Int.reduceNeg]
    exact ⟨by omega, rfl⟩
  · have e1 : ((1500 : Int) < (s.length : Int)) = False := eq_false (by omega)
    have : shortF s = s := List.take_of_length_le (by omega)
    rw [this]
    simp only [h0, e1, go_sem, Nat.reduceEqDiff, reduceIte, Int.reduceEq, Int.reduceLT, Int.reduceLE, Nat.reduceAdd, Nat.reduceLT, Nat.reduceLeDiff, Int.reduceToNat, Int.reduceSub, Int.reduceAdd, Int.reduceNeg]
    rfl
end
end Go.X.TryzW
end
section
open Go Go.X Go.Proofs
set_option maxRecDepth 100000
set_option maxHeartbeats 4000000
set_option linter.unusedSimpArgs false
set_option linter.unusedVariables false
namespace Go.X.TryzW
/- "tiller/front.Reply" params { toList := [3, 9] } results { toList := [Go.ResultVar.tmp 4] } -/
def q6 : XC :=
 (.seq
  (.ops [
    ⟨(some 4), (.mov (.c .nsl)), none⟩])
  (.seq
   (.ops [
     ⟨(some 5), (.mov (.t 0)), none⟩,
     ⟨(some 6), (.call (.f 18) [(.t 5)]), none⟩,
     ⟨(some 7), (.bin .add (.c (.str [72, 84, 84, 80, 47, 49, 46, 49, 32])) (.t 6)), none⟩,
     ⟨(some 8), (.bin .add (.t 7) (.c (.str [32]))), none⟩,
     ⟨(some 9), (.mov (.t 0)), none⟩,
     ⟨(some 10), (.call (.f 19) [(.t 9)]), none⟩,
     ⟨(some 11), (.bin .add (.t 8) (.t 10)), none⟩,
     ⟨(some 12), (.bin .add (.t 11) (.c (.str [13, 10, 67, 111, 110, 116, 101, 110, 116, 45, 76, 101, 110, 103, 116, 104, 58, 32]))), none⟩,
     ⟨(some 13), (.mov (.t 1)), none⟩,
     ⟨(some 14), (.lenS (.t 13)), none⟩,
     ⟨(some 15), (.call (.f 18) [(.t 14)]), none⟩,
     ⟨(some 16), (.bin .add (.t 12) (.t 15)), none⟩,
     ⟨(some 17), (.bin .add (.t 16) (.c (.str [13, 10, 13, 10]))), none⟩,
     ⟨(some 18), (.mov (.t 1)), none⟩,
     ⟨(some 19), (.bin .add (.t 17) (.t 18)), none⟩,
     ⟨(some 20), (.ex (.strB 5) [(.t 19)]), none⟩,
     ⟨(some 4), (.mov (.t 20)), none⟩])
   .ret))

/- "tiller/tillerkeep.SpoilBytes" params { toList := [25] } results { toList := [] } -/
section
variable {E : Env} {L : List Blk} {K : IV → List Blk → Prop}
theorem digits_any (hP : E.P = Tryz.prog) (z : Int) (h0 : -9223372036854775808 ≤ z) (h1 : z ≤ 9223372036854775807) : XPure E 26 [.int .i64 z] (.str (Lib.itoa z)) := by
  unfold Lib.itoa
  by_cases hz : z < 0
  · rw [if_pos hz]
    obtain ⟨N, hN⟩ : ∃ N : Nat, z = -((N : Nat) : Int) := ⟨(-z).toNat, by omega⟩
    subst hN
    have := digits_neg (E := E) hP N (by omega) (by omega)
    rwa [show (-((N : Nat) : Int)).natAbs = N by omega]
  · rw [if_neg hz]
    obtain ⟨N, rfl⟩ : ∃ N : Nat, z = N := ⟨z.toNat, by omega⟩
    have := digits_pure (E := E) hP N (by omega) (by omega)
    rwa [show ((N : Nat) : Int).toNat = N by omega]
theorem itoa_len (z : Int) (h0 : -9223372036854775808 ≤ z) (h1 : z ≤ 9223372036854775807) : (Lib.itoa z).length ≤ 21 := by
  unfold Lib.itoa
  split
  · have := dec_len20 (N := z.natAbs) (by omega)
    rw [List.length_cons]; omega
  · have := dec_len20 (N := z.toNat) (by omega)
    omega
end
end Go.X.TryzW
end
