/- Parts of the proof: Xfsp85, Xfsp9, Xfsp10, Xfsp11. -/
import Derived.Test.YtepkimlnaoaboaaGreatDoorXP24
set_option linter.unusedVariables false
set_option linter.unusedSimpArgs false
set_option linter.unusedSectionVars false
section
open Go Go.X Go.Proofs
set_option maxRecDepth 100000
set_option maxHeartbeats 4000000
set_option linter.unusedSimpArgs false
set_option linter.unusedVariables false
namespace Go.X.TryzW
section
variable {E : Env} {L : List Blk} {K : IV → List Blk → Prop}
theorem isS_none (s : List UInt8) (i : Nat) (c : UInt8) : isS s i c none = Fr.isAt s (Fr.blanks s i) c := rfl
theorem isS_some (s : List UInt8) (i : Nat) (c : UInt8) (x : Nat × Int) : isS s i c (some x) = false := rfl
/-- Behind the loop. -/
def Fin (s : List UInt8) (l : List Fr.Pair) (i : Nat) : Option (Nat × Int) → Prop
  | none => Fr.body s = endF s l (Fr.blanks s i)
  | some x => Fr.body s = .error x
/-- Behind a round. -/
def Rnd (s : List UInt8) (n : Nat) (e : XE) (ρ' : Rho) (L' : List Blk) : Prop :=
  (e = .normal ∧ ∃ (l : List Fr.Pair) (sv : IV) (i : Nat), l.length = n + 1 ∧ l.length ≤ 16 ∧ ρ' 0 = .str s ∧ ρ' 5 = .ptr 0 0 0 ∧ ρ' 6 = sv ∧ L'[0]? = some (rrB s i none) ∧ LstOk L' sv l ∧ Fr.body s = contF s (Fr.fields s (18 - l.length) l (Fr.blanks s i))) ∨
  (e = .exit 0 ∧ ∃ (l : List Fr.Pair) (sv : IV) (i : Nat) (q : Option (Nat × Int)), ρ' 0 = .str s ∧ ρ' 5 = .ptr 0 0 0 ∧ ρ' 6 = sv ∧ L'[0]? = some (rrB s i q) ∧ LstOk L' sv l ∧ Fin s l i q)
/-- From the colon on, refused before. -/
theorem tail_bad (hP : E.P = Tryz.prog) {ρ : Rho} {s : List UInt8} {a : Nat} {x : Nat × Int} {l : List Fr.Pair} {sv : IV} {k : List UInt8} (hs : s.length ≤ 1000000) (h16 : l.length ≤ 16) (h0 : ρ 0 = .str s) (h5 : ρ 5 = .ptr 0 0 0) (h6 : ρ 6 = sv) (h8 : ρ 8 = .str k) (hL : L[0]? = some (rrB s a (some x))) (hl : LstOk L sv l) (hb : Fr.body s = .error x) :
    xrun E z21t ρ L (Rnd s l.length) := by
  unfold z21t
  simp only [h0, h5, h6, h8, go_sem, Nat.reduceEqDiff, reduceIte, Int.reduceEq, Int.reduceLT, Int.reduceLE, Nat.reduceAdd, Nat.reduceLT, Nat.reduceLeDiff, Int.reduceToNat, Int.reduceSub, Int.reduceAdd, Int.reduceNeg]
  refine reat_call (E := E) hP (s := s) (i := a) (q := some x) (c := 58) rfl hs hL ?_
  have hes : eatS s a 58 (some x) = (Fr.blanks s a, some x) := rfl
  rw [hes]
  simp only [h0, h5, h6, h8, go_sem, Nat.reduceEqDiff, reduceIte, Int.reduceEq, Int.reduceLT, Int.reduceLE, Nat.reduceAdd, Nat.reduceLT, Nat.reduceLeDiff, Int.reduceToNat, Int.reduceSub, Int.reduceAdd, Int.reduceNeg]
  refine rval_call (E := E) hP (s := s) (i := Fr.blanks s a) (q := some x) hs (rr_set0 hL) (fun v j hT => by cases hT) (fun p w v b hT => ?_)
  have hx : x = (p, w) := by have : (Except.error x : Except Fr.Bad (List UInt8 × Nat)) = .error (p, w) := hT; cases this; rfl
  rw [← hx]
  have hl2 := (hl.set0 (b := rrB s (Fr.blanks s a) (some x))).set0 (b := rrB s b (some x))
  have hL2 : ((L.set 0 (rrB s (Fr.blanks s a) (some x))).set 0 (rrB s b (some x)))[0]? = some (rrB s b (some x)) := rr_set0 (rr_set0 (j := Fr.blanks s a) (q' := some x) hL)
  generalize (L.set 0 (rrB s (Fr.blanks s a) (some x))).set 0 (rrB s b (some x)) = L2 at *
  simp only [h0, h5, h6, h8, go_sem, Nat.reduceEqDiff, reduceIte, Int.reduceEq, Int.reduceLT, Int.reduceLE, Nat.reduceAdd, Nat.reduceLT, Nat.reduceLeDiff, Int.reduceToNat, Int.reduceSub, Int.reduceAdd, Int.reduceNeg]
  refine app_row (p := ⟨k, v⟩) hl2.app (by simp [rowsOf, pRow]) (by omega) (by simp) fun L3 sv3 hl3 hz3 => ?_
  have hL3 : L3[0]? = some (rrB s b (some x)) := by rw [hz3 0 rfl, List.getElem?_append_left (lt_of_get hL2)]; exact hL2
  simp only [h0, h5, h6, h8, go_sem, Nat.reduceEqDiff, reduceIte, Int.reduceEq, Int.reduceLT, Int.reduceLE, Nat.reduceAdd, Nat.reduceLT, Nat.reduceLeDiff, Int.reduceToNat, Int.reduceSub, Int.reduceAdd, Int.reduceNeg]
  refine ris_call (E := E) hP (s := s) (i := b) (q := some x) (c := 44) rfl hs hL3 ?_
  rw [isS_some]
  simp only [h0, h5, h6, h8, go_sem, Nat.reduceEqDiff, reduceIte, Int.reduceEq, Int.reduceLT, Int.reduceLE, Nat.reduceAdd, Nat.reduceLT, Nat.reduceLeDiff, Int.reduceToNat, Int.reduceSub, Int.reduceAdd, Int.reduceNeg]
  exact .inr ⟨rfl, _, sv3, _, some x, by simp only [h0, go_sem, Nat.reduceEqDiff, reduceIte, Int.reduceEq, Int.reduceLT, Int.reduceLE, Nat.reduceAdd, Nat.reduceLT, Nat.reduceLeDiff, Int.reduceToNat, Int.reduceSub, Int.reduceAdd, Int.reduceNeg], by simp only [h5, go_sem, Nat.reduceEqDiff, reduceIte, Int.reduceEq, Int.reduceLT, Int.reduceLE, Nat.reduceAdd, Nat.reduceLT, Nat.reduceLeDiff, Int.reduceToNat, Int.reduceSub, Int.reduceAdd, Int.reduceNeg], by simp only [go_sem, Nat.reduceEqDiff, reduceIte, Int.reduceEq, Int.reduceLT, Int.reduceLE, Nat.reduceAdd, Nat.reduceLT, Nat.reduceLeDiff, Int.reduceToNat, Int.reduceSub, Int.reduceAdd, Int.reduceNeg]; try rfl, rr_set0 hL3, hl3.set0, hb⟩
/-- .. right so far. -/
theorem tail_good (hP : E.P = Tryz.prog) {ρ : Rho} {s : List UInt8} {a j0 : Nat} {l : List Fr.Pair} {sv : IV} {k : List UInt8} (hs : s.length ≤ 1000000) (h16 : l.length ≤ 16) (h0 : ρ 0 = .str s) (h5 : ρ 5 = .ptr 0 0 0) (h6 : ρ 6 = sv) (h8 : ρ 8 = .str k) (hL : L[0]? = some (rrB s a none)) (hl : LstOk L sv l)
    (ht : Fr.text s j0 = .ok (k, a)) (hno : hasP l k = false) (hn16 : l.length ≠ 16) (hb : Fr.body s = contF s (Fr.fields s (18 - l.length) l j0)) : xrun E z21t ρ L (Rnd s l.length) := by
  have h18 : 18 - l.length = (17 - l.length) + 1 := by omega
  rw [h18] at hb
  unfold z21t
  simp only [h0, h5, h6, h8, go_sem, Nat.reduceEqDiff, reduceIte, Int.reduceEq, Int.reduceLT, Int.reduceLE, Nat.reduceAdd, Nat.reduceLT, Nat.reduceLeDiff, Int.reduceToNat, Int.reduceSub, Int.reduceAdd, Int.reduceNeg]
  refine reat_call (E := E) hP (s := s) (i := a) (q := none) (c := 58) rfl hs hL ?_
  have hfl : fldT s l j0 = (match Fr.must s (Fr.blanks s a) 58 with | .error e => .error e | .ok j => (match valT s j none with | .error e => .error e | .ok (v, m) => .ok (⟨k, v⟩, m))) := by
    unfold fldT
    rw [ht]
    dsimp only
    rw [hno, if_neg (by decide), if_neg hn16]
    rfl
  cases hat : Fr.isAt s (Fr.blanks s a) 58 with
  | false =>
    have hes : eatS s a 58 none = (Fr.blanks s a, some (Fr.blanks s a, 2)) := by unfold eatS; dsimp only; rw [hat]; rfl
    have hbe : Fr.body s = .error (Fr.blanks s a, 2) := by
      rw [hb]
      refine body_err ?_
      rw [hfl]
      unfold Fr.must
      rw [hat]; rfl
    rw [hes]
    dsimp only
    simp only [h0, h5, h6, h8, go_sem, Nat.reduceEqDiff, reduceIte, Int.reduceEq, Int.reduceLT, Int.reduceLE, Nat.reduceAdd, Nat.reduceLT, Nat.reduceLeDiff, Int.reduceToNat, Int.reduceSub, Int.reduceAdd, Int.reduceNeg]
    refine rval_call (E := E) hP (s := s) (i := Fr.blanks s a) (q := some (Fr.blanks s a, 2)) hs (rr_set0 hL) (fun v j hT => by cases hT) (fun p w v b hT => ?_)
    have hx : ((Fr.blanks s a, 2) : Nat × Int) = (p, w) := by have : (Except.error (Fr.blanks s a, 2) : Except Fr.Bad (List UInt8 × Nat)) = .error (p, w) := hT; cases this; rfl
    rw [← hx]
    generalize hxx : ((Fr.blanks s a, 2) : Nat × Int) = x at *
    have hl2 := (hl.set0 (b := rrB s (Fr.blanks s a) (some x))).set0 (b := rrB s b (some x))
    have hL2 : ((L.set 0 (rrB s (Fr.blanks s a) (some x))).set 0 (rrB s b (some x)))[0]? = some (rrB s b (some x)) := rr_set0 (rr_set0 (j := Fr.blanks s a) (q' := some x) hL)
    generalize (L.set 0 (rrB s (Fr.blanks s a) (some x))).set 0 (rrB s b (some x)) = L2 at *
    simp only [h0, h5, h6, h8, go_sem, Nat.reduceEqDiff, reduceIte, Int.reduceEq, Int.reduceLT, Int.reduceLE, Nat.reduceAdd, Nat.reduceLT, Nat.reduceLeDiff, Int.reduceToNat, Int.reduceSub, Int.reduceAdd, Int.reduceNeg]
    refine app_row (p := ⟨k, v⟩) hl2.app (by simp [rowsOf, pRow]) (by omega) (by simp) fun L3 sv3 hl3 hz3 => ?_
    have hL3 : L3[0]? = some (rrB s b (some x)) := by rw [hz3 0 rfl, List.getElem?_append_left (lt_of_get hL2)]; exact hL2
    simp only [h0, h5, h6, h8, go_sem, Nat.reduceEqDiff, reduceIte, Int.reduceEq, Int.reduceLT, Int.reduceLE, Nat.reduceAdd, Nat.reduceLT, Nat.reduceLeDiff, Int.reduceToNat, Int.reduceSub, Int.reduceAdd, Int.reduceNeg]
    refine ris_call (E := E) hP (s := s) (i := b) (q := some x) (c := 44) rfl hs hL3 ?_
    rw [isS_some]
    simp only [h0, h5, h6, h8, go_sem, Nat.reduceEqDiff, reduceIte, Int.reduceEq, Int.reduceLT, Int.reduceLE, Nat.reduceAdd, Nat.reduceLT, Nat.reduceLeDiff, Int.reduceToNat, Int.reduceSub, Int.reduceAdd, Int.reduceNeg]
    exact .inr ⟨rfl, _, sv3, _, some x, by simp only [h0, go_sem, Nat.reduceEqDiff, reduceIte, Int.reduceEq, Int.reduceLT, Int.reduceLE, Nat.reduceAdd, Nat.reduceLT, Nat.reduceLeDiff, Int.reduceToNat, Int.reduceSub, Int.reduceAdd, Int.reduceNeg], by simp only [h5, go_sem, Nat.reduceEqDiff, reduceIte, Int.reduceEq, Int.reduceLT, Int.reduceLE, Nat.reduceAdd, Nat.reduceLT, Nat.reduceLeDiff, Int.reduceToNat, Int.reduceSub, Int.reduceAdd, Int.reduceNeg], by simp only [go_sem, Nat.reduceEqDiff, reduceIte, Int.reduceEq, Int.reduceLT, Int.reduceLE, Nat.reduceAdd, Nat.reduceLT, Nat.reduceLeDiff, Int.reduceToNat, Int.reduceSub, Int.reduceAdd, Int.reduceNeg]; try rfl, rr_set0 hL3, hl3.set0, hbe⟩
  | true =>
  have hes : eatS s a 58 none = (Fr.blanks s a + 1, none) := by unfold eatS; dsimp only; rw [hat]; rfl
  have hfl2 : fldT s l j0 = (match valT s (Fr.blanks s a + 1) none with | .error e => .error e | .ok (v, m) => .ok (⟨k, v⟩, m)) := by
    rw [hfl]
    unfold Fr.must
    rw [hat]; rfl
  rw [hes]
  dsimp only
  simp only [h0, h5, h6, h8, go_sem, Nat.reduceEqDiff, reduceIte, Int.reduceEq, Int.reduceLT, Int.reduceLE, Nat.reduceAdd, Nat.reduceLT, Nat.reduceLeDiff, Int.reduceToNat, Int.reduceSub, Int.reduceAdd, Int.reduceNeg]
  refine rval_call (E := E) hP (s := s) (i := Fr.blanks s a + 1) (q := none) hs (rr_set0 hL) (fun v m hT => ?_) (fun p w v b hT => ?_)
  · rw [hT] at hfl2
    dsimp only at hfl2
    have hbo := body_ok (f := 17 - l.length) hfl2
    rw [← hb] at hbo
    have hl2 := (hl.set0 (b := rrB s (Fr.blanks s a + 1) none)).set0 (b := rrB s m none)
    have hL2 : ((L.set 0 (rrB s (Fr.blanks s a + 1) none)).set 0 (rrB s m none))[0]? = some (rrB s m none) := rr_set0 (rr_set0 (j := Fr.blanks s a + 1) (q' := none) hL)
    generalize (L.set 0 (rrB s (Fr.blanks s a + 1) none)).set 0 (rrB s m none) = L2 at *
    simp only [h0, h5, h6, h8, go_sem, Nat.reduceEqDiff, reduceIte, Int.reduceEq, Int.reduceLT, Int.reduceLE, Nat.reduceAdd, Nat.reduceLT, Nat.reduceLeDiff, Int.reduceToNat, Int.reduceSub, Int.reduceAdd, Int.reduceNeg]
    refine app_row (p := ⟨k, v⟩) hl2.app (by simp [rowsOf, pRow]) (by omega) (by simp) fun L3 sv3 hl3 hz3 => ?_
    have hL3 : L3[0]? = some (rrB s m none) := by rw [hz3 0 rfl, List.getElem?_append_left (lt_of_get hL2)]; exact hL2
    simp only [h0, h5, h6, h8, go_sem, Nat.reduceEqDiff, reduceIte, Int.reduceEq, Int.reduceLT, Int.reduceLE, Nat.reduceAdd, Nat.reduceLT, Nat.reduceLeDiff, Int.reduceToNat, Int.reduceSub, Int.reduceAdd, Int.reduceNeg]
    refine ris_call (E := E) hP (s := s) (i := m) (q := none) (c := 44) rfl hs hL3 ?_
    rw [isS_none]
    have hL4 : (L3.set 0 (rrB s (Fr.blanks s m) none))[0]? = some (rrB s (Fr.blanks s m) none) := rr_set0 hL3
    have hl4 := hl3.set0 (b := rrB s (Fr.blanks s m) none)
    generalize L3.set 0 (rrB s (Fr.blanks s m) none) = L4 at *
    cases hc : Fr.isAt s (Fr.blanks s m) 44 with
    | false =>
      rw [hc, if_neg (by decide)] at hbo
      simp only [h0, h5, h6, h8, go_sem, Nat.reduceEqDiff, reduceIte, Int.reduceEq, Int.reduceLT, Int.reduceLE, Nat.reduceAdd, Nat.reduceLT, Nat.reduceLeDiff, Int.reduceToNat, Int.reduceSub, Int.reduceAdd, Int.reduceNeg]
      exact .inr ⟨rfl, _, sv3, _, none, by simp only [h0, go_sem, Nat.reduceEqDiff, reduceIte, Int.reduceEq, Int.reduceLT, Int.reduceLE, Nat.reduceAdd, Nat.reduceLT, Nat.reduceLeDiff, Int.reduceToNat, Int.reduceSub, Int.reduceAdd, Int.reduceNeg], by simp only [h5, go_sem, Nat.reduceEqDiff, reduceIte, Int.reduceEq, Int.reduceLT, Int.reduceLE, Nat.reduceAdd, Nat.reduceLT, Nat.reduceLeDiff, Int.reduceToNat, Int.reduceSub, Int.reduceAdd, Int.reduceNeg], by simp only [go_sem, Nat.reduceEqDiff, reduceIte, Int.reduceEq, Int.reduceLT, Int.reduceLE, Nat.reduceAdd, Nat.reduceLT, Nat.reduceLeDiff, Int.reduceToNat, Int.reduceSub, Int.reduceAdd, Int.reduceNeg]; try rfl, hL4, hl4, by unfold Fin; rw [blanks_idem]; exact hbo⟩
    | true =>
      rw [hc, if_pos rfl] at hbo
      have hlt := isAt_lt hc
      have hL4u := hL4
      unfold rrB at hL4u
      have hw : IntKind.i64.wrap (((Fr.blanks s m : Nat) : Int) + 1) = ((Fr.blanks s m + 1 : Nat) : Int) := by rw [wrap64 (by omega) (by omega)]; rfl
      simp only [h0, h5, h6, h8, hL4u, hw, go_sem, Nat.reduceEqDiff, reduceIte, Int.reduceEq, Int.reduceLT, Int.reduceLE, Nat.reduceAdd, Nat.reduceLT, Nat.reduceLeDiff, Int.reduceToNat, Int.reduceSub, Int.reduceAdd, Int.reduceNeg]
      refine .inl ⟨rfl, _, sv3, Fr.blanks s m + 1, by rw [List.length_append]; rfl, by rw [List.length_append]; simp; omega, by simp only [h0, go_sem, Nat.reduceEqDiff, reduceIte, Int.reduceEq, Int.reduceLT, Int.reduceLE, Nat.reduceAdd, Nat.reduceLT, Nat.reduceLeDiff, Int.reduceToNat, Int.reduceSub, Int.reduceAdd, Int.reduceNeg], by simp only [h5, go_sem, Nat.reduceEqDiff, reduceIte, Int.reduceEq, Int.reduceLT, Int.reduceLE, Nat.reduceAdd, Nat.reduceLT, Nat.reduceLeDiff, Int.reduceToNat, Int.reduceSub, Int.reduceAdd, Int.reduceNeg], by simp only [go_sem, Nat.reduceEqDiff, reduceIte, Int.reduceEq, Int.reduceLT, Int.reduceLE, Nat.reduceAdd, Nat.reduceLT, Nat.reduceLeDiff, Int.reduceToNat, Int.reduceSub, Int.reduceAdd, Int.reduceNeg]; try rfl, rr_set0 hL4, hl4.set0, ?_⟩
      rw [hbo, List.length_append, List.length_singleton, show 18 - (l.length + 1) = 17 - l.length by omega]
  · rw [hT] at hfl2
    dsimp only at hfl2
    have hbe : Fr.body s = .error (p, w) := by rw [hb]; exact body_err hfl2
    generalize hxx : ((p, w) : Nat × Int) = x at *
    have hl2 := (hl.set0 (b := rrB s (Fr.blanks s a + 1) none)).set0 (b := rrB s b (some x))
    have hL2 : ((L.set 0 (rrB s (Fr.blanks s a + 1) none)).set 0 (rrB s b (some x)))[0]? = some (rrB s b (some x)) := rr_set0 (rr_set0 (j := Fr.blanks s a + 1) (q' := none) hL)
    generalize (L.set 0 (rrB s (Fr.blanks s a + 1) none)).set 0 (rrB s b (some x)) = L2 at *
    simp only [h0, h5, h6, h8, go_sem, Nat.reduceEqDiff, reduceIte, Int.reduceEq, Int.reduceLT, Int.reduceLE, Nat.reduceAdd, Nat.reduceLT, Nat.reduceLeDiff, Int.reduceToNat, Int.reduceSub, Int.reduceAdd, Int.reduceNeg]
    refine app_row (p := ⟨k, v⟩) hl2.app (by simp [rowsOf, pRow]) (by omega) (by simp) fun L3 sv3 hl3 hz3 => ?_
    have hL3 : L3[0]? = some (rrB s b (some x)) := by rw [hz3 0 rfl, List.getElem?_append_left (lt_of_get hL2)]; exact hL2
    simp only [h0, h5, h6, h8, go_sem, Nat.reduceEqDiff, reduceIte, Int.reduceEq, Int.reduceLT, Int.reduceLE, Nat.reduceAdd, Nat.reduceLT, Nat.reduceLeDiff, Int.reduceToNat, Int.reduceSub, Int.reduceAdd, Int.reduceNeg]
    refine ris_call (E := E) hP (s := s) (i := b) (q := some x) (c := 44) rfl hs hL3 ?_
    rw [isS_some]
    simp only [h0, h5, h6, h8, go_sem, Nat.reduceEqDiff, reduceIte, Int.reduceEq, Int.reduceLT, Int.reduceLE, Nat.reduceAdd, Nat.reduceLT, Nat.reduceLeDiff, Int.reduceToNat, Int.reduceSub, Int.reduceAdd, Int.reduceNeg]
    exact .inr ⟨rfl, _, sv3, _, some x, by simp only [h0, go_sem, Nat.reduceEqDiff, reduceIte, Int.reduceEq, Int.reduceLT, Int.reduceLE, Nat.reduceAdd, Nat.reduceLT, Nat.reduceLeDiff, Int.reduceToNat, Int.reduceSub, Int.reduceAdd, Int.reduceNeg], by simp only [h5, go_sem, Nat.reduceEqDiff, reduceIte, Int.reduceEq, Int.reduceLT, Int.reduceLE, Nat.reduceAdd, Nat.reduceLT, Nat.reduceLeDiff, Int.reduceToNat, Int.reduceSub, Int.reduceAdd, Int.reduceNeg], by simp only [go_sem, Nat.reduceEqDiff, reduceIte, Int.reduceEq, Int.reduceLT, Int.reduceLE, Nat.reduceAdd, Nat.reduceLT, Nat.reduceLeDiff, Int.reduceToNat, Int.reduceSub, Int.reduceAdd, Int.reduceNeg]; try rfl, rr_set0 hL3, hl3.set0, hbe⟩
/-- A round. -/
theorem round_run (hP : E.P = Tryz.prog) {ρ : Rho} {s : List UInt8} {i : Nat} {l : List Fr.Pair} {sv : IV} (hs : s.length ≤ 1000000) (h16 : l.length ≤ 16) (h0 : ρ 0 = .str s) (h5 : ρ 5 = .ptr 0 0 0) (h6 : ρ 6 = sv) (hL : L[0]? = some (rrB s i none)) (hl : LstOk L sv l)
    (hb : Fr.body s = contF s (Fr.fields s (18 - l.length) l (Fr.blanks s i))) : xrun E z21b ρ L (Rnd s l.length) := by
  unfold z21b
  simp only [h0, h5, h6, go_sem, Nat.reduceEqDiff, reduceIte, Int.reduceEq, Int.reduceLT, Int.reduceLE, Nat.reduceAdd, Nat.reduceLT, Nat.reduceLeDiff, Int.reduceToNat, Int.reduceSub, Int.reduceAdd, Int.reduceNeg]
  refine rskip_call (E := E) hP (s := s) (i := i) (q := none) hs hL ?_
  have hidem := blanks_idem s i
  have hL1 : (L.set 0 (rrB s (Fr.blanks s i) none))[0]? = some (rrB s (Fr.blanks s i) none) := rr_set0 hL
  have hl1 := hl.set0 (b := rrB s (Fr.blanks s i) none)
  generalize L.set 0 (rrB s (Fr.blanks s i) none) = L1 at *
  generalize hj : Fr.blanks s i = j0 at *
  have hL1u := hL1
  unfold rrB at hL1u
  simp only [h0, h5, h6, hL1u, go_sem, Nat.reduceEqDiff, reduceIte, Int.reduceEq, Int.reduceLT, Int.reduceLE, Nat.reduceAdd, Nat.reduceLT, Nat.reduceLeDiff, Int.reduceToNat, Int.reduceSub, Int.reduceAdd, Int.reduceNeg]
  have hT0 : txtT s j0 none = Fr.text s j0 := by unfold txtT; dsimp only; rw [hidem]
  have hb2 := hb
  rw [show 18 - l.length = (17 - l.length) + 1 by omega] at hb2
  refine rtext_call (E := E) hP (s := s) (i := j0) (q := none) hs hL1 (fun k a hT hk => ?_) (fun p w a hT => ?_)
  · rw [hT0] at hT
    have hL2 : (L1.set 0 (rrB s a none))[0]? = some (rrB s a none) := rr_set0 hL1
    have hl2 := hl1.set0 (b := rrB s a none)
    generalize L1.set 0 (rrB s a none) = L2 at *
    simp only [h0, h5, h6, go_sem, Nat.reduceEqDiff, reduceIte, Int.reduceEq, Int.reduceLT, Int.reduceLE, Nat.reduceAdd, Nat.reduceLT, Nat.reduceLeDiff, Int.reduceToNat, Int.reduceSub, Int.reduceAdd, Int.reduceNeg]
    refine xcut_norm _ (dup_run hP (q := none) (k := k) (j0 := j0) h16 (by simp only [h0, go_sem, Nat.reduceEqDiff, reduceIte, Int.reduceEq, Int.reduceLT, Int.reduceLE, Nat.reduceAdd, Nat.reduceLT, Nat.reduceLeDiff, Int.reduceToNat, Int.reduceSub, Int.reduceAdd, Int.reduceNeg]) (by simp only [h5, go_sem, Nat.reduceEqDiff, reduceIte, Int.reduceEq, Int.reduceLT, Int.reduceLE, Nat.reduceAdd, Nat.reduceLT, Nat.reduceLeDiff, Int.reduceToNat, Int.reduceSub, Int.reduceAdd, Int.reduceNeg]) (by simp only [h6, go_sem, Nat.reduceEqDiff, reduceIte, Int.reduceEq, Int.reduceLT, Int.reduceLE, Nat.reduceAdd, Nat.reduceLT, Nat.reduceLeDiff, Int.reduceToNat, Int.reduceSub, Int.reduceAdd, Int.reduceNeg]) (by simp only [go_sem, Nat.reduceEqDiff, reduceIte, Int.reduceEq, Int.reduceLT, Int.reduceLE, Nat.reduceAdd, Nat.reduceLT, Nat.reduceLeDiff, Int.reduceToNat, Int.reduceSub, Int.reduceAdd, Int.reduceNeg]; try rfl) (by simp only [go_sem, Nat.reduceEqDiff, reduceIte, Int.reduceEq, Int.reduceLT, Int.reduceLE, Nat.reduceAdd, Nat.reduceLT, Nat.reduceLeDiff, Int.reduceToNat, Int.reduceSub, Int.reduceAdd, Int.reduceNeg]; try rfl) hL2 hl2) (fun ρ2 L3 h => ?_)
    obtain ⟨g0, g5, g6, g7, g8, hL3, hl3⟩ := h
    clear h0 h5 h6
    simp only [g0, g5, g6, g7, g8, go_sem, Nat.reduceEqDiff, reduceIte, Int.reduceEq, Int.reduceLT, Int.reduceLE, Nat.reduceAdd, Nat.reduceLT, Nat.reduceLeDiff, Int.reduceToNat, Int.reduceSub, Int.reduceAdd, Int.reduceNeg]
    refine xcut_norm _ (many_run hP (q := dupQ l k j0 none) (k := k) (j0 := j0) g0 g5 g6 g7 g8 hL3 hl3) (fun ρ4 L4 h => ?_)
    obtain ⟨e0, e5, e6, e7, e8, hL4, hl4⟩ := h
    clear g0 g5 g6 g7 g8
    simp only [e0, e5, e6, e7, e8, go_sem, Nat.reduceEqDiff, reduceIte, Int.reduceEq, Int.reduceLT, Int.reduceLE, Nat.reduceAdd, Nat.reduceLT, Nat.reduceLeDiff, Int.reduceToNat, Int.reduceSub, Int.reduceAdd, Int.reduceNeg]
    cases hno : hasP l k with
    | true =>
      have hq : manyQ l j0 (dupQ l k j0 none) = some (j0, 16) := by unfold dupQ; dsimp only; rw [hno]; rfl
      rw [hq] at hL4
      refine tail_bad hP (x := (j0, 16)) (k := k) hs h16 e0 e5 e6 e8 hL4 hl4 ?_
      rw [hb2]
      refine body_err ?_
      unfold fldT
      rw [hT]
      dsimp only
      rw [hno]; rfl
    | false =>
      by_cases hn16 : l.length = 16
      · have hq : manyQ l j0 (dupQ l k j0 none) = some (j0, 10) := by unfold dupQ; dsimp only; rw [hno]; exact if_pos hn16
        rw [hq] at hL4
        refine tail_bad hP (x := (j0, 10)) (k := k) hs h16 e0 e5 e6 e8 hL4 hl4 ?_
        rw [hb2]
        refine body_err ?_
        unfold fldT
        rw [hT]
        dsimp only
        rw [hno, if_neg (by decide), if_pos hn16]
      · have hq : manyQ l j0 (dupQ l k j0 none) = none := by unfold dupQ; dsimp only; rw [hno]; exact if_neg hn16
        rw [hq] at hL4
        exact tail_good hP (j0 := j0) (k := k) hs h16 e0 e5 e6 e8 hL4 hl4 hT hno hn16 hb
  · rw [hT0] at hT
    have hbe : Fr.body s = .error (p, w) := by
      rw [hb2]
      refine body_err ?_
      unfold fldT
      rw [hT]
    have hL2 : (L1.set 0 (rrB s a (some (p, w))))[0]? = some (rrB s a (some (p, w))) := rr_set0 hL1
    have hl2 := hl1.set0 (b := rrB s a (some (p, w)))
    generalize L1.set 0 (rrB s a (some (p, w))) = L2 at *
    simp only [h0, h5, h6, go_sem, Nat.reduceEqDiff, reduceIte, Int.reduceEq, Int.reduceLT, Int.reduceLE, Nat.reduceAdd, Nat.reduceLT, Nat.reduceLeDiff, Int.reduceToNat, Int.reduceSub, Int.reduceAdd, Int.reduceNeg]
    refine xcut_norm _ (dup_run hP (q := some (p, w)) (k := []) (j0 := j0) h16 (by simp only [h0, go_sem, Nat.reduceEqDiff, reduceIte, Int.reduceEq, Int.reduceLT, Int.reduceLE, Nat.reduceAdd, Nat.reduceLT, Nat.reduceLeDiff, Int.reduceToNat, Int.reduceSub, Int.reduceAdd, Int.reduceNeg]) (by simp only [h5, go_sem, Nat.reduceEqDiff, reduceIte, Int.reduceEq, Int.reduceLT, Int.reduceLE, Nat.reduceAdd, Nat.reduceLT, Nat.reduceLeDiff, Int.reduceToNat, Int.reduceSub, Int.reduceAdd, Int.reduceNeg]) (by simp only [h6, go_sem, Nat.reduceEqDiff, reduceIte, Int.reduceEq, Int.reduceLT, Int.reduceLE, Nat.reduceAdd, Nat.reduceLT, Nat.reduceLeDiff, Int.reduceToNat, Int.reduceSub, Int.reduceAdd, Int.reduceNeg]) (by simp only [go_sem, Nat.reduceEqDiff, reduceIte, Int.reduceEq, Int.reduceLT, Int.reduceLE, Nat.reduceAdd, Nat.reduceLT, Nat.reduceLeDiff, Int.reduceToNat, Int.reduceSub, Int.reduceAdd, Int.reduceNeg]; try rfl) (by simp only [go_sem, Nat.reduceEqDiff, reduceIte, Int.reduceEq, Int.reduceLT, Int.reduceLE, Nat.reduceAdd, Nat.reduceLT, Nat.reduceLeDiff, Int.reduceToNat, Int.reduceSub, Int.reduceAdd, Int.reduceNeg]; try rfl) hL2 hl2) (fun ρ2 L3 h => ?_)
    obtain ⟨g0, g5, g6, g7, g8, hL3, hl3⟩ := h
    clear h0 h5 h6
    simp only [g0, g5, g6, g7, g8, go_sem, Nat.reduceEqDiff, reduceIte, Int.reduceEq, Int.reduceLT, Int.reduceLE, Nat.reduceAdd, Nat.reduceLT, Nat.reduceLeDiff, Int.reduceToNat, Int.reduceSub, Int.reduceAdd, Int.reduceNeg]
    refine xcut_norm _ (many_run hP (q := dupQ l [] j0 (some (p, w))) (k := []) (j0 := j0) g0 g5 g6 g7 g8 hL3 hl3) (fun ρ4 L4 h => ?_)
    obtain ⟨e0, e5, e6, e7, e8, hL4, hl4⟩ := h
    clear g0 g5 g6 g7 g8
    simp only [e0, e5, e6, e7, e8, go_sem, Nat.reduceEqDiff, reduceIte, Int.reduceEq, Int.reduceLT, Int.reduceLE, Nat.reduceAdd, Nat.reduceLT, Nat.reduceLeDiff, Int.reduceToNat, Int.reduceSub, Int.reduceAdd, Int.reduceNeg]
    exact tail_bad hP (x := (p, w)) (k := []) hs h16 e0 e5 e6 e8 hL4 hl4 hbe
end
end Go.X.TryzW
end
section
open Go Go.X Go.Proofs
set_option maxRecDepth 100000
set_option maxHeartbeats 4000000
set_option linter.unusedSimpArgs false
set_option linter.unusedVariables false
namespace Go.X.TryzW
section
variable {E : Env} {L : List Blk} {K : IV → List Blk → Prop}
/-- Where the loop over fields stands: right, or refused. -/
inductive At (s : List UInt8) (L : List Blk) (sv : IV) (l : List Fr.Pair) : Nat → Option (Nat × Int) → Prop
  | good (i : Nat) (h16 : l.length ≤ 16) (hb : Fr.body s = contF s (if l = [] ∧ Fr.isAt s (Fr.blanks s i) 125 = true then .ok ([], Fr.blanks s i) else Fr.fields s (18 - l.length) l (Fr.blanks s i))) : At s L sv l i none
  | bad (i p : Nat) (w : Int) (h : Fr.body s = .error (p, w)) : At s L sv l i (some (p, w))
def objA (s : List UInt8) : IV := match Fr.body s with | .ok l => .isl (pRows l) | .error _ => .isl []
def objB (s : List UInt8) : IV := match Fr.body s with | .ok _ => .int .i64 0 | .error (p, _) => .int .i64 p
def objC (s : List UInt8) : IV := match Fr.body s with | .ok _ => .int .i64 0 | .error (_, w) => .int .i64 w
theorem obj_tup (s : List UInt8) : objIV s = .tup [objA s, objB s, objC s] := by
  unfold objIV objA objB objC
  cases Fr.body s with
  | ok l => rfl
  | error x => rfl
theorem robj_pure (hP : E.P = Tryz.prog) (s : List UInt8) (hs : s.length ≤ 1000000) : XPure E 21 [.str s] (objIV s) := by
  rw [obj_tup]
  refine xpure_t3 (n := Tryz.f21.ntmps) (c := y21) (t := 2) (t' := 3) (t'' := 4) (by rw [hP]; rfl) (by rw [hP]; kernel_rfl) (by decide) (Nat.le_of_ble_eq_true rfl) ?_
  generalize hρ : entry _ = ρ
  have h0 : ρ 0 = .str s := by rw [← hρ]; rfl
  clear hρ
  unfold y21
  simp only [h0, go_sem, Nat.reduceEqDiff, reduceIte, Int.reduceEq, Int.reduceLT, Int.reduceLE, Nat.reduceAdd, Nat.reduceLT, Nat.reduceLeDiff, Int.reduceToNat, Int.reduceSub, Int.reduceAdd, Int.reduceNeg]
  refine reat_call (E := E.noPan) hP (s := s) (i := 0) (q := none) (c := 123) rfl hs rfl ?_
  show xops _ _ _ [rrB s (eatS s 0 123 none).1 (eatS s 0 123 none).2] _
  have hst : (∃ i, eatS s 0 123 none = (i, none) ∧ i ≤ s.length ∧ Fr.body s = contF s (if Fr.isAt s (Fr.blanks s i) 125 = true then .ok ([], Fr.blanks s i) else Fr.fields s 18 [] (Fr.blanks s i))) ∨ ∃ i p w, eatS s 0 123 none = (i, some (p, w)) ∧ Fr.body s = .error (p, w) := by
    rw [body_eq]
    unfold eatS Fr.must
    dsimp only
    cases hat : Fr.isAt s (Fr.blanks s 0) 123 with
    | true => have := isAt_lt hat; exact .inl ⟨Fr.blanks s 0 + 1, rfl, by omega, rfl⟩
    | false => exact .inr ⟨_, _, _, rfl, rfl⟩
  generalize eatS s 0 123 none = es at *
  simp only [h0, go_sem, Nat.reduceEqDiff, reduceIte, Int.reduceEq, Int.reduceLT, Int.reduceLE, Nat.reduceAdd, Nat.reduceLT, Nat.reduceLeDiff, Int.reduceToNat, Int.reduceSub, Int.reduceAdd, Int.reduceNeg]
  refine xrun_cut (fun e ρ' L' => e = .exit 0 ∧ ∃ (l : List Fr.Pair) (sv : IV) (i : Nat) (q : Option (Nat × Int)), ρ' 0 = .str s ∧ ρ' 5 = .ptr 0 0 0 ∧ ρ' 6 = sv ∧ L'[0]? = some (rrB s i q) ∧ LstOk L' sv l ∧ Fin s l i q) ?_ ?_
  rotate_left
  · rintro e ρ L ⟨rfl, l, sv, i, q, h0, h5, h6, hL, hl, hF⟩
    simp only [h0, h5, h6, go_sem, Nat.reduceEqDiff, reduceIte, Int.reduceEq, Int.reduceLT, Int.reduceLE, Nat.reduceAdd, Nat.reduceLT, Nat.reduceLeDiff, Int.reduceToNat, Int.reduceSub, Int.reduceAdd, Int.reduceNeg]
    refine reat_call (E := E.noPan) hP (s := s) (i := i) (q := q) (c := 125) rfl hs hL ?_
    cases q with
    | some x =>
      obtain ⟨p, w⟩ := x
      have hbe : Fr.body s = .error (p, w) := hF
      have hes : eatS s i 125 (some (p, w)) = (Fr.blanks s i, some (p, w)) := rfl
      rw [hes]
      dsimp only
      have hL1 : (L.set 0 (rrB s (Fr.blanks s i) (some (p, w))))[0]? = some (rrB s (Fr.blanks s i) (some (p, w))) := rr_set0 hL
      generalize L.set 0 (rrB s (Fr.blanks s i) (some (p, w))) = L1 at *
      simp only [h0, h5, h6, go_sem, Nat.reduceEqDiff, reduceIte, Int.reduceEq, Int.reduceLT, Int.reduceLE, Nat.reduceAdd, Nat.reduceLT, Nat.reduceLeDiff, Int.reduceToNat, Int.reduceSub, Int.reduceAdd, Int.reduceNeg]
      have hA : objA s = .isl [] := by unfold objA; rw [hbe]
      have hB : objB s = .int .i64 ((p : Nat) : Int) := by unfold objB; rw [hbe]
      have hC : objC s = .int .i64 w := by unfold objC; rw [hbe]
      rw [hA, hB, hC]
      refine rskip_call (E := E.noPan) hP (s := s) (i := Fr.blanks s i) (q := some (p, w)) hs hL1 ?_
      have hLz : (L1.set 0 (rrB s (Fr.blanks s (Fr.blanks s i)) (some (p, w))))[0]? = some (rrB s (Fr.blanks s (Fr.blanks s i)) (some (p, w))) := rr_set0 hL1
      generalize L1.set 0 (rrB s (Fr.blanks s (Fr.blanks s i)) (some (p, w))) = Lz at *
      have hLzu := hLz
      unfold rrB at hLzu
      have z1 := bdS (p, w)
      have z2 := bdS' (p, w)
      simp only [h0, h5, h6, hLzu, z1, z2, go_sem, Nat.reduceEqDiff, reduceIte, Int.reduceEq, Int.reduceLT, Int.reduceLE, Nat.reduceAdd, Nat.reduceLT, Nat.reduceLeDiff, Int.reduceToNat, Int.reduceSub, Int.reduceAdd, Int.reduceNeg]
      exact ⟨by rfl, rfl⟩
    | none =>
    have hbd : Fr.body s = endF s l (Fr.blanks s i) := hF
    generalize hj : Fr.blanks s i = j at *
    cases hat : Fr.isAt s j 125 with
    | false =>
      have hbe : Fr.body s = .error (j, 2) := by rw [hbd]; unfold endF Fr.must; rw [hat]; rfl
      have hes : eatS s i 125 none = (j, some (j, 2)) := by unfold eatS; dsimp only; rw [hj, hat]; rfl
      rw [hes]
      dsimp only
      have hL1 : (L.set 0 (rrB s j (some (j, 2))))[0]? = some (rrB s j (some (j, 2))) := rr_set0 hL
      generalize L.set 0 (rrB s j (some (j, 2))) = L1 at *
      simp only [h0, h5, h6, go_sem, Nat.reduceEqDiff, reduceIte, Int.reduceEq, Int.reduceLT, Int.reduceLE, Nat.reduceAdd, Nat.reduceLT, Nat.reduceLeDiff, Int.reduceToNat, Int.reduceSub, Int.reduceAdd, Int.reduceNeg]
      have hA : objA s = .isl [] := by unfold objA; rw [hbe]
      have hB : objB s = .int .i64 ((j : Nat) : Int) := by unfold objB; rw [hbe]
      have hC : objC s = .int .i64 2 := by unfold objC; rw [hbe]
      rw [hA, hB, hC]
      refine rskip_call (E := E.noPan) hP (s := s) (i := j) (q := some (j, 2)) hs hL1 ?_
      have hLz : (L1.set 0 (rrB s (Fr.blanks s (j)) (some (j, 2))))[0]? = some (rrB s (Fr.blanks s (j)) (some (j, 2))) := rr_set0 hL1
      generalize L1.set 0 (rrB s (Fr.blanks s (j)) (some (j, 2))) = Lz at *
      have hLzu := hLz
      unfold rrB at hLzu
      have z1 := bdS (j, 2)
      have z2 := bdS' (j, 2)
      simp only [h0, h5, h6, hLzu, z1, z2, go_sem, Nat.reduceEqDiff, reduceIte, Int.reduceEq, Int.reduceLT, Int.reduceLE, Nat.reduceAdd, Nat.reduceLT, Nat.reduceLeDiff, Int.reduceToNat, Int.reduceSub, Int.reduceAdd, Int.reduceNeg]
      exact ⟨by rfl, rfl⟩
    | true =>
    have hes : eatS s i 125 none = (j + 1, none) := by unfold eatS; dsimp only; rw [hj, hat]; rfl
    rw [hes]
    dsimp only
    have hL1 : (L.set 0 (rrB s (j + 1) none))[0]? = some (rrB s (j + 1) none) := rr_set0 hL
    have hl1 := hl.set0 (b := rrB s (j + 1) none)
    generalize L.set 0 (rrB s (j + 1) none) = L1 at *
    simp only [h0, h5, h6, go_sem, Nat.reduceEqDiff, reduceIte, Int.reduceEq, Int.reduceLT, Int.reduceLE, Nat.reduceAdd, Nat.reduceLT, Nat.reduceLeDiff, Int.reduceToNat, Int.reduceSub, Int.reduceAdd, Int.reduceNeg]
    refine rskip_call (E := E.noPan) hP (s := s) (i := j + 1) (q := none) hs hL1 ?_
    have hL2 : (L1.set 0 (rrB s (Fr.blanks s (j + 1)) none))[0]? = some (rrB s (Fr.blanks s (j + 1)) none) := rr_set0 hL1
    have hl2 := hl1.set0 (b := rrB s (Fr.blanks s (j + 1)) none)
    generalize L1.set 0 (rrB s (Fr.blanks s (j + 1)) none) = L2 at *
    have hbd2 : Fr.body s = if Fr.blanks s (j + 1) < s.length then .error (Fr.blanks s (j + 1), 2) else .ok l := by rw [hbd]; unfold endF Fr.must; rw [hat]; rfl
    generalize hm : Fr.blanks s (j + 1) = m at *
    have hL2u := hL2
    unfold rrB at hL2u
    have z1 := bdN
    have z2 := bdN'
    by_cases hml : m < s.length
    · have f1 : ((m : Int) < (s.length : Int)) = True := eq_true (by omega)
      rw [if_pos hml] at hbd2
      simp only [h0, h5, h6, hL2u, z1, f1, go_sem, Nat.reduceEqDiff, reduceIte, Int.reduceEq, Int.reduceLT, Int.reduceLE, Nat.reduceAdd, Nat.reduceLT, Nat.reduceLeDiff, Int.reduceToNat, Int.reduceSub, Int.reduceAdd, Int.reduceNeg]
      refine rno_call (E := E.noPan) hP (s := s) (i := m) (q := none) (p := m) (w := 2) hL2 ?_
      have hA : objA s = .isl [] := by unfold objA; rw [hbd2]
      have hB : objB s = .int .i64 ((m : Nat) : Int) := by unfold objB; rw [hbd2]
      have hC : objC s = .int .i64 2 := by unfold objC; rw [hbd2]
      rw [hA, hB, hC]
      have hLz : (L2.set 0 (rrB s m (orB none m 2)))[0]? = some (rrB s m (some (m, 2))) := rr_set0 hL2
      generalize L2.set 0 (rrB s m (orB none m 2)) = Lz at *
      have hLzu := hLz
      unfold rrB at hLzu
      have z3 := bdS (m, 2)
      have z4 := bdS' (m, 2)
      simp only [h0, h5, h6, hLzu, z3, z4, go_sem, Nat.reduceEqDiff, reduceIte, Int.reduceEq, Int.reduceLT, Int.reduceLE, Nat.reduceAdd, Nat.reduceLT, Nat.reduceLeDiff, Int.reduceToNat, Int.reduceSub, Int.reduceAdd, Int.reduceNeg]
      exact ⟨by rfl, rfl⟩
    · have f1 : ((m : Int) < (s.length : Int)) = False := eq_false (by omega)
      rw [if_neg hml] at hbd2
      have hA : objA s = .isl (pRows l) := by unfold objA; rw [hbd2]
      have hB : objB s = .int .i64 0 := by unfold objB; rw [hbd2]
      have hC : objC s = .int .i64 0 := by unfold objC; rw [hbd2]
      rw [hA, hB, hC]
      simp only [h0, h5, h6, hL2u, z1, z2, f1, go_sem, Nat.reduceEqDiff, reduceIte, Int.reduceEq, Int.reduceLT, Int.reduceLE, Nat.reduceAdd, Nat.reduceLT, Nat.reduceLeDiff, Int.reduceToNat, Int.reduceSub, Int.reduceAdd, Int.reduceNeg]
      rcases hl2 with ⟨rfl, rfl⟩ | ⟨kk, hk, rfl, hrow⟩
      · rfl
      · show (mapO (conv L2 11 renFreeze) [.sl kk 0 l.length l.length, .int .i64 0, .int .i64 0]).map IV.tup = _
        have hc : conv L2 11 renFreeze (.sl kk 0 l.length l.length) = some (.isl (pRows l)) := by
          simp only [conv, renFreeze, hrow]
          rw [if_pos (by rw [pRows_len]; omega), List.drop_zero, List.take_of_length_le (by rw [pRows_len]; exact Nat.le_refl _), conv_pRows]
          rfl
        simp only [mapO, hc]
        rfl
  refine s_loop (fun n ρ L => ∃ (l : List Fr.Pair) (sv : IV) (i : Nat) (q : Option (Nat × Int)), n = 17 - l.length ∧ ρ 0 = .str s ∧ ρ 5 = .ptr 0 0 0 ∧ ρ 6 = sv ∧ L[0]? = some (rrB s i q) ∧ LstOk L sv l ∧ At s L sv l i q) (n := 17) ?_ ?_
  · rcases hst with ⟨i, rfl, h1, h2⟩ | ⟨i, p, w, rfl, h1⟩
    · exact ⟨[], .nsl, i, none, rfl, by simp only [h0, go_sem, Nat.reduceEqDiff, reduceIte, Int.reduceEq, Int.reduceLT, Int.reduceLE, Nat.reduceAdd, Nat.reduceLT, Nat.reduceLeDiff, Int.reduceToNat, Int.reduceSub, Int.reduceAdd, Int.reduceNeg], by simp only [go_sem, Nat.reduceEqDiff, reduceIte, Int.reduceEq, Int.reduceLT, Int.reduceLE, Nat.reduceAdd, Nat.reduceLT, Nat.reduceLeDiff, Int.reduceToNat, Int.reduceSub, Int.reduceAdd, Int.reduceNeg]; try rfl, by simp only [go_sem, Nat.reduceEqDiff, reduceIte, Int.reduceEq, Int.reduceLT, Int.reduceLE, Nat.reduceAdd, Nat.reduceLT, Nat.reduceLeDiff, Int.reduceToNat, Int.reduceSub, Int.reduceAdd, Int.reduceNeg]; try rfl, rfl, .inl ⟨rfl, rfl⟩, .good i (by simp) (by simpa using h2)⟩
    · exact ⟨[], .nsl, i, some (p, w), rfl, by simp only [h0, go_sem, Nat.reduceEqDiff, reduceIte, Int.reduceEq, Int.reduceLT, Int.reduceLE, Nat.reduceAdd, Nat.reduceLT, Nat.reduceLeDiff, Int.reduceToNat, Int.reduceSub, Int.reduceAdd, Int.reduceNeg], by simp only [go_sem, Nat.reduceEqDiff, reduceIte, Int.reduceEq, Int.reduceLT, Int.reduceLE, Nat.reduceAdd, Nat.reduceLT, Nat.reduceLeDiff, Int.reduceToNat, Int.reduceSub, Int.reduceAdd, Int.reduceNeg]; try rfl, by simp only [go_sem, Nat.reduceEqDiff, reduceIte, Int.reduceEq, Int.reduceLT, Int.reduceLE, Nat.reduceAdd, Nat.reduceLT, Nat.reduceLeDiff, Int.reduceToNat, Int.reduceSub, Int.reduceAdd, Int.reduceNeg]; try rfl, rfl, .inl ⟨rfl, rfl⟩, .bad i p w h1⟩
  clear h0 hst ρ
  rintro n ρ L ⟨l, sv, i, q, rfl, h0, h5, h6, hL, hl, hA⟩
  have hlen := hl.len
  have hLu := hL
  unfold rrB at hLu
  cases hA with
  | bad p w h =>
    have b1 := bdS (p, w)
    simp only [h0, h5, h6, hLu, b1, go_sem, Nat.reduceEqDiff, reduceIte, Int.reduceEq, Int.reduceLT, Int.reduceLE, Nat.reduceAdd, Nat.reduceLT, Nat.reduceLeDiff, Int.reduceToNat, Int.reduceSub, Int.reduceAdd, Int.reduceNeg]
    exact ⟨l, sv, i, some (p, w), rfl, rfl, hl, h⟩
  | good h16 hb =>
  have b1 := bdN
  by_cases hle : l = []
  · subst hle
    have f1 : ((0 : Int) < (([] : List Fr.Pair).length : Int)) = False := eq_false (by simp)
    simp only [h0, h5, h6, hLu, b1, o_lenG hlen, f1, go_sem, Nat.reduceEqDiff, reduceIte, Int.reduceEq, Int.reduceLT, Int.reduceLE, Nat.reduceAdd, Nat.reduceLT, Nat.reduceLeDiff, Int.reduceToNat, Int.reduceSub, Int.reduceAdd, Int.reduceNeg]
    refine ris_call (E := E.noPan) hP (s := s) (i := i) (q := none) (c := 125) rfl hs hL ?_
    rw [isS_none]
    cases hat : Fr.isAt s (Fr.blanks s i) 125 with
    | true =>
      rw [if_pos ⟨rfl, hat⟩] at hb
      simp only [h0, h5, h6, go_sem, Nat.reduceEqDiff, reduceIte, Int.reduceEq, Int.reduceLT, Int.reduceLE, Nat.reduceAdd, Nat.reduceLT, Nat.reduceLeDiff, Int.reduceToNat, Int.reduceSub, Int.reduceAdd, Int.reduceNeg]
      exact ⟨[], sv, _, none, rfl, rr_set0 hL, hl.set0, by unfold Fin; rw [blanks_idem]; exact hb⟩
    | false =>
      rw [if_neg (fun h => by rw [hat] at h; cases h.2)] at hb
      have hL1 : (L.set 0 (rrB s (Fr.blanks s i) none))[0]? = some (rrB s (Fr.blanks s i) none) := rr_set0 hL
      have hl1 := hl.set0 (b := rrB s (Fr.blanks s i) none)
      simp only [h0, h5, h6, go_sem, Nat.reduceEqDiff, reduceIte, Int.reduceEq, Int.reduceLT, Int.reduceLE, Nat.reduceAdd, Nat.reduceLT, Nat.reduceLeDiff, Int.reduceToNat, Int.reduceSub, Int.reduceAdd, Int.reduceNeg]
      refine xrun_cut _ (round_run (E := E.noPan) hP (i := Fr.blanks s i) hs h16 (by simp only [h0, go_sem, Nat.reduceEqDiff, reduceIte, Int.reduceEq, Int.reduceLT, Int.reduceLE, Nat.reduceAdd, Nat.reduceLT, Nat.reduceLeDiff, Int.reduceToNat, Int.reduceSub, Int.reduceAdd, Int.reduceNeg]) (by simp only [h5, go_sem, Nat.reduceEqDiff, reduceIte, Int.reduceEq, Int.reduceLT, Int.reduceLE, Nat.reduceAdd, Nat.reduceLT, Nat.reduceLeDiff, Int.reduceToNat, Int.reduceSub, Int.reduceAdd, Int.reduceNeg]) (by simp only [h6, go_sem, Nat.reduceEqDiff, reduceIte, Int.reduceEq, Int.reduceLT, Int.reduceLE, Nat.reduceAdd, Nat.reduceLT, Nat.reduceLeDiff, Int.reduceToNat, Int.reduceSub, Int.reduceAdd, Int.reduceNeg]) hL1 hl1 (by rw [blanks_idem]; exact hb)) (fun e ρ2 L2 h => ?_)
      rcases h with ⟨rfl, l2, sv2, i2, g1, g2, g3, g4, g5, g6, g7, g8⟩ | ⟨rfl, l2, sv2, i2, q2, g3, g4, g5, g6, g7, g8⟩
      · simp only [go_sem, Nat.reduceEqDiff, reduceIte, Int.reduceEq, Int.reduceLT, Int.reduceLE, Nat.reduceAdd, Nat.reduceLT, Nat.reduceLeDiff, Int.reduceToNat, Int.reduceSub, Int.reduceAdd, Int.reduceNeg]
        refine ⟨17 - l2.length, by omega, l2, sv2, i2, none, rfl, g3, g4, g5, g6, g7, .good i2 g2 ?_⟩
        rw [if_neg (fun h => by rw [h.1] at g1; simp at g1)]; exact g8
      · simp only [go_sem, Nat.reduceEqDiff, reduceIte, Int.reduceEq, Int.reduceLT, Int.reduceLE, Nat.reduceAdd, Nat.reduceLT, Nat.reduceLeDiff, Int.reduceToNat, Int.reduceSub, Int.reduceAdd, Int.reduceNeg]
        exact ⟨l2, sv2, i2, q2, g3, g4, g5, g6, g7, g8⟩
  have f1 : ((0 : Int) < (l.length : Int)) = True := eq_true (by have := List.length_pos_iff.2 hle; omega)
  simp only [h0, h5, h6, hLu, b1, o_lenG hlen, f1, go_sem, Nat.reduceEqDiff, reduceIte, Int.reduceEq, Int.reduceLT, Int.reduceLE, Nat.reduceAdd, Nat.reduceLT, Nat.reduceLeDiff, Int.reduceToNat, Int.reduceSub, Int.reduceAdd, Int.reduceNeg]
  rw [if_neg (fun h => hle h.1)] at hb
  refine xrun_cut _ (round_run (E := E.noPan) hP (i := i) hs h16 (by simp only [h0, go_sem, Nat.reduceEqDiff, reduceIte, Int.reduceEq, Int.reduceLT, Int.reduceLE, Nat.reduceAdd, Nat.reduceLT, Nat.reduceLeDiff, Int.reduceToNat, Int.reduceSub, Int.reduceAdd, Int.reduceNeg]) (by simp only [h5, go_sem, Nat.reduceEqDiff, reduceIte, Int.reduceEq, Int.reduceLT, Int.reduceLE, Nat.reduceAdd, Nat.reduceLT, Nat.reduceLeDiff, Int.reduceToNat, Int.reduceSub, Int.reduceAdd, Int.reduceNeg]) (by simp only [h6, go_sem, Nat.reduceEqDiff, reduceIte, Int.reduceEq, Int.reduceLT, Int.reduceLE, Nat.reduceAdd, Nat.reduceLT, Nat.reduceLeDiff, Int.reduceToNat, Int.reduceSub, Int.reduceAdd, Int.reduceNeg]) hL hl hb) (fun e ρ2 L2 h => ?_)
  rcases h with ⟨rfl, l2, sv2, i2, g1, g2, g3, g4, g5, g6, g7, g8⟩ | ⟨rfl, l2, sv2, i2, q2, g3, g4, g5, g6, g7, g8⟩
  · simp only [go_sem, Nat.reduceEqDiff, reduceIte, Int.reduceEq, Int.reduceLT, Int.reduceLE, Nat.reduceAdd, Nat.reduceLT, Nat.reduceLeDiff, Int.reduceToNat, Int.reduceSub, Int.reduceAdd, Int.reduceNeg]
    refine ⟨17 - l2.length, by omega, l2, sv2, i2, none, rfl, g3, g4, g5, g6, g7, .good i2 g2 ?_⟩
    rw [if_neg (fun h => by rw [h.1] at g1; simp at g1)]; exact g8
  · simp only [go_sem, Nat.reduceEqDiff, reduceIte, Int.reduceEq, Int.reduceLT, Int.reduceLE, Nat.reduceAdd, Nat.reduceLT, Nat.reduceLeDiff, Int.reduceToNat, Int.reduceSub, Int.reduceAdd, Int.reduceNeg]
    exact ⟨l2, sv2, i2, q2, g3, g4, g5, g6, g7, g8⟩
end
end Go.X.TryzW
end
section
open Go Go.X Go.Proofs
set_option maxRecDepth 100000
set_option maxHeartbeats 4000000
set_option linter.unusedSimpArgs false
set_option linter.unusedVariables false
namespace Go.X.TryzW

section
variable {s : List UInt8} {k : Nat}
theorem tk_len : (s.take k).length ≤ k := by rw [List.length_take]; omega
theorem tk_get {i : Nat} (h : i < (s.take k).length) : (s.take k).getD i 0 = s.getD i 0 := by
  rw [List.length_take] at h
  rw [List.getD_eq_getElem?_getD, List.getD_eq_getElem?_getD, List.getElem?_take_of_lt (by omega)]
theorem tk_lt {i : Nat} (h : i < (s.take k).length) : i < s.length := by rw [List.length_take] at h; omega
theorem tk_isAt {i : Nat} {b : UInt8} (h : i < (s.take k).length) : Fr.isAt (s.take k) i b = Fr.isAt s i b := by
  unfold Fr.isAt
  rw [tk_get h, decide_eq_true h, decide_eq_true (tk_lt h)]
theorem tk_isAt_t {i : Nat} {b : UInt8} (h : Fr.isAt (s.take k) i b = true) : Fr.isAt s i b = true := by
  rw [← tk_isAt (isAt_lt h)]; exact h
theorem tk_isAt_f {i : Nat} {b : UInt8} (h : Fr.isAt (s.take k) i b = false) (hi : i < (s.take k).length) : Fr.isAt s i b = false := by
  rw [← tk_isAt hi]; exact h
theorem blanksGo_ge (s : List UInt8) : ∀ f i, i ≤ Fr.blanksGo s f i
  | 0, i => Nat.le_refl _
  | f + 1, i => by
    rw [Fr.blanksGo]
    split
    · have := blanksGo_ge s f (i + 1); omega
    · exact Nat.le_refl _
theorem blanks_ge (s : List UInt8) (i : Nat) : i ≤ Fr.blanks s i := blanksGo_ge s _ i
theorem tk_blanksGo : ∀ f i j, Fr.blanksGo (s.take k) f i = j → j < (s.take k).length → ∀ f', f ≤ f' → (decide (j < s.length) && Fr.blankB (s.getD j 0)) = false → Fr.blanksGo s f' i = j
  | 0, i, j, h, hj, f', hf, hst => by
    rw [Fr.blanksGo] at h
    subst h
    cases f' with
    | zero => rfl
    | succ f' => rw [Fr.blanksGo, hst]; rfl
  | f + 1, i, j, h, hj, f', hf, hst => by
    obtain ⟨f', rfl⟩ : ∃ m, f' = m + 1 := ⟨f' - 1, by omega⟩
    rw [Fr.blanksGo] at h
    have hge := blanksGo_ge (s.take k) f (i + 1)
    cases hc : decide (i < (s.take k).length) && Fr.blankB ((s.take k).getD i 0) with
    | true =>
      rw [hc, if_pos rfl] at h
      rw [Bool.and_eq_true, decide_eq_true_eq] at hc
      rw [tk_get hc.1] at hc
      rw [Fr.blanksGo, decide_eq_true (tk_lt hc.1), hc.2, Bool.and_true, if_pos rfl]
      exact tk_blanksGo f (i + 1) j h hj f' (by omega) hst
    | false =>
      rw [hc, if_neg (by decide)] at h
      subst h
      rw [Fr.blanksGo, hst]; rfl
theorem tk_blanks {i : Nat} (h : Fr.blanks (s.take k) i < (s.take k).length) : Fr.blanks s i = Fr.blanks (s.take k) i := by
  have hb := blanks_end (s.take k) ((s.take k).length - i) i
  have hst : (decide (Fr.blanks (s.take k) i < s.length) && Fr.blankB (s.getD (Fr.blanks (s.take k) i) 0)) = false := by
    rcases hb with hb | hb
    · have hb2 : (decide (Fr.blanks (s.take k) i < (s.take k).length) && Fr.blankB ((s.take k).getD (Fr.blanks (s.take k) i) 0)) = false := hb
      rw [decide_eq_true h, tk_get h] at hb2
      rw [decide_eq_true (tk_lt h)]; exact hb2
    · unfold Fr.blanks at h; omega
  refine tk_blanksGo ((s.take k).length - i) i _ rfl h (s.length - i) ?_ hst
  have : (s.take k).length ≤ s.length := by rw [List.length_take]; omega
  omega
theorem out_get {i : Nat} (h : ¬ i < (s.take k).length) : (s.take k).getD i 0 = 0 := by
  rw [List.getD_eq_getElem?_getD, List.getElem?_eq_none (by omega)]; rfl
theorem tk_hex4 (o : Nat) : ∀ f i c r, Fr.hex4 (s.take k) o f i c = .ok r → Fr.hex4 s o f i c = .ok r
  | 0, i, c, r, h => h
  | f + 1, i, c, r, h => by
    rw [Fr.hex4] at h
    by_cases hi : i = (s.take k).length
    · rw [if_pos hi] at h; cases h
    rw [if_neg hi] at h
    by_cases hlt : i < (s.take k).length
    · rw [tk_get hlt] at h
      rw [Fr.hex4, if_neg (by have := tk_lt hlt; omega)]
      cases hp : Fr.place Fr.hexD (s.getD i 0 ||| 32) with
      | none => rw [hp] at h; cases h
      | some d =>
        rw [hp] at h
        dsimp only at h ⊢
        split at h
        · cases h
        · rename_i h48
          rw [if_neg h48]
          exact tk_hex4 o f (i + 1) _ r h
    · rw [out_get hlt] at h
      exfalso
      revert h
      have : Fr.place Fr.hexD ((0 : UInt8) ||| 32) = none := by decide +kernel
      rw [this]
      intro h; cases h
theorem tk_escape {o : Nat} {r : Nat × Nat} (h : Fr.escape (s.take k) o = .ok r) : Fr.escape s o = .ok r := by
  unfold Fr.escape at h
  by_cases hi : o + 1 = (s.take k).length
  · rw [if_pos hi] at h; cases h
  rw [if_neg hi] at h
  by_cases hlt : o + 1 < (s.take k).length
  · rw [tk_get hlt] at h
    unfold Fr.escape
    rw [if_neg (by have := tk_lt hlt; omega)]
    cases hp : Fr.place Fr.escL (s.getD (o + 1) 0) with
    | some d => rw [hp] at h; exact h
    | none =>
      rw [hp] at h
      dsimp only at h ⊢
      split at h
      · rename_i hu
        rw [if_pos hu]
        cases hx : Fr.hex4 (s.take k) o 4 (o + 2) 0 with
        | error e => rw [hx] at h; cases h
        | ok x => rw [hx] at h; rw [tk_hex4 o _ _ _ _ hx]; exact h
      · cases h
  · rw [out_get hlt] at h
    exfalso
    revert h
    have : Fr.place Fr.escL 0 = none := by decide +kernel
    rw [this]
    dsimp only
    rw [if_neg (by decide)]
    intro h; cases h
theorem tk_dec {i : Nat} (hi : i < (s.take k).length) (hv : ¬ ((Lib.decodeL ((s.take k).drop i)).1 = 65533 ∧ (Lib.decodeL ((s.take k).drop i)).2 = 1)) : Lib.decodeL (s.drop i) = Lib.decodeL ((s.take k).drop i) := by
  have hne : (s.take k).drop i ≠ [] := fun h => by have := congrArg List.length h; rw [List.length_drop] at this; simp at this hi; omega
  have hw := decL_w _ hne
  rw [List.length_drop] at hw
  have hs : s.drop i = ((s.take k).drop i).take (Lib.decodeL ((s.take k).drop i)).2 ++ s.drop (i + (Lib.decodeL ((s.take k).drop i)).2) := by
    generalize (Lib.decodeL ((s.take k).drop i)).2 = n at *
    have hk : i + n ≤ k := by rw [List.length_take] at hw hi; omega
    rw [List.drop_take, List.take_take, Nat.min_eq_left (by omega), ← List.drop_drop]
    exact (List.take_append_drop n (s.drop i)).symm
  conv => lhs; rw [hs]
  exact decL_loc _ _ hne hv
theorem tk_textGo : ∀ f i out r, Fr.textGo (s.take k) f i out = .ok r → ∀ f', f ≤ f' → Fr.textGo s f' i out = .ok r
  | 0, i, out, r, h, _, _ => by rw [Fr.textGo] at h; cases h
  | f + 1, i, out, r, h, f', hf => by
    obtain ⟨f', rfl⟩ : ∃ m, f' = m + 1 := ⟨f' - 1, by omega⟩
    rw [Fr.textGo] at h
    rw [Fr.textGo]
    cases h34 : Fr.isAt (s.take k) i 34 with
    | true =>
      rw [h34, if_pos rfl] at h
      rw [tk_isAt_t h34, if_pos rfl]; exact h
    | false =>
      rw [h34, if_neg (by decide)] at h
      by_cases hi : i = (s.take k).length
      · rw [if_pos hi] at h; cases h
      rw [if_neg hi] at h
      by_cases hlt : i < (s.take k).length
      · rw [tk_get hlt] at h
        rw [tk_isAt_f h34 hlt, if_neg (by decide), if_neg (by have := tk_lt hlt; omega)]
        split at h
        · cases h
        · rename_i h32
          rw [if_neg h32]
          rw [tk_isAt hlt] at h
          cases h92 : Fr.isAt s i 92 with
          | true =>
            rw [h92, if_pos rfl] at h
            rw [if_pos rfl]
            cases he : Fr.escape (s.take k) i with
            | error e => rw [he] at h; cases h
            | ok x =>
              rw [he] at h
              rw [tk_escape he]
              exact tk_textGo f _ _ r h f' (by omega)
          | false =>
            rw [h92, if_neg (by decide)] at h
            rw [if_neg (by decide)]
            by_cases hv : (Lib.decodeL ((s.take k).drop i)).1 = 65533 ∧ (Lib.decodeL ((s.take k).drop i)).2 = 1
            · rw [if_pos hv] at h; cases h
            · rw [if_neg hv] at h
              rw [tk_dec hlt hv, if_neg hv]
              exact tk_textGo f _ _ r h f' (by omega)
      · rw [out_get hlt, if_pos (by decide)] at h; cases h
theorem tk_must {i j : Nat} {b : UInt8} (h : Fr.must (s.take k) i b = .ok j) : Fr.must s i b = .ok j ∧ j = i + 1 ∧ i < (s.take k).length := by
  unfold Fr.must at h
  cases ha : Fr.isAt (s.take k) i b with
  | true => rw [ha, if_pos rfl] at h; cases h; exact ⟨by unfold Fr.must; rw [tk_isAt_t ha]; rfl, rfl, isAt_lt ha⟩
  | false => rw [ha, if_neg (by decide)] at h; cases h
theorem tk_text {i : Nat} {r : List UInt8 × Nat} (h : Fr.text (s.take k) i = .ok r) : Fr.text s i = .ok r := by
  unfold Fr.text at h
  cases hm : Fr.must (s.take k) i 34 with
  | error e => rw [hm] at h; cases h
  | ok j =>
    rw [hm] at h
    obtain ⟨h1, rfl, h3⟩ := tk_must hm
    unfold Fr.text
    rw [h1]
    exact tk_textGo _ _ _ r h _ (by rw [List.length_take]; omega)
theorem numGo_low (s : List UInt8) (o fst : Nat) : ∀ f i, i ≤ Fr.numGo s o fst f i
  | 0, i => Nat.le_refl _
  | f + 1, i => by
    rw [Fr.numGo]
    split
    · split
      · exact Nat.le_refl _
      · have := numGo_low s o fst f (i + 1); omega
    · exact Nat.le_refl _
theorem tk_numGo (o fst : Nat) (hfs : fst < (s.take k).length) : ∀ f i j, Fr.numGo (s.take k) o fst f i = j → j < (s.take k).length → f = (s.take k).length - i → ∀ f', f ≤ f' → Fr.numGo s o fst f' i = j
  | 0, i, j, h, hj, hf, f', _ => by
    rw [Fr.numGo] at h
    omega
  | f + 1, i, j, h, hj, hf, f', hff => by
    obtain ⟨f', rfl⟩ : ∃ m, f' = m + 1 := ⟨f' - 1, by omega⟩
    have hi : i < (s.take k).length := by omega
    rw [Fr.numGo, tk_get hi, tk_get hfs, decide_eq_true hi] at h
    rw [Fr.numGo, decide_eq_true (tk_lt hi)]
    split at h
    · rename_i hc
      rw [if_pos hc]
      split at h
      · rename_i hz
        rw [if_pos hz]; exact h
      · rename_i hz
        rw [if_neg hz]
        exact tk_numGo o fst hfs f (i + 1) j h hj (by omega) f' (by omega)
    · rename_i hc
      rw [if_neg hc]; exact h
theorem tk_number {o j : Nat} {v : List UInt8} (h : Fr.number (s.take k) o = .ok (v, j)) (hj : j < (s.take k).length) : Fr.number s o = .ok (v, j) ∧ o < j := by
  unfold Fr.number at h
  dsimp only at h
  generalize hfst : (if Fr.isAt (s.take k) o 45 then o + 1 else o) = fst at h
  generalize hg : Fr.numGo (s.take k) o fst ((s.take k).length - fst) fst = g at h
  by_cases hgf : g = fst
  · rw [if_pos hgf] at h; cases h
  · rw [if_neg hgf] at h
    cases h
    have hbn := numGo_low (s.take k) o fst ((s.take k).length - fst) fst
    rw [hg] at hbn
    have hof : o ≤ fst := by rw [← hfst]; split <;> omega
    have hfst2 : (if Fr.isAt s o 45 then o + 1 else o) = fst := by rw [← hfst, tk_isAt (by omega)]
    have hgo := tk_numGo o fst (by omega) _ _ _ hg hj rfl (s.length - fst) (by rw [List.length_take]; omega)
    refine ⟨?_, by omega⟩
    unfold Fr.number
    dsimp only
    rw [hfst2, hgo, if_neg hgf]
    congr 3
    rw [List.length_take] at hj
    rw [List.take_take, Nat.min_eq_left (by omega)]
theorem tk_field {l : List Fr.Pair} {i m : Nat} {p : Fr.Pair} (h : Fr.field (s.take k) l i = .ok (p, m)) (hm : m < (s.take k).length) : Fr.field s l i = .ok (p, m) := by
  unfold Fr.field at h
  cases ht : Fr.text (s.take k) i with
  | error e => rw [ht] at h; cases h
  | ok kj =>
    obtain ⟨key, j⟩ := kj
    rw [ht] at h
    dsimp only at h
    unfold Fr.field
    rw [tk_text ht]
    dsimp only
    split at h
    · cases h
    · rename_i h1
      rw [if_neg h1]
      split at h
      · cases h
      · rename_i h2
        rw [if_neg h2]
        cases hmu : Fr.must (s.take k) (Fr.blanks (s.take k) j) 58 with
        | error e => rw [hmu] at h; cases h
        | ok j2 =>
          rw [hmu] at h
          dsimp only at h
          obtain ⟨g1, rfl, g3⟩ := tk_must hmu
          rw [tk_blanks g3, g1]
          dsimp only
          generalize Fr.blanks (s.take k) j + 1 = j2 at *
          cases h34 : Fr.isAt (s.take k) (Fr.blanks (s.take k) j2) 34 with
          | true =>
            rw [h34, if_pos rfl] at h
            rw [tk_blanks (isAt_lt h34), tk_isAt_t h34, if_pos rfl]
            cases ht2 : Fr.text (s.take k) (Fr.blanks (s.take k) j2) with
            | error e => rw [ht2] at h; cases h
            | ok vm => rw [ht2] at h; rw [tk_text ht2]; exact h
          | false =>
            rw [h34, if_neg (by decide)] at h
            cases hn : Fr.number (s.take k) (Fr.blanks (s.take k) j2) with
            | error e => rw [hn] at h; cases h
            | ok vm =>
              obtain ⟨v, m2⟩ := vm
              rw [hn] at h
              cases h
              obtain ⟨g4, g5⟩ := tk_number hn hm
              have hlt2 : Fr.blanks (s.take k) j2 < (s.take k).length := by omega
              rw [tk_blanks hlt2, tk_isAt_f h34 hlt2, if_neg (by decide), g4]
theorem tk_fields : ∀ f l i l' j, Fr.fields (s.take k) f l i = .ok (l', j) → j < (s.take k).length → Fr.fields s f l i = .ok (l', j)
  | 0, l, i, l', j, h, _ => h
  | f + 1, l, i, l', j, h, hj => by
    rw [Fr.fields] at h
    rw [Fr.fields]
    cases hf : Fr.field (s.take k) l i with
    | error e => rw [hf] at h; cases h
    | ok pm =>
      obtain ⟨p, m⟩ := pm
      rw [hf] at h
      dsimp only at h
      have hge := blanks_ge (s.take k) m
      cases hc : Fr.isAt (s.take k) (Fr.blanks (s.take k) m) 44 with
      | true =>
        rw [hc, if_pos rfl] at h
        have hlt := isAt_lt hc
        rw [tk_field hf (by omega)]
        dsimp only
        rw [tk_blanks hlt, tk_isAt_t hc, if_pos rfl]
        by_cases hb2 : Fr.blanks (s.take k) (Fr.blanks (s.take k) m + 1) < (s.take k).length
        · rw [tk_blanks hb2]
          exact tk_fields f _ _ l' j h hj
        · exfalso
          have : ∀ f l i, ¬ i < (s.take k).length → j < (s.take k).length → Fr.fields (s.take k) f l i = .ok (l', j) → False := by
            intro f l i hi hj h
            cases f with
            | zero => rw [Fr.fields] at h; cases h; exact hi hj
            | succ f =>
              rw [Fr.fields] at h
              have : Fr.field (s.take k) l i = .error (i, Fr.form) := by
                unfold Fr.field Fr.text Fr.must
                have : Fr.isAt (s.take k) i 34 = false := by unfold Fr.isAt; rw [decide_eq_false hi]; rfl
                rw [this]; rfl
              rw [this] at h; cases h
          exact this _ _ _ hb2 hj h
      | false =>
        rw [hc, if_neg (by decide)] at h
        cases h
        rw [tk_field hf (by omega)]
        dsimp only
        rw [tk_blanks hj, tk_isAt_f hc hj, if_neg (by decide)]
/-- A beginning that is a body holds the last brace. -/
theorem tk_body {l l' : List Fr.Pair} (h : Fr.body (s.take k) = .ok l') (hs : Fr.body s = .ok l) : ∃ i, i < k ∧ s.getD i 0 = 125 ∧ ∀ j, i < j → j < s.length → Fr.blankB (s.getD j 0) = true := by
  rw [body_eq] at h hs
  cases hm : Fr.must (s.take k) (Fr.blanks (s.take k) 0) 123 with
  | error e => rw [hm] at h; cases h
  | ok i0 =>
    rw [hm] at h
    dsimp only at h
    obtain ⟨g1, rfl, g3⟩ := tk_must hm
    rw [tk_blanks g3, g1] at hs
    dsimp only at hs
    generalize Fr.blanks (s.take k) 0 + 1 = i0 at *
    have hend : ∀ l1 l2 i, endF (s.take k) l1 i = .ok l' → endF s l2 i = .ok l → ∃ i, i < k ∧ s.getD i 0 = 125 ∧ ∀ j, i < j → j < s.length → Fr.blankB (s.getD j 0) = true := by
      intro l1 l2 i h1 h2
      unfold endF at h1 h2
      cases hm2 : Fr.must (s.take k) i 125 with
      | error e => rw [hm2] at h1; cases h1
      | ok j =>
        obtain ⟨g1, rfl, g3⟩ := tk_must hm2
        rw [g1] at h2
        dsimp only at h2
        have hk := tk_len (s := s) (k := k)
        refine ⟨i, by omega, ?_, fun j hj hjl => ?_⟩
        · unfold Fr.must at g1
          cases ha : Fr.isAt s i 125 with
          | true => exact isAt_get ha
          | false => rw [ha] at g1; cases g1
        · split at h2
          · cases h2
          · rename_i hb
            have key : ∀ f i j, ¬ Fr.blanksGo s f i < s.length → i ≤ j → j < s.length → Fr.blankB (s.getD j 0) = true := by
              intro f
              induction f with
              | zero => intro i j h1 h2 h3; rw [Fr.blanksGo] at h1; omega
              | succ f ih =>
                intro i j h1 h2 h3
                rw [Fr.blanksGo] at h1
                cases hc : decide (i < s.length) && Fr.blankB (s.getD i 0) with
                | true =>
                  rw [hc, if_pos rfl] at h1
                  by_cases hij : i = j
                  · subst hij; rw [Bool.and_eq_true] at hc; exact hc.2
                  · exact ih (i + 1) j h1 (by omega) h3
                | false => rw [hc, if_neg (by decide)] at h1; omega
            exact key _ (i + 1) j hb (by omega) hjl
    have hjl : ∀ l1 i, endF (s.take k) l1 i = .ok l' → i < (s.take k).length := by
      intro l1 i h1
      unfold endF at h1
      cases hm2 : Fr.must (s.take k) i 125 with
      | error e => rw [hm2] at h1; cases h1
      | ok j => exact (tk_must hm2).2.2
    cases hat : Fr.isAt (s.take k) (Fr.blanks (s.take k) i0) 125 with
    | true =>
      rw [hat, if_pos rfl] at h
      rw [tk_blanks (isAt_lt hat), tk_isAt_t hat, if_pos rfl] at hs
      exact hend _ _ _ h hs
    | false =>
      rw [hat, if_neg (by decide)] at h
      cases hf : Fr.fields (s.take k) 18 [] (Fr.blanks (s.take k) i0) with
      | error e => rw [hf] at h; cases h
      | ok lj =>
        obtain ⟨l1, j⟩ := lj
        rw [hf] at h
        have hj := hjl l1 j h
        have hb0 : Fr.blanks (s.take k) i0 < (s.take k).length := by
          by_cases hb : Fr.blanks (s.take k) i0 < (s.take k).length
          · exact hb
          · exfalso
            rw [Fr.fields] at hf
            have : Fr.field (s.take k) [] (Fr.blanks (s.take k) i0) = .error (Fr.blanks (s.take k) i0, Fr.form) := by
              unfold Fr.field Fr.text Fr.must
              have : Fr.isAt (s.take k) (Fr.blanks (s.take k) i0) 34 = false := by unfold Fr.isAt; rw [decide_eq_false hb]; rfl
              rw [this]; rfl
            rw [this] at hf; cases hf
        rw [tk_blanks hb0, tk_isAt_f hat hb0, if_neg (by decide), tk_fields _ _ _ _ _ hf hj] at hs
        exact hend _ _ _ h hs
end
end Go.X.TryzW
end
section
open Go Go.X Go.Proofs
set_option maxRecDepth 100000
set_option maxHeartbeats 4000000
set_option linter.unusedSimpArgs false
set_option linter.unusedVariables false
namespace Go.X.TryzW
/- "tiller/tillerlaw13.FrontSpoilt" params { toList := [9] } results { toList := [Go.ResultVar.tmp 2] } -/
def y7 : XC :=
 (.seq
  (.ops [
    ⟨(some 2), (.mov (.c (.bool false))), none⟩])
  (.seq
   (.seq
    (.ops [
      ⟨(some 14), (.mov (.t 0)), none⟩,
      ⟨(some 15), (.lenS (.t 14)), none⟩,
      ⟨(some 16), (.bin .gtr (.t 15) (.c (.int .i64 200))), none⟩])
    (.cond (.t 16)
     (.seq
      (.ops [
        ⟨(some 17), (.call (.f 14) []), none⟩,
        ⟨(some 2), (.mov (.t 17)), none⟩])
      .ret)
     .skip))
   (.seq
    (.ops [
      ⟨(some 19), (.mov (.t 0)), none⟩,
      ⟨(some 20), (.call (.f 19) [(.t 19)]), none⟩,
      ⟨(some 18), (.mov (.t 20)), none⟩,
      ⟨(some 21), (.ext (.t 18) 0), none⟩,
      ⟨(some 22), (.ext (.t 18) 1), none⟩,
      ⟨(some 23), (.ext (.t 18) 2), none⟩,
      ⟨(some 3), (.mov (.t 21)), none⟩,
      ⟨(some 4), (.mov (.t 22)), none⟩,
      ⟨(some 5), (.mov (.t 23)), none⟩])
    (.seq
     (.seq
      (.ops [
        ⟨(some 24), (.mov (.t 5)), none⟩,
        ⟨(some 25), (.bin .neq (.t 24) (.c (.int .i64 0))), none⟩])
      (.cond (.t 25)
       (.seq
        (.ops [
          ⟨(some 26), (.call (.f 14) []), none⟩,
          ⟨(some 2), (.mov (.t 26)), none⟩])
        .ret)
       .skip))
     (.seq
      (.ops [
        ⟨(some 27), (.mov (.t 0)), none⟩,
        ⟨(some 28), (.lenS (.t 27)), none⟩,
        ⟨(some 6), (.mov (.t 28)), none⟩])
      (.seq
       (.block 0
        (.loop
         (.seq
          (.seq
           (.ops [
             ⟨(some 29), (.mov (.t 6)), none⟩,
             ⟨(some 30), (.bin .gtr (.t 29) (.c (.int .i64 0))), none⟩,
             ⟨(some 31), (.mov (.t 30)), none⟩,
             ⟨(some 32), (.mov (.t 0)), (some (31, true))⟩,
             ⟨(some 33), (.mov (.t 6)), (some (31, true))⟩,
             ⟨(some 34), (.bin .sub (.t 33) (.c (.int .i64 1))), (some (31, true))⟩,
             ⟨(some 35), (.idx (.t 32) (.t 34)), (some (31, true))⟩,
             ⟨(some 36), (.bin .neq (.t 35) (.c (.int .u8 125))), (some (31, true))⟩,
             ⟨(some 37), (.pick (.t 31) (.t 36) (.c (.bool false))), none⟩])
           (.cond (.t 37)
            .skip
            (.exit 0)))
          (.block 1
           (.ops [
             ⟨(some 38), (.mov (.t 6)), none⟩,
             ⟨(some 39), (.bin .sub (.t 38) (.c (.int .i64 1))), none⟩,
             ⟨(some 6), (.mov (.t 39)), none⟩])))))
       (.seq
        (.seq
         (.ops [
           ⟨(some 7), (.mov (.c (.int .i64 0))), none⟩])
         (.block 2
          (.loop
           (.seq
            (.seq
             (.ops [
               ⟨(some 40), (.mov (.t 7)), none⟩,
               ⟨(some 41), (.mov (.t 6)), none⟩,
               ⟨(some 42), (.bin .lss (.t 40) (.t 41)), none⟩])
             (.cond (.t 42)
              .skip
              (.exit 2)))
            (.seq
             (.block 3
              (.seq
               (.ops [
                 ⟨(some 46), (.mov (.t 0)), none⟩,
                 ⟨(some 47), (.mov (.t 7)), none⟩,
                 ⟨(some 48), (.sliceS (.t 46) none (some (.t 47))), none⟩,
                 ⟨(some 49), (.call (.f 19) [(.t 48)]), none⟩,
                 ⟨(some 45), (.mov (.t 49)), none⟩,
                 ⟨(some 50), (.ext (.t 45) 0), none⟩,
                 ⟨(some 51), (.ext (.t 45) 1), none⟩,
                 ⟨(some 52), (.ext (.t 45) 2), none⟩,
                 ⟨(some 8), (.mov (.t 50)), none⟩,
                 ⟨(some 9), (.mov (.t 51)), none⟩,
                 ⟨(some 10), (.mov (.t 52)), none⟩])
               (.seq
                (.ops [
                  ⟨(some 54), (.mov (.t 0)), none⟩,
                  ⟨(some 55), (.mov (.t 7)), none⟩,
                  ⟨(some 56), (.sliceS (.t 54) none (some (.t 55))), none⟩,
                  ⟨(some 57), (.call (.f 21) [(.t 56)]), none⟩,
                  ⟨(some 53), (.mov (.t 57)), none⟩,
                  ⟨(some 58), (.ext (.t 53) 0), none⟩,
                  ⟨(some 59), (.ext (.t 53) 1), none⟩,
                  ⟨(some 60), (.ext (.t 53) 2), none⟩,
                  ⟨(some 11), (.mov (.t 58)), none⟩,
                  ⟨(some 12), (.mov (.t 59)), none⟩,
                  ⟨(some 13), (.mov (.t 60)), none⟩])
                (.seq
                 (.ops [
                   ⟨(some 61), (.mov (.t 10)), none⟩,
                   ⟨(some 62), (.bin .eql (.t 61) (.c (.int .i64 0))), none⟩,
                   ⟨(some 63), (.mov (.t 62)), none⟩,
                   ⟨(some 64), (.mov (.t 8)), (some (63, false))⟩,
                   ⟨(some 65), (.len (.t 64)), (some (63, false))⟩,
                   ⟨(some 66), (.bin .neq (.t 65) (.c (.int .i64 0))), (some (63, false))⟩,
                   ⟨(some 67), (.pick (.t 63) (.c (.bool true)) (.t 66)), none⟩,
                   ⟨(some 68), (.mov (.t 67)), none⟩,
                   ⟨(some 69), (.mov (.t 9)), (some (68, false))⟩,
                   ⟨(some 70), (.mov (.t 12)), (some (68, false))⟩,
                   ⟨(some 71), (.bin .neq (.t 69) (.t 70)), (some (68, false))⟩,
                   ⟨(some 72), (.pick (.t 68) (.c (.bool true)) (.t 71)), none⟩,
                   ⟨(some 73), (.mov (.t 72)), none⟩,
                   ⟨(some 74), (.mov (.t 10)), (some (73, false))⟩,
                   ⟨(some 75), (.mov (.t 13)), (some (73, false))⟩,
                   ⟨(some 76), (.bin .neq (.t 74) (.t 75)), (some (73, false))⟩,
                   ⟨(some 77), (.pick (.t 73) (.c (.bool true)) (.t 76)), none⟩])
                 (.cond (.t 77)
                  (.seq
                   (.ops [
                     ⟨(some 2), (.mov (.c (.bool false))), none⟩])
                   .ret)
                  .skip)))))
             (.ops [
               ⟨(some 43), (.mov (.t 7)), none⟩,
               ⟨(some 44), (.bin .add (.t 43) (.c (.int .i64 1))), none⟩,
               ⟨(some 7), (.mov (.t 44)), none⟩]))))))
        (.seq
         (.ops [
           ⟨(some 78), (.call (.f 14) []), none⟩,
           ⟨(some 2), (.mov (.t 78)), none⟩])
         .ret))))))))

section
variable {E : Env} {L : List Blk} {K : IV → List Blk → Prop}
/-! ### No reason is 'none' -/
def Rsn (w : Int) : Prop := w = 2 ∨ w = 16 ∨ w = 10
theorem rs_must {s : List UInt8} {i : Nat} {b : UInt8} {p : Nat} {w : Int} (h : Fr.must s i b = .error (p, w)) : Rsn w := by
  unfold Fr.must at h
  split at h
  · cases h
  · cases h; exact .inl rfl
theorem rs_hex4 {s : List UInt8} {o p : Nat} {w : Int} : ∀ {f i c : Nat}, Fr.hex4 s o f i c = .error (p, w) → Rsn w
  | 0, i, c, h => by rw [Fr.hex4] at h; cases h
  | f + 1, i, c, h => by
    rw [Fr.hex4] at h
    split at h
    · cases h; exact .inl rfl
    · split at h
      · cases h; exact .inl rfl
      · split at h
        · cases h; exact .inl rfl
        · exact rs_hex4 h
theorem rs_esc {s : List UInt8} {o p : Nat} {w : Int} (h : Fr.escape s o = .error (p, w)) : Rsn w := by
  unfold Fr.escape at h
  split at h
  · cases h; exact .inl rfl
  · split at h
    · cases h
    · split at h
      · split at h
        · rename_i hx; cases h; exact rs_hex4 hx
        · split at h
          · cases h; exact .inl rfl
          · cases h
      · cases h; exact .inl rfl
theorem rs_textGo {s : List UInt8} {p : Nat} {w : Int} : ∀ {f i : Nat} {out : List UInt8}, Fr.textGo s f i out = .error (p, w) → Rsn w
  | 0, i, out, h => by rw [Fr.textGo] at h; cases h; exact .inl rfl
  | f + 1, i, out, h => by
    rw [Fr.textGo] at h
    split at h
    · cases h
    · split at h
      · cases h; exact .inl rfl
      · split at h
        · cases h; exact .inl rfl
        · split at h
          · split at h
            · rename_i hx; cases h; exact rs_esc hx
            · exact rs_textGo h
          · split at h
            · cases h; exact .inl rfl
            · exact rs_textGo h
theorem rs_text {s : List UInt8} {i p : Nat} {w : Int} (h : Fr.text s i = .error (p, w)) : Rsn w := by
  unfold Fr.text at h
  split at h
  · rename_i hx; cases h; exact rs_must hx
  · exact rs_textGo h
theorem rs_number {s : List UInt8} {i p : Nat} {w : Int} (h : Fr.number s i = .error (p, w)) : Rsn w := by
  unfold Fr.number at h
  dsimp only at h
  generalize (if Fr.isAt s i 45 then i + 1 else i) = fst at h
  by_cases hc : Fr.numGo s i fst (s.length - fst) fst = fst
  · rw [if_pos hc] at h; cases h; exact .inl rfl
  · rw [if_neg hc] at h; cases h
theorem rs_field {s : List UInt8} {l : List Fr.Pair} {i p : Nat} {w : Int} (h : Fr.field s l i = .error (p, w)) : Rsn w := by
  unfold Fr.field at h
  split at h
  · rename_i hx; cases h; exact rs_text hx
  · split at h
    · cases h; exact .inr (.inl rfl)
    · split at h
      · cases h; exact .inr (.inr rfl)
      · split at h
        · rename_i hx; cases h; exact rs_must hx
        · split at h
          · split at h
            · rename_i hx; cases h; exact rs_text hx
            · cases h
          · split at h
            · rename_i hx; cases h; exact rs_number hx
            · cases h
theorem rs_fields {s : List UInt8} {p : Nat} {w : Int} : ∀ {f : Nat} {l : List Fr.Pair} {i : Nat}, Fr.fields s f l i = .error (p, w) → Rsn w
  | 0, l, i, h => by rw [Fr.fields] at h; cases h
  | f + 1, l, i, h => by
    rw [Fr.fields] at h
    split at h
    · rename_i hx; cases h; exact rs_field hx
    · split at h
      · exact rs_fields h
      · cases h
theorem rs_body {s : List UInt8} {p : Nat} {w : Int} (h : Fr.body s = .error (p, w)) : Rsn w := by
  rw [body_eq] at h
  split at h
  · rename_i hx; cases h; exact rs_must hx
  · rename_i i0 _
    have hend : ∀ l i, endF s l i = .error (p, w) → Rsn w := fun l i h => by
      unfold endF at h
      split at h
      · rename_i hx; cases h; exact rs_must hx
      · split at h
        · cases h; exact .inl rfl
        · cases h
    cases hat : Fr.isAt s (Fr.blanks s i0) 125 with
    | true => rw [hat, if_pos rfl] at h; exact hend _ _ h
    | false =>
      rw [hat, if_neg (by decide)] at h
      cases hf : Fr.fields s 18 [] (Fr.blanks s i0) with
      | error e => obtain ⟨p2, w2⟩ := e; rw [hf] at h; cases h; exact rs_fields hf
      | ok lj => rw [hf] at h; exact hend _ _ h
theorem spoilt_pure (hP : E.P = Tryz.prog) {m : Int} (hm : E.gl 2 = some [.int .i64 m]) (ht : ∀ w, E.G w → Lib.Utf8Tabs 0 1 w) (s : List UInt8) : XPure E 7 [.str s] (.bool true) := by
  refine xpure1 (n := Tryz.f7.ntmps) (c := y7) (t := 2) (by rw [hP]; rfl) (by rw [hP]; kernel_rfl) (by decide) (Nat.le_of_ble_eq_true rfl) ?_
  generalize hρ : entry _ = ρ
  have h0 : ρ 0 = .str s := by rw [← hρ]; rfl
  clear hρ
  unfold y7
  by_cases h200 : 200 < s.length
  · have f1 : ((200 : Int) < (s.length : Int)) = True := eq_true (by omega)
    simp only [h0, f1, go_sem, Nat.reduceEqDiff, reduceIte, Int.reduceEq, Int.reduceLT, Int.reduceLE, Nat.reduceAdd, Nat.reduceLT, Nat.reduceLeDiff, Int.reduceToNat, Int.reduceSub, Int.reduceAdd, Int.reduceNeg]
    refine xcall_pure (args' := []) rfl (wakes_pure (E := E.noPan) hP hm ht) rfl ?_
    simp only [h0, go_sem, Nat.reduceEqDiff, reduceIte, Int.reduceEq, Int.reduceLT, Int.reduceLE, Nat.reduceAdd, Nat.reduceLT, Nat.reduceLeDiff, Int.reduceToNat, Int.reduceSub, Int.reduceAdd, Int.reduceNeg]
    rfl
  have f1 : ((200 : Int) < (s.length : Int)) = False := eq_false (by omega)
  simp only [h0, f1, go_sem, Nat.reduceEqDiff, reduceIte, Int.reduceEq, Int.reduceLT, Int.reduceLE, Nat.reduceAdd, Nat.reduceLT, Nat.reduceLeDiff, Int.reduceToNat, Int.reduceSub, Int.reduceAdd, Int.reduceNeg]
  have hob := obj_pure (E := E.noPan) hP ht s (by omega)
  cases hb : Fr.body s with
  | error pw =>
    obtain ⟨p, w⟩ := pw
    have hoi : objIV s = .tup [.isl [], .int .i64 p, .int .i64 w] := by unfold objIV; rw [hb]
    have hw := rs_body hb
    have e1 : (w = 0) = False := eq_false (by unfold Rsn at hw; omega)
    rw [hoi] at hob
    refine xcall_pure (args' := [.str s]) rfl hob rfl ?_
    simp only [h0, e1, go_sem, Nat.reduceEqDiff, reduceIte, Int.reduceEq, Int.reduceLT, Int.reduceLE, Nat.reduceAdd, Nat.reduceLT, Nat.reduceLeDiff, Int.reduceToNat, Int.reduceSub, Int.reduceAdd, Int.reduceNeg]
    refine xcall_pure (args' := []) rfl (wakes_pure (E := E.noPan) hP hm ht) rfl ?_
    simp only [h0, go_sem, Nat.reduceEqDiff, reduceIte, Int.reduceEq, Int.reduceLT, Int.reduceLE, Nat.reduceAdd, Nat.reduceLT, Nat.reduceLeDiff, Int.reduceToNat, Int.reduceSub, Int.reduceAdd, Int.reduceNeg]
    rfl
  | ok l =>
  have hoi : objIV s = .tup [.isl (pRows l), .int .i64 0, .int .i64 0] := by unfold objIV; rw [hb]
  rw [hoi] at hob
  refine xcall_pure (args' := [.str s]) rfl hob rfl ?_
  have z0 : ((0 : Int) = 0) = True := eq_true rfl
  simp only [h0, z0, go_sem, Nat.reduceEqDiff, reduceIte, Int.reduceEq, Int.reduceLT, Int.reduceLE, Nat.reduceAdd, Nat.reduceLT, Nat.reduceLeDiff, Int.reduceToNat, Int.reduceSub, Int.reduceAdd, Int.reduceNeg]
  refine xrun_cut (fun e ρ' L' => e = .exit 0 ∧ L' = [] ∧ ρ' 0 = .str s ∧ ∃ n : Nat, n ≤ s.length ∧ ρ' 6 = .int .i64 n ∧ (n = 0 ∨ s.getD (n - 1) 0 = 125)) ?_ ?_
  · refine s_loop (fun q ρ L => ∃ n : Nat, q = n ∧ n ≤ s.length ∧ L = [] ∧ ρ 0 = .str s ∧ ρ 6 = .int .i64 n) (n := s.length)
      ⟨s.length, rfl, Nat.le_refl _, rfl, by simp only [h0, go_sem, Nat.reduceEqDiff, reduceIte, Int.reduceEq, Int.reduceLT, Int.reduceLE, Nat.reduceAdd, Nat.reduceLT, Nat.reduceLeDiff, Int.reduceToNat, Int.reduceSub, Int.reduceAdd, Int.reduceNeg], by simp only [h0, go_sem, Nat.reduceEqDiff, reduceIte, Int.reduceEq, Int.reduceLT, Int.reduceLE, Nat.reduceAdd, Nat.reduceLT, Nat.reduceLeDiff, Int.reduceToNat, Int.reduceSub, Int.reduceAdd, Int.reduceNeg]; try rfl⟩ ?_
    clear h0 ρ
    rintro q ρ L ⟨n, rfl, hn, rfl, h0, h6⟩
    by_cases hpos : 0 < q
    case neg =>
      have e1 : ((0 : Int) < (q : Int)) = False := eq_false (by omega)
      simp only [h0, h6, e1, go_sem, Nat.reduceEqDiff, reduceIte, Int.reduceEq, Int.reduceLT, Int.reduceLE, Nat.reduceAdd, Nat.reduceLT, Nat.reduceLeDiff, Int.reduceToNat, Int.reduceSub, Int.reduceAdd, Int.reduceNeg]
      exact ⟨q, hn, rfl, .inl (by omega)⟩
    have e1 : ((0 : Int) < (q : Int)) = True := eq_true (by omega)
    have hw : IntKind.i64.wrap ((q : Int) - 1) = ((q - 1 : Nat) : Int) := by rw [wrap64 (by omega) (by omega)]; omega
    have e2 : ((0 : Int) ≤ ((q - 1 : Nat) : Int)) = True := eq_true (by omega)
    have e3 : (((q - 1 : Nat) : Int) < (s.length : Int)) = True := eq_true (by omega)
    have u125 : (((s.getD (q - 1) 0).toNat : Int) = 125) = (s.getD (q - 1) 0 = 125) := propext ⟨fun h => UInt8.toNat_inj.1 (by show (s.getD (q - 1) 0).toNat = 125; omega), fun h => by rw [h]; rfl⟩
    by_cases hc : s.getD (q - 1) 0 = 125
    · have f2 := u125.trans (eq_true hc)
      simp only [h0, h6, e1, e2, e3, hw, f2, go_sem, Nat.reduceEqDiff, reduceIte, Int.reduceEq, Int.reduceLT, Int.reduceLE, Nat.reduceAdd, Nat.reduceLT, Nat.reduceLeDiff, Int.reduceToNat, Int.reduceSub, Int.reduceAdd, Int.reduceNeg]
      exact ⟨q, hn, rfl, .inr hc⟩
    · have f2 := u125.trans (eq_false hc)
      simp only [h0, h6, e1, e2, e3, hw, f2, go_sem, Nat.reduceEqDiff, reduceIte, Int.reduceEq, Int.reduceLT, Int.reduceLE, Nat.reduceAdd, Nat.reduceLT, Nat.reduceLeDiff, Int.reduceToNat, Int.reduceSub, Int.reduceAdd, Int.reduceNeg]
      exact ⟨q - 1, by omega, q - 1, rfl, by omega, rfl⟩
  rintro e ρ1 L1 ⟨rfl, rfl, k0, n, hn, k6, hno⟩
  clear h0 ρ
  simp only [k0, k6, go_sem, Nat.reduceEqDiff, reduceIte, Int.reduceEq, Int.reduceLT, Int.reduceLE, Nat.reduceAdd, Nat.reduceLT, Nat.reduceLeDiff, Int.reduceToNat, Int.reduceSub, Int.reduceAdd, Int.reduceNeg]
  refine xrun_cut (fun e ρ' L' => e = .exit 2) ?_ ?_
  · refine s_loop (fun q ρ L => ∃ k : Nat, k ≤ n ∧ q = n - k ∧ L = [] ∧ ρ 0 = .str s ∧ ρ 6 = .int .i64 n ∧ ρ 7 = .int .i64 k) (n := n)
      ⟨0, Nat.zero_le _, rfl, rfl, by simp only [k0, go_sem, Nat.reduceEqDiff, reduceIte, Int.reduceEq, Int.reduceLT, Int.reduceLE, Nat.reduceAdd, Nat.reduceLT, Nat.reduceLeDiff, Int.reduceToNat, Int.reduceSub, Int.reduceAdd, Int.reduceNeg], by simp only [k6, go_sem, Nat.reduceEqDiff, reduceIte, Int.reduceEq, Int.reduceLT, Int.reduceLE, Nat.reduceAdd, Nat.reduceLT, Nat.reduceLeDiff, Int.reduceToNat, Int.reduceSub, Int.reduceAdd, Int.reduceNeg], by simp only [go_sem, Nat.reduceEqDiff, reduceIte, Int.reduceEq, Int.reduceLT, Int.reduceLE, Nat.reduceAdd, Nat.reduceLT, Nat.reduceLeDiff, Int.reduceToNat, Int.reduceSub, Int.reduceAdd, Int.reduceNeg]; try rfl⟩ ?_
    clear k0 k6 ρ1
    rintro q ρ L ⟨k, hk, rfl, rfl, h0, h6, h7⟩
    by_cases hkn : k < n
    case neg =>
      have e1 : ((k : Int) < (n : Int)) = False := eq_false (by omega)
      simp only [h0, h6, h7, e1, go_sem, Nat.reduceEqDiff, reduceIte, Int.reduceEq, Int.reduceLT, Int.reduceLE, Nat.reduceAdd, Nat.reduceLT, Nat.reduceLeDiff, Int.reduceToNat, Int.reduceSub, Int.reduceAdd, Int.reduceNeg]
    have e1 : ((k : Int) < (n : Int)) = True := eq_true (by omega)
    have e0 : ((0 : Int) ≤ (k : Int)) = True := eq_true (by omega)
    have hw : IntKind.i64.wrap ((k : Int) + 1) = ((k + 1 : Nat) : Int) := by rw [wrap64 (by omega) (by omega)]; rfl
    have htl : (s.take k).length ≤ 200 := by rw [List.length_take]; omega
    have ho1 := obj_pure (E := E.noPan) hP ht (s.take k) (by omega)
    have ho2 := robj_pure (E := E.noPan) hP (s.take k) (by omega)
    cases hbk : Fr.body (s.take k) with
    | ok l' =>
      exfalso
      obtain ⟨i, hi, hc, hall⟩ := tk_body hbk hb
      rcases hno with h | h
      · omega
      · have hx := hall (n - 1) (by omega) (by omega)
        rw [h] at hx
        exact absurd hx (by decide)
    | error pw =>
    obtain ⟨p, w⟩ := pw
    have hoi2 : objIV (s.take k) = .tup [.isl [], .int .i64 p, .int .i64 w] := by unfold objIV; rw [hbk]
    rw [hoi2] at ho1 ho2
    have hwr := rs_body hbk
    have g1 : (w = 0) = False := eq_false (by unfold Rsn at hwr; omega)
    have g2 : (w = w) = True := eq_true rfl
    have g3 : ((p : Int) = (p : Int)) = True := eq_true rfl
    simp only [h0, h6, h7, e0, e1, go_sem, Nat.reduceEqDiff, reduceIte, Int.reduceEq, Int.reduceLT, Int.reduceLE, Nat.reduceAdd, Nat.reduceLT, Nat.reduceLeDiff, Int.reduceToNat, Int.reduceSub, Int.reduceAdd, Int.reduceNeg]
    refine ⟨by omega, ?_⟩
    refine xcall_pure (args' := [.str (s.take k)]) rfl ho1 rfl ?_
    simp only [h0, h6, h7, e0, go_sem, Nat.reduceEqDiff, reduceIte, Int.reduceEq, Int.reduceLT, Int.reduceLE, Nat.reduceAdd, Nat.reduceLT, Nat.reduceLeDiff, Int.reduceToNat, Int.reduceSub, Int.reduceAdd, Int.reduceNeg]
    refine ⟨by omega, ?_⟩
    refine xcall_pure (args' := [.str (s.take k)]) rfl ho2 rfl ?_
    simp only [h0, h6, h7, g1, g2, g3, hw, go_sem, Nat.reduceEqDiff, reduceIte, Int.reduceEq, Int.reduceLT, Int.reduceLE, Nat.reduceAdd, Nat.reduceLT, Nat.reduceLeDiff, Int.reduceToNat, Int.reduceSub, Int.reduceAdd, Int.reduceNeg]
    exact ⟨n - (k + 1), by omega, k + 1, by omega, rfl, rfl⟩
  rintro e ρ L rfl
  simp only [go_sem, Nat.reduceEqDiff, reduceIte, Int.reduceEq, Int.reduceLT, Int.reduceLE, Nat.reduceAdd, Nat.reduceLT, Nat.reduceLeDiff, Int.reduceToNat, Int.reduceSub, Int.reduceAdd, Int.reduceNeg]
  refine xcall_pure (args' := []) rfl (wakes_pure (E := E.noPan) hP hm ht) rfl ?_
  simp only [go_sem, Nat.reduceEqDiff, reduceIte, Int.reduceEq, Int.reduceLT, Int.reduceLE, Nat.reduceAdd, Nat.reduceLT, Nat.reduceLeDiff, Int.reduceToNat, Int.reduceSub, Int.reduceAdd, Int.reduceNeg]
  rfl
end
end Go.X.TryzW
end
