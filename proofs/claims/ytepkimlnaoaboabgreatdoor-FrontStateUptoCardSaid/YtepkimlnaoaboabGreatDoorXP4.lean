/- Parts of the proof: XOps, XOps2, XOps3, XOps4, XOps5, XOps6, XNil. -/
import Derived.Test.YtepkimlnaoaboabGreatDoorXP3
import Derived.Laws.AppendOwn
import Derived.Laws.Strings
import Derived.Laws.Concat
import Derived.Laws.Cover1
import Derived.Laws.Build
import Derived.WalkSpells
set_option linter.unusedVariables false
set_option linter.unusedSimpArgs false
set_option linter.unusedSectionVars false
section
/- The calculus X, part 7: each operation does what its short form says. -/
namespace Go.X
open Go

def Does (P : Program) (o : Oper) (a : Act) (w : World) (R RP : Value → World → Prop) : Prop :=
  (∃ v w', (execOp a.eval o).run P w = .ok (.value v) w' ∧ R v w') ∨ (∃ w', (execOp a.eval o).run P w = .ok .skip w' ∧ R undef w') ∨
  (∃ f args w', (execOp a.eval o).run P w = .ok (.enter f args) w' ∧ Calls P f args w' fun e w'' => ∃ v, (e = .returned v ∧ R v w'') ∨ (e = .panicked [{ v, recovered := false }] ∧ RP v w'')) ∨
  (∃ l fn tmps asg body w', (execOp a.eval o).run P w = .ok (.round l fn tmps asg body) w' ∧ ∀ F, FOk F → RoundIn F 0 P l fn tmps asg body w' fun e w'' => ∃ v, e = .returned v ∧ R v w'') ∨
  (∃ v w', (execOp a.eval o).run P w = .halt (.panic v) w' ∧ RP v w')

theorem vr_ofVal {C : Ctx} {v : Value} {x : IV} (h : ofVal v = some x) : VR C x v := by
  unfold ofVal at h
  split at h
  · cases h; exact .bool _
  · cases h; exact .int _ _
  · cases h; exact .str _
  · cases h; exact .nsl
  · split at h
    · rename_i vs h0
      cases h
      have : vs = #[] := Array.eq_empty_of_size_eq_zero h0
      subst this; exact .und
    · cases h
  · cases h
  · rename_i h1 h2 h3 h4 h5 h6
    cases h
    refine .raw _ ?_
    cases v <;> first | rfl | exact absurd rfl (h6 _)

/-- What the operands say. -/
def Opds (C : Ctx) (a : Act) (e : Opd → IV) : Prop := ∀ p q, opd p = some q → VR C (e q) (a.eval p)

theorem opds_of {C : Ctx} {a : Act} {ρ : Rho} (h : ∀ n, VR C (ρ n) (a.tmps.getD n undef)) : Opds C a (Opd.ev ρ) := by
  intro p q hq
  cases p with
  | tmp t => cases hq; exact h t
  | const v => simp only [opd, Option.map_eq_some_iff] at hq; obtain ⟨x, hx, rfl⟩ := hq; exact vr_ofVal hx
  | global g => cases hq; exact .raw _ rfl
  | func f => cases hq; exact .fn _ [] [] [] [] rfl rfl (fun i x hi => by simp at hi) (fun i x hi => by simp at hi)

theorem isCell_one {C : Ctx} {x : IV} {v : Value} (h : VR C x v) (hc : isCell x = true) : v.oneCell' = true := by
  cases h with
  | raw v h => cases v <;> first | rfl | cases hc
  | agg => cases hc
  | tup => cases hc
  | und => cases hc
  | _ => rfl

section
variable {E : Env} {C : Ctx} {a : Act} {e : Opd → IV} {o : Oper} {K : IV → List Blk → Prop}

/-- What is to be shown of an operation. -/
abbrev Good (E : Env) (C : Ctx) (a : Act) (o : Oper) (K : IV → List Blk → Prop) : Prop := Does E.P o a C.w (Post E C K) (Post E C E.pan)

/-- .. of one that reads alone. -/
def PostP (C : Ctx) (K : IV → List Blk → Prop) (v : Value) (w' : World) : Prop := w' = C.w ∧ ∃ r, VR C r v ∧ K r C.L
def PureG (E : Env) (C : Ctx) (a : Act) (o : Oper) (K : IV → List Blk → Prop) : Prop := ∃ v r, (execOp a.eval o).run E.P C.w = .ok (.value v) C.w ∧ VR C r v ∧ K r C.L
theorem psame {r : IV} {v : Value} (hv : VR C r v) (h : K r C.L) : PostP C K v C.w := ⟨rfl, r, hv, h⟩
theorem pure_mk (h : ∃ v w', (execOp a.eval o).run E.P C.w = .ok (.value v) w' ∧ PostP C K v w') : PureG E C a o K := by
  obtain ⟨v, w', h1, rfl, r, h2, h3⟩ := h
  exact ⟨v, r, h1, h2, h3⟩
theorem pure_value {s : Sem Value} {v : Value} {w' : World} (h1 : execOp a.eval o = (do pure (Next.value (← s)))) (h2 : s.run E.P C.w = .ok v w') (h : PostP C K v w') : PureG E C a o K :=
  pure_mk ⟨v, w', by rw [h1, Sem.run_bind, h2]; rfl, h⟩
theorem PureG.good (h : PureG E C a o K) (wf : Wf E.g0 C) (sim : Sim C) : Good E C a o K := by
  obtain ⟨v, r, h1, h2, h3⟩ := h
  exact .inl ⟨v, C.w, h1, post_same wf sim h2 h3⟩
theorem good_value {s : Sem Value} {v : Value} {w' : World} (h1 : execOp a.eval o = (do pure (Next.value (← s)))) (h2 : s.run E.P C.w = .ok v w') (h : Post E C K v w') : Good E C a o K :=
  .inl ⟨v, w', by rw [h1, Sem.run_bind, h2]; rfl, h⟩
theorem good_unit {s : Sem Unit} {w' : World} (h1 : execOp a.eval o = (do s; pure Next.skip)) (h2 : s.run E.P C.w = .ok () w') (h : Post E C K undef w') : Good E C a o K :=
  .inr (.inl ⟨w', by rw [h1, Sem.run_bind, h2]; rfl, h⟩)

theorem good_move (sim : Sim C) (he : Opds C a e) {x : Operand} {q : Opd} (ho : o.op = .move x ∨ o.op = .assign x) (hq : opd x = some q) (h : K (e q) C.L) : PureG E C a o K := by
  refine pure_mk ⟨a.eval x, C.w, ?_, psame (he x q hq) h⟩
  rcases ho with ho | ho <;> (unfold execOp; rw [ho]; rfl)

theorem good_pick (sim : Sim C) (he : Opds C a e) {c x y : Operand} {c' x' y' : Opd} (ho : o.op = .pick c x y) (hc : opd c = some c') (hx : opd x = some x') (hy : opd y = some y')
    {t : Bool} (ht : e c' = .bool t) (h : K (if t then e x' else e y') C.L) : PureG E C a o K := by
  have h1 := he c c' hc
  rw [ht] at h1
  generalize hcv : a.eval c = cv at h1
  cases h1
  refine pure_mk ⟨if t then a.eval x else a.eval y, C.w, ?_, psame ?_ h⟩
  · unfold execOp; rw [ho]; simp only [hcv]
    cases t <;> rfl
  · cases t
    · exact he y y' hy
    · exact he x x' hx

theorem zeroCells_spec {P : Program} {t : TypeId} {z : List IV} (h : zeroCells P t = some z) :
    ∃ i v, P.info? t = some i ∧ i.zero = some v ∧ z.length = v.cells.size ∧ ∀ (C : Ctx) (j : Nat) (x : IV), z[j]? = some x → ∃ u, v.cells[j]? = some u ∧ VR C x u := by
  unfold zeroCells at h
  rw [Option.bind_eq_some_iff] at h
  obtain ⟨i, hi, h⟩ := h
  rw [Option.bind_eq_some_iff] at h
  obtain ⟨v, hv, h⟩ := h
  refine ⟨i, v, hi, hv, by simpa using mapO_len h, fun C j x hx => ?_⟩
  obtain ⟨u, h1, h2⟩ := mapO_get h j x hx
  exact ⟨u, by simpa using h1, vr_ofVal h2⟩

theorem run_zeroValue {P : Program} {t : TypeId} {i : TypeInfo} {v : Value} (h1 : P.info? t = some i) (h2 : i.zero = some v) (w : World) : (zeroValue t).run P w = .ok v w := by
  simp [zeroValue, typeInfo, h1, h2]

theorem run_sizeOf' {P : Program} {t : TypeId} {n : Nat} (h : sizeT P t = some n) (w : World) : (sizeOf t).run P w = .ok n w := by
  unfold sizeT at h
  rw [Option.map_eq_some_iff] at h
  obtain ⟨i, h1, rfl⟩ := h
  simp [sizeOf, typeInfo, h1]

theorem run_isAgg {P : Program} {t : TypeId} {b : Bool} (h : isAggT P t = some b) (w : World) : (isAgg t).run P w = .ok b w := by
  unfold isAggT at h
  unfold isAgg
  have hu : ∀ d, P.underlying t = some d → (underlying t).run P w = .ok d w := fun d hd => by simp [underlying, hd]
  split at h <;> rename_i hd <;> first
    | (cases h; rw [Sem.run_bind, hu _ hd]; rfl)
    | skip
  · rename_i _ d h1 h2
    cases h
    rw [Sem.run_bind, hu _ hd]
    cases d <;> first | rfl | exact absurd rfl (h1 _) | exact absurd rfl (h2 _ _)
  · cases h

theorem flat_zero {z : List IV} {v : Value} {C : Ctx} (hl : z.length = v.cells.size) (h : ∀ (j : Nat) (x : IV), z[j]? = some x → ∃ u, v.cells[j]? = some u ∧ VR C x u) :
    Flat C v.cells 0 z.length [z] := by
  refine ⟨by simp [hl], fun i row hi => ?_⟩
  cases i with
  | zero => simp at hi; subst hi; exact ⟨rfl, fun j y hj => by simpa using h j y hj⟩
  | succ i => simp at hi

theorem good_alloc {g : Nat} (hg : Free C.L g) (wf : Wf E.g0 C) (sim : Sim C) {t : TypeId} {z : List IV} (ho : o.op = .alloc t) (hz : zeroCells E.P t = some z)
    (h : K (.ptr g 0 0) (layAt C.L g (.cells z.length [z]))) : Good E C a o K := by
  obtain ⟨i, v, h1, h2, h3, h4⟩ := zeroCells_spec hz
  refine good_value (s := Instr.alloc t true (.tuple #[])) (v := .pointer (some ⟨C.w.heap.size, 0, none⟩)) (w' := pushW C.w (.cells v.cells t)) (by unfold execOp; rw [ho]) ?_ (new_post hg wf sim (flat_zero h3 (h4 C)) (vr_new_ptr hg) h)
  unfold Instr.alloc
  rw [Sem.run_bind, run_zeroValue h1 h2]
  rfl

theorem good_box {g : Nat} (hg : Free C.L g) (wf : Wf E.g0 C) (sim : Sim C) (he : Opds C a e) {t : TypeId} {x : Operand} {q : Opd} (ho : o.op = .box t x) (hq : opd x = some q)
    (h : K (.ptr g 0 0) (layAt C.L g (.cells (cellsOf (e q)).length [cellsOf (e q)]))) : Good E C a o K :=
  good_value (s := Instr.box t (a.eval x)) (v := .pointer (some ⟨C.w.heap.size, 0, none⟩)) (w' := pushW C.w (.cells (a.eval x).cells t)) (by unfold execOp; rw [ho]) rfl
    (new_post hg wf sim (flat_one (he x q hq)) (vr_new_ptr hg) h)

/-- A pointer that we may follow: the cells behind it. -/
theorem rowsAt_cells (sim : Sim C) (hG : E.G C.w) {x : IV} {v : Value} (hv : VR C x v) {rows : List (List IV)} {r off : Nat} (h : rowsAt E.gl C.L x = some (rows, r, off)) (hr : r < rows.length) :
    ∃ b k, v = .pointer (some ⟨b, k, none⟩) ∧ ∀ (j : Nat) (y : IV), (rows.getD r [])[off + j]? = some y → ∃ u, C.w.cell? ⟨b, k + j, none⟩ = some u ∧ VR C y u := by
  have hrow : rows[r]? = some (rows.getD r []) := by simp [List.getD, List.getElem?_eq_getElem hr]
  cases hv with
  | ptr s r' o' hs =>
    simp only [rowsAt] at h
    split at h
    · rename_i sz rows' hL
      simp only [Option.some.injEq, Prod.mk.injEq] at h
      obtain ⟨rfl, rfl, rfl⟩ := h
      obtain ⟨h1, c, ty, fr, h2, _, h3, h4⟩ := sim s _ hL
      refine ⟨_, _, rfl, fun j y hj => ?_⟩
      obtain ⟨u, h5, h6⟩ := (h4 _ _ hrow).2 _ y hj
      refine ⟨u, ?_, h6⟩
      rw [h1]
      simp only [World.cell?, h2]
      simpa [Nat.add_assoc] using h5
    · rename_i ty' sz rows' hL
      simp only [Option.some.injEq, Prod.mk.injEq] at h
      obtain ⟨rfl, rfl, rfl⟩ := h
      obtain ⟨⟨h1, c, ty, fr, h2, _, h3, h4⟩, _⟩ := sim s _ hL
      refine ⟨_, _, rfl, fun j y hj => ?_⟩
      obtain ⟨u, h5, h6⟩ := (h4 _ _ hrow).2 _ y hj
      refine ⟨u, ?_, h6⟩
      rw [h1]
      simp only [World.cell?, h2]
      simpa [Nat.add_assoc] using h5
    · cases h
  | iptr rows' r' o' b base sz vals hsz hcl hb hown ha hv =>
    simp only [rowsAt, Option.some.injEq, Prod.mk.injEq] at h
    obtain ⟨rfl, rfl, rfl⟩ := h
    refine ⟨b, base + r' * sz + o', rfl, fun j y hj => ?_⟩
    refine ⟨vals r' (o' + j), ?_, hv _ _ hrow _ _ hj⟩
    rw [← ha _ _ hrow _ _ hj, Nat.add_assoc]
  | raw v hv =>
    unfold rowsAt at h
    split at h
    · rename_i n o heq
      cases heq
      split at h
      · rename_i cs hcs
        simp only [Option.some.injEq, Prod.mk.injEq] at h
        obtain ⟨rfl, rfl, rfl⟩ := h
        refine ⟨n, o, rfl, fun j y hj => ?_⟩
        obtain ⟨u, h1, h2⟩ := E.hgl C.w n cs hG hcs (o + j) y hj
        exact ⟨u, h1, h2 C⟩
      · cases h
    · rename_i heq; cases heq
    · rename_i heq; cases heq
    · cases h
  | _ => cases h

theorem getD_getL {α : Type} {l : List α} {i : Nat} {x d : α} (h : l[i]? = some x) : l.getD i d = x := by
  rw [List.getD_eq_getElem?_getD, h]; rfl
theorem getD_get {α : Type} {l : List α} {i : Nat} {d : α} (h : i < l.length) : l[i]? = some (l.getD i d) := by simp [List.getD, List.getElem?_eq_getElem h]

theorem good_load1 (sim : Sim C) (hG : E.G C.w) (he : Opds C a e) {t : TypeId} {x : Operand} {q : Opd} (ho : o.op = .load t x) (hq : opd x = some q) (hg : isAggT E.P t = some false)
    {rows : List (List IV)} {r off : Nat} (h : rowsAt E.gl C.L (e q) = some (rows, r, off)) (hr : r < rows.length) (hoff : off < (rows.getD r []).length)
    (hK : K ((rows.getD r []).getD off .und) C.L) : PureG E C a o K := by
  obtain ⟨b, k, hv, hc⟩ := rowsAt_cells sim hG (he x q hq) h hr
  obtain ⟨u, h1, h2⟩ := hc 0 _ (getD_get (d := .und) (by simpa using hoff))
  refine pure_value (s := Instr.loadAt t (a.eval x)) (v := u) (w' := C.w) (by unfold execOp; rw [ho]) ?_ (psame h2 (by simpa using hK))
  rw [hv]
  unfold Instr.loadAt loadVar
  rw [Sem.run_bind]
  simp only [Instr.sureAddr, Sem.run_pure, Result.andThen_ok]
  rw [Sem.run_bind, run_isAgg hg]
  simp only [Result.andThen_ok, Bool.false_eq_true, if_false, run_load]
  simp only [Nat.add_zero] at h1
  rw [h1]

theorem good_loadN (sim : Sim C) (hG : E.G C.w) (he : Opds C a e) {t : TypeId} {x : Operand} {q : Opd} {n : Nat} (ho : o.op = .load t x) (hq : opd x = some q) (hg : isAggT E.P t = some true) (hn : sizeT E.P t = some n)
    {rows : List (List IV)} {r off : Nat} (h : rowsAt E.gl C.L (e q) = some (rows, r, off)) (hr : r < rows.length) (hoff : off + n ≤ (rows.getD r []).length)
    (hK : K (.agg (((rows.getD r []).drop off).take n)) C.L) : PureG E C a o K := by
  obtain ⟨b, k, hv, hc⟩ := rowsAt_cells sim hG (he x q hq) h hr
  have hc' : ∀ j, j < n → ∃ u, C.w.cell? ⟨b, k + j, none⟩ = some u ∧ VR C ((rows.getD r []).getD (off + j) .und) u := fun j hj => hc j _ (getD_get (by omega))
  let f : Nat → Value := fun j => if hj : j < n then (hc' j hj).choose else undef
  have hf : ∀ j, j < n → C.w.cell? ⟨b, k + j, none⟩ = some (f j) ∧ VR C ((rows.getD r []).getD (off + j) .und) (f j) := fun j hj => by
    simp only [f, hj, dif_pos]; exact (hc' j hj).choose_spec
  refine pure_value (s := Instr.loadAt t (a.eval x)) (v := .agg ((List.range n).map f).toArray) (w' := C.w) (by unfold execOp; rw [ho]) ?_ (psame ?_ hK)
  · rw [hv]
    unfold Instr.loadAt loadVar
    rw [Sem.run_bind]
    simp only [Instr.sureAddr, Sem.run_pure, Result.andThen_ok]
    rw [Sem.run_bind, run_isAgg hg]
    simp only [Result.andThen_ok, if_true]
    rw [Sem.run_bind, run_sizeOf' hn]
    simp only [Result.andThen_ok]
    rw [Sem.run_bind, run_loadCells C.w _ n f (fun j hj => by
      have : (⟨b, k, none⟩ : Addr).add j = ⟨b, k + j, none⟩ := by unfold Addr.add; split <;> simp_all
      rw [this]; exact (hf j hj).1)]
    rfl
  · refine .agg _ _ (by rw [List.length_take, List.length_drop, List.length_map, List.length_range]; omega) fun i y hi => ?_
    rw [List.getElem?_take] at hi
    split at hi
    · rename_i hlt
      rw [List.getElem?_drop] at hi
      have hin : i < n := hlt
      have h1 := (hf i hin).2
      have hy : (rows.getD r []).getD (off + i) .und = y := getD_getL hi
      rw [hy] at h1
      simpa [List.getD, hin] using h1
    · cases hi

end
end Go.X
end
section
/- The calculus X, part 8: each operation does what its short form says (2): what writes. -/
namespace Go.X
open Go

theorem setRow_eq {w : World} {g : Nat} {old cs : Array Value} {t : TypeId} {fr : Nat × Nat} (hg : w.heap[g]? = some (.cells old t fr)) : w.setRow g cs = setW w g (.cells cs t fr) := by
  unfold World.setRow setW
  cases w with
  | mk heap tape drawn os output =>
    congr 1
    apply Array.ext'
    apply List.ext_getElem?
    intro i
    simp only [Array.getElem?_toList]
    rw [Array.getElem?_modify, Array.getElem?_setIfInBounds]
    by_cases h : g = i
    · subst h
      have hlt := (Array.getElem?_eq_some_iff.1 hg).1
      simp only [if_pos rfl, hlt]
      rw [hg]; simp
    · rw [if_neg h, if_neg h]

theorem run_storeCells_atG (P : Program) (g o : Nat) (t : TypeId) (fz : Nat × Nat) : ∀ (vs : List Value) (i : Nat) (cur : Array Value) (w : World), w.heap[g]? = some (.cells cur t fz) → frOk cur.size fz → o + i + vs.length ≤ cur.size → (∀ v ∈ vs, v.oneCell' = true) →
    (storeCells ⟨g, o, none⟩ vs i).run P w = .ok () (w.setRow g (cur.toList.take (o + i) ++ vs ++ cur.toList.drop (o + i + vs.length)).toArray)
  | [], i, cur, w, hg, _, _, _ => by
    simp only [storeCells, List.append_nil, List.length_nil, Nat.add_zero, List.take_append_drop, Array.toArray_toList]
    rw [setRow_self w g cur t fz hg]
    rfl
  | v :: rest, i, cur, w, hg, hfz, hl, h1 => by
    have hi : o + i < cur.size := by simp at hl; omega
    have hadd : (⟨g, o, none⟩ : Addr).add i = ⟨g, o + i, none⟩ := by unfold Addr.add; split <;> simp_all
    have hcell : w.cell? ⟨g, o + i, none⟩ = some cur[o + i] := by simp [World.cell?, hg, hi]
    have hfro : w.frozen? ⟨g, o + i, none⟩ = false := by
      obtain ⟨lo, hi'⟩ := fz
      have := frOk_not hfz hi
      simp only [World.frozen?, hg, Bool.and_eq_false_iff, decide_eq_false_iff_not]
      simp only at this
      omega
    have hst : (store ((⟨g, o, none⟩ : Addr).add i) v).run P w = .ok () (w.setRow g (cur.setIfInBounds (o + i) v)) := by
      rw [hadd, run_store P w _ v _ (h1 v (by simp)), hcell]
      simp [hfro, setCell_eq_setRow w g (o + i) cur t fz v hg]
    have ih := run_storeCells_atG P g o t fz rest (i + 1) (cur.setIfInBounds (o + i) v) (w.setRow g (cur.setIfInBounds (o + i) v)) (setRow_heap w g cur _ t _ hg) (by simpa using hfz) (by simp at hl ⊢; omega) (fun x hx => h1 x (by simp [hx]))
    simp only [storeCells, Sem.run_bind, hst, Result.andThen_ok, ih, setRow_setRow]
    congr 3
    have e := list_seg_step cur.toList (o + i) v rest (by simp at hl ⊢; omega)
    simpa [Array.toList_setIfInBounds, Nat.add_assoc] using e

/-- A segment is written. -/
def seg (c : Array Value) (k : Nat) (vs : List Value) : Array Value := (c.toList.take k ++ vs ++ c.toList.drop (k + vs.length)).toArray

theorem seg_size {c : Array Value} {k : Nat} {vs : List Value} (h : k + vs.length ≤ c.size) : (seg c k vs).size = c.size := by
  have h' : c.toList.length = c.size := by simp
  simp only [seg, List.size_toArray, List.length_append, List.length_take, List.length_drop, h']; omega

theorem seg_get {c : Array Value} {k : Nat} {vs : List Value} (h : k + vs.length ≤ c.size) (i : Nat) :
    (seg c k vs)[i]? = if k ≤ i ∧ i < k + vs.length then vs[i - k]? else c[i]? := by
  have h' : c.toList.length = c.size := by simp
  simp only [seg, List.getElem?_toArray]
  by_cases h1 : i < k
  · rw [if_neg (by omega), List.append_assoc, List.getElem?_append_left (by rw [List.length_take]; omega), List.getElem?_take, if_pos h1]
    simp
  · by_cases h2 : i < k + vs.length
    · rw [if_pos ⟨by omega, h2⟩, List.append_assoc, List.getElem?_append_right (by rw [List.length_take]; omega), List.getElem?_append_left (by rw [List.length_take]; omega)]
      congr 1
      rw [List.length_take]; omega
    · rw [if_neg (by omega), List.getElem?_append_right (by rw [List.length_append, List.length_take]; omega), List.getElem?_drop]
      rw [List.length_append, List.length_take, ← Array.getElem?_toList]
      congr 1
      omega

theorem splice_len {α : Type} {l xs : List α} {i : Nat} (h : i + xs.length ≤ l.length) : (splice l i xs).length = l.length := by
  simp only [splice, List.length_append, List.length_take, List.length_drop]; omega

theorem splice_get {α : Type} {l xs : List α} {k : Nat} (h : k ≤ l.length) (i : Nat) :
    (splice l k xs)[i]? = if k ≤ i ∧ i < k + xs.length then xs[i - k]? else l[i]? := by
  simp only [splice]
  by_cases h1 : i < k
  · rw [if_neg (by omega), List.append_assoc, List.getElem?_append_left (by rw [List.length_take]; omega), List.getElem?_take, if_pos h1]
  · by_cases h2 : i < k + xs.length
    · rw [if_pos ⟨by omega, h2⟩, List.append_assoc, List.getElem?_append_right (by rw [List.length_take]; omega), List.getElem?_append_left (by rw [List.length_take]; omega)]
      congr 1
      rw [List.length_take]; omega
    · rw [if_neg (by omega), List.getElem?_append_right (by rw [List.length_append, List.length_take]; omega), List.getElem?_drop]
      rw [List.length_append, List.length_take]
      congr 1
      omega

theorem row_lt {i r sz j : Nat} (h : i < r) (hj : j < sz) : i * sz + j < r * sz := by
  have h1 : (i + 1) * sz ≤ r * sz := Nat.mul_le_mul_right sz h
  rw [Nat.add_mul] at h1
  omega

theorem lt_of_getL {α : Type} {l : List α} {i : Nat} {x : α} (h : l[i]? = some x) : i < l.length := (List.getElem?_eq_some_iff.1 h).1

/-- Writing in one row. -/
theorem flat_store {C : Ctx} {c : Array Value} {base sz : Nat} {rows : List (List IV)} (hf : Flat C c base sz rows) {r off : Nat} {xs : List IV} {vs : List Value} (hr : r < rows.length)
    (hoff : off + xs.length ≤ (rows.getD r []).length) (hl : xs.length = vs.length) (hx : ∀ (i : Nat) (x : IV), xs[i]? = some x → ∃ v, vs[i]? = some v ∧ VR C x v) :
    base + r * sz + off + vs.length ≤ c.size ∧ Flat C (seg c (base + r * sz + off) vs) base sz (rows.set r (splice (rows.getD r []) off xs)) := by
  have hrow := getD_get (d := []) hr
  have hsz := (hf.2 r _ hrow).1
  have hle : base + r * sz + off + vs.length ≤ c.size := by
    have h1 := hf.1
    have h2 : (r + 1) * sz ≤ rows.length * sz := Nat.mul_le_mul_right sz hr
    rw [Nat.add_mul] at h2
    omega
  refine ⟨hle, by rw [seg_size hle, List.length_set]; exact hf.1, fun i row hi => ?_⟩
  rcases get_set_cases hi with ⟨h1, h2⟩ | ⟨h1, h2, _⟩
  · refine ⟨(hf.2 i row h2).1, fun j x hj => ?_⟩
    obtain ⟨v, h3, h4⟩ := (hf.2 i row h2).2 j x hj
    refine ⟨v, ?_, h4⟩
    rw [seg_get hle, if_neg, h3]
    rintro ⟨h5, h6⟩
    have hj' : j < sz := by rw [← (hf.2 i row h2).1]; exact lt_of_getL hj
    rcases Nat.lt_or_gt_of_ne h1 with h7 | h7
    · have := row_lt h7 hj'; omega
    · have := row_lt h7 (show off + vs.length - 1 < sz by omega); omega
  · subst h1; subst h2
    refine ⟨(splice_len hoff).trans hsz, fun j x hj => ?_⟩
    rw [splice_get (by omega)] at hj
    split at hj
    · rename_i h5
      obtain ⟨v, h3, h4⟩ := hx _ x hj
      refine ⟨v, ?_, h4⟩
      rw [seg_get hle, if_pos (by omega), ← h3]
      congr 1
      omega
    · rename_i h5
      obtain ⟨v, h3, h4⟩ := (hf.2 i _ hrow).2 j x hj
      refine ⟨v, ?_, h4⟩
      rw [seg_get hle, if_neg (by omega), h3]

section
variable {E : Env} {C : Ctx} {a : Act} {e : Opd → IV} {o : Oper} {K : IV → List Blk → Prop}

/-- A block of ours, written: what is left. -/
theorem set_post {s : Nat} {sz : Nat} {rows rows' : List (List IV)} {c c' : Array Value} {ty : TypeId} {fr : Nat × Nat} {r : IV} {v : Value} (wf : Wf E.g0 C) (sim : Sim C) (hs : C.L[s]? = some (.cells sz rows))
    (hc : C.w.heap[(C.φ s).blk]? = some (.cells c ty fr)) (hfr : frOk c.size fr) (hsz : c'.size = c.size) (hf : Flat C c' (C.φ s).base sz rows')
    (hv : VR (setC C s (.cells c' ty fr) (.cells sz rows')) r v) (h : K r (C.L.set s (.cells sz rows'))) : Post E C K v (setW C.w (C.φ s).blk (.cells c' ty fr)) := by
  refine ⟨r, C.L.set s (Blk.cells sz rows'), C.φ, h, set_wf (o := .cells c' ty fr) wf hs rfl, set_sim wf sim hs rfl hc hsz ?_, set_ext hs rfl hc hsz, hv⟩
  have hf' := hf.mono (set_ext (k := .cells sz rows') hs rfl hc hsz)
  refine ⟨(sim s _ hs).1, c', ty, fr, ?_, by rw [hsz]; exact hfr, hf'.1, hf'.2⟩
  exact heap_set_eq (Array.getElem?_eq_some_iff.1 hc).1

/-- .. of a known type. -/
theorem set_postT {s : Nat} {sz : Nat} {rows rows' : List (List IV)} {c c' : Array Value} {ty : TypeId} {fr : Nat × Nat} {r : IV} {v : Value} (wf : Wf E.g0 C) (sim : Sim C) (hs : C.L[s]? = some (.tcells ty sz rows))
    (hc : C.w.heap[(C.φ s).blk]? = some (.cells c ty fr)) (hfr : frOk c.size fr) (hsz : c'.size = c.size) (hf : Flat C c' (C.φ s).base sz rows')
    (hv : VR (setC C s (.cells c' ty fr) (.tcells ty sz rows')) r v) (h : K r (C.L.set s (.tcells ty sz rows'))) : Post E C K v (setW C.w (C.φ s).blk (.cells c' ty fr)) := by
  refine ⟨r, C.L.set s (Blk.tcells ty sz rows'), C.φ, h, set_wf (o := .cells c' ty fr) wf hs rfl, set_sim wf sim hs rfl hc hsz ?_, set_ext hs rfl hc hsz, hv⟩
  have hf' := hf.mono (set_ext (k := .tcells ty sz rows') hs rfl hc hsz)
  have hh : (setC C s (.cells c' ty fr) (.tcells ty sz rows')).w.heap[(C.φ s).blk]? = some (.cells c' ty fr) := heap_set_eq (Array.getElem?_eq_some_iff.1 hc).1
  exact ⟨⟨(sim s _ hs).1.1, c', ty, fr, hh, by rw [hsz]; exact hfr, hf'.1, hf'.2⟩, (sim s _ hs).2.1, c', fr, hh⟩

/-- The store itself. -/
theorem store_run (sim : Sim C) (he : Opds C a e) {t : TypeId} {p x : Operand} {p' x' : Opd} {n : Nat} (ho : o.op = .store t p x) (hp : opd p = some p') (hx : opd x = some x')
    (hn : sizeT E.P t = some n) {s r off sz : Nat} {rows : List (List IV)} (h1 : e p' = .ptr s r off) (hco : CellsOk C s sz rows) (hr : r < rows.length) (hoff : off + n ≤ (rows.getD r []).length)
    (hl : (cellsOf (e x')).length = n) (hc : (cellsOf (e x')).all isCell = true)
    (hK : ∀ (c c' : Array Value) (ty : TypeId) (fr : Nat × Nat), C.w.heap[(C.φ s).blk]? = some (.cells c ty fr) → frOk c.size fr → c'.size = c.size →
      Flat C c' (C.φ s).base sz (rows.set r (splice (rows.getD r []) off (cellsOf (e x')))) → Post E C K undef (setW C.w (C.φ s).blk (.cells c' ty fr))) : Good E C a o K := by
  have hv := he p p' hp
  rw [h1] at hv
  generalize hpv : a.eval p = pv at hv
  cases hv with
  | ptr _ _ _ hs =>
  obtain ⟨hsz, c, ty, fr, h3, hfr, hf⟩ := hco
  obtain ⟨hl2, hx2⟩ := (he x x' hx).cells
  have hxs : ∀ (i : Nat) (y : IV), (cellsOf (e x'))[i]? = some y → ∃ v, (a.eval x).cells.toList[i]? = some v ∧ VR C y v := fun i y hi => by
    obtain ⟨v, h4, h5⟩ := hx2 i y hi; exact ⟨v, by simpa using h4, h5⟩
  obtain ⟨hle, hf'⟩ := flat_store (C := C) hf hr (by rw [hl]; exact hoff) (vs := (a.eval x).cells.toList) (by simpa using hl2) hxs
  have hone : ∀ v ∈ (a.eval x).cells.toList, v.oneCell' = true := fun v hv => by
    obtain ⟨i, hi, rfl⟩ := List.getElem_of_mem hv
    have hi' : i < (cellsOf (e x')).length := by rw [hl2]; simpa using hi
    obtain ⟨u, h4, h5⟩ := hxs i _ (List.getElem?_eq_getElem hi')
    rw [List.getElem?_eq_getElem hi] at h4
    rw [Option.some.inj h4]
    exact isCell_one h5 (List.all_eq_true.1 hc _ (List.getElem_mem hi'))
  refine good_unit (s := Instr.storeAt t (a.eval p) (a.eval x)) (by unfold execOp; rw [ho]) ?_ (hK c _ ty fr h3 hfr (seg_size hle) hf')
  rw [hpv]
  unfold Instr.storeAt storeVar
  rw [Sem.run_bind]
  simp only [Instr.sureAddr, Sem.run_pure, Result.andThen_ok]
  rw [Sem.run_bind, run_sizeOf' hn]
  simp only [Result.andThen_ok]
  rw [if_neg (by rw [← hl2, hl]; simp)]
  have h6 := run_storeCells_atG E.P (C.φ s).blk ((C.φ s).base + r * sz + off) ty fr (a.eval x).cells.toList 0 c C.w h3 hfr (by simpa using hle) hone
  simp only [Nat.add_zero] at h6
  rw [hsz]
  rw [← setRow_eq h3]
  exact h6

theorem good_store (wf : Wf E.g0 C) (sim : Sim C) (he : Opds C a e) {t : TypeId} {p x : Operand} {p' x' : Opd} {n : Nat} (ho : o.op = .store t p x) (hp : opd p = some p') (hx : opd x = some x')
    (hn : sizeT E.P t = some n) {s r off sz : Nat} {rows : List (List IV)} (h1 : e p' = .ptr s r off) (h2 : C.L[s]? = some (.cells sz rows)) (hr : r < rows.length) (hoff : off + n ≤ (rows.getD r []).length)
    (hl : (cellsOf (e x')).length = n) (hc : (cellsOf (e x')).all isCell = true)
    (hK : K .und (C.L.set s (.cells sz (rows.set r (splice (rows.getD r []) off (cellsOf (e x'))))))) : Good E C a o K :=
  store_run sim he ho hp hx hn h1 (sim s _ h2) hr hoff hl hc fun _ _ _ _ h3 hfr hsz hf => set_post wf sim h2 h3 hfr hsz hf (by exact .und) hK
theorem good_storeT (wf : Wf E.g0 C) (sim : Sim C) (he : Opds C a e) {t : TypeId} {p x : Operand} {p' x' : Opd} {n : Nat} (ho : o.op = .store t p x) (hp : opd p = some p') (hx : opd x = some x')
    (hn : sizeT E.P t = some n) {s r off ty sz : Nat} {rows : List (List IV)} (h1 : e p' = .ptr s r off) (h2 : C.L[s]? = some (.tcells ty sz rows)) (hr : r < rows.length) (hoff : off + n ≤ (rows.getD r []).length)
    (hl : (cellsOf (e x')).length = n) (hc : (cellsOf (e x')).all isCell = true)
    (hK : K .und (C.L.set s (.tcells ty sz (rows.set r (splice (rows.getD r []) off (cellsOf (e x'))))))) : Good E C a o K :=
  store_run sim he ho hp hx hn h1 (sim s _ h2).1 hr hoff hl hc fun c c' ty' fr h3 hfr hsz hf => by
    obtain ⟨_, _, c0, fr0, h4⟩ := sim s _ h2
    have : ty' = ty := by rw [h3] at h4; cases h4; rfl
    subst this
    exact set_postT wf sim h2 h3 hfr hsz hf (by exact .und) hK

end
end Go.X
end
section
/- The calculus X, part 9: each operation does what its short form says (3): what builds. -/
namespace Go.X
open Go

theorem foldl_seg (cs : List Value) : ∀ (off k : Nat) (c : Array Value), off + k + cs.length ≤ c.size →
    (cs.zipIdx k).foldl (fun a (x : Value × Nat) => a.setIfInBounds (off + x.2) x.1) c = seg c (off + k) cs := by
  induction cs with
  | nil => intro off k c h; simp [seg]
  | cons v r ih =>
    intro off k c h
    simp only [List.length_cons] at h
    rw [List.zipIdx_cons, List.foldl_cons, show k + 1 = k + 1 from rfl, ih off (k + 1) _ (by rw [Array.size_setIfInBounds]; omega)]
    apply Array.ext_getElem?
    intro i
    rw [seg_get (by rw [Array.size_setIfInBounds]; omega), seg_get (by simp only [List.length_cons]; omega), Array.getElem?_setIfInBounds]
    simp only [List.length_cons]
    by_cases h1 : i = off + k
    · subst h1
      rw [if_neg (by omega), if_pos rfl, if_pos (by omega), if_pos ⟨by omega, by omega⟩]
      simp
    · by_cases h2 : off + k < i ∧ i < off + k + (r.length + 1)
      · rw [if_pos ⟨by omega, by omega⟩, if_pos ⟨by omega, by omega⟩]
        have : i - (off + k) = (i - (off + (k + 1))) + 1 := by omega
        rw [this, List.getElem?_cons_succ]
      · rw [if_neg (by omega), if_neg (by omega), if_neg (by omega)]

theorem fill_fold (c : Array Value) (off : Nat) (vs : Array Value) (h : off + vs.size ≤ c.size) :
    vs.zipIdx.foldl (fun cs (x : Value × Nat) => cs.setIfInBounds (off + x.2) x.1) c = seg c off vs.toList := by
  rw [← Array.foldl_toList, Array.toList_zipIdx]
  have := foldl_seg vs.toList off 0 c (by simpa using h)
  simpa using this

def Row (C : Ctx) (zs : List IV) (c : Array Value) : Prop := zs.length = c.size ∧ ∀ (j : Nat) (x : IV), zs[j]? = some x → ∃ u, c[j]? = some u ∧ VR C x u

theorem row_splice {C : Ctx} {zs : List IV} {c : Array Value} (h : Row C zs c) {off : Nat} {xs : List IV} {vs : List Value} (hl : xs.length = vs.length) (hle : off + xs.length ≤ zs.length)
    (hx : ∀ (i : Nat) (x : IV), xs[i]? = some x → ∃ v, vs[i]? = some v ∧ VR C x v) : Row C (splice zs off xs) (seg c off vs) := by
  have hle' : off + vs.length ≤ c.size := by rw [← h.1, ← hl]; exact hle
  refine ⟨by rw [splice_len hle, seg_size hle']; exact h.1, fun j x hj => ?_⟩
  rw [splice_get (by omega)] at hj
  rw [seg_get hle']
  split at hj
  · rename_i h1
    rw [if_pos (by omega)]
    exact hx _ x hj
  · rename_i h1
    rw [if_neg (by omega)]
    exact h.2 j x hj

theorem fill_sound {C : Ctx} {place : Nat → Option (Nat × Nat)} : ∀ (ps : List (Nat × Value)) (qs : List (Nat × Nat × IV)) (zs cs : List IV) (c : Array Value), Row C zs c → xfill zs qs = some cs →
    ps.length = qs.length → (∀ (i : Nat) q, qs[i]? = some q → ∃ p, ps[i]? = some p ∧ place p.1 = some (q.1, q.2.1) ∧ VR C q.2.2 p.2) →
    ∃ c', Instr.fill place c ps = some c' ∧ Row C cs c'
  | [], [], zs, cs, c, hr, hf, _, _ => by
    simp only [xfill, Option.some.injEq] at hf; subst hf
    exact ⟨c, rfl, hr⟩
  | [], q :: qs, _, _, _, _, _, hl, _ => by simp at hl
  | p :: ps, [], _, _, _, _, _, hl, _ => by simp at hl
  | (i, v) :: ps, (off, n, x) :: qs, zs, cs, c, hr, hf, hl, h => by
    obtain ⟨p, hp, hpl, hv⟩ := h 0 _ rfl
    simp only [List.getElem?_cons_zero, Option.some.injEq] at hp; subst hp
    simp only [xfill] at hf
    split at hf
    · rename_i hc
      obtain ⟨h1, h2⟩ := hv.cells
      dsimp only at h1 h2
      have hvs : v.cells.size = n := by rw [← h1]; exact hc.1
      have hr' : Row C (splice zs off (cellsOf x)) (seg c off v.cells.toList) := row_splice hr (by simpa using h1) (by rw [hc.1]; exact hc.2)
        (fun i y hi => by obtain ⟨u, h3, h4⟩ := h2 i y hi; exact ⟨u, by simpa using h3, h4⟩)
      obtain ⟨c', h5, h6⟩ := fill_sound ps qs _ cs _ hr' hf (by simpa using hl) (fun i q hi => h (i + 1) q (by simpa using hi))
      refine ⟨c', ?_, h6⟩
      simp only [Instr.fill, hpl]
      have hle : off + n ≤ c.size := by rw [← hr.1]; exact hc.2
      rw [if_neg (by simp only [Bool.or_eq_true, decide_eq_true_eq]; omega), fill_fold c off v.cells (by omega)]
      exact h5
    · cases hf

section
variable {E : Env} {C : Ctx} {a : Act} {e : Opd → IV} {o : Oper} {K : IV → List Blk → Prop}

theorem run_listMapM {P : Program} {α β : Type} {f : α → Sem β} {g : α → β} {w : World} : ∀ (l : List α), (∀ x ∈ l, (f x).run P w = .ok (g x) w) → (l.mapM f).run P w = .ok (l.map g) w
  | [], _ => rfl
  | x :: r, h => by
    rw [List.mapM_cons, Sem.run_bind, h x (by simp)]
    simp only [Result.andThen_ok]
    rw [Sem.run_bind, run_listMapM r (fun y hy => h y (by simp [hy]))]
    rfl

theorem row_agg {cs : List IV} {c : Array Value} (h : Row C cs c) : VR C (.agg cs) (.agg c) := by
  have := VR.agg (C := C) cs c.toList (by simpa using h.1) (fun i x hi => by
    obtain ⟨u, h1, h2⟩ := h.2 i x hi
    have : c.toList.getD i undef = u := getD_getL (by simpa using h1)
    rw [this]; exact h2)
  simpa using this

theorem good_build_struct (sim : Sim C) (he : Opds C a e) {t : TypeId} {ps : Array (Nat × Operand)} {fs : Array Field} {z : List IV} {qs : List (Nat × Nat × Opd)} (ho : o.op = .build t ps)
    (ht : E.P.underlying t = some (.struct fs)) (hz : zeroCells E.P t = some z)
    (hq : mapO (fun (p : Nat × Operand) => (fs[p.1]?).bind fun f => (sizeT E.P f.type).bind fun n => (opd p.2).map fun x => (f.offset, n, x)) ps.toList = some qs)
    (hfs : fs.toList.all (fun f => (E.P.info? f.type).isSome) = true) {cs : List IV} (hx : xfill z (qs.map fun p => (p.1, p.2.1, e p.2.2)) = some cs) (hK : K (.agg cs) C.L) : PureG E C a o K := by
  obtain ⟨i, v, h1, h2, h3, h4⟩ := zeroCells_spec hz
  let g : Field → Nat × Nat := fun f => (f.offset, ((E.P.info? f.type).map (·.size)).getD 0)
  have hpl : (fs.mapM fun f => (do pure (f.offset, ← sizeOf f.type) : Sem (Nat × Nat))).run E.P C.w = .ok (fs.toList.map g).toArray C.w := by
    rw [Array.mapM_eq_mapM_toList, Sem.run_map, run_listMapM (g := g) fs.toList]
    · rfl
    · intro f hf
      have := List.all_eq_true.1 hfs f hf
      obtain ⟨i, hi⟩ := Option.isSome_iff_exists.1 this
      rw [Sem.run_bind, run_sizeOf' (n := i.size) (by simp [sizeT, hi])]
      simp [g, hi]
  obtain ⟨c', h5, h6⟩ := fill_sound (C := C) (place := fun j => (fs.toList.map g).toArray[j]?) (ps.toList.map fun p => (p.1, a.eval p.2)) (qs.map fun p => (p.1, p.2.1, e p.2.2)) z cs v.cells ⟨h3, h4 C⟩ hx
    (by simp [mapO_len hq]) (fun j q hj => by
      rw [List.getElem?_map, Option.map_eq_some_iff] at hj
      obtain ⟨q0, hj, rfl⟩ := hj
      obtain ⟨p, h7, h8⟩ := mapO_get hq j q0 hj
      rw [Option.bind_eq_some_iff] at h8
      obtain ⟨f, h8, h9⟩ := h8
      rw [Option.bind_eq_some_iff] at h9
      obtain ⟨n, h9, h10⟩ := h9
      rw [Option.map_eq_some_iff] at h10
      obtain ⟨x, h10, rfl⟩ := h10
      refine ⟨(p.1, a.eval p.2), by rw [List.getElem?_map, h7]; rfl, ?_, he _ _ h10⟩
      simp only [List.getElem?_toArray, List.getElem?_map, Array.getElem?_toList, h8, Option.map_some, g]
      unfold sizeT at h9
      rw [h9]; rfl)
  refine pure_value (s := Instr.build t (ps.map fun (i, x) => (i, a.eval x))) (v := .agg c') (w' := C.w) (by unfold execOp; rw [ho]) ?_ (psame (row_agg h6) hK)
  unfold Instr.build
  rw [Sem.run_bind, run_zeroValue h1 h2]
  simp only [Result.andThen_ok]
  rw [Sem.run_bind]
  have hu : (underlying t).run E.P C.w = .ok (.struct fs) C.w := by simp [underlying, ht]
  rw [hu]
  simp only [Result.andThen_ok]
  rw [Sem.run_bind, hpl]
  simp only [Result.andThen_ok]
  have h7 : (ps.map fun (x : Nat × Operand) => (x.1, a.eval x.2)).toList = ps.toList.map fun p => (p.1, a.eval p.2) := by simp
  rw [h7, h5]
  rfl

theorem good_build_array (sim : Sim C) (he : Opds C a e) {t el : TypeId} {ps : Array (Nat × Operand)} {m n : Nat} {z : List IV} {qs : List (Nat × Nat × Opd)} (ho : o.op = .build t ps)
    (ht : E.P.underlying t = some (.array m el)) (hz : zeroCells E.P t = some z) (hn : sizeT E.P el = some n)
    (hq : mapO (fun (p : Nat × Operand) => (opd p.2).map fun x => (p.1 * n, n, x)) ps.toList = some qs)
    {cs : List IV} (hx : xfill z (qs.map fun p => (p.1, p.2.1, e p.2.2)) = some cs) (hK : K (.agg cs) C.L) : PureG E C a o K := by
  obtain ⟨i, v, h1, h2, h3, h4⟩ := zeroCells_spec hz
  obtain ⟨c', h5, h6⟩ := fill_sound (C := C) (place := fun j => some (j * n, n)) (ps.toList.map fun p => (p.1, a.eval p.2)) (qs.map fun p => (p.1, p.2.1, e p.2.2)) z cs v.cells ⟨h3, h4 C⟩ hx
    (by simp [mapO_len hq]) (fun j q hj => by
      rw [List.getElem?_map, Option.map_eq_some_iff] at hj
      obtain ⟨q0, hj, rfl⟩ := hj
      obtain ⟨p, h7, h8⟩ := mapO_get hq j q0 hj
      rw [Option.map_eq_some_iff] at h8
      obtain ⟨x, h10, rfl⟩ := h8
      exact ⟨(p.1, a.eval p.2), by rw [List.getElem?_map, h7]; rfl, rfl, he _ _ h10⟩)
  refine pure_value (s := Instr.build t (ps.map fun (i, x) => (i, a.eval x))) (v := .agg c') (w' := C.w) (by unfold execOp; rw [ho]) ?_ (psame (row_agg h6) hK)
  unfold Instr.build
  rw [Sem.run_bind, run_zeroValue h1 h2]
  simp only [Result.andThen_ok]
  rw [Sem.run_bind]
  have hu : (underlying t).run E.P C.w = .ok (.array m el) C.w := by simp [underlying, ht]
  rw [hu]
  simp only [Result.andThen_ok]
  rw [Sem.run_bind, run_sizeOf' hn]
  simp only [Result.andThen_ok]
  have h7 : (ps.map fun (x : Nat × Operand) => (x.1, a.eval x.2)).toList = ps.toList.map fun p => (p.1, a.eval p.2) := by simp
  rw [h7, h5]
  rfl

/-- The same row again and again. -/
theorem flat_replicate {C : Ctx} {z : List IV} {v : Value} {m : Nat} (hl : z.length = v.cells.size) (h : ∀ (j : Nat) (x : IV), z[j]? = some x → ∃ u, v.cells[j]? = some u ∧ VR C x u)
    (zero : Array Value) (hz : m * z.length = 0 ∨ zero = v.cells) :
    ((Array.range (m * z.length)).map (zero[· % zero.size]!)).size = m * z.length ∧ Flat C ((Array.range (m * z.length)).map (zero[· % zero.size]!)) 0 z.length (List.replicate m z) := by
  refine ⟨by simp, by simp, fun i row hi => ?_⟩
  rw [List.getElem?_replicate] at hi
  split at hi
  · rename_i hlt
    simp only [Option.some.injEq] at hi; subst hi
    refine ⟨rfl, fun j x hj => ?_⟩
    obtain ⟨u, h1, h2⟩ := h j x hj
    have hj' : j < z.length := lt_of_getL hj
    refine ⟨u, ?_, h2⟩
    have hlt2 : i * z.length + j < m * z.length := row_lt hlt hj'
    have hz' : zero = v.cells := hz.resolve_left (by omega)
    subst hz'
    have hj2 : j < v.cells.size := by omega
    have hmod : (i * z.length + j) % v.cells.size = j := by rw [← hl, Nat.mul_comm, Nat.mul_add_mod, Nat.mod_eq_of_lt hj']
    simp only [Nat.zero_add, Array.getElem?_map, Array.getElem?_range, hlt2, if_true, Option.map_some, hmod]
    rw [getElem!_pos v.cells j hj2, ← h1, Array.getElem?_eq_getElem hj2]
  · cases hi

theorem fillRows_sound {C : Ctx} {sz : Nat} : ∀ (ps : List (Nat × Value)) (qs : List (Nat × IV)) (rows rows' : List (List IV)) (c : Array Value), c.size = rows.length * sz → Flat C c 0 sz rows → xfillRows sz rows qs = some rows' →
    ps.length = qs.length → (∀ (i : Nat) (q : Nat × IV), qs[i]? = some q → ∃ p, ps[i]? = some p ∧ p.1 = q.1 ∧ VR C q.2 p.2) →
    ∃ c', Instr.fill (fun i => some (i * sz, sz)) c ps = some c' ∧ c'.size = c.size ∧ rows'.length = rows.length ∧ Flat C c' 0 sz rows'
  | [], [], rows, rows', c, hs, hr, hf, _, _ => by
    simp only [xfillRows, Option.some.injEq] at hf; subst hf
    exact ⟨c, rfl, rfl, rfl, hr⟩
  | [], q :: qs, _, _, _, _, _, _, hl, _ => by simp at hl
  | p :: ps, [], _, _, _, _, _, _, hl, _ => by simp at hl
  | (i, v) :: ps, (k, x) :: qs, rows, rows', c, hs, hr, hf, hl, h => by
    obtain ⟨p, hp, hpl, hv⟩ := h 0 _ rfl
    simp only [List.getElem?_cons_zero, Option.some.injEq] at hp; subst hp
    dsimp only at hpl hv; subst hpl
    simp only [xfillRows] at hf
    split at hf
    · rename_i hc
      obtain ⟨h1, h2⟩ := hv.cells
      have hrow := getD_get (d := []) hc.2
      have hrl := (hr.2 _ _ hrow).1
      have hsp : splice (rows.getD i []) 0 (cellsOf x) = cellsOf x := by
        simp only [splice, List.take_zero, List.nil_append, Nat.zero_add]
        rw [List.drop_eq_nil_of_le (by rw [hrl, hc.1]; exact Nat.le_refl _), List.append_nil]
      obtain ⟨hle, hr'⟩ := flat_store hr hc.2 (off := 0) (xs := cellsOf x) (vs := v.cells.toList) (by rw [hrl, hc.1]; omega) (by simpa using h1)
        (fun i y hi => by obtain ⟨u, h3, h4⟩ := h2 i y hi; exact ⟨u, by simpa using h3, h4⟩)
      rw [hsp] at hr'
      simp only [Nat.zero_add, Nat.add_zero] at hle hr'
      obtain ⟨c', h5, h6, h7, h8⟩ := fillRows_sound ps qs _ rows' _ (by rw [seg_size (by simpa using hle), List.length_set]; exact hs) hr' hf (by simpa using hl) (fun j q hj => h (j + 1) q (by simpa using hj))
      refine ⟨c', ?_, by rw [h6, seg_size (by simpa using hle)], by rw [h7, List.length_set], h8⟩
      simp only [Instr.fill]
      have hvs : v.cells.size = sz := by rw [← h1]; exact hc.1
      simp only [Array.length_toList] at hle
      rw [if_neg (by simp only [Bool.or_eq_true, decide_eq_true_eq]; omega), fill_fold c (i * sz) v.cells hle]
      exact h5
    · cases hf

theorem good_bslice {g : Nat} (hg : Free C.L g) (wf : Wf E.g0 C) (sim : Sim C) (he : Opds C a e) {t el : TypeId} {ps : Array (Nat × Operand)} {len n : Nat} {z : List IV} {qs : List (Nat × Opd)} (ho : o.op = .buildSlice t len ps)
    (ht : E.P.underlying t = some (.slice el)) (hn : sizeT E.P el = some n) (hz : zeroCells E.P el = some z)
    (hq : mapO (fun (p : Nat × Operand) => (opd p.2).map fun x => (p.1, x)) ps.toList = some qs) (hb : len * n ≤ 2 ^ 24) (h0 : 0 < n) (hzn : z.length = n)
    {rows : List (List IV)} (hx : xfillRows n (List.replicate len z) (qs.map fun p => (p.1, e p.2)) = some rows) (hK : K (.sl g 0 len len) (layAt C.L g (.cells n rows))) : Good E C a o K := by
  obtain ⟨i, v, h1, h2, h3, h4⟩ := zeroCells_spec hz
  subst hzn
  let zero : Array Value := if len * z.length = 0 then #[] else v.cells
  have hzero : len * z.length = 0 ∨ zero = v.cells := by
    by_cases h : len * z.length = 0
    · exact .inl h
    · exact .inr (by simp only [zero, h, if_false])
  obtain ⟨hcs, hfl⟩ := flat_replicate (C := C) (m := len) h3 (h4 C) zero hzero
  obtain ⟨c', h5, h6, h7, h8⟩ := fillRows_sound (C := C) (ps.toList.map fun p => (p.1, a.eval p.2)) (qs.map fun p => (p.1, e p.2)) (List.replicate len z) rows _ (by rw [hcs]; simp) hfl hx
    (by simp [mapO_len hq]) (fun j q hj => by
      rw [List.getElem?_map, Option.map_eq_some_iff] at hj
      obtain ⟨q0, hj, rfl⟩ := hj
      obtain ⟨p, h7, h8⟩ := mapO_get hq j q0 hj
      rw [Option.map_eq_some_iff] at h8
      obtain ⟨x, h10, rfl⟩ := h8
      exact ⟨(p.1, a.eval p.2), by rw [List.getElem?_map, h7]; rfl, rfl, he _ _ h10⟩)
  refine good_value (s := Instr.buildSlice t len (ps.map fun (i, x) => (i, a.eval x))) (v := .slice (some ⟨C.w.heap.size, 0, none⟩) len len) (w' := pushW C.w (.cells c' el)) (by unfold execOp; rw [ho]) ?_
    (new_post hg wf sim h8 (vr_new_sl hg (Nat.le_refl _) (Nat.le_refl _) (by rw [h6, hcs]; exact Nat.le_refl _)) hK)
  unfold Instr.buildSlice
  rw [Sem.run_bind]
  have hu : (underlying t).run E.P C.w = .ok (.slice el) C.w := by simp [underlying, ht]
  rw [hu]
  simp only [Result.andThen_ok]
  rw [Sem.run_bind, run_sizeOf' hn]
  simp only [Result.andThen_ok]
  have hb' : ¬ (len * z.length > 2 ^ 24) := by omega
  rw [if_neg hb']
  have h9 : (ps.map fun (x : Nat × Operand) => (x.1, a.eval x.2)).toList = ps.toList.map fun p => (p.1, a.eval p.2) := by simp
  by_cases h : len * z.length = 0
  · rw [if_pos h, Sem.run_bind]
    simp only [Sem.run_pure, Result.andThen_ok]
    have e0 : zero = #[] := if_pos h
    rw [e0] at h5
    rw [h9, h5]
    rfl
  · rw [if_neg h, Sem.run_bind, run_zeroValue h1 h2]
    simp only [Result.andThen_ok]
    rw [Sem.run_bind]
    simp only [Sem.run_pure, Result.andThen_ok]
    have e0 : zero = v.cells := if_neg h
    rw [e0] at h5
    rw [h9, h5]
    rfl

theorem wrap64_in {n : Int} (h0 : 0 ≤ n) (h : n ≤ 9223372036854775807) : IntKind.i64.wrap n = n := by rw [IntKind.wrap_i64]; omega

theorem good_mkslice {g : Nat} (hg : Free C.L g) (wf : Wf E.g0 C) (sim : Sim C) (he : Opds C a e) {t el : TypeId} {l c : Operand} {l' c' : Opd} {n by_ : Nat} {z : List IV} (ho : o.op = .makeSlice t l c)
    (ht : E.P.underlying t = some (.slice el)) (hn : sizeT E.P el = some n) (hz : zeroCells E.P el = some z) (hby : bytesT E.P el = some by_) (hl : opd l = some l') (hc : opd c = some c') (h0 : 0 < n) (hzn : z.length = n)
    {k k' : IntKind} {x y : Int} (hlx : e l' = .int k x) (hcy : e c' = .int k' y) (hx0 : 0 ≤ x) (hxy : x ≤ y) (hy : y ≤ 9223372036854775807) (hroom : y * by_ ≤ 281474976710656)
    (hK : K (.sl g 0 x.toNat y.toNat) (layAt C.L g (.cells z.length (List.replicate y.toNat z)))) : Good E C a o K := by
  obtain ⟨i, v, h1, h2, h3, h4⟩ := zeroCells_spec hz
  subst hzn
  have hlv := he l l' hl
  rw [hlx] at hlv
  have hcv := he c c' hc
  rw [hcy] at hcv
  generalize hlv' : a.eval l = lv at hlv
  generalize hcv' : a.eval c = cv at hcv
  cases hlv; cases hcv
  let zero : Array Value := if y.toNat * z.length = 0 then #[] else v.cells
  have hzero : y.toNat * z.length = 0 ∨ zero = v.cells := by
    by_cases h : y.toNat * z.length = 0
    · exact .inl h
    · exact .inr (by simp only [zero, h, if_false])
  obtain ⟨hcs, hfl⟩ := flat_replicate (C := C) (m := y.toNat) h3 (h4 C) zero hzero
  refine good_value (s := Instr.makeSlice t (a.eval l) (a.eval c)) (v := .slice (some ⟨C.w.heap.size, 0, none⟩) x.toNat y.toNat) (w' := pushW C.w (.cells _ el)) (by unfold execOp; rw [ho]) ?_
    (new_post hg wf sim hfl (vr_new_sl hg (by omega) (Nat.le_refl _) (by rw [hcs]; exact Nat.le_refl _)) hK)
  rw [hlv', hcv']
  unfold bytesT at hby
  rw [Option.map_eq_some_iff] at hby
  obtain ⟨i', h5, rfl⟩ := hby
  obtain rfl : i = i' := Option.some.inj (h1.symm.trans h5)
  unfold Instr.makeSlice
  rw [Sem.run_bind]
  have hu : (underlying t).run E.P C.w = .ok (.slice el) C.w := by simp [underlying, ht]
  rw [hu]
  simp only [Result.andThen_ok, asInt, asIntOf]
  rw [Sem.run_bind, Sem.run_bind]
  simp only [Sem.run_pure, Result.andThen_ok]
  rw [Sem.run_bind, Sem.run_bind]
  simp only [Sem.run_pure, Result.andThen_ok]
  rw [Sem.run_bind]
  have hi : (typeInfo el).run E.P C.w = .ok i C.w := by simp [typeInfo, h1]
  rw [hi]
  simp only [Result.andThen_ok]
  rw [wrap64_in hx0 (by omega), wrap64_in (by omega) hy]
  have hnot : ¬ (((decide (y < 0) || decide (↑i.bytes * y > 2 ^ 48)) || decide (x < 0) || decide (x > y)) = true) := by
    have h7 : (i.bytes : Int) * y ≤ 281474976710656 := by rw [Int.mul_comm]; exact hroom
    simp only [Bool.or_eq_true, decide_eq_true_eq]
    omega
  rw [if_neg hnot]
  rw [Sem.run_bind, run_askRoom]
  simp only [Result.andThen_ok]
  rw [Sem.run_bind, run_sizeOf' hn]
  simp only [Result.andThen_ok]
  by_cases h : y.toNat * z.length = 0
  · have e0 : zero = #[] := if_pos h
    rw [if_pos h, Sem.run_bind, e0]
    rfl
  · have e0 : zero = v.cells := if_neg h
    rw [if_neg h, Sem.run_bind, run_zeroValue h1 h2, e0]
    rfl

end
end Go.X
end
section
/- The calculus X, part 10: append. -/
namespace Go.X
open Go

section
variable {E : Env} {C : Ctx} {a : Act} {e : Opd → IV} {o : Oper} {K : IV → List Blk → Prop}

/-- The flat list of what rows say. -/
def FlatL (C : Ctx) (news : List Value) (sz : Nat) (rs : List (List IV)) : Prop := news.length = rs.length * sz ∧
  ∀ (i : Nat) (row : List IV), rs[i]? = some row → row.length = sz ∧ ∀ (j : Nat) (x : IV), row[j]? = some x → ∃ u, news[i * sz + j]? = some u ∧ VR C x u

theorem FlatL.one {news : List Value} {sz : Nat} {rs : List (List IV)} (h : FlatL C news sz rs) (hc : ∀ row ∈ rs, row.all isCell = true) : ∀ v ∈ news, v.oneCell' = true := by
  intro v hv
  obtain ⟨k, hk, rfl⟩ := List.getElem_of_mem hv
  have hsz : 0 < sz := by
    rcases Nat.eq_zero_or_pos sz with h0 | h0
    · have := h.1; rw [h0] at this; simp at this; rw [this] at hk; simp at hk
    · exact h0
  have hi : k / sz < rs.length := by rw [Nat.div_lt_iff_lt_mul hsz, ← h.1]; exact hk
  obtain ⟨h1, h2⟩ := h.2 (k / sz) _ (List.getElem?_eq_getElem hi)
  have hj : k % sz < (rs[k / sz]).length := by rw [h1]; exact Nat.mod_lt _ hsz
  obtain ⟨u, h3, h4⟩ := h2 (k % sz) _ (List.getElem?_eq_getElem hj)
  have hkk : k / sz * sz + k % sz = k := by rw [Nat.mul_comm]; exact Nat.div_add_mod k sz
  rw [hkk, List.getElem?_eq_getElem hk] at h3
  rw [Option.some.inj h3]
  exact isCell_one h4 (List.all_eq_true.1 (hc _ (List.getElem_mem hi)) _ (List.getElem_mem hj))

theorem run_load_slice {P : Program} {w : World} {sz n : Nat} {b k : Nat} {f : Nat → Value} (h : ∀ j, j < n * sz → w.cell? ⟨b, k + j, none⟩ = some (f j)) (l c : Nat) :
    (Builtin.firstCells sz n (.slice (some ⟨b, k, none⟩) l c)).run P w = .ok ((List.range (n * sz)).map f).toArray w := by
  show (loadCells ⟨b, k, none⟩ (n * sz)).run P w = _
  refine run_loadCells w _ _ f fun j hj => ?_
  have : (⟨b, k, none⟩ : Addr).add j = ⟨b, k + j, none⟩ := by unfold Addr.add; split <;> simp_all
  rw [this]; exact h j hj

theorem flatL_range {sz : Nat} {rs : List (List IV)} {f : Nat → Value} (hsz : ∀ (i : Nat) (row : List IV), rs[i]? = some row → row.length = sz)
    (hv : ∀ (i : Nat) (row : List IV), rs[i]? = some row → ∀ (j : Nat) (x : IV), row[j]? = some x → VR C x (f (i * sz + j))) : FlatL C ((List.range (rs.length * sz)).map f) sz rs := by
  refine ⟨by simp, fun i row hi => ⟨hsz i row hi, fun j x hj => ⟨f (i * sz + j), ?_, hv i row hi j x hj⟩⟩⟩
  have hj' : j < sz := by rw [← hsz i row hi]; exact lt_of_getL hj
  have := row_lt (lt_of_getL hi) hj'
  simp [this]

theorem div_row {k sz i j : Nat} (hj : j < sz) : (i * sz + j) / sz = i ∧ (i * sz + j) % sz = j := by
  have h0 : 0 < sz := by omega
  constructor
  · rw [Nat.mul_comm, Nat.mul_add_div h0, Nat.div_eq_of_lt hj]; rfl
  · rw [Nat.mul_comm, Nat.mul_add_mod, Nat.mod_eq_of_lt hj]

/-- What is appended, or copied: its cells. -/
theorem src_cells (sim : Sim C) {x : IV} {xv : Value} (hv : VR C x xv) {rs : List (List IV)} {sz : Nat} (h : rowsOf C.L x = some rs) (hsz : ∀ row ∈ rs, row.length = sz) :
    ∃ news, FlatL C news sz rs ∧ (Builtin.lenOf xv = pure rs.length) ∧
      ∀ w' : World, w'.heap = C.w.heap → (Builtin.firstCells sz rs.length xv).run E.P w' = .ok news.toArray w' := by
  have hsz' : ∀ (i : Nat) (row : List IV), rs[i]? = some row → row.length = sz := fun i row hi => hsz row (List.mem_of_getElem? hi)
  cases hv with
  | str s =>
    simp only [rowsOf, Option.some.injEq] at h; subst h
    have h1 : s = [] ∨ sz = 1 := by
      cases s with
      | nil => exact .inl rfl
      | cons c r => right; have := hsz [.int .u8 c.toNat] (by simp); simpa using this.symm
    refine ⟨s.map fun b => .int .u8 b.toNat, ⟨?_, fun i row hi => ⟨hsz' i row hi, fun j y hj => ?_⟩⟩, ?_, fun w' _ => ?_⟩
    · rcases h1 with h1 | h1
      · subst h1; simp
      · subst h1; simp
    · rw [List.getElem?_map, Option.map_eq_some_iff] at hi
      obtain ⟨b, hb, rfl⟩ := hi
      have h2 : sz = 1 := h1.resolve_left (fun h => by subst h; simp at hb)
      subst h2
      cases j with
      | zero => simp at hj; subst hj; exact ⟨_, by simp [hb], .int _ _⟩
      | succ j => simp at hj
    · show pure (ByteArray.size _) = _
      simp [ByteArray.size]
    · show (pure ((ByteArray.extract _ 0 _).data.map _) : Sem (Array Value)).run E.P w' = _
      rw [Sem.run_pure]
      congr 1
      apply Array.ext'
      simp [ByteArray.extract, ByteArray.copySlice, ByteArray.data_extract]
  | isl rows av cap' sz' vals hcap hsz2 hcl ha hvv =>
    simp only [rowsOf, Option.some.injEq] at h; subst h
    rcases ha with h0 | ⟨b, k, rfl, hb, hn, hc⟩
    · subst h0
      refine ⟨[], ⟨by simp, fun i row hi => by simp at hi⟩, rfl, fun w' _ => ?_⟩
      cases av with
      | none => rfl
      | some av => show (loadCells av (0 * sz)).run E.P w' = _; rw [Nat.zero_mul]; rfl
    · by_cases hr : rows = []
      · subst hr
        refine ⟨[], ⟨by simp, fun i row hi => by simp at hi⟩, rfl, fun w' _ => ?_⟩
        show (loadCells _ (0 * sz)).run E.P w' = _; rw [Nat.zero_mul]; rfl
      · have hss : sz' = sz := by
          obtain ⟨row, r, rfl⟩ := List.exists_cons_of_ne_nil hr
          rw [← hsz2 0 row rfl, ← hsz' 0 row rfl]
        subst hss
        refine ⟨_, flatL_range (f := fun k => vals (k / sz') (k % sz')) hsz' (fun i row hi j x hj => ?_), rfl, fun w' hw => run_load_slice (fun k hk => ?_) _ _⟩
        · have hj' : j < sz' := by rw [← hsz' i row hi]; exact lt_of_getL hj
          rw [(div_row (k := 0) hj').1, (div_row (k := 0) hj').2]; exact hvv i row hi j x hj
        · have h0 : 0 < sz' := by rcases Nat.eq_zero_or_pos sz' with h | h; · rw [h] at hk; simp at hk
                                  · exact h
          have hi : k / sz' < rows.length := by rw [Nat.div_lt_iff_lt_mul h0]; exact hk
          have hrow := List.getElem?_eq_getElem hi
          have hj : k % sz' < (rows[k / sz']).length := by rw [hsz' _ _ hrow]; exact Nat.mod_lt _ h0
          have := hc _ _ hrow _ _ (List.getElem?_eq_getElem hj)
          rename_i kk
          have hkk : k / sz' * sz' + k % sz' = k := by rw [Nat.mul_comm]; exact Nat.div_add_mod k sz'
          rw [Nat.add_assoc, hkk] at this
          simp only [World.cell?, hw] at this ⊢
          exact this
  | sl s off len cap av cap' hs hl hc ha =>
    simp only [rowsOf] at h
    split at h
    · rename_i sz0 rows hL
      split at h
      · rename_i hle
        simp only [Option.some.injEq] at h; subst h
        have hlen : ((rows.drop off).take len).length = len := by rw [List.length_take, List.length_drop]; omega
        obtain ⟨h1, c, ty, fr, h2, _, h3, h4⟩ := sim s _ hL
        by_cases hl0 : len = 0
        · subst hl0
          refine ⟨[], ⟨by simp, fun i row hi => by simp at hi⟩, by rw [hlen]; rfl, fun w' _ => ?_⟩
          rw [hlen]
          cases av with
          | none => rfl
          | some av => show (loadCells av (0 * sz)).run E.P w' = _; rw [Nat.zero_mul]; rfl
        · have hsub : ∀ (i : Nat) (row : List IV), ((rows.drop off).take len)[i]? = some row → rows[off + i]? = some row := fun i row hi => by
            rw [List.getElem?_take] at hi
            split at hi
            · rwa [List.getElem?_drop] at hi
            · cases hi
          have hss : sz0 = sz := by
            obtain ⟨row, hrow⟩ : ∃ row, ((rows.drop off).take len)[0]? = some row := ⟨_, List.getElem?_eq_getElem (by rw [hlen]; omega)⟩
            rw [← (h4 _ row (hsub 0 row hrow)).1, hsz' 0 row hrow]
          subst hss
          obtain ⟨rfl, _⟩ := ha.resolve_left (by omega)
          refine ⟨_, flatL_range (f := fun k => c.getD ((C.φ s).base + off * sz0 + k) undef) hsz' (fun i row hi j x hj => ?_), by rw [hlen]; rfl, fun w' hw => run_load_slice (fun k hk => ?_) _ _⟩
          · obtain ⟨u, h5, h6⟩ := (h4 _ row (hsub i row hi)).2 j x hj
            rw [show (C.φ s).base + off * sz0 + (i * sz0 + j) = (C.φ s).base + (off + i) * sz0 + j by rw [Nat.add_mul]; omega, getD_of_get h5]
            exact h6
          · rw [hlen] at hk
            have h5 : (off + len) * sz0 ≤ rows.length * sz0 := Nat.mul_le_mul_right _ hle
            rw [Nat.add_mul] at h5
            have hlt : (C.φ s).base + off * sz0 + k < c.size := by omega
            rw [h1]
            simp only [World.cell?, hw, h2]
            simp [hlt]
      · cases h
    · rename_i ty0 sz0 rows hL
      split at h
      · rename_i hle
        simp only [Option.some.injEq] at h; subst h
        have hlen : ((rows.drop off).take len).length = len := by rw [List.length_take, List.length_drop]; omega
        obtain ⟨h1, c, ty, fr, h2, _, h3, h4⟩ := (sim s _ hL).1
        by_cases hl0 : len = 0
        · subst hl0
          refine ⟨[], ⟨by simp, fun i row hi => by simp at hi⟩, by rw [hlen]; rfl, fun w' _ => ?_⟩
          rw [hlen]
          cases av with
          | none => rfl
          | some av => show (loadCells av (0 * sz)).run E.P w' = _; rw [Nat.zero_mul]; rfl
        · have hsub : ∀ (i : Nat) (row : List IV), ((rows.drop off).take len)[i]? = some row → rows[off + i]? = some row := fun i row hi => by
            rw [List.getElem?_take] at hi
            split at hi
            · rwa [List.getElem?_drop] at hi
            · cases hi
          have hss : sz0 = sz := by
            obtain ⟨row, hrow⟩ : ∃ row, ((rows.drop off).take len)[0]? = some row := ⟨_, List.getElem?_eq_getElem (by rw [hlen]; omega)⟩
            rw [← (h4 _ row (hsub 0 row hrow)).1, hsz' 0 row hrow]
          subst hss
          obtain ⟨rfl, _⟩ := ha.resolve_left (by omega)
          refine ⟨_, flatL_range (f := fun k => c.getD ((C.φ s).base + off * sz0 + k) undef) hsz' (fun i row hi j x hj => ?_), by rw [hlen]; rfl, fun w' hw => run_load_slice (fun k hk => ?_) _ _⟩
          · obtain ⟨u, h5, h6⟩ := (h4 _ row (hsub i row hi)).2 j x hj
            rw [show (C.φ s).base + off * sz0 + (i * sz0 + j) = (C.φ s).base + (off + i) * sz0 + j by rw [Nat.add_mul]; omega, getD_of_get h5]
            exact h6
          · rw [hlen] at hk
            have h5 : (off + len) * sz0 ≤ rows.length * sz0 := Nat.mul_le_mul_right _ hle
            rw [Nat.add_mul] at h5
            have hlt : (C.φ s).base + off * sz0 + k < c.size := by omega
            rw [h1]
            simp only [World.cell?, hw, h2]
            simp [hlt]
      · cases h
    · cases h
  | esl av =>
    simp only [rowsOf, Option.some.injEq] at h; subst h
    refine ⟨[], ⟨by simp, fun i row hi => by simp at hi⟩, rfl, fun w' _ => ?_⟩
    cases av with
    | none => rfl
    | some av => show (loadCells av (0 * sz)).run E.P w' = _; rw [Nat.zero_mul]; rfl
  | nsl =>
    simp only [rowsOf, Option.some.injEq] at h; subst h
    exact ⟨[], ⟨by simp, fun i row hi => by simp at hi⟩, rfl, fun w' _ => rfl⟩
  | _ => cases h

end
end Go.X
end
section
/- The calculus X, part 11: append, the whole. -/
namespace Go.X
open Go

/-- Writing whole rows. -/
theorem flat_rows {C : Ctx} {c : Array Value} {base sz : Nat} {rows rs : List (List IV)} {news : List Value} (hf : Flat C c base sz rows) (hn : FlatL C news sz rs) {k : Nat} (hk : k + rs.length ≤ rows.length) :
    base + k * sz + news.length ≤ c.size ∧ Flat C (seg c (base + k * sz) news) base sz (splice rows k rs) := by
  have hle : base + k * sz + news.length ≤ c.size := by
    have h1 := hf.1
    have h2 : (k + rs.length) * sz ≤ rows.length * sz := Nat.mul_le_mul_right sz hk
    rw [Nat.add_mul] at h2
    rw [hn.1]; omega
  refine ⟨hle, by rw [seg_size hle, splice_len hk]; exact hf.1, fun i row hi => ?_⟩
  rw [splice_get (by omega)] at hi
  split at hi
  · rename_i h1
    obtain ⟨h2, h3⟩ := hn.2 _ row hi
    refine ⟨h2, fun j x hj => ?_⟩
    obtain ⟨u, h4, h5⟩ := h3 j x hj
    refine ⟨u, ?_, h5⟩
    have hj' : j < sz := by rw [← h2]; exact lt_of_getL hj
    have hlt := row_lt (lt_of_getL hi) hj'
    have e1 : i * sz = k * sz + (i - k) * sz := by rw [← Nat.add_mul]; congr 1; omega
    rw [seg_get hle, if_pos (by rw [hn.1]; omega), ← h4]
    congr 1
    omega
  · rename_i h1
    obtain ⟨h2, h3⟩ := hf.2 i row hi
    refine ⟨h2, fun j x hj => ?_⟩
    obtain ⟨u, h4, h5⟩ := h3 j x hj
    refine ⟨u, ?_, h5⟩
    have hj' : j < sz := by rw [← h2]; exact lt_of_getL hj
    rw [seg_get hle, if_neg, h4]
    rintro ⟨h6, h7⟩
    by_cases h8 : i < k
    · have := row_lt h8 hj'; omega
    · have h9 : (k + rs.length) * sz ≤ i * sz := Nat.mul_le_mul_right sz (by omega)
      rw [Nat.add_mul] at h9
      rw [hn.1] at h7
      omega

/-- Rows beyond those that are known: the block is longer. -/
theorem flat_grow {C : Ctx} {c : Array Value} {base sz : Nat} {rows rs : List (List IV)} {news : List Value} (hf : Flat C c base sz rows) (hn : FlatL C news sz rs)
    (hk : base + (rows.length + rs.length) * sz ≤ c.size) : Flat C (seg c (base + rows.length * sz) news) base sz (rows ++ rs) := by
  have hle : base + rows.length * sz + news.length ≤ c.size := by rw [Nat.add_mul] at hk; rw [hn.1]; omega
  refine ⟨by rw [seg_size hle, List.length_append]; exact hk, fun i row hi => ?_⟩
  rcases Nat.lt_or_ge i rows.length with h1 | h1
  · rw [List.getElem?_append_left h1] at hi
    obtain ⟨h2, h3⟩ := hf.2 i row hi
    refine ⟨h2, fun j x hj => ?_⟩
    obtain ⟨u, h4, h5⟩ := h3 j x hj
    refine ⟨u, ?_, h5⟩
    have hj' : j < sz := by rw [← h2]; exact lt_of_getL hj
    have := row_lt h1 hj'
    rw [seg_get hle, if_neg (by omega), h4]
  · rw [List.getElem?_append_right h1] at hi
    obtain ⟨h2, h3⟩ := hn.2 _ row hi
    refine ⟨h2, fun j x hj => ?_⟩
    obtain ⟨u, h4, h5⟩ := h3 j x hj
    refine ⟨u, ?_, h5⟩
    have hj' : j < sz := by rw [← h2]; exact lt_of_getL hj
    have hlt := row_lt (lt_of_getL hi) hj'
    have e1 : i * sz = rows.length * sz + (i - rows.length) * sz := by rw [← Nat.add_mul]; congr 1; omega
    rw [seg_get hle, if_pos (by rw [hn.1]; omega), ← h4]
    congr 1
    omega

/-- A block is let go: what it held is no more told. -/
def killC (C : Ctx) (s : Nat) : Ctx := ⟨C.w, C.φ, C.L.set s .dead, C.X⟩

theorem kill_mine {C : Ctx} {s b : Nat} (h : (killC C s).mine b) : C.mine b ∧ ∃ t k, t ≠ s ∧ C.L[t]? = some k ∧ k.alive = true ∧ (C.φ t).blk = b := by
  obtain ⟨t, l, hl, ha, rfl⟩ := h
  rcases get_set_cases hl with ⟨h1, h2⟩ | ⟨_, h2, _⟩
  · exact ⟨⟨t, l, h2, ha, rfl⟩, t, l, h1, h2, ha, rfl⟩
  · subst h2; cases ha

theorem kill_ext (C : Ctx) (s : Nat) : Ext C (killC C s) where
  size := Nat.le_refl _
  frame := fun _ _ _ => rfl
  sub := fun b h => .inl (kill_mine h).1
  slot := fun _ _ => rfl
  bo := fun t ht => by
    obtain ⟨l, h1, h2⟩ := ht
    by_cases hts : t = s
    · subst hts; exact ⟨.dead, List.getElem?_set_self (lt_of_get h1), rfl⟩
    · exact ⟨l, (List.getElem?_set_ne (Ne.symm hts)).trans h1, h2⟩
  len := by simp [killC]
  cap := fun b c e fr h => ⟨c, e, fr, h, rfl⟩
  ex := rfl
  os := rfl
  tape := rfl
  output := rfl

theorem kill_wf {g0 : Nat} {C : Ctx} {s : Nat} (wf : Wf g0 C) : Wf g0 (killC C s) where
  inj := fun t u kt ku ht hu at_ au heq => by
    rcases get_set_cases ht with ⟨_, h1⟩ | ⟨_, h1, _⟩
    · rcases get_set_cases hu with ⟨_, h2⟩ | ⟨_, h2, _⟩
      · exact wf.inj t u kt ku h1 h2 at_ au heq
      · subst h2; cases au
    · subst h1; cases at_
  lo := fun b h => wf.lo b (kill_mine h).1
  apart := fun b hx h => wf.apart b hx (kill_mine h).1
  exlo := wf.exlo
  g := wf.g

theorem kill_sim {C : Ctx} {s : Nat} (sim : Sim C) : Sim (killC C s) := by
  intro t l hl
  rcases get_set_cases hl with ⟨_, h2⟩ | ⟨_, h2, _⟩
  · exact (sim t l h2).mono (kill_ext C s) h2 rfl
  · subst h2; trivial

/-- One answer has been drawn. -/
def drewC (C : Ctx) : Ctx := ⟨C.w.drew, C.φ, C.L, C.X⟩
theorem drew_ext (C : Ctx) : Ext C (drewC C) := ⟨Nat.le_refl _, fun _ _ _ => rfl, fun _ h => .inl h, fun _ _ => rfl, fun _ h => h, Nat.le_refl _, fun b c e fr h => ⟨c, e, fr, h, rfl⟩, rfl, rfl, rfl, rfl⟩
theorem drew_wf {g0 : Nat} {C : Ctx} (wf : Wf g0 C) : Wf g0 (drewC C) := ⟨wf.inj, wf.lo, wf.apart, wf.exlo, wf.g⟩
theorem drew_sim {C : Ctx} (sim : Sim C) : Sim (drewC C) := fun s k hk => (sim s k hk).mono (drew_ext C) hk rfl

theorem Post.of_ext {E : Env} {C C1 : Ctx} {K : IV → List Blk → Prop} {v : Value} {w' : World} (h : Ext C C1) (hx : C1.X = C.X) (hp : Post E C1 K v w') : Post E C K v w' := by
  obtain ⟨r, L', φ', h1, h2, h3, h4, h5⟩ := hp
  rw [hx] at h2 h3 h4 h5
  exact ⟨r, L', φ', h1, h2, h3, h.trans h4, h5⟩

/-- The same block under a new number, the old one let go. -/
def moveφ (C : Ctx) (t g base sz : Nat) : Nat → Loc := fun s => if s = g then ⟨(C.φ t).blk, base, sz⟩ else C.φ s
def moveC (C : Ctx) (t g base sz : Nat) (o : Obj) (k : Blk) : Ctx := ⟨setW C.w (C.φ t).blk o, moveφ C t g base sz, layAt (C.L.set t .dead) g k, C.X⟩

theorem move_get {C : Ctx} {t g s : Nat} {k k0 l : Blk} (hg : Free C.L g) (hs : C.L[t]? = some k0) (ha0 : k0.alive = true) (h : (layAt (C.L.set t .dead) g k)[s]? = some l) (ha : l.alive = true) :
    (s ≠ g ∧ s ≠ t ∧ C.L[s]? = some l) ∨ (s = g ∧ l = k) := by
  have hb : k0.born = true := by cases k0 <;> first | rfl | cases ha0
  rcases layAt_cases (free_set hg hs hb) h with ⟨h1, h2⟩ | ⟨h1, h2⟩
  · rcases get_set_cases h2 with ⟨h3, h4⟩ | ⟨_, h4, _⟩
    · exact .inl ⟨h1, h3, h4⟩
    · subst h4; cases ha
  · exact .inr ⟨h1, h2⟩

section
variable {C : Ctx} {t g base sz : Nat} {k k0 : Blk} {c c' : Array Value} {ty : TypeId} {fr0 : Nat × Nat} (hg : Free C.L g) (hs : C.L[t]? = some k0) (ha : k0.alive = true) (hc : C.w.heap[(C.φ t).blk]? = some (.cells c ty fr0)) (hsz : c'.size = c.size)
include hg hs ha hc hsz

theorem move_mine {o : Obj} {b : Nat} (h : (moveC C t g base sz o k).mine b) : C.mine b := by
  obtain ⟨s, l, hl, hla, rfl⟩ := h
  rcases move_get hg hs ha hl hla with ⟨h1, _, h3⟩ | ⟨h1, _⟩
  · exact ⟨s, l, h3, hla, by simp [moveC, moveφ, h1]⟩
  · exact ⟨t, k0, hs, ha, by simp [moveC, moveφ, h1]⟩

theorem move_ext : Ext C (moveC C t g base sz (.cells c' ty fr0) k) where
  size := by simp [moveC, setW]
  frame := fun b _ hm => heap_set_ne (fun h => hm ⟨t, k0, hs, ha, h.symm⟩)
  sub := fun b h => .inl (move_mine hg hs ha hc hsz h)
  slot := fun s h => by simp [moveC, moveφ, free_born hg h]
  bo := fun s h => by
    have hne := free_born hg h
    obtain ⟨l, h1, h2⟩ := h
    by_cases hst : s = t
    · subst hst; exact ⟨.dead, layAt_ne hne (List.getElem?_set_self (lt_of_get h1)), rfl⟩
    · exact ⟨l, layAt_ne hne ((List.getElem?_set_ne (Ne.symm hst)).trans h1), h2⟩
  len := by
    have := layAt_len (L := C.L.set t .dead) (g := g) (k := k)
    rw [List.length_set] at this
    exact this
  cap := fun b d e' fr h => by
    by_cases hb : b = (C.φ t).blk
    · subst hb
      rw [hc] at h
      obtain ⟨rfl, rfl, rfl⟩ := by simpa using h
      exact ⟨c', ty, fr0, heap_set_eq (Array.getElem?_eq_some_iff.1 hc).1, hsz⟩
    · exact ⟨d, e', fr, (heap_set_ne hb).trans h, rfl⟩
  ex := rfl
  os := rfl
  tape := rfl
  output := rfl

theorem move_wf {g0 : Nat} {o : Obj} (wf : Wf g0 C) : Wf g0 (moveC C t g base sz o k) where
  inj := fun s u ks ku hs' hu as au heq => by
    rcases move_get hg hs ha hs' as with ⟨h1, h2, h3⟩ | ⟨h1, _⟩ <;> rcases move_get hg hs ha hu au with ⟨h4, h5, h6⟩ | ⟨h4, _⟩
    · simp only [moveC, moveφ, h1, h4, if_false] at heq
      exact wf.inj s u ks ku h3 h6 as au heq
    · subst h4
      simp only [moveC, moveφ, h1, if_false, if_true] at heq
      exact absurd (wf.inj s t ks k0 h3 hs as ha heq) h2
    · subst h1
      simp only [moveC, moveφ, h4, if_false, if_true] at heq
      exact absurd (wf.inj u t ku k0 h6 hs au ha heq.symm) h5
    · omega
  lo := fun b h => wf.lo b (move_mine hg hs ha hc hsz h)
  apart := fun b hx h => wf.apart b hx (move_mine hg hs ha hc hsz h)
  exlo := fun b hx => by have := wf.exlo b hx; simpa [moveC, setW] using this
  g := by have := wf.g; simpa [moveC, setW] using this

theorem move_sim {g0 : Nat} (wf : Wf g0 C) (sim : Sim C) (hk : BlkOk (moveC C t g base sz (.cells c' ty fr0) k) g k) : Sim (moveC C t g base sz (.cells c' ty fr0) k) := by
  intro s l hl
  by_cases hla : l.alive = true
  · rcases move_get hg hs ha hl hla with ⟨h1, h2, h3⟩ | ⟨h1, h2⟩
    · exact (sim s l h3).mono (move_ext hg hs ha hc hsz) h3 (heap_set_ne fun h => h2 (wf.inj s t l k0 h3 hs hla ha h))
    · subst h1; subst h2; exact hk
  · cases l <;> first | trivial | (exfalso; exact hla rfl)
end

section
variable {E : Env} {C : Ctx} {a : Act} {e : Opd → IV} {o : Oper} {K : IV → List Blk → Prop}

theorem flatL_flat {news : List Value} {sz : Nat} {rs : List (List IV)} (h : FlatL C news sz rs) (rest : Array Value) : Flat C (news.toArray ++ rest) 0 sz rs := by
  refine ⟨by simp [h.1], fun i row hi => ⟨(h.2 i row hi).1, fun j x hj => ?_⟩⟩
  obtain ⟨u, h1, h2⟩ := (h.2 i row hi).2 j x hj
  refine ⟨u, ?_, h2⟩
  rw [Nat.zero_add, Array.getElem?_append_left (by simpa using lt_of_getL h1)]
  simpa using h1

theorem FlatL.mono {C' : Ctx} (h : Ext C C') {news : List Value} {sz : Nat} {rs : List (List IV)} (hf : FlatL C news sz rs) : FlatL C' news sz rs :=
  ⟨hf.1, fun i row hi => ⟨(hf.2 i row hi).1, fun j x hj => let ⟨u, h1, h2⟩ := (hf.2 i row hi).2 j x hj; ⟨u, h1, h2.mono h⟩⟩⟩

/-- The model's append, where there is no room. -/
theorem run_append_grow' {P : Program} {t1 t2 ty el : TypeId} {i : TypeInfo} {z : Value} {w : World} (ht : P.underlying t1 = some (.slice el)) (ht2 : ∃ d, P.underlying t2 = some d ∧ ∀ k, d ≠ .int k)
    (hi : P.info? el = some i) (hz : i.zero = some z) {base : Option Addr} {sLen sCap n : Nat} {xv : Value} {olds news : List Value} (hl : Builtin.lenOf xv = pure n)
    (hold : (Builtin.firstCells i.size sLen (.slice base sLen sCap)).run P w.drew = .ok olds.toArray w.drew) (hnew : (Builtin.firstCells i.size n xv).run P w.drew = .ok news.toArray w.drew)
    (hg : sCap < sLen + n) (hb0 : 0 < i.bytes) (hb : (sLen + n) * i.bytes ≤ 70368744177664) :
    ∃ cap, sLen + n ≤ cap ∧ (Builtin.append_ #[t1, t2] ty #[.slice base sLen sCap, xv]).run P w =
      .ok (.slice (some ⟨w.heap.size, 0, none⟩) (sLen + n) cap) (pushW w.drew (.cells ((olds ++ news).toArray ++ Builtin.zeroCells z.cells (cap - (sLen + n))) el)) := by
  have h1 : ¬ (sLen + n ≤ sCap) := by omega
  have h2 : (sLen + n) * 1 ≤ (sLen + n) * i.bytes := Nat.mul_le_mul_left _ hb0
  have h3 : ¬ (9223372036854775807 < ((sLen : Int) + (n : Int))) := by omega
  have h4 : ¬ (281474976710656 < Builtin.nextslicecap (sLen + n) sCap * i.bytes) := by
    have := growslice_fits (need := sLen + n) (old := sCap) (bytes := i.bytes) hg (by omega)
    omega
  obtain ⟨d, hd, hd2⟩ := ht2
  refine ⟨grownCap w (sLen + n) sCap el, grownCap_ge w _ _ _, ?_⟩
  have hu2 : (underlying t2).run P w = .ok d w := by simp [underlying, hd]
  simp only [Builtin.append_]
  simp [run_underlying ht, sizeOf, typeInfo, zeroValue, hi, hz, hl, h1, h3, h4, Question.forced, newRow, grownCap, hu2]
  rw [hold]
  simp only [Result.andThen_ok]
  rw [hnew]
  simp only [Result.andThen_ok]
  have e : olds.toArray ++ news.toArray = (olds ++ news).toArray := by simp
  rw [← Array.append_assoc, e]
  rfl

/-- .. where there is. -/
theorem run_append_room' {P : Program} {t1 t2 ty el : TypeId} {i : TypeInfo} {w : World} (ht : P.underlying t1 = some (.slice el)) (ht2 : ∃ d, P.underlying t2 = some d ∧ ∀ k, d ≠ .int k)
    (hi : P.info? el = some i) {b k sLen sCap n : Nat} {xv : Value} {news : List Value} (hl : Builtin.lenOf xv = pure n) (hnew : (Builtin.firstCells i.size n xv).run P w = .ok news.toArray w)
    (hg : sLen + n ≤ sCap) {c : Array Value} {e : TypeId} {fr0 : Nat × Nat} (hc : w.heap[b]? = some (.cells c e fr0)) (hfr0 : frOk c.size fr0) (hle : k + sLen * i.size + news.length ≤ c.size) (hone : ∀ v ∈ news, v.oneCell' = true) :
    (Builtin.append_ #[t1, t2] ty #[.slice (some ⟨b, k, none⟩) sLen sCap, xv]).run P w = .ok (.slice (some ⟨b, k, none⟩) (sLen + n) sCap) (setW w b (.cells (seg c (k + sLen * i.size) news) e fr0)) := by
  obtain ⟨d, hd, hd2⟩ := ht2
  have hu2 : (underlying t2).run P w = .ok d w := by simp [underlying, hd]
  have hst := run_storeCells_atG P b (k + sLen * i.size) e fr0 news 0 c w hc hfr0 (by simpa using hle) hone
  simp only [Nat.add_zero] at hst
  have hadd : (⟨b, k, none⟩ : Addr).add (sLen * i.size) = ⟨b, k + sLen * i.size, none⟩ := by
    unfold Addr.add; split
    · rename_i h0; rw [h0]; rfl
    · rfl
  simp only [Builtin.append_]
  simp [run_underlying ht, sizeOf, typeInfo, hi, hl, hg, hu2, hnew, hadd, hst]
  rw [← List.append_assoc]
  exact setRow_eq hc

/-- .. nothing, onto nothing. -/
theorem run_append_none' {P : Program} {t1 t2 ty el : TypeId} {i : TypeInfo} {w : World} (ht : P.underlying t1 = some (.slice el)) (ht2 : ∃ d, P.underlying t2 = some d ∧ ∀ k, d ≠ .int k)
    (hi : P.info? el = some i) {base : Option Addr} {cap : Nat} {xv : Value} (hl : Builtin.lenOf xv = pure 0) (hnew : (Builtin.firstCells i.size 0 xv).run P w = .ok #[] w) :
    (Builtin.append_ #[t1, t2] ty #[.slice base 0 cap, xv]).run P w = .ok (.slice base 0 cap) w := by
  obtain ⟨d, hd, hd2⟩ := ht2
  have hu2 : (underlying t2).run P w = .ok d w := by simp [underlying, hd]
  simp only [Builtin.append_]
  cases base <;> simp [run_underlying ht, sizeOf, typeInfo, hi, hl, hu2, hnew, storeCells]

theorem exec_builtin {P : Program} {c : Call} {b : Builtin} (ho : o.op = .call c) (hb : c.callee = .builtin b) (w : World) :
    (execOp a.eval o).run P w = (builtin b c.argTypes o.type (c.args.map fun | .const _ => true | _ => false) (c.args.map a.eval)).run P w := by
  unfold execOp
  rw [ho]
  simp only [resolve, hb]
  rfl

theorem good_append {g : Nat} (hg : Free C.L g) (wf : Wf E.g0 C) (sim : Sim C) (he : Opds C a e) {c : Call} {s x : Operand} {s' x' : Opd} {el : TypeId} {n m : Nat} {z : List IV} (ho : o.op = .call c) (hcb : c.callee = .builtin .append)
    (hargs : c.args.toList = [s, x]) (h1 : (c.argTypes[0]?).bind E.P.underlying = some (.slice el)) (h2 : ∃ d, (c.argTypes[1]?).bind E.P.underlying = some d ∧ ∀ k, d ≠ .int k)
    (hs : opd s = some s') (hx : opd x = some x') (hn : sizeT E.P el = some n) (hm : bytesT E.P el = some m) (hz : zeroCells E.P el = some z) (hm0 : 0 < m) (hn0 : 0 < n) (hzn : z.length = n)
    (h : xappendR n m (e s') (e x') g (fun L k => layAt L g k) C.L K) : Good E C a o K := by
  obtain ⟨i, zv, hi, hzv, hz3, hz4⟩ := zeroCells_spec hz
  have hisz : i.size = n := by unfold sizeT at hn; rw [hi] at hn; exact Option.some.inj hn
  have hiby : i.bytes = m := by unfold bytesT at hm; rw [hi] at hm; exact Option.some.inj hm
  rw [Option.bind_eq_some_iff] at h1
  obtain ⟨t1, ht1, hu1⟩ := h1
  obtain ⟨d, h2, hd⟩ := h2
  rw [Option.bind_eq_some_iff] at h2
  obtain ⟨t2, ht2, hu2⟩ := h2
  have hu2' : ∃ d, E.P.underlying t2 = some d ∧ ∀ k, d ≠ .int k := ⟨d, hu2, hd⟩
  have hsv := he s s' hs
  have hxv := he x x' hx
  unfold xappendR at h
  split at h
  · exact h.elim
  · rename_i rs hrs
    obtain ⟨hrows, h⟩ := h
    obtain ⟨news, hfl, hlen, hfirst⟩ := src_cells (E := E) sim hxv hrs (fun row hr => (hrows row hr).1)
    have hone := hfl.one (fun row hr => (hrows row hr).2)
    -- the call
    have hrun : ∀ {v : Value} {w' : World}, (Builtin.append_ #[t1, t2] o.type #[a.eval s, a.eval x]).run E.P C.w = .ok v w' → Post E C K v w' → Good E C a o K := by
      intro v w' hr hp
      refine .inl ⟨v, w', ?_, hp⟩
      rw [exec_builtin ho hcb]
      have e1 : c.args.map a.eval = #[a.eval s, a.eval x] := by
        apply Array.ext'; simp [hargs]
      have e2 : (Builtin.append_ c.argTypes o.type #[a.eval s, a.eval x]) = (Builtin.append_ #[t1, t2] o.type #[a.eval s, a.eval x]) := by
        unfold Builtin.append_
        rw [ht1, ht2]
        rfl
      rw [e1]
      show (do pure (Next.value (← Builtin.append_ c.argTypes o.type #[a.eval s, a.eval x])) : Sem Next).run E.P C.w = _
      rw [e2, Sem.run_bind, hr]
      rfl
    have hgrow : ∀ {base : Option Addr} {sCap : Nat} {t : Nat} {olds : List Value} {C1 : Ctx}, a.eval s = .slice base t sCap → Ext C C1 → C1.X = C.X → C1.w = C.w.drew → Wf E.g0 C1 → Sim C1 →
        (Builtin.firstCells n t (.slice base t sCap)).run E.P C.w.drew = .ok olds.toArray C.w.drew → sCap < t + rs.length → (t + rs.length) * m ≤ 70368744177664 →
        ∀ {rows' : List (List IV)}, FlatL C olds n rows' → rows'.length = t → Free C1.L g → K (.sl g 0 (t + rs.length) (t + rs.length)) (layAt C1.L g (.cells n (rows' ++ rs))) → Good E C a o K := by
      intro base sCap t olds C1 hsv' hext hX hw wf1 sim1 hold hgr hb rows' hfo hlr hlL hK
      obtain ⟨cap, hcap, hr⟩ := run_append_grow' (P := E.P) (t1 := t1) (t2 := t2) (ty := o.type) (w := C.w) hu1 hu2' hi hzv (base := base) (sLen := t) (sCap := sCap) hlen (by rw [hisz]; exact hold)
        (by rw [hisz]; exact hfirst _ rfl) hgr (by rw [hiby]; exact hm0) (by rw [hiby]; exact hb)
      rw [← hsv'] at hr
      refine hrun hr (Post.of_ext hext hX ?_)
      have hcat : FlatL C (olds ++ news) n (rows' ++ rs) := by
        refine ⟨by simp [hfo.1, hfl.1, Nat.add_mul], fun i row hi' => ?_⟩
        rcases Nat.lt_or_ge i rows'.length with h5 | h5
        · rw [List.getElem?_append_left h5] at hi'
          obtain ⟨h6, h7⟩ := hfo.2 i row hi'
          refine ⟨h6, fun j y hj => ?_⟩
          obtain ⟨u, h8, h9⟩ := h7 j y hj
          exact ⟨u, by rw [List.getElem?_append_left (lt_of_getL h8)]; exact h8, h9⟩
        · rw [List.getElem?_append_right h5] at hi'
          obtain ⟨h6, h7⟩ := hfl.2 _ row hi'
          refine ⟨h6, fun j y hj => ?_⟩
          obtain ⟨u, h8, h9⟩ := h7 j y hj
          refine ⟨u, ?_, h9⟩
          have e1 : i * n = rows'.length * n + (i - rows'.length) * n := by rw [← Nat.add_mul]; congr 1; omega
          rw [List.getElem?_append_right (by rw [hfo.1]; omega), ← h8]
          congr 1
          rw [hfo.1]; omega
      have hflat := flatL_flat (hcat.mono hext) (Builtin.zeroCells zv.cells (cap - (t + rs.length)))
      have hsz : ((olds ++ news).toArray ++ Builtin.zeroCells zv.cells (cap - (t + rs.length))).size = cap * n := by
        have e1 : zv.cells.size = n := by rw [← hz3, hzn]
        have e2 : cap * n = (t + rs.length) * n + (cap - (t + rs.length)) * n := by rw [← Nat.add_mul]; congr 1; omega
        rw [Array.size_append, size_zeroCells, e1, e2]
        simp [hfo.1, hfl.1, hlr, Nat.add_mul]
      have hnew := new_post (E := E) (C := C1) (K := K) (c := (olds ++ news).toArray ++ Builtin.zeroCells zv.cells (cap - (t + rs.length))) (e := el) hlL wf1 sim1 hflat
        (vr_new_sl (C := C1) hlL (e := el) (k := .cells n (rows' ++ rs)) (sz := n) (Nat.le_refl _) hcap (by rw [hsz]; exact Nat.le_refl _)) hK
      rw [hw] at hnew
      exact hnew
    -- nothing at hand
    have hnil : ∀ {base : Option Addr}, a.eval s = .slice base 0 0 → (rs = [] → VR C (e s') (.slice base 0 0) → K (e s') C.L) →
        (rs ≠ [] → rs.length * m ≤ 70368744177664 ∧ K (.sl g 0 rs.length rs.length) (layAt C.L g (.cells n rs))) → Good E C a o K := by
      intro base hb h5 h6
      by_cases hr : rs = []
      · subst hr
        have h7 : news = [] := List.eq_nil_of_length_eq_zero (by rw [hfl.1]; simp)
        subst h7
        have hr' := run_append_none' (P := E.P) (t1 := t1) (t2 := t2) (ty := o.type) (w := C.w) hu1 hu2' hi (base := base) (cap := 0) hlen (by rw [hisz]; exact hfirst _ rfl)
        rw [← hb] at hr'
        rw [hb] at hsv
        refine hrun hr' (post_same wf sim ?_ (h5 rfl hsv))
        rw [hb]; exact hsv
      · obtain ⟨h7, h8⟩ := h6 hr
        have h9 : 0 < rs.length := List.length_pos_iff.2 hr
        refine hgrow (C1 := drewC C) (olds := []) (rows' := []) hb (drew_ext C) rfl rfl (drew_wf wf) (drew_sim sim) ?_ (by omega) (by rw [Nat.zero_add]; exact h7) ⟨by simp, fun i row hi => by simp at hi⟩ rfl hg (by simpa [drewC] using h8)
        cases base with
        | none => rfl
        | some b => show (loadCells b (0 * n)).run E.P _ = _; rw [Nat.zero_mul]; rfl
    split at h
    · rename_i heq
      rw [heq] at hsv
      generalize hb : a.eval s = sv at hsv
      cases hsv
      exact hnil hb (fun h5 _ => h.1 h5) h.2
    · rename_i heq
      rw [heq] at hsv
      generalize hb : a.eval s = sv at hsv
      cases hsv
      exact hnil hb (fun h5 _ => h.1 h5) h.2
    · rename_i t off len cap heq
      rw [heq] at hsv
      generalize hb : a.eval s = sv at hsv
      cases hsv with
      | sl _ _ _ _ av cap' hts hlc hcc ha =>
      split at h
      · rename_i sz' rows hL
        obtain ⟨rfl, hroom, h⟩ := h
        obtain ⟨hφ, c0, ty, fr0, hc0, hfr0, hflat⟩ := sim t _ hL
        have hlr : ((rows.drop off).take len).length = len := by rw [List.length_take, List.length_drop]; omega
        by_cases hcap0 : cap' = 0
        · subst hcap0
          have hc0' : cap = 0 := by omega
          have hl0 : len = 0 := by omega
          subst hc0' hl0
          split at h
          · rename_i hle
            have hr : rs = [] := List.eq_nil_of_length_eq_zero (by omega)
            subst hr
            have h7 : news = [] := List.eq_nil_of_length_eq_zero (by rw [hfl.1]; simp)
            subst h7
            have hr' := run_append_none' (P := E.P) (t1 := t1) (t2 := t2) (ty := o.type) (w := C.w) hu1 hu2' hi (base := av) (cap := 0) hlen (by rw [hisz]; exact hfirst _ rfl)
            rw [← hb] at hr'
            refine hrun hr' (post_same wf sim (r := .sl t off 0 0) ?_ ?_)
            · rw [hb]; exact .sl t off 0 0 av 0 hts (Nat.le_refl _) (Nat.le_refl _) (.inl rfl)
            · have e1 : splice rows (off + 0) ([] : List (List IV)) = rows := by simp [splice]
              rw [e1] at h
              have e2 : C.L.set t (.cells sz' rows) = C.L := by
                apply List.ext_getElem?
                intro j
                rw [List.getElem?_set]
                split
                · rename_i h8; subst h8; rw [hL, if_pos (lt_of_get hL)]
                · rfl
              rw [e2] at h
              simpa using h
          · rename_i hle
            obtain ⟨hbd, hK⟩ := h
            refine hgrow (C1 := killC (drewC C) t) (olds := []) (rows' := []) hb ((drew_ext C).trans (kill_ext _ t)) rfl rfl (kill_wf (drew_wf wf)) (kill_sim (drew_sim sim)) ?_ (by omega) hbd ⟨by simp, fun i row hi => by simp at hi⟩ rfl (free_set hg hL rfl) ?_
            · cases av with
              | none => rfl
              | some b => show (loadCells b (0 * _)).run E.P _ = _; rw [Nat.zero_mul]; rfl
            · simpa [killC, drewC] using hK
        · obtain ⟨rfl, c1, e1, fr1, hc1, hbig⟩ := ha.resolve_left hcap0
          rw [hc0] at hc1
          obtain ⟨rfl, rfl, rfl⟩ := by simpa using hc1
          rw [hφ] at hbig hb
          have hk0 : (C.φ t).base + off * sz' + len * sz' = (C.φ t).base + (off + len) * sz' := by rw [Nat.add_mul]; omega
          split at h
          · -- known room
            rename_i hle
            obtain ⟨hle2, hflat2⟩ := flat_rows (C := C) hflat hfl (k := off + len) (by omega)
            have hr' := run_append_room' (P := E.P) (t1 := t1) (t2 := t2) (ty := o.type) (w := C.w) hu1 hu2' hi (b := (C.φ t).blk) (k := (C.φ t).base + off * sz') (sLen := len) (sCap := cap') hlen
              (by rw [hisz]; exact hfirst _ rfl) (by omega) hc0 hfr0 (by rw [hisz, hk0]; exact hle2) hone
            rw [hisz, hk0, ← hb] at hr'
            refine hrun hr' (set_post wf sim hL hc0 hfr0 (seg_size hle2) hflat2 ?_ h)
            refine .sl t off (len + rs.length) cap _ cap' (set_born (k := .cells _ _) rfl hts) hle hcc (.inr ⟨by simp [setC, hφ], seg c0 ((C.φ t).base + (off + len) * sz') news, ty, fr0, ?_, ?_⟩)
            · exact heap_set_eq (Array.getElem?_eq_some_iff.1 hc0).1
            · rw [seg_size hle2]; show (C.φ t).base + (off + cap') * (C.φ t).sz ≤ _; rw [hφ]; exact hbig
          · rename_i hnle
            obtain ⟨hbd, hK⟩ := h
            have hflatO : Flat C c0 ((C.φ t).base + off * sz') sz' ((rows.drop off).take len) := by
              refine ⟨?_, fun i row hi' => ?_⟩
              · rw [hlr]
                have h5 := hflat.1
                have h6 : (off + len) * sz' ≤ rows.length * sz' := Nat.mul_le_mul_right _ (by omega)
                rw [Nat.add_mul] at h6; omega
              · rw [List.getElem?_take] at hi'
                split at hi'
                · rw [List.getElem?_drop] at hi'
                  obtain ⟨h5, h6⟩ := hflat.2 _ row hi'
                  refine ⟨h5, fun j y hj => ?_⟩
                  obtain ⟨u, h7, h8⟩ := h6 j y hj
                  refine ⟨u, ?_, h8⟩
                  rw [← h7]; congr 1; rw [Nat.add_mul]; omega
                · cases hi'
            by_cases hgr : len + rs.length ≤ cap'
            · -- in place, beyond what is known
              have hbig2 : (C.φ t).base + off * sz' + (((rows.drop off).take len).length + rs.length) * sz' ≤ c0.size := by
                rw [hlr]
                have h6 : (len + rs.length) * sz' ≤ cap' * sz' := Nat.mul_le_mul_right _ hgr
                rw [Nat.add_mul off] at hbig
                omega
              have hfg := flat_grow hflatO hfl hbig2
              rw [hlr, hk0] at hfg
              have hle2 : (C.φ t).base + (off + len) * sz' + news.length ≤ c0.size := by
                rw [hlr, Nat.add_mul] at hbig2
                rw [hfl.1, ← hk0]; omega
              have hr' := run_append_room' (P := E.P) (t1 := t1) (t2 := t2) (ty := o.type) (w := C.w) hu1 hu2' hi (b := (C.φ t).blk) (k := (C.φ t).base + off * sz') (sLen := len) (sCap := cap') hlen
                (by rw [hisz]; exact hfirst _ rfl) hgr hc0 hfr0 (by rw [hisz, hk0]; exact hle2) hone
              rw [hisz, hk0, ← hb] at hr'
              refine hrun hr' ⟨.sl g 0 (len + rs.length) (len + rs.length), layAt (C.L.set t .dead) g (Blk.cells sz' ((rows.drop off).take len ++ rs)), moveφ C t g ((C.φ t).base + off * sz') sz', hK,
                move_wf hg hL rfl hc0 (seg_size hle2) wf, move_sim hg hL rfl hc0 (seg_size hle2) wf sim ?_, move_ext hg hL rfl hc0 (seg_size hle2), ?_⟩
              · have hfg' := hfg.mono (move_ext (base := (C.φ t).base + off * sz') (sz := sz') (k := .cells sz' ((rows.drop off).take len ++ rs)) hg hL rfl hc0 (seg_size hle2))
                refine ⟨by simp [moveC, moveφ], seg c0 ((C.φ t).base + (off + len) * sz') news, ty, fr0, ?_, by rw [seg_size hle2]; exact hfr0, ?_, ?_⟩
                · simp only [moveC, moveφ, if_true]; exact heap_set_eq (Array.getElem?_eq_some_iff.1 hc0).1
                · simpa [moveC, moveφ] using hfg'.1
                · intro i row hi'
                  refine ⟨(hfg'.2 i row hi').1, fun j y hj => ?_⟩
                  obtain ⟨u, h7, h8⟩ := (hfg'.2 i row hi').2 j y hj
                  exact ⟨u, by simpa [moveC, moveφ] using h7, h8⟩
              · refine .sl g 0 _ _ _ cap' ⟨_, layAt_get (free_set hg hL rfl), rfl⟩ (Nat.le_refl _) hgr (.inr ⟨by simp [moveφ], seg c0 ((C.φ t).base + (off + len) * sz') news, ty, fr0, ?_, ?_⟩)
                · simp only [moveφ, if_true]; exact heap_set_eq (Array.getElem?_eq_some_iff.1 hc0).1
                · rw [seg_size hle2]
                  simp only [moveφ, if_true, Nat.zero_add]
                  rw [Nat.add_mul] at hbig; omega
            · -- a new block
              have hfo : FlatL C ((List.range (len * sz')).map fun k => c0.getD ((C.φ t).base + off * sz' + k) undef) sz' ((rows.drop off).take len) := by
                have := flatL_range (C := C) (sz := sz') (rs := (rows.drop off).take len) (f := fun k => c0.getD ((C.φ t).base + off * sz' + k) undef) (fun i row hi' => (hflatO.2 i row hi').1)
                  (fun i row hi' j y hj => by
                    obtain ⟨u, h7, h8⟩ := (hflatO.2 i row hi').2 j y hj
                    rw [← Nat.add_assoc, getD_of_get h7]; exact h8)
                rw [hlr] at this
                exact this
              refine hgrow (C1 := killC (drewC C) t) (rows' := (rows.drop off).take len) hb ((drew_ext C).trans (kill_ext _ t)) rfl rfl (kill_wf (drew_wf wf)) (kill_sim (drew_sim sim)) ?_ (by omega) hbd hfo hlr (free_set hg hL rfl)
                (by simpa [killC, drewC] using hK)
              refine run_load_slice (fun k hk => ?_) _ _
              have hlt : (C.φ t).base + off * sz' + k < c0.size := by
                have h6 := hflatO.1
                rw [hlr] at h6; omega
              have hcc0 : C.w.drew.heap[(C.φ t).blk]? = some (.cells c0 ty fr0) := hc0
              simp only [World.cell?, hcc0]
              simp [hlt]
      · exact h.elim
    · exact h.elim

end
end Go.X
end
section
/- The calculus X, part 12: each operation does what its short form says (4): what only reads; calls; all together. -/
namespace Go.X
open Go

section
variable {E : Env} {C : Ctx} {a : Act} {e : Opd → IV} {o : Oper} {K : IV → List Blk → Prop}

theorem eqGuard_int (P : Program) (op : BinOp) (t : TypeId) (x y : Operand) (v u : Value) (w : World) (h : match v with | .int _ _ | .bool _ | .string _ => True | _ => False) :
    (eqGuard op t x y v u).run P w = .ok () w := by
  cases v <;> first
    | exact h.elim
    | (rw [eqGuard_at_int]; rfl)
    | (rw [eqGuard_at_bool]; rfl)
    | (rw [eqGuard_at_string]; rfl)

theorem good_bin' (sim : Sim C) {op : BinOp} {t ty : TypeId} {x y : Operand} (ho : o.op = .binOp op t x y ty) {r : IV} {v : Value}
    (hg : match a.eval x with | .int _ _ | .bool _ | .string _ => True | _ => False) (hr : (binOp op t (a.eval x) (a.eval y)).run E.P C.w = .ok v C.w) (hv : VR C r v) (hK : K r C.L) : PureG E C a o K := by
  refine pure_value (s := do eqGuard op t x y (a.eval x) (a.eval y); binOp op t (a.eval x) (a.eval y)) (v := v) (w' := C.w) (by unfold execOp; rw [ho]) ?_ (psame hv hK)
  rw [Sem.run_bind, eqGuard_int _ _ _ _ _ _ _ _ hg]
  exact hr

theorem beqL {a b : List UInt8} : (a == b) = decide (a = b) := by
  by_cases h : a = b
  · subst h; simp
  · simp [h]
theorem beqB {a b : Bool} : (a == b) = decide (a = b) := by cases a <;> cases b <;> rfl

theorem run_eql_bool {P : Program} {t : TypeId} (ht : P.underlying t = some .bool) (a b : Bool) (w : World) : (binOp .eql t (.bool a) (.bool b)).run P w = .ok (.bool (decide (a = b))) w := by
  have hu : (underlying t).run P w = .ok .bool w := by simp [underlying, ht]
  have : binOp .eql t (.bool a) (.bool b) = (do pure (.bool (← Op.equal t (.bool a) (.bool b)))) := by simp [binOp]
  rw [this, Sem.run_bind]
  unfold Op.equal Op.maxDepth Op.equalIn
  rw [Sem.run_bind, hu]
  simp only [Result.andThen_ok, Sem.run_pure, beqB]
theorem run_neq_bool {P : Program} {t : TypeId} (ht : P.underlying t = some .bool) (a b : Bool) (w : World) : (binOp .neq t (.bool a) (.bool b)).run P w = .ok (.bool (!decide (a = b))) w := by
  have hu : (underlying t).run P w = .ok .bool w := by simp [underlying, ht]
  have : binOp .neq t (.bool a) (.bool b) = (do pure (.bool (!(← Op.equal t (.bool a) (.bool b))))) := by simp [binOp]
  rw [this, Sem.run_bind]
  unfold Op.equal Op.maxDepth Op.equalIn
  rw [Sem.run_bind, hu]
  simp only [Result.andThen_ok, Sem.run_pure, beqB]

theorem good_bin (sim : Sim C) (he : Opds C a e) {op : BinOp} {t ty : TypeId} {x y : Operand} {x' y' : Opd} (ho : o.op = .binOp op t x y ty) (ht : eqType E.P op t = true)
    (hx : opd x = some x') (hy : opd y = some y') (h : xbin op (e x') (e y') fun v => K v C.L) : PureG E C a o K := by
  have hxv := he x x' hx
  have hyv := he y y' hy
  generalize hxe : a.eval x = xv at hxv
  generalize hye : a.eval y = yv at hyv
  generalize e x' = ex at *
  generalize e y' = ey at *
  unfold xbin at h
  split at h
  case h_25 => exact h.elim
  all_goals (cases hxv; cases hyv)
  case h_1 =>
    obtain ⟨h1, h2⟩ := h
    refine good_bin' sim ho (by rw [hxe]; trivial) (v := .int _ _) ?_ (.int _ _) h2
    rw [hxe, hye, binOp_shl]
    unfold Op.shift
    rw [if_neg (by omega)]
    rfl
  case h_2 =>
    obtain ⟨h1, h2⟩ := h
    refine good_bin' sim ho (by rw [hxe]; trivial) (v := .int _ _) ?_ (.int _ _) h2
    rw [hxe, hye, binOp_shr]
    unfold Op.shift
    rw [if_neg (by omega)]
    rfl
  case h_6 =>
    obtain ⟨rfl, h1, h2⟩ := h
    refine good_bin' sim ho (by rw [hxe]; trivial) (v := .int _ _) ?_ (.int _ _) h2
    rw [hxe, hye, binOp_quo]
    unfold Op.intDiv
    rw [if_neg h1]
    rfl
  case h_7 =>
    obtain ⟨rfl, h1, h2⟩ := h
    refine good_bin' sim ho (by rw [hxe]; trivial) (v := .int _ _) ?_ (.int _ _) h2
    rw [hxe, hye, binOp_rem]
    unfold Op.intDiv
    rw [if_neg h1]
    rfl
  case h_17 =>
    obtain ⟨h1, h2⟩ := h
    refine good_bin' sim ho (by rw [hxe]; trivial) (v := .string _) ?_ (.str _) h2
    rw [hxe, hye, binOp_string_add, run_string_add_sum _ _ _ (by simpa [ByteArray.size] using h1)]
    congr 2
  case h_18 => exact good_bin' sim ho (by rw [hxe]; trivial) (v := .bool _) (by rw [hxe, hye, binOp_string_eql, ByteArray.toList_mk, ByteArray.toList_mk, beqL]; rfl) (.bool _) h
  case h_19 => exact good_bin' sim ho (by rw [hxe]; trivial) (v := .bool _) (by rw [hxe, hye, binOp_string_neq, ByteArray.toList_mk, ByteArray.toList_mk, beqL]; rfl) (.bool _) h
  case h_20 => exact good_bin' sim ho (by rw [hxe]; trivial) (v := .bool _) (by rw [hxe, hye, binOp_string_lss, ByteArray.toList_mk, ByteArray.toList_mk]; rfl) (.bool _) h
  case h_21 => exact good_bin' sim ho (by rw [hxe]; trivial) (v := .bool _) (by rw [hxe, hye, binOp_string_geq, ByteArray.toList_mk, ByteArray.toList_mk]; rfl) (.bool _) h
  case h_22 => exact good_bin' sim ho (by rw [hxe]; trivial) (v := .bool _) (by rw [hxe, hye, binOp_string_gtr, ByteArray.toList_mk, ByteArray.toList_mk, beqL]; rfl) (.bool _) h
  case h_23 => exact good_bin' sim ho (by rw [hxe]; trivial) (v := .bool _) (by rw [hxe, hye, binOp_string_leq, ByteArray.toList_mk, ByteArray.toList_mk, beqL]; rfl) (.bool _) h
  case h_24 =>
    obtain ⟨r, h1, h2⟩ := h
    unfold rawAdd at h1
    split at h1
    · rename_i k p q k' c d _ _
      split at h1
      · rename_i hk; subst hk
        simp only [Option.map_eq_some_iff] at h1
        obtain ⟨⟨re, im⟩, hs, rfl⟩ := h1
        refine pure_value (s := do eqGuard .add t x y (a.eval x) (a.eval y); binOp .add t (a.eval x) (a.eval y)) (v := .complex k re im) (w' := C.w) (by unfold execOp; rw [ho]) ?_ (psame (.raw _ rfl) h2)
        rw [Sem.run_bind, hxe, hye]
        exact run_complex_sum C.w .add (.inl rfl) t k _ _ _ _ re im hs
      · cases h1
    · cases h1
  all_goals (obtain ⟨rfl, h2⟩ := h)
  case h_3 => exact good_bin' sim ho (by rw [hxe]; trivial) (v := .int _ _) (by rw [hxe, hye, binOp_add]; rfl) (.int _ _) h2
  case h_4 => exact good_bin' sim ho (by rw [hxe]; trivial) (v := .int _ _) (by rw [hxe, hye, binOp_sub]; rfl) (.int _ _) h2
  case h_5 => exact good_bin' sim ho (by rw [hxe]; trivial) (v := .int _ _) (by rw [hxe, hye, binOp_mul]; rfl) (.int _ _) h2
  case h_8 => exact good_bin' sim ho (by rw [hxe]; trivial) (v := .int _ _) (by rw [hxe, hye, binOp_and]; rfl) (.int _ _) h2
  case h_9 => exact good_bin' sim ho (by rw [hxe]; trivial) (v := .int _ _) (by rw [hxe, hye, binOp_or]; rfl) (.int _ _) h2
  case h_10 => exact good_bin' sim ho (by rw [hxe]; trivial) (v := .int _ _) (by rw [hxe, hye, binOp_xor]; rfl) (.int _ _) h2
  all_goals (refine good_bin' sim ho (by rw [hxe]; trivial) (v := .bool _) ?_ (.bool _) h2; rw [hxe, hye])
  case h_11 => rw [binOp_eql]; rfl
  case h_12 => rw [binOp_neq]; rfl
  case h_13 => rw [binOp_lss]; rfl
  case h_14 => rw [binOp_leq]; rfl
  case h_15 => rw [binOp_gtr]; rfl
  case h_16 => rw [binOp_geq]; rfl

theorem good_eqB (sim : Sim C) (he : Opds C a e) {op : BinOp} {t ty : TypeId} {x y : Operand} {x' y' : Opd} {neg : Bool} (ho : o.op = .binOp op t x y ty) (hop : op = if neg then .neq else .eql) (ht : E.P.underlying t = some .bool)
    (hx : opd x = some x') (hy : opd y = some y') (h : xop E (.eqB neg x' y') e C.L K) : PureG E C a o K := by
  have hxv := he x x' hx
  have hyv := he y y' hy
  generalize hxe : a.eval x = xv at hxv
  generalize hye : a.eval y = yv at hyv
  simp only [xop] at h
  generalize e x' = ex at *
  generalize e y' = ey at *
  split at h
  · cases hxv; cases hyv
    cases neg
    · subst hop
      exact good_bin' sim ho (by rw [hxe]; trivial) (v := .bool _) (by rw [hxe, hye]; exact run_eql_bool ht _ _ _) (.bool _) h
    · subst hop
      exact good_bin' sim ho (by rw [hxe]; trivial) (v := .bool _) (by rw [hxe, hye]; exact run_neq_bool ht _ _ _) (.bool _) h
  · exact h.elim

theorem good_un (sim : Sim C) (he : Opds C a e) {op : UnOp} {t : TypeId} {x : Operand} {x' : Opd} (ho : o.op = .unOp op t x) (hx : opd x = some x') (h : xun op (e x') fun v => K v C.L) : PureG E C a o K := by
  have hxv := he x x' hx
  generalize hxe : a.eval x = xv at hxv
  generalize e x' = ex at *
  unfold xun at h
  split at h
  · cases hxv; exact pure_value (s := Op.unary .not (a.eval x)) (by unfold execOp; rw [ho]) (by rw [hxe]; rfl) (psame (.bool _) h)
  · cases hxv; exact pure_value (s := Op.unary .neg (a.eval x)) (by unfold execOp; rw [ho]) (by rw [hxe]; rfl) (psame (.int _ _) h)
  · cases hxv; exact pure_value (s := Op.unary .xor (a.eval x)) (by unfold execOp; rw [ho]) (by rw [hxe]; rfl) (psame (.int _ _) h)
  · exact h.elim

theorem run_und {P : Program} {t : TypeId} {d : TypeDesc} (h : P.underlying t = some d) (w : World) : (underlying t).run P w = .ok d w := by simp [underlying, h]

theorem good_cvInt (sim : Sim C) (he : Opds C a e) {s d : TypeId} {x : Operand} {x' : Opd} {k k0 : IntKind} (ho : o.op = .convert s d x) (hs : E.P.underlying s = some (.int k0)) (hd : E.P.underlying d = some (.int k))
    (hx : opd x = some x') {k1 : IntKind} {n : Int} (h1 : e x' = .int k1 n) (h : K (.int k (k.wrap n)) C.L) : PureG E C a o K := by
  have hxv := he x x' hx
  rw [h1] at hxv
  generalize hxe : a.eval x = xv at hxv
  cases hxv
  refine pure_value (s := convert s d (a.eval x)) (by unfold execOp; rw [ho]) (v := .int k (k.wrap n)) (w' := C.w) ?_ (psame (.int _ _) h)
  rw [hxe]
  unfold convert
  rw [Sem.run_bind, run_und hs]
  simp only [Result.andThen_ok]
  rw [Sem.run_bind, run_und hd]
  rfl

theorem good_cvIntStr (sim : Sim C) (he : Opds C a e) {s d : TypeId} {x : Operand} {x' : Opd} {k0 : IntKind} (ho : o.op = .convert s d x) (hs : E.P.underlying s = some (.int k0)) (hd : E.P.underlying d = some .string)
    (hx : opd x = some x') {k1 : IntKind} {n : Int} (h1 : e x' = .int k1 n) (h : K (.str (Utf8.encode n).data.toList) C.L) : PureG E C a o K := by
  have hxv := he x x' hx
  rw [h1] at hxv
  generalize hxe : a.eval x = xv at hxv
  cases hxv
  refine pure_value (s := convert s d (a.eval x)) (by unfold execOp; rw [ho]) (v := .string (Utf8.encode n)) (w' := C.w) ?_ (psame (.str _) h)
  rw [hxe]
  unfold convert
  rw [Sem.run_bind, run_und hs]
  simp only [Result.andThen_ok]
  rw [Sem.run_bind, run_und hd]
  rfl

theorem good_cvStr (sim : Sim C) (he : Opds C a e) {s d : TypeId} {x : Operand} {x' : Opd} (ho : o.op = .convert s d x) (hs : E.P.underlying s = some .string) (hd : E.P.underlying d = some .string)
    (hx : opd x = some x') {l : List UInt8} (h1 : e x' = .str l) (h : K (.str l) C.L) : PureG E C a o K := by
  have hxv := he x x' hx
  rw [h1] at hxv
  generalize hxe : a.eval x = xv at hxv
  cases hxv
  refine pure_value (s := convert s d (a.eval x)) (by unfold execOp; rw [ho]) (v := .string ⟨l.toArray⟩) (w' := C.w) ?_ (psame (.str _) h)
  rw [hxe]
  unfold convert
  rw [Sem.run_bind, run_und hs]
  simp only [Result.andThen_ok]
  rw [Sem.run_bind, run_und hd]
  rfl

theorem add_ptr (b k n : Nat) : (⟨b, k, none⟩ : Addr).add n = ⟨b, k + n, none⟩ := by unfold Addr.add; split <;> simp_all

theorem good_fldA (sim : Sim C) (he : Opds C a e) {s : TypeId} {x : Operand} {x' : Opd} {f : Nat} {fs : Array Field} {g : Field} {n : Nat} (ho : o.op = .fieldAddr s x f) (hs : E.P.underlying s = some (.struct fs)) (hg : fs[f]? = some g)
    (hn : sizeT E.P g.type = some n) (hn0 : n ≠ 0) (hx : opd x = some x')
    (h : xop E (.fldA g.offset x') e C.L K) : PureG E C a o K := by
  have hxv := he x x' hx
  generalize hxe : a.eval x = xv at hxv
  have hrun : ∀ b k, xv = .pointer (some ⟨b, k, none⟩) → (Instr.fieldAt s (a.eval x) f).run E.P C.w = .ok (.pointer (some ⟨b, k + g.offset, none⟩)) C.w := by
    rintro b k rfl
    rw [hxe]
    unfold Instr.fieldAt
    rw [Sem.run_bind, run_und hs]
    simp only [Result.andThen_ok, hg]
    rw [Sem.run_bind]
    simp only [Instr.sureAddr, Sem.run_pure, Result.andThen_ok]
    rw [Sem.run_bind]
    unfold fieldPlace
    rw [Sem.run_bind, run_sizeOf' hn]
    simp only [Result.andThen_ok, hn0, if_false, Sem.run_pure, add_ptr]
  simp only [xop] at h
  generalize e x' = ex at *
  split at h
  · cases hxv with
    | ptr s' r o' hs' =>
      refine pure_value (by unfold execOp; rw [ho]) (hrun _ _ rfl) (psame ?_ h)
      rw [Nat.add_assoc]; exact .ptr _ _ _ hs'
  · cases hxv with
    | iptr rows r o' b base sz vals hsz hcl hb hown ha hv =>
      refine pure_value (by unfold execOp; rw [ho]) (hrun _ _ rfl) (psame ?_ h)
      rw [Nat.add_assoc]; exact .iptr _ _ _ b base sz vals hsz hcl hb hown ha hv
  · rename_i b k
    cases hxv
    exact pure_value (by unfold execOp; rw [ho]) (hrun b k rfl) (psame (.raw _ rfl) h)
  · exact h.elim

theorem good_fld (sim : Sim C) (he : Opds C a e) {s : TypeId} {x : Operand} {x' : Opd} {f : Nat} {fs : Array Field} {g : Field} {n : Nat} {b : Bool} (ho : o.op = .field s x f) (hs : E.P.underlying s = some (.struct fs)) (hg : fs[f]? = some g)
    (hn : sizeT E.P g.type = some n) (hb : isAggT E.P g.type = some b) (hx : opd x = some x')
    (h : xop E (.fld g.offset n b x') e C.L K) : PureG E C a o K := by
  have hxv := he x x' hx
  generalize hxe : a.eval x = xv at hxv
  simp only [xop] at h
  generalize e x' = ex at *
  split at h
  · rename_i cs
    cases hxv with
    | agg _ vs hl hv =>
    obtain ⟨h1, h⟩ := h
    have hrun : ∀ v, (part g.type vs.toArray g.offset).run E.P C.w = .ok v C.w → (Instr.field s (a.eval x) f).run E.P C.w = .ok v C.w := fun v hp => by
      rw [hxe]
      unfold Instr.field
      rw [Sem.run_bind, run_und hs]
      simp only [Result.andThen_ok, hg]
      rw [Sem.run_bind]
      simp only [asAgg, Sem.run_pure, Result.andThen_ok]
      exact hp
    cases b
    · simp only [Bool.false_eq_true, if_false] at h
      have h3 := hv g.offset _ (getD_get (d := .und) h.1)
      refine pure_value (by unfold execOp; rw [ho]) (hrun (vs.getD g.offset undef) ?_) (psame h3 h.2)
      unfold part
      rw [Sem.run_bind, run_isAgg hb]
      simp only [Result.andThen_ok, Bool.false_eq_true, if_false]
      have : vs.toArray[g.offset]? = some (vs.getD g.offset undef) := by rw [List.getElem?_toArray]; exact getD_get (by omega)
      rw [this]; rfl
    · simp only [if_true] at h
      refine pure_value (by unfold execOp; rw [ho]) (hrun (.agg (vs.toArray.extract g.offset (g.offset + n))) ?_) (psame ?_ h)
      · unfold part
        rw [Sem.run_bind, run_isAgg hb]
        simp only [Result.andThen_ok, if_true]
        rw [Sem.run_bind, run_sizeOf' hn]
        rfl
      · have e1 : vs.toArray.extract g.offset (g.offset + n) = ((vs.drop g.offset).take n).toArray := by
          apply Array.ext'; simp
        rw [e1]
        refine .agg _ _ (by simp [hl]) fun i y hi => ?_
        rw [List.getElem?_take] at hi
        split at hi
        · rename_i hlt
          rw [List.getElem?_drop] at hi
          have h4 := hv _ y hi
          have h5 : ((vs.drop g.offset).take n).getD i undef = vs.getD (g.offset + i) undef := by
            rw [List.getD_eq_getElem?_getD, List.getD_eq_getElem?_getD, List.getElem?_take, if_pos hlt, List.getElem?_drop]
          rw [h5]; exact h4
        · cases hi
  · exact h.elim

theorem szOf_sz (sim : Sim C) {s n : Nat} (hz : szOf C.L s = some n) : (C.φ s).sz = n := by
  unfold szOf at hz
  split at hz
  · rename_i sz rows hL
    obtain rfl : sz = n := by simpa using hz
    exact (sim s _ hL).1
  · rename_i ty sz rows hL
    obtain rfl : sz = n := by simpa using hz
    exact (sim s _ hL).1.1
  · cases hz
theorem good_idxS (sim : Sim C) (he : Opds C a e) {t el : TypeId} {x i : Operand} {x' i' : Opd} {n : Nat} (ho : o.op = .indexAddr t x i) (ht : E.P.underlying t = some (.slice el)) (hn : sizeT E.P el = some n)
    (hx : opd x = some x') (hi : opd i = some i') (h : xop E (.idxS n x' i') e C.L K) : PureG E C a o K := by
  have hxv := he x x' hx
  have hiv := he i i' hi
  generalize hxe : a.eval x = xv at hxv
  generalize hie : a.eval i = iv at hiv
  simp only [xop] at h
  generalize e x' = ex at *
  generalize e i' = ei at *
  have hrun : ∀ (b k len cap : Nat) (q : IntKind) (j : Int), xv = .slice (some ⟨b, k, none⟩) len cap → iv = .int q j → 0 ≤ j → j < len →
      (Instr.indexAt t (a.eval x) (a.eval i)).run E.P C.w = .ok (.pointer (some ⟨b, k + j.toNat * n, none⟩)) C.w := by
    rintro b k len cap q j rfl rfl h0 h1
    rw [hxe, hie]
    unfold Instr.indexAt
    simp only [asIntOf, Sem.run_bind, Sem.run_pure, Result.andThen_ok, run_und ht, run_sizeOf' hn, add_ptr]
    rw [if_pos ⟨h0, h1⟩]
    simp only [Sem.run_bind, Sem.run_pure, Result.andThen_ok, run_sizeOf' hn]
  split at h
  · rename_i rows q j
    obtain ⟨hr, h0, h1, h⟩ := h
    cases hiv
    cases hxv with
    | isl _ av cap' sz vals hcap hsz hcl ha hv =>
      rcases ha with ha | ⟨b, k, rfl, hb, hno, hc⟩
      · subst ha; simp at h1; omega
      · have hlt : j.toNat < rows.length := by omega
        have hss : sz = n := by
          have := List.getElem?_eq_getElem hlt
          rw [← hsz _ _ this, hr _ (List.getElem_mem hlt)]
        subst hss
        refine pure_value (by unfold execOp; rw [ho]) (hrun b k _ cap' q j rfl rfl h0 h1) (psame ?_ h)
        exact .iptr rows _ 0 b k sz vals hsz hcl hb hno hc hv
  · rename_i s off len cap q j
    obtain ⟨hz, h0, h1, h⟩ := h
    cases hiv
    cases hxv with
    | sl _ _ _ _ av cap' hs hl hc ha =>
      obtain ⟨rfl, _⟩ := ha.resolve_left (by omega)
      refine pure_value (by unfold execOp; rw [ho]) (hrun _ _ len cap' q j rfl rfl h0 h1) (psame ?_ h)
      have h5 := szOf_sz sim hz
      have h6 := VR.ptr (C := C) s (off + j.toNat) 0 hs
      rw [h5] at h6 ⊢
      rw [Nat.add_mul, Nat.add_zero, ← Nat.add_assoc] at h6
      exact h6
  · exact h.elim

end
end Go.X
end
section
/- The calculus X, part 12b: is it nil? ranges over a string. -/
namespace Go.X
open Go
section
variable {E : Env} {C : Ctx} {a : Act} {e : Opd → IV} {o : Oper} {K : IV → List Blk → Prop}

theorem eq_of_equal {P : Program} {t : TypeId} {v c : Value} {b : Bool} {w : World} (neg : Bool) (x y : Operand) (hg : (eqGuard (if neg then .neq else .eql) t x y v c).run P w = .ok () w)
    (hb : binOp (if neg then .neq else .eql) t v c = (do let r ← Op.equal t v c; pure (.bool (if neg then !r else r)))) (h : (Op.equal t v c).run P w = .ok b w) :
    (do eqGuard (if neg then .neq else .eql) t x y v c; binOp (if neg then .neq else .eql) t v c : Sem Value).run P w = .ok (.bool (if neg then !b else b)) w := by
  rw [Sem.run_bind, hg]
  simp only [Result.andThen_ok]
  rw [hb, Sem.run_bind, h]
  simp only [Result.andThen_ok, Sem.run_pure]

theorem eq_nil_slice {P : Program} {t el : TypeId} (ht : P.underlying t = some (.slice el)) (a : Option Addr) (l k : Nat) (w : World) : (Op.equal t (.slice a l k) (.slice none 0 0)).run P w = .ok a.isNone w := by
  have hu : (underlying t).run P w = .ok (.slice el) w := by simp [underlying, ht]
  unfold Op.equal Op.maxDepth Op.equalIn
  rw [Sem.run_bind, hu]
  cases a <;> rfl
theorem eq_nil_iface {P : Program} {t : TypeId} {ms} (ht : P.underlying t = some (.interface ms)) (w : World) : (Op.equal t .nilIface .nilIface).run P w = .ok true w := by
  have hu : (underlying t).run P w = .ok (.interface ms) w := by simp [underlying, ht]
  unfold Op.equal Op.maxDepth Op.equalIn
  rw [Sem.run_bind, hu]; rfl
theorem eq_nil_iface' {P : Program} {t t' : TypeId} {u : Value} {ms} (ht : P.underlying t = some (.interface ms)) (w : World) : (Op.equal t (.iface t' u) .nilIface).run P w = .ok false w := by
  have hu : (underlying t).run P w = .ok (.interface ms) w := by simp [underlying, ht]
  unfold Op.equal Op.maxDepth Op.equalIn
  rw [Sem.run_bind, hu]; rfl
theorem eq_nil_func {P : Program} {t : TypeId} {p q r} (ht : P.underlying t = some (.func p q r)) (w : World) : (Op.equal t .nilFunc .nilFunc).run P w = .ok true w := by
  have hu : (underlying t).run P w = .ok (.func p q r) w := by simp [underlying, ht]
  unfold Op.equal Op.maxDepth Op.equalIn
  rw [Sem.run_bind, hu]; rfl
theorem eq_nil_func' {P : Program} {t : TypeId} {f : Fn} {x y : Array Value} {p q r} (ht : P.underlying t = some (.func p q r)) (w : World) : (Op.equal t (.func f x y) .nilFunc).run P w = .ok false w := by
  have hu : (underlying t).run P w = .ok (.func p q r) w := by simp [underlying, ht]
  unfold Op.equal Op.maxDepth Op.equalIn
  rw [Sem.run_bind, hu]; rfl

theorem good_isNil (sim : Sim C) (he : Opds C a e) {op : BinOp} {t ty : TypeId} {x y : Operand} {x' : Opd} {k : Nat} {neg : Bool} (ho : o.op = .binOp op t x y ty) (hop : op = if neg then .neq else .eql) (hn : isNilC E.P t y = some k)
    (hx : opd x = some x') (h : xop E (.isNil k neg x') e C.L K) : PureG E C a o K := by
  have hxv := he x x' hx
  subst hop
  simp only [xop] at h
  have key : ∀ (c : Value) (b : Bool), y = .const c → (eqGuard (if neg then .neq else .eql) t x y (a.eval x) c).run E.P C.w = .ok () C.w → 
      binOp (if neg then .neq else .eql) t (a.eval x) c = (do let r ← Op.equal t (a.eval x) c; pure (.bool (if neg then !r else r))) →
      (Op.equal t (a.eval x) c).run E.P C.w = .ok b C.w → K (.bool (if neg then !b else b)) C.L → PureG E C a o K := fun c b hy hg hb h1 hk => by
    refine pure_value (s := do eqGuard (if neg then .neq else .eql) t x y (a.eval x) (a.eval y); binOp (if neg then .neq else .eql) t (a.eval x) (a.eval y)) (v := .bool (if neg then !b else b)) (w' := C.w) (by unfold execOp; rw [ho]) ?_ (psame (.bool _) hk)
    subst hy
    exact eq_of_equal neg x _ hg hb h1
  unfold isNilC at hn
  generalize hxe : a.eval x = xv at hxv
  generalize e x' = ex at *
  rw [hxe] at key
  split at hn
  · rename_i el ht
    cases hn
    have ks := fun (b0 : Option Addr) (l k : Nat) (hv : xv = .slice b0 l k) (hk : K (.bool (if neg then !b0.isNone else b0.isNone)) C.L) =>
      key _ b0.isNone rfl (by subst hv; cases neg <;> rfl) (by subst hv; cases neg <;> simp [binOp]) (by subst hv; exact eq_nil_slice ht _ _ _ _) hk
    unfold xnil at h
    cases hxv <;> simp only at h
    case nsl => exact ks _ _ _ rfl h
    case esl b0 => cases b0 with
        | none => exact ks _ _ _ rfl h.1
        | some p => exact ks _ _ _ rfl h.2
    case isl rows b0 cap' sz vals hcap hsz hcl ha hv => cases b0 with
        | none =>
          refine ks _ _ _ rfl (h.2 ?_)
          rcases ha with h0 | ⟨_, _, h0, _⟩
          · exact h0
          · cases h0
        | some p => exact ks _ _ _ rfl h.1
    case sl s off len cap b0 cap' hs hl hc ha => cases b0 with
        | none =>
          refine ks _ _ _ rfl (h.2 ?_)
          rcases ha with h0 | ⟨h0, _⟩
          · omega
          · cases h0
        | some p => exact ks _ _ _ rfl h.1
  · rename_i ms ht
    cases hn
    have k1 := fun (hv : xv = .nilIface) (hk : K (.bool (if neg then !true else true)) C.L) => key _ true rfl (by subst hv; cases neg <;> cases x <;> rfl) (by subst hv; cases neg <;> simp [binOp]) (by subst hv; exact eq_nil_iface ht _) hk
    have k2 := fun (t' : TypeId) (u : Value) (hv : xv = .iface t' u) (hk : K (.bool (if neg then !false else false)) C.L) => key _ false rfl (by subst hv; cases neg <;> rfl) (by subst hv; cases neg <;> simp [binOp]) (by subst hv; exact eq_nil_iface' ht _) hk
    unfold xnil at h
    cases hxv <;> simp only at h
    case raw hr => cases xv <;> simp only at h <;> first | exact k1 rfl h | exact k2 _ _ rfl h
    case iface t' x0 u hu => exact k2 _ _ rfl h
  · rename_i p q r ht
    cases hn
    have k1 := fun (hv : xv = .nilFunc) (hk : K (.bool (if neg then !true else true)) C.L) => key _ true rfl (by subst hv; cases neg <;> cases x <;> rfl) (by subst hv; cases neg <;> simp [binOp]) (by subst hv; exact eq_nil_func ht _) hk
    have k2 := fun (f : Fn) (x0 y0 : Array Value) (hv : xv = .func f x0 y0) (hk : K (.bool (if neg then !false else false)) C.L) => key _ false rfl (by subst hv; cases neg <;> rfl) (by subst hv; cases neg <;> simp [binOp]) (by subst hv; exact eq_nil_func' ht _) hk
    unfold xnil at h
    cases hxv <;> simp only at h
    case raw hr => cases xv <;> simp only at h <;> exact k1 rfl h
    case fn f as bs va vb _ _ _ _ => exact k2 _ _ _ rfl h
  · cases hn

theorem good_rng (wf : Wf E.g0 C) (sim : Sim C) (he : Opds C a e) {t : TypeId} {x : Operand} {x' : Opd} (ho : o.op = .range t x) (ht : E.P.underlying t = some .string) (hx : opd x = some x')
    (h : xop E (.rng x') e C.L K) : Good E C a o K := by
  have hxv := he x x' hx
  simp only [xop] at h
  generalize hxe : a.eval x = xv at hxv
  generalize e x' = ex at *
  split at h
  · rename_i s
    cases hxv
    have hu : (underlying t).run E.P C.w = .ok .string C.w := by simp [underlying, ht]
    refine good_value (s := Instr.range t (a.eval x)) (v := .pointer (some ⟨C.w.heap.size, 0, none⟩)) (w' := pushW C.w (.stringIter ⟨s.toArray⟩ 0)) (by unfold execOp; rw [ho]) ?_ ?_
    · rw [hxe]
      unfold Instr.range
      rw [Sem.run_bind, hu]
      rfl
    · refine ⟨.ptr C.L.length 0 0, layAt C.L C.L.length (.siter s 0), newφ C C.L.length 0, by rw [layAt_end]; exact h, new_wf (o := .stringIter ⟨s.toArray⟩ 0) (.inl rfl) wf sim, new_sim (o := .stringIter ⟨s.toArray⟩ 0) (.inl rfl) sim ?_, new_ext (.inl rfl) (.stringIter ⟨s.toArray⟩ 0) (.siter s 0) 0, vr_new_ptr (.inl rfl)⟩
      exact ⟨by simp [newC, newφ], by simp only [newC, newφ, if_true]; exact heap_push_eq⟩
  · exact h.elim

theorem good_nxt (wf : Wf E.g0 C) (sim : Sim C) (he : Opds C a e) {x : Operand} {x' : Opd} (ho : o.op = .next x true) (hx : opd x = some x')
    (h : xop E (.nxt x') e C.L K) : Good E C a o K := by
  have hxv := he x x' hx
  simp only [xop] at h
  generalize hxe : a.eval x = xv at hxv
  generalize e x' = ex at *
  split at h
  · rename_i s
    split at h
    · rename_i str pos hL
      obtain ⟨hb, hh⟩ := sim s _ hL
      have hptr : xv = .pointer (some ⟨(C.φ s).blk, 0, none⟩) := by
        cases hxv with
        | ptr _ _ _ hs => rw [hb]; simp
      have hne : ∀ c e fr, Obj.stringIter ⟨str.toArray⟩ pos ≠ .cells c e fr := fun _ _ _ h => by cases h
      have hsz : (ByteArray.mk str.toArray).size = str.length := by simp [ByteArray.size]
      have hrun : (Instr.next xv true o.type).run E.P C.w = if pos < str.length then .ok (.tuple #[.bool true, .int .i64 pos, .int .i32 (Utf8.decode ⟨str.toArray⟩ pos).1]) (setW C.w (C.φ s).blk (.stringIter ⟨str.toArray⟩ (pos + (Utf8.decode ⟨str.toArray⟩ pos).2)))
          else .ok (.tuple #[.bool false]) C.w := by
        subst hptr
        unfold Instr.next
        simp only
        rw [Sem.run_bind, run_getObj' hh hne]
        simp only [Result.andThen_ok, hsz]
        by_cases hp : pos < str.length
        · rw [if_pos hp, if_pos hp]
          rw [Sem.run_bind, run_setObj' _ hh hne]
          rfl
        · rw [if_neg hp, if_neg hp]; rfl
      have hvb : ∀ b, VR C (.tup [.bool b]) (.tuple #[.bool b]) := fun b => .tup [.bool b] [.bool b] rfl (fun i x hi => by
        cases i with
        | zero => simp at hi; subst hi; exact .bool b
        | succ i => simp at hi)
      split at h
      · rename_i hp
        rw [if_pos hp] at hrun
        refine good_value (s := Instr.next (a.eval x) true o.type) (by unfold execOp; rw [ho]) (by rw [hxe]; exact hrun) ?_
        refine ⟨_, _, C.φ, h, set_wf (o := .stringIter ⟨str.toArray⟩ (pos + (Utf8.decode ⟨str.toArray⟩ pos).2)) wf hL rfl, set_sim' wf sim hL rfl hh hne ?_, set_ext' hL rfl hh hne, ?_⟩
        · exact ⟨hb, heap_set_eq (Array.getElem?_eq_some_iff.1 hh).1⟩
        · refine .tup _ [.bool true, .int .i64 pos, .int .i32 (Utf8.decode ⟨str.toArray⟩ pos).1] rfl (fun i x hi => ?_)
          match i, hi with
          | 0, hi => simp at hi; subst hi; exact .bool true
          | 1, hi => simp at hi; subst hi; exact .int _ _
          | 2, hi => simp at hi; subst hi; exact .int _ _
      · rename_i hp
        rw [if_neg hp] at hrun
        exact good_value (s := Instr.next (a.eval x) true o.type) (by unfold execOp; rw [ho]) (by rw [hxe]; exact hrun) (post_same wf sim (hvb false) h)
    · exact h.elim
  · exact h.elim
end
end Go.X
end
