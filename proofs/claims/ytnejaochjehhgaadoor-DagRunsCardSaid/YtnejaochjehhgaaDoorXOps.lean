/- The calculus X, part 7: each operation does what its short form says. -/
import Derived.Test.YtnejaochjehhgaaDoorXCall
import Derived.Test.YtnejaochjehhgaaDoorXComp
import Derived.Laws.AppendOwn
import Derived.Laws.Strings
import Derived.Laws.Concat
import Derived.Laws.Cover1
import Derived.Laws.Build
import Derived.WalkSpells
set_option linter.unusedVariables false
set_option linter.unusedSimpArgs false
set_option linter.unusedSectionVars false
namespace Go.X
open Go

def Does (P : Program) (o : Oper) (a : Act) (w : World) (R : Value → World → Prop) : Prop :=
  (∃ v w', (execOp a.eval o).run P w = .ok (.value v) w' ∧ R v w') ∨ (∃ w', (execOp a.eval o).run P w = .ok .skip w' ∧ R undef w') ∨
  (∃ f args w', (execOp a.eval o).run P w = .ok (.enter f args) w' ∧ Calls P f args w' fun e w'' => ∃ v, e = .returned v ∧ R v w'') ∨
  (∃ l fn tmps asg body w', (execOp a.eval o).run P w = .ok (.round l fn tmps asg body) w' ∧ ∀ F, FOk F → RoundIn F 0 P l fn tmps asg body w' fun e w'' => ∃ v, e = .returned v ∧ R v w'')

theorem vr_ofVal {C : Ctx} {v : Value} {x : IV} (h : ofVal v = some x) : VR C x v := by
  unfold ofVal at h
  split at h
  · cases h; exact .bool _
  · cases h; exact .int _ _
  · cases h; exact .str _
  · cases h; exact .nsl
  · split at h
    · rename_i vs h0
      cases h
      have : vs = #[] := Array.eq_empty_of_size_eq_zero h0
      subst this; exact .und
    · cases h
  · cases h
  · rename_i h1 h2 h3 h4 h5 h6
    cases h
    refine .raw _ ?_
    cases v <;> first | rfl | exact absurd rfl (h6 _)

/-- What the operands say. -/
def Opds (C : Ctx) (a : Act) (e : Opd → IV) : Prop := ∀ p q, opd p = some q → VR C (e q) (a.eval p)

theorem opds_of {C : Ctx} {a : Act} {ρ : Rho} (h : ∀ n, VR C (ρ n) (a.tmps.getD n undef)) : Opds C a (Opd.ev ρ) := by
  intro p q hq
  cases p with
  | tmp t => cases hq; exact h t
  | const v => simp only [opd, Option.map_eq_some_iff] at hq; obtain ⟨x, hx, rfl⟩ := hq; exact vr_ofVal hx
  | global g => cases hq; exact .raw _ rfl
  | func f => cases hq; exact .fn _ [] [] [] [] rfl rfl (fun i x hi => by simp at hi) (fun i x hi => by simp at hi)

theorem isCell_one {C : Ctx} {x : IV} {v : Value} (h : VR C x v) (hc : isCell x = true) : v.oneCell' = true := by
  cases h with
  | raw v h => cases v <;> first | rfl | cases hc
  | agg => cases hc
  | tup => cases hc
  | und => cases hc
  | _ => rfl

section
variable {E : Env} {C : Ctx} {a : Act} {e : Opd → IV} {o : Oper} {K : IV → List Blk → Prop}

/-- What is to be shown of an operation. -/
abbrev Good (E : Env) (C : Ctx) (a : Act) (o : Oper) (K : IV → List Blk → Prop) : Prop := Does E.P o a C.w (Post E C K)

/-- .. of one that reads alone. -/
def PostP (C : Ctx) (K : IV → List Blk → Prop) (v : Value) (w' : World) : Prop := w' = C.w ∧ ∃ r, VR C r v ∧ K r C.L
def PureG (E : Env) (C : Ctx) (a : Act) (o : Oper) (K : IV → List Blk → Prop) : Prop := ∃ v r, (execOp a.eval o).run E.P C.w = .ok (.value v) C.w ∧ VR C r v ∧ K r C.L
theorem psame {r : IV} {v : Value} (hv : VR C r v) (h : K r C.L) : PostP C K v C.w := ⟨rfl, r, hv, h⟩
theorem pure_mk (h : ∃ v w', (execOp a.eval o).run E.P C.w = .ok (.value v) w' ∧ PostP C K v w') : PureG E C a o K := by
  obtain ⟨v, w', h1, rfl, r, h2, h3⟩ := h
  exact ⟨v, r, h1, h2, h3⟩
theorem pure_value {s : Sem Value} {v : Value} {w' : World} (h1 : execOp a.eval o = (do pure (Next.value (← s)))) (h2 : s.run E.P C.w = .ok v w') (h : PostP C K v w') : PureG E C a o K :=
  pure_mk ⟨v, w', by rw [h1, Sem.run_bind, h2]; rfl, h⟩
theorem PureG.good (h : PureG E C a o K) (wf : Wf E.g0 C) (sim : Sim C) : Good E C a o K := by
  obtain ⟨v, r, h1, h2, h3⟩ := h
  exact .inl ⟨v, C.w, h1, post_same wf sim h2 h3⟩
theorem good_value {s : Sem Value} {v : Value} {w' : World} (h1 : execOp a.eval o = (do pure (Next.value (← s)))) (h2 : s.run E.P C.w = .ok v w') (h : Post E C K v w') : Good E C a o K :=
  .inl ⟨v, w', by rw [h1, Sem.run_bind, h2]; rfl, h⟩
theorem good_unit {s : Sem Unit} {w' : World} (h1 : execOp a.eval o = (do s; pure Next.skip)) (h2 : s.run E.P C.w = .ok () w') (h : Post E C K undef w') : Good E C a o K :=
  .inr (.inl ⟨w', by rw [h1, Sem.run_bind, h2]; rfl, h⟩)

theorem good_move (sim : Sim C) (he : Opds C a e) {x : Operand} {q : Opd} (ho : o.op = .move x ∨ o.op = .assign x) (hq : opd x = some q) (h : K (e q) C.L) : PureG E C a o K := by
  refine pure_mk ⟨a.eval x, C.w, ?_, psame (he x q hq) h⟩
  rcases ho with ho | ho <;> (unfold execOp; rw [ho]; rfl)

theorem good_pick (sim : Sim C) (he : Opds C a e) {c x y : Operand} {c' x' y' : Opd} (ho : o.op = .pick c x y) (hc : opd c = some c') (hx : opd x = some x') (hy : opd y = some y')
    {t : Bool} (ht : e c' = .bool t) (h : K (if t then e x' else e y') C.L) : PureG E C a o K := by
  have h1 := he c c' hc
  rw [ht] at h1
  generalize hcv : a.eval c = cv at h1
  cases h1
  refine pure_mk ⟨if t then a.eval x else a.eval y, C.w, ?_, psame ?_ h⟩
  · unfold execOp; rw [ho]; simp only [hcv]
    cases t <;> rfl
  · cases t
    · exact he y y' hy
    · exact he x x' hx

theorem zeroCells_spec {P : Program} {t : TypeId} {z : List IV} (h : zeroCells P t = some z) :
    ∃ i v, P.info? t = some i ∧ i.zero = some v ∧ z.length = v.cells.size ∧ ∀ (C : Ctx) (j : Nat) (x : IV), z[j]? = some x → ∃ u, v.cells[j]? = some u ∧ VR C x u := by
  unfold zeroCells at h
  rw [Option.bind_eq_some_iff] at h
  obtain ⟨i, hi, h⟩ := h
  rw [Option.bind_eq_some_iff] at h
  obtain ⟨v, hv, h⟩ := h
  refine ⟨i, v, hi, hv, by simpa using mapO_len h, fun C j x hx => ?_⟩
  obtain ⟨u, h1, h2⟩ := mapO_get h j x hx
  exact ⟨u, by simpa using h1, vr_ofVal h2⟩

theorem run_zeroValue {P : Program} {t : TypeId} {i : TypeInfo} {v : Value} (h1 : P.info? t = some i) (h2 : i.zero = some v) (w : World) : (zeroValue t).run P w = .ok v w := by
  simp [zeroValue, typeInfo, h1, h2]

theorem run_sizeOf' {P : Program} {t : TypeId} {n : Nat} (h : sizeT P t = some n) (w : World) : (sizeOf t).run P w = .ok n w := by
  unfold sizeT at h
  rw [Option.map_eq_some_iff] at h
  obtain ⟨i, h1, rfl⟩ := h
  simp [sizeOf, typeInfo, h1]

theorem run_isAgg {P : Program} {t : TypeId} {b : Bool} (h : isAggT P t = some b) (w : World) : (isAgg t).run P w = .ok b w := by
  unfold isAggT at h
  unfold isAgg
  have hu : ∀ d, P.underlying t = some d → (underlying t).run P w = .ok d w := fun d hd => by simp [underlying, hd]
  split at h <;> rename_i hd <;> first
    | (cases h; rw [Sem.run_bind, hu _ hd]; rfl)
    | skip
  · rename_i _ d h1 h2
    cases h
    rw [Sem.run_bind, hu _ hd]
    cases d <;> first | rfl | exact absurd rfl (h1 _) | exact absurd rfl (h2 _ _)
  · cases h

theorem flat_zero {z : List IV} {v : Value} {C : Ctx} (hl : z.length = v.cells.size) (h : ∀ (j : Nat) (x : IV), z[j]? = some x → ∃ u, v.cells[j]? = some u ∧ VR C x u) :
    Flat C v.cells 0 z.length [z] := by
  refine ⟨by simp [hl], fun i row hi => ?_⟩
  cases i with
  | zero => simp at hi; subst hi; exact ⟨rfl, fun j y hj => by simpa using h j y hj⟩
  | succ i => simp at hi

theorem good_alloc (wf : Wf E.g0 C) (sim : Sim C) {t : TypeId} {z : List IV} (ho : o.op = .alloc t) (hz : zeroCells E.P t = some z)
    (h : K (.ptr C.L.length 0 0) (C.L ++ [.cells z.length [z]])) : Good E C a o K := by
  obtain ⟨i, v, h1, h2, h3, h4⟩ := zeroCells_spec hz
  refine good_value (s := Instr.alloc t true (.tuple #[])) (v := .pointer (some ⟨C.w.heap.size, 0, none⟩)) (w' := pushW C.w (.cells v.cells t)) (by unfold execOp; rw [ho]) ?_ (new_post wf sim (flat_zero h3 (h4 C)) vr_new_ptr h)
  unfold Instr.alloc
  rw [Sem.run_bind, run_zeroValue h1 h2]
  rfl

theorem good_box (wf : Wf E.g0 C) (sim : Sim C) (he : Opds C a e) {t : TypeId} {x : Operand} {q : Opd} (ho : o.op = .box t x) (hq : opd x = some q)
    (h : K (.ptr C.L.length 0 0) (C.L ++ [.cells (cellsOf (e q)).length [cellsOf (e q)]])) : Good E C a o K :=
  good_value (s := Instr.box t (a.eval x)) (v := .pointer (some ⟨C.w.heap.size, 0, none⟩)) (w' := pushW C.w (.cells (a.eval x).cells t)) (by unfold execOp; rw [ho]) rfl
    (new_post wf sim (flat_one (he x q hq)) vr_new_ptr h)

/-- A pointer that we may follow: the cells behind it. -/
theorem rowsAt_cells (sim : Sim C) (hG : E.G C.w) {x : IV} {v : Value} (hv : VR C x v) {rows : List (List IV)} {r off : Nat} (h : rowsAt E.gl C.L x = some (rows, r, off)) (hr : r < rows.length) :
    ∃ b k, v = .pointer (some ⟨b, k, none⟩) ∧ ∀ (j : Nat) (y : IV), (rows.getD r [])[off + j]? = some y → ∃ u, C.w.cell? ⟨b, k + j, none⟩ = some u ∧ VR C y u := by
  have hrow : rows[r]? = some (rows.getD r []) := by simp [List.getD, List.getElem?_eq_getElem hr]
  cases hv with
  | ptr s r' o' hs =>
    simp only [rowsAt] at h
    split at h
    · rename_i sz rows' hL
      simp only [Option.some.injEq, Prod.mk.injEq] at h
      obtain ⟨rfl, rfl, rfl⟩ := h
      obtain ⟨h1, c, ty, h2, h3, h4⟩ := sim s _ hL
      refine ⟨_, _, rfl, fun j y hj => ?_⟩
      obtain ⟨u, h5, h6⟩ := (h4 _ _ hrow).2 _ y hj
      refine ⟨u, ?_, h6⟩
      rw [h1]
      simp only [World.cell?, h2]
      simpa [Nat.add_assoc] using h5
    · cases h
  | iptr rows' r' o' b base sz vals hsz hcl hb hown ha hv =>
    simp only [rowsAt, Option.some.injEq, Prod.mk.injEq] at h
    obtain ⟨rfl, rfl, rfl⟩ := h
    refine ⟨b, base + r' * sz + o', rfl, fun j y hj => ?_⟩
    refine ⟨vals r' (o' + j), ?_, hv _ _ hrow _ _ hj⟩
    rw [← ha _ _ hrow _ _ hj, Nat.add_assoc]
  | raw v hv =>
    unfold rowsAt at h
    split at h
    · rename_i n o heq
      cases heq
      split at h
      · rename_i cs hcs
        simp only [Option.some.injEq, Prod.mk.injEq] at h
        obtain ⟨rfl, rfl, rfl⟩ := h
        refine ⟨n, o, rfl, fun j y hj => ?_⟩
        obtain ⟨u, h1, h2⟩ := E.hgl C.w n cs hG hcs (o + j) y hj
        exact ⟨u, h1, h2 C⟩
      · cases h
    · rename_i heq; cases heq
    · rename_i heq; cases heq
    · cases h
  | _ => cases h

theorem getD_getL {α : Type} {l : List α} {i : Nat} {x d : α} (h : l[i]? = some x) : l.getD i d = x := by
  rw [List.getD_eq_getElem?_getD, h]; rfl
theorem getD_get {α : Type} {l : List α} {i : Nat} {d : α} (h : i < l.length) : l[i]? = some (l.getD i d) := by simp [List.getD, List.getElem?_eq_getElem h]

theorem good_load1 (sim : Sim C) (hG : E.G C.w) (he : Opds C a e) {t : TypeId} {x : Operand} {q : Opd} (ho : o.op = .load t x) (hq : opd x = some q) (hg : isAggT E.P t = some false)
    {rows : List (List IV)} {r off : Nat} (h : rowsAt E.gl C.L (e q) = some (rows, r, off)) (hr : r < rows.length) (hoff : off < (rows.getD r []).length)
    (hK : K ((rows.getD r []).getD off .und) C.L) : PureG E C a o K := by
  obtain ⟨b, k, hv, hc⟩ := rowsAt_cells sim hG (he x q hq) h hr
  obtain ⟨u, h1, h2⟩ := hc 0 _ (getD_get (d := .und) (by simpa using hoff))
  refine pure_value (s := Instr.loadAt t (a.eval x)) (v := u) (w' := C.w) (by unfold execOp; rw [ho]) ?_ (psame h2 (by simpa using hK))
  rw [hv]
  unfold Instr.loadAt loadVar
  rw [Sem.run_bind]
  simp only [Instr.sureAddr, Sem.run_pure, Result.andThen_ok]
  rw [Sem.run_bind, run_isAgg hg]
  simp only [Result.andThen_ok, Bool.false_eq_true, if_false, run_load]
  simp only [Nat.add_zero] at h1
  rw [h1]

theorem good_loadN (sim : Sim C) (hG : E.G C.w) (he : Opds C a e) {t : TypeId} {x : Operand} {q : Opd} {n : Nat} (ho : o.op = .load t x) (hq : opd x = some q) (hg : isAggT E.P t = some true) (hn : sizeT E.P t = some n)
    {rows : List (List IV)} {r off : Nat} (h : rowsAt E.gl C.L (e q) = some (rows, r, off)) (hr : r < rows.length) (hoff : off + n ≤ (rows.getD r []).length)
    (hK : K (.agg (((rows.getD r []).drop off).take n)) C.L) : PureG E C a o K := by
  obtain ⟨b, k, hv, hc⟩ := rowsAt_cells sim hG (he x q hq) h hr
  have hc' : ∀ j, j < n → ∃ u, C.w.cell? ⟨b, k + j, none⟩ = some u ∧ VR C ((rows.getD r []).getD (off + j) .und) u := fun j hj => hc j _ (getD_get (by omega))
  let f : Nat → Value := fun j => if hj : j < n then (hc' j hj).choose else undef
  have hf : ∀ j, j < n → C.w.cell? ⟨b, k + j, none⟩ = some (f j) ∧ VR C ((rows.getD r []).getD (off + j) .und) (f j) := fun j hj => by
    simp only [f, hj, dif_pos]; exact (hc' j hj).choose_spec
  refine pure_value (s := Instr.loadAt t (a.eval x)) (v := .agg ((List.range n).map f).toArray) (w' := C.w) (by unfold execOp; rw [ho]) ?_ (psame ?_ hK)
  · rw [hv]
    unfold Instr.loadAt loadVar
    rw [Sem.run_bind]
    simp only [Instr.sureAddr, Sem.run_pure, Result.andThen_ok]
    rw [Sem.run_bind, run_isAgg hg]
    simp only [Result.andThen_ok, if_true]
    rw [Sem.run_bind, run_sizeOf' hn]
    simp only [Result.andThen_ok]
    rw [Sem.run_bind, run_loadCells C.w _ n f (fun j hj => by
      have : (⟨b, k, none⟩ : Addr).add j = ⟨b, k + j, none⟩ := by unfold Addr.add; split <;> simp_all
      rw [this]; exact (hf j hj).1)]
    rfl
  · refine .agg _ _ (by rw [List.length_take, List.length_drop, List.length_map, List.length_range]; omega) fun i y hi => ?_
    rw [List.getElem?_take] at hi
    split at hi
    · rename_i hlt
      rw [List.getElem?_drop] at hi
      have hin : i < n := hlt
      have h1 := (hf i hin).2
      have hy : (rows.getD r []).getD (off + i) .und = y := getD_getL hi
      rw [hy] at h1
      simpa [List.getD, hin] using h1
    · cases hi

end
end Go.X
