/- The calculus X, part 12: each operation does what its short form says (4): what only reads; calls; all together. -/
import Derived.Test.YtnejaochjehhgaaDoorXOps5
set_option linter.unusedVariables false
set_option linter.unusedSimpArgs false
set_option linter.unusedSectionVars false
namespace Go.X
open Go

section
variable {E : Env} {C : Ctx} {a : Act} {e : Opd → IV} {o : Oper} {K : IV → List Blk → Prop}

theorem eqGuard_int (P : Program) (op : BinOp) (t : TypeId) (x y : Operand) (v u : Value) (w : World) (h : match v with | .int _ _ | .bool _ | .string _ => True | _ => False) :
    (eqGuard op t x y v u).run P w = .ok () w := by
  cases v <;> first
    | exact h.elim
    | (rw [eqGuard_at_int]; rfl)
    | (rw [eqGuard_at_bool]; rfl)
    | (rw [eqGuard_at_string]; rfl)

theorem good_bin' (sim : Sim C) {op : BinOp} {t ty : TypeId} {x y : Operand} (ho : o.op = .binOp op t x y ty) {r : IV} {v : Value}
    (hg : match a.eval x with | .int _ _ | .bool _ | .string _ => True | _ => False) (hr : (binOp op t (a.eval x) (a.eval y)).run E.P C.w = .ok v C.w) (hv : VR C r v) (hK : K r C.L) : PureG E C a o K := by
  refine pure_value (s := do eqGuard op t x y (a.eval x) (a.eval y); binOp op t (a.eval x) (a.eval y)) (v := v) (w' := C.w) (by unfold execOp; rw [ho]) ?_ (psame hv hK)
  rw [Sem.run_bind, eqGuard_int _ _ _ _ _ _ _ _ hg]
  exact hr

theorem beq_dec {α : Type} [DecidableEq α] (a b : α) : (a == b) = decide (a = b) := rfl
theorem beqL {a b : List UInt8} : (a == b) = decide (a = b) := by
  by_cases h : a = b
  · subst h; simp
  · simp [h]
theorem beqI {a b : Int} : (a == b) = decide (a = b) := rfl
theorem beqB {a b : Bool} : (a == b) = decide (a = b) := by cases a <;> cases b <;> rfl

theorem run_eql_bool {P : Program} {t : TypeId} (ht : P.underlying t = some .bool) (a b : Bool) (w : World) : (binOp .eql t (.bool a) (.bool b)).run P w = .ok (.bool (decide (a = b))) w := by
  have hu : (underlying t).run P w = .ok .bool w := by simp [underlying, ht]
  have : binOp .eql t (.bool a) (.bool b) = (do pure (.bool (← Op.equal t (.bool a) (.bool b)))) := by simp [binOp]
  rw [this, Sem.run_bind]
  unfold Op.equal Op.maxDepth Op.equalIn
  rw [Sem.run_bind, hu]
  simp only [Result.andThen_ok, Sem.run_pure, beqB]
theorem run_neq_bool {P : Program} {t : TypeId} (ht : P.underlying t = some .bool) (a b : Bool) (w : World) : (binOp .neq t (.bool a) (.bool b)).run P w = .ok (.bool (!decide (a = b))) w := by
  have hu : (underlying t).run P w = .ok .bool w := by simp [underlying, ht]
  have : binOp .neq t (.bool a) (.bool b) = (do pure (.bool (!(← Op.equal t (.bool a) (.bool b))))) := by simp [binOp]
  rw [this, Sem.run_bind]
  unfold Op.equal Op.maxDepth Op.equalIn
  rw [Sem.run_bind, hu]
  simp only [Result.andThen_ok, Sem.run_pure, beqB]

theorem good_bin (sim : Sim C) (he : Opds C a e) {op : BinOp} {t ty : TypeId} {x y : Operand} {x' y' : Opd} (ho : o.op = .binOp op t x y ty) (ht : eqType E.P op t = true)
    (hx : opd x = some x') (hy : opd y = some y') (h : xbin op (e x') (e y') fun v => K v C.L) : PureG E C a o K := by
  have hxv := he x x' hx
  have hyv := he y y' hy
  generalize hxe : a.eval x = xv at hxv
  generalize hye : a.eval y = yv at hyv
  generalize e x' = ex at *
  generalize e y' = ey at *
  unfold xbin at h
  split at h
  case h_24 => exact h.elim
  all_goals (cases hxv; cases hyv)
  case h_1 =>
    obtain ⟨h1, h2⟩ := h
    refine good_bin' sim ho (by rw [hxe]; trivial) (v := .int _ _) ?_ (.int _ _) h2
    rw [hxe, hye, binOp_shl]
    unfold Op.shift
    rw [if_neg (by omega)]
    rfl
  case h_2 =>
    obtain ⟨h1, h2⟩ := h
    refine good_bin' sim ho (by rw [hxe]; trivial) (v := .int _ _) ?_ (.int _ _) h2
    rw [hxe, hye, binOp_shr]
    unfold Op.shift
    rw [if_neg (by omega)]
    rfl
  case h_6 =>
    obtain ⟨rfl, h1, h2⟩ := h
    refine good_bin' sim ho (by rw [hxe]; trivial) (v := .int _ _) ?_ (.int _ _) h2
    rw [hxe, hye, binOp_quo]
    unfold Op.intDiv
    rw [if_neg h1]
    rfl
  case h_7 =>
    obtain ⟨rfl, h1, h2⟩ := h
    refine good_bin' sim ho (by rw [hxe]; trivial) (v := .int _ _) ?_ (.int _ _) h2
    rw [hxe, hye, binOp_rem]
    unfold Op.intDiv
    rw [if_neg h1]
    rfl
  case h_17 =>
    obtain ⟨h1, h2⟩ := h
    refine good_bin' sim ho (by rw [hxe]; trivial) (v := .string _) ?_ (.str _) h2
    rw [hxe, hye, binOp_string_add, run_string_add_sum _ _ _ (by simpa [ByteArray.size] using h1)]
    congr 2
  case h_18 => exact good_bin' sim ho (by rw [hxe]; trivial) (v := .bool _) (by rw [hxe, hye, binOp_string_eql, ByteArray.toList_mk, ByteArray.toList_mk, beqL]; rfl) (.bool _) h
  case h_19 => exact good_bin' sim ho (by rw [hxe]; trivial) (v := .bool _) (by rw [hxe, hye, binOp_string_neq, ByteArray.toList_mk, ByteArray.toList_mk, beqL]; rfl) (.bool _) h
  case h_20 => exact good_bin' sim ho (by rw [hxe]; trivial) (v := .bool _) (by rw [hxe, hye, binOp_string_lss, ByteArray.toList_mk, ByteArray.toList_mk]; rfl) (.bool _) h
  case h_21 => exact good_bin' sim ho (by rw [hxe]; trivial) (v := .bool _) (by rw [hxe, hye, binOp_string_geq, ByteArray.toList_mk, ByteArray.toList_mk]; rfl) (.bool _) h
  case h_22 => exact good_bin' sim ho (by rw [hxe]; trivial) (v := .bool _) (by rw [hxe, hye, binOp_string_gtr, ByteArray.toList_mk, ByteArray.toList_mk, beqL]; rfl) (.bool _) h
  case h_23 => exact good_bin' sim ho (by rw [hxe]; trivial) (v := .bool _) (by rw [hxe, hye, binOp_string_leq, ByteArray.toList_mk, ByteArray.toList_mk, beqL]; rfl) (.bool _) h
  all_goals (obtain ⟨rfl, h2⟩ := h)
  case h_3 => exact good_bin' sim ho (by rw [hxe]; trivial) (v := .int _ _) (by rw [hxe, hye, binOp_add]; rfl) (.int _ _) h2
  case h_4 => exact good_bin' sim ho (by rw [hxe]; trivial) (v := .int _ _) (by rw [hxe, hye, binOp_sub]; rfl) (.int _ _) h2
  case h_5 => exact good_bin' sim ho (by rw [hxe]; trivial) (v := .int _ _) (by rw [hxe, hye, binOp_mul]; rfl) (.int _ _) h2
  case h_8 => exact good_bin' sim ho (by rw [hxe]; trivial) (v := .int _ _) (by rw [hxe, hye, binOp_and]; rfl) (.int _ _) h2
  case h_9 => exact good_bin' sim ho (by rw [hxe]; trivial) (v := .int _ _) (by rw [hxe, hye, binOp_or]; rfl) (.int _ _) h2
  case h_10 => exact good_bin' sim ho (by rw [hxe]; trivial) (v := .int _ _) (by rw [hxe, hye, binOp_xor]; rfl) (.int _ _) h2
  all_goals (refine good_bin' sim ho (by rw [hxe]; trivial) (v := .bool _) ?_ (.bool _) h2; rw [hxe, hye])
  case h_11 => rw [binOp_eql]; rfl
  case h_12 => rw [binOp_neq]; rfl
  case h_13 => rw [binOp_lss]; rfl
  case h_14 => rw [binOp_leq]; rfl
  case h_15 => rw [binOp_gtr]; rfl
  case h_16 => rw [binOp_geq]; rfl

theorem good_eqB (sim : Sim C) (he : Opds C a e) {op : BinOp} {t ty : TypeId} {x y : Operand} {x' y' : Opd} {neg : Bool} (ho : o.op = .binOp op t x y ty) (hop : op = if neg then .neq else .eql) (ht : E.P.underlying t = some .bool)
    (hx : opd x = some x') (hy : opd y = some y') (h : xop E (.eqB neg x' y') e C.L K) : PureG E C a o K := by
  have hxv := he x x' hx
  have hyv := he y y' hy
  generalize hxe : a.eval x = xv at hxv
  generalize hye : a.eval y = yv at hyv
  simp only [xop] at h
  generalize e x' = ex at *
  generalize e y' = ey at *
  split at h
  · cases hxv; cases hyv
    cases neg
    · subst hop
      exact good_bin' sim ho (by rw [hxe]; trivial) (v := .bool _) (by rw [hxe, hye]; exact run_eql_bool ht _ _ _) (.bool _) h
    · subst hop
      exact good_bin' sim ho (by rw [hxe]; trivial) (v := .bool _) (by rw [hxe, hye]; exact run_neq_bool ht _ _ _) (.bool _) h
  · exact h.elim

theorem good_un (sim : Sim C) (he : Opds C a e) {op : UnOp} {t : TypeId} {x : Operand} {x' : Opd} (ho : o.op = .unOp op t x) (hx : opd x = some x') (h : xun op (e x') fun v => K v C.L) : PureG E C a o K := by
  have hxv := he x x' hx
  generalize hxe : a.eval x = xv at hxv
  generalize e x' = ex at *
  unfold xun at h
  split at h
  · cases hxv; exact pure_value (s := Op.unary .not (a.eval x)) (by unfold execOp; rw [ho]) (by rw [hxe]; rfl) (psame (.bool _) h)
  · cases hxv; exact pure_value (s := Op.unary .neg (a.eval x)) (by unfold execOp; rw [ho]) (by rw [hxe]; rfl) (psame (.int _ _) h)
  · cases hxv; exact pure_value (s := Op.unary .xor (a.eval x)) (by unfold execOp; rw [ho]) (by rw [hxe]; rfl) (psame (.int _ _) h)
  · exact h.elim

theorem run_und {P : Program} {t : TypeId} {d : TypeDesc} (h : P.underlying t = some d) (w : World) : (underlying t).run P w = .ok d w := by simp [underlying, h]

theorem good_cvInt (sim : Sim C) (he : Opds C a e) {s d : TypeId} {x : Operand} {x' : Opd} {k k0 : IntKind} (ho : o.op = .convert s d x) (hs : E.P.underlying s = some (.int k0)) (hd : E.P.underlying d = some (.int k))
    (hx : opd x = some x') {k1 : IntKind} {n : Int} (h1 : e x' = .int k1 n) (h : K (.int k (k.wrap n)) C.L) : PureG E C a o K := by
  have hxv := he x x' hx
  rw [h1] at hxv
  generalize hxe : a.eval x = xv at hxv
  cases hxv
  refine pure_value (s := convert s d (a.eval x)) (by unfold execOp; rw [ho]) (v := .int k (k.wrap n)) (w' := C.w) ?_ (psame (.int _ _) h)
  rw [hxe]
  unfold convert
  rw [Sem.run_bind, run_und hs]
  simp only [Result.andThen_ok]
  rw [Sem.run_bind, run_und hd]
  rfl

theorem good_cvIntStr (sim : Sim C) (he : Opds C a e) {s d : TypeId} {x : Operand} {x' : Opd} {k0 : IntKind} (ho : o.op = .convert s d x) (hs : E.P.underlying s = some (.int k0)) (hd : E.P.underlying d = some .string)
    (hx : opd x = some x') {k1 : IntKind} {n : Int} (h1 : e x' = .int k1 n) (h : K (.str (Utf8.encode n).data.toList) C.L) : PureG E C a o K := by
  have hxv := he x x' hx
  rw [h1] at hxv
  generalize hxe : a.eval x = xv at hxv
  cases hxv
  refine pure_value (s := convert s d (a.eval x)) (by unfold execOp; rw [ho]) (v := .string (Utf8.encode n)) (w' := C.w) ?_ (psame (.str _) h)
  rw [hxe]
  unfold convert
  rw [Sem.run_bind, run_und hs]
  simp only [Result.andThen_ok]
  rw [Sem.run_bind, run_und hd]
  rfl

theorem good_cvStr (sim : Sim C) (he : Opds C a e) {s d : TypeId} {x : Operand} {x' : Opd} (ho : o.op = .convert s d x) (hs : E.P.underlying s = some .string) (hd : E.P.underlying d = some .string)
    (hx : opd x = some x') {l : List UInt8} (h1 : e x' = .str l) (h : K (.str l) C.L) : PureG E C a o K := by
  have hxv := he x x' hx
  rw [h1] at hxv
  generalize hxe : a.eval x = xv at hxv
  cases hxv
  refine pure_value (s := convert s d (a.eval x)) (by unfold execOp; rw [ho]) (v := .string ⟨l.toArray⟩) (w' := C.w) ?_ (psame (.str _) h)
  rw [hxe]
  unfold convert
  rw [Sem.run_bind, run_und hs]
  simp only [Result.andThen_ok]
  rw [Sem.run_bind, run_und hd]
  rfl

theorem add_ptr (b k n : Nat) : (⟨b, k, none⟩ : Addr).add n = ⟨b, k + n, none⟩ := by unfold Addr.add; split <;> simp_all

theorem good_fldA (sim : Sim C) (he : Opds C a e) {s : TypeId} {x : Operand} {x' : Opd} {f : Nat} {fs : Array Field} {g : Field} {n : Nat} (ho : o.op = .fieldAddr s x f) (hs : E.P.underlying s = some (.struct fs)) (hg : fs[f]? = some g)
    (hn : sizeT E.P g.type = some n) (hn0 : n ≠ 0) (hx : opd x = some x')
    (h : xop E (.fldA g.offset x') e C.L K) : PureG E C a o K := by
  have hxv := he x x' hx
  generalize hxe : a.eval x = xv at hxv
  have hrun : ∀ b k, xv = .pointer (some ⟨b, k, none⟩) → (Instr.fieldAt s (a.eval x) f).run E.P C.w = .ok (.pointer (some ⟨b, k + g.offset, none⟩)) C.w := by
    rintro b k rfl
    rw [hxe]
    unfold Instr.fieldAt
    rw [Sem.run_bind, run_und hs]
    simp only [Result.andThen_ok, hg]
    rw [Sem.run_bind]
    simp only [Instr.sureAddr, Sem.run_pure, Result.andThen_ok]
    rw [Sem.run_bind]
    unfold fieldPlace
    rw [Sem.run_bind, run_sizeOf' hn]
    simp only [Result.andThen_ok, hn0, if_false, Sem.run_pure, add_ptr]
  simp only [xop] at h
  generalize e x' = ex at *
  split at h
  · cases hxv with
    | ptr s' r o' hs' =>
      refine pure_value (by unfold execOp; rw [ho]) (hrun _ _ rfl) (psame ?_ h)
      rw [Nat.add_assoc]; exact .ptr _ _ _ hs'
  · cases hxv with
    | iptr rows r o' b base sz vals hsz hcl hb hown ha hv =>
      refine pure_value (by unfold execOp; rw [ho]) (hrun _ _ rfl) (psame ?_ h)
      rw [Nat.add_assoc]; exact .iptr _ _ _ b base sz vals hsz hcl hb hown ha hv
  · rename_i b k
    cases hxv
    exact pure_value (by unfold execOp; rw [ho]) (hrun b k rfl) (psame (.raw _ rfl) h)
  · exact h.elim

theorem good_fld (sim : Sim C) (he : Opds C a e) {s : TypeId} {x : Operand} {x' : Opd} {f : Nat} {fs : Array Field} {g : Field} {n : Nat} {b : Bool} (ho : o.op = .field s x f) (hs : E.P.underlying s = some (.struct fs)) (hg : fs[f]? = some g)
    (hn : sizeT E.P g.type = some n) (hb : isAggT E.P g.type = some b) (hx : opd x = some x')
    (h : xop E (.fld g.offset n b x') e C.L K) : PureG E C a o K := by
  have hxv := he x x' hx
  generalize hxe : a.eval x = xv at hxv
  simp only [xop] at h
  generalize e x' = ex at *
  split at h
  · rename_i cs
    cases hxv with
    | agg _ vs hl hv =>
    obtain ⟨h1, h⟩ := h
    have hrun : ∀ v, (part g.type vs.toArray g.offset).run E.P C.w = .ok v C.w → (Instr.field s (a.eval x) f).run E.P C.w = .ok v C.w := fun v hp => by
      rw [hxe]
      unfold Instr.field
      rw [Sem.run_bind, run_und hs]
      simp only [Result.andThen_ok, hg]
      rw [Sem.run_bind]
      simp only [asAgg, Sem.run_pure, Result.andThen_ok]
      exact hp
    cases b
    · simp only [Bool.false_eq_true, if_false] at h
      have h3 := hv g.offset _ (getD_get (d := .und) h.1)
      refine pure_value (by unfold execOp; rw [ho]) (hrun (vs.getD g.offset undef) ?_) (psame h3 h.2)
      unfold part
      rw [Sem.run_bind, run_isAgg hb]
      simp only [Result.andThen_ok, Bool.false_eq_true, if_false]
      have : vs.toArray[g.offset]? = some (vs.getD g.offset undef) := by rw [List.getElem?_toArray]; exact getD_get (by omega)
      rw [this]; rfl
    · simp only [if_true] at h
      refine pure_value (by unfold execOp; rw [ho]) (hrun (.agg (vs.toArray.extract g.offset (g.offset + n))) ?_) (psame ?_ h)
      · unfold part
        rw [Sem.run_bind, run_isAgg hb]
        simp only [Result.andThen_ok, if_true]
        rw [Sem.run_bind, run_sizeOf' hn]
        rfl
      · have e1 : vs.toArray.extract g.offset (g.offset + n) = ((vs.drop g.offset).take n).toArray := by
          apply Array.ext'; simp
        rw [e1]
        refine .agg _ _ (by simp [hl]) fun i y hi => ?_
        rw [List.getElem?_take] at hi
        split at hi
        · rename_i hlt
          rw [List.getElem?_drop] at hi
          have h4 := hv _ y hi
          have h5 : ((vs.drop g.offset).take n).getD i undef = vs.getD (g.offset + i) undef := by
            rw [List.getD_eq_getElem?_getD, List.getD_eq_getElem?_getD, List.getElem?_take, if_pos hlt, List.getElem?_drop]
          rw [h5]; exact h4
        · cases hi
  · exact h.elim

theorem good_idxS (sim : Sim C) (he : Opds C a e) {t el : TypeId} {x i : Operand} {x' i' : Opd} {n : Nat} (ho : o.op = .indexAddr t x i) (ht : E.P.underlying t = some (.slice el)) (hn : sizeT E.P el = some n)
    (hx : opd x = some x') (hi : opd i = some i') (h : xop E (.idxS n x' i') e C.L K) : PureG E C a o K := by
  have hxv := he x x' hx
  have hiv := he i i' hi
  generalize hxe : a.eval x = xv at hxv
  generalize hie : a.eval i = iv at hiv
  simp only [xop] at h
  generalize e x' = ex at *
  generalize e i' = ei at *
  have hrun : ∀ (b k len cap : Nat) (q : IntKind) (j : Int), xv = .slice (some ⟨b, k, none⟩) len cap → iv = .int q j → 0 ≤ j → j < len →
      (Instr.indexAt t (a.eval x) (a.eval i)).run E.P C.w = .ok (.pointer (some ⟨b, k + j.toNat * n, none⟩)) C.w := by
    rintro b k len cap q j rfl rfl h0 h1
    rw [hxe, hie]
    unfold Instr.indexAt
    simp only [asIntOf, Sem.run_bind, Sem.run_pure, Result.andThen_ok, run_und ht, run_sizeOf' hn, add_ptr]
    rw [if_pos ⟨h0, h1⟩]
    simp only [Sem.run_bind, Sem.run_pure, Result.andThen_ok, run_sizeOf' hn]
  split at h
  · rename_i rows q j
    obtain ⟨hr, h0, h1, h⟩ := h
    cases hiv
    cases hxv with
    | isl _ av cap' sz vals hcap hsz hcl ha hv =>
      rcases ha with ha | ⟨b, k, rfl, hb, hno, hc⟩
      · subst ha; simp at h1; omega
      · have hlt : j.toNat < rows.length := by omega
        have hss : sz = n := by
          have := List.getElem?_eq_getElem hlt
          rw [← hsz _ _ this, hr _ (List.getElem_mem hlt)]
        subst hss
        refine pure_value (by unfold execOp; rw [ho]) (hrun b k _ cap' q j rfl rfl h0 h1) (psame ?_ h)
        exact .iptr rows _ 0 b k sz vals hsz hcl hb hno hc hv
  · rename_i s off len cap q j
    obtain ⟨hz, h0, h1, h⟩ := h
    cases hiv
    cases hxv with
    | sl _ _ _ _ av cap' hs hl hc ha =>
      obtain ⟨rfl, _⟩ := ha.resolve_left (by omega)
      refine pure_value (by unfold execOp; rw [ho]) (hrun _ _ len cap' q j rfl rfl h0 h1) (psame ?_ h)
      unfold szOf at hz
      split at hz
      · rename_i sz rows hL
        obtain rfl : sz = n := by simpa using hz
        have h5 := (sim s _ hL).1
        have h6 := VR.ptr (C := C) s (off + j.toNat) 0 hs
        rw [h5] at h6 ⊢
        rw [Nat.add_mul, Nat.add_zero, ← Nat.add_assoc] at h6
        exact h6
      · cases hz
  · exact h.elim

end
end Go.X
