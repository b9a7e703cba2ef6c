/- The calculus X, part 12b: is it nil? ranges over a string. -/
import Derived.Test.YtnejaochjehhgaaDoorXOps6
set_option linter.unusedVariables false
set_option linter.unusedSimpArgs false
set_option linter.unusedSectionVars false
namespace Go.X
open Go
section
variable {E : Env} {C : Ctx} {a : Act} {e : Opd → IV} {o : Oper} {K : IV → List Blk → Prop}

theorem eq_of_equal {P : Program} {t : TypeId} {v c : Value} {b : Bool} {w : World} (neg : Bool) (x y : Operand) (hg : (eqGuard (if neg then .neq else .eql) t x y v c).run P w = .ok () w)
    (hb : binOp (if neg then .neq else .eql) t v c = (do let r ← Op.equal t v c; pure (.bool (if neg then !r else r)))) (h : (Op.equal t v c).run P w = .ok b w) :
    (do eqGuard (if neg then .neq else .eql) t x y v c; binOp (if neg then .neq else .eql) t v c : Sem Value).run P w = .ok (.bool (if neg then !b else b)) w := by
  rw [Sem.run_bind, hg]
  simp only [Result.andThen_ok]
  rw [hb, Sem.run_bind, h]
  simp only [Result.andThen_ok, Sem.run_pure]

theorem eq_nil_slice {P : Program} {t el : TypeId} (ht : P.underlying t = some (.slice el)) (a : Option Addr) (l k : Nat) (w : World) : (Op.equal t (.slice a l k) (.slice none 0 0)).run P w = .ok a.isNone w := by
  have hu : (underlying t).run P w = .ok (.slice el) w := by simp [underlying, ht]
  unfold Op.equal Op.maxDepth Op.equalIn
  rw [Sem.run_bind, hu]
  cases a <;> rfl
theorem eq_nil_iface {P : Program} {t : TypeId} {ms} (ht : P.underlying t = some (.interface ms)) (w : World) : (Op.equal t .nilIface .nilIface).run P w = .ok true w := by
  have hu : (underlying t).run P w = .ok (.interface ms) w := by simp [underlying, ht]
  unfold Op.equal Op.maxDepth Op.equalIn
  rw [Sem.run_bind, hu]; rfl
theorem eq_nil_iface' {P : Program} {t t' : TypeId} {u : Value} {ms} (ht : P.underlying t = some (.interface ms)) (w : World) : (Op.equal t (.iface t' u) .nilIface).run P w = .ok false w := by
  have hu : (underlying t).run P w = .ok (.interface ms) w := by simp [underlying, ht]
  unfold Op.equal Op.maxDepth Op.equalIn
  rw [Sem.run_bind, hu]; rfl
theorem eq_nil_func {P : Program} {t : TypeId} {p q r} (ht : P.underlying t = some (.func p q r)) (w : World) : (Op.equal t .nilFunc .nilFunc).run P w = .ok true w := by
  have hu : (underlying t).run P w = .ok (.func p q r) w := by simp [underlying, ht]
  unfold Op.equal Op.maxDepth Op.equalIn
  rw [Sem.run_bind, hu]; rfl
theorem eq_nil_func' {P : Program} {t : TypeId} {f : Fn} {x y : Array Value} {p q r} (ht : P.underlying t = some (.func p q r)) (w : World) : (Op.equal t (.func f x y) .nilFunc).run P w = .ok false w := by
  have hu : (underlying t).run P w = .ok (.func p q r) w := by simp [underlying, ht]
  unfold Op.equal Op.maxDepth Op.equalIn
  rw [Sem.run_bind, hu]; rfl

theorem good_isNil (sim : Sim C) (he : Opds C a e) {op : BinOp} {t ty : TypeId} {x y : Operand} {x' : Opd} {k : Nat} {neg : Bool} (ho : o.op = .binOp op t x y ty) (hop : op = if neg then .neq else .eql) (hn : isNilC E.P t y = some k)
    (hx : opd x = some x') (h : xop E (.isNil k neg x') e C.L K) : PureG E C a o K := by
  have hxv := he x x' hx
  subst hop
  simp only [xop] at h
  have key : ∀ (c : Value) (b : Bool), y = .const c → (eqGuard (if neg then .neq else .eql) t x y (a.eval x) c).run E.P C.w = .ok () C.w → 
      binOp (if neg then .neq else .eql) t (a.eval x) c = (do let r ← Op.equal t (a.eval x) c; pure (.bool (if neg then !r else r))) →
      (Op.equal t (a.eval x) c).run E.P C.w = .ok b C.w → K (.bool (if neg then !b else b)) C.L → PureG E C a o K := fun c b hy hg hb h1 hk => by
    refine pure_value (s := do eqGuard (if neg then .neq else .eql) t x y (a.eval x) (a.eval y); binOp (if neg then .neq else .eql) t (a.eval x) (a.eval y)) (v := .bool (if neg then !b else b)) (w' := C.w) (by unfold execOp; rw [ho]) ?_ (psame (.bool _) hk)
    subst hy
    exact eq_of_equal neg x _ hg hb h1
  unfold isNilC at hn
  generalize hxe : a.eval x = xv at hxv
  generalize e x' = ex at *
  rw [hxe] at key
  split at hn
  · rename_i el ht
    cases hn
    have ks := fun (b0 : Option Addr) (l k : Nat) (hv : xv = .slice b0 l k) (hk : K (.bool (if neg then !b0.isNone else b0.isNone)) C.L) =>
      key _ b0.isNone rfl (by subst hv; cases neg <;> rfl) (by subst hv; cases neg <;> simp [binOp]) (by subst hv; exact eq_nil_slice ht _ _ _ _) hk
    unfold xnil at h
    cases hxv <;> simp only at h
    case nsl => exact ks _ _ _ rfl h
    case esl b0 => cases b0 with
        | none => exact ks _ _ _ rfl h.1
        | some p => exact ks _ _ _ rfl h.2
    case isl rows b0 cap' sz vals hcap hsz hcl ha hv => cases b0 with
        | none =>
          refine ks _ _ _ rfl (h.2 ?_)
          rcases ha with h0 | ⟨_, _, h0, _⟩
          · exact h0
          · cases h0
        | some p => exact ks _ _ _ rfl h.1
    case sl s off len cap b0 cap' hs hl hc ha => cases b0 with
        | none =>
          refine ks _ _ _ rfl (h.2 ?_)
          rcases ha with h0 | ⟨h0, _⟩
          · omega
          · cases h0
        | some p => exact ks _ _ _ rfl h.1
  · rename_i ms ht
    cases hn
    have k1 := fun (hv : xv = .nilIface) (hk : K (.bool (if neg then !true else true)) C.L) => key _ true rfl (by subst hv; cases neg <;> cases x <;> rfl) (by subst hv; cases neg <;> simp [binOp]) (by subst hv; exact eq_nil_iface ht _) hk
    have k2 := fun (t' : TypeId) (u : Value) (hv : xv = .iface t' u) (hk : K (.bool (if neg then !false else false)) C.L) => key _ false rfl (by subst hv; cases neg <;> rfl) (by subst hv; cases neg <;> simp [binOp]) (by subst hv; exact eq_nil_iface' ht _) hk
    unfold xnil at h
    cases hxv <;> simp only at h
    case raw hr => cases xv <;> simp only at h <;> first | exact k1 rfl h | exact k2 _ _ rfl h
    case iface t' x0 u hu => exact k2 _ _ rfl h
  · rename_i p q r ht
    cases hn
    have k1 := fun (hv : xv = .nilFunc) (hk : K (.bool (if neg then !true else true)) C.L) => key _ true rfl (by subst hv; cases neg <;> cases x <;> rfl) (by subst hv; cases neg <;> simp [binOp]) (by subst hv; exact eq_nil_func ht _) hk
    have k2 := fun (f : Fn) (x0 y0 : Array Value) (hv : xv = .func f x0 y0) (hk : K (.bool (if neg then !false else false)) C.L) => key _ false rfl (by subst hv; cases neg <;> rfl) (by subst hv; cases neg <;> simp [binOp]) (by subst hv; exact eq_nil_func' ht _) hk
    unfold xnil at h
    cases hxv <;> simp only at h
    case raw hr => cases xv <;> simp only at h <;> exact k1 rfl h
    case fn f as bs va vb _ _ _ _ => exact k2 _ _ _ rfl h
  · cases hn

theorem good_rng (wf : Wf E.g0 C) (sim : Sim C) (he : Opds C a e) {t : TypeId} {x : Operand} {x' : Opd} (ho : o.op = .range t x) (ht : E.P.underlying t = some .string) (hx : opd x = some x')
    (h : xop E (.rng x') e C.L K) : Good E C a o K := by
  have hxv := he x x' hx
  simp only [xop] at h
  generalize hxe : a.eval x = xv at hxv
  generalize e x' = ex at *
  split at h
  · rename_i s
    cases hxv
    have hu : (underlying t).run E.P C.w = .ok .string C.w := by simp [underlying, ht]
    refine good_value (s := Instr.range t (a.eval x)) (v := .pointer (some ⟨C.w.heap.size, 0, none⟩)) (w' := pushW C.w (.stringIter ⟨s.toArray⟩ 0)) (by unfold execOp; rw [ho]) ?_ ?_
    · rw [hxe]
      unfold Instr.range
      rw [Sem.run_bind, hu]
      rfl
    · refine ⟨.ptr C.L.length 0 0, C.L ++ [.siter s 0], newφ C 0, h, new_wf (o := .stringIter ⟨s.toArray⟩ 0) wf sim, new_sim (o := .stringIter ⟨s.toArray⟩ 0) sim ?_, new_ext (.stringIter ⟨s.toArray⟩ 0) (.siter s 0) 0, vr_new_ptr⟩
      exact ⟨by simp [newC, newφ], by simp only [newC, newφ, if_true]; exact heap_push_eq⟩
  · exact h.elim

theorem good_nxt (wf : Wf E.g0 C) (sim : Sim C) (he : Opds C a e) {x : Operand} {x' : Opd} (ho : o.op = .next x true) (hx : opd x = some x')
    (h : xop E (.nxt x') e C.L K) : Good E C a o K := by
  have hxv := he x x' hx
  simp only [xop] at h
  generalize hxe : a.eval x = xv at hxv
  generalize e x' = ex at *
  split at h
  · rename_i s
    split at h
    · rename_i str pos hL
      obtain ⟨hb, hh⟩ := sim s _ hL
      have hptr : xv = .pointer (some ⟨(C.φ s).blk, 0, none⟩) := by
        cases hxv with
        | ptr _ _ _ hs => rw [hb]; simp
      have hne : ∀ c e fr, Obj.stringIter ⟨str.toArray⟩ pos ≠ .cells c e fr := fun _ _ _ h => by cases h
      have hsz : (ByteArray.mk str.toArray).size = str.length := by simp [ByteArray.size]
      have hrun : (Instr.next xv true o.type).run E.P C.w = if pos < str.length then .ok (.tuple #[.bool true, .int .i64 pos, .int .i32 (Utf8.decode ⟨str.toArray⟩ pos).1]) (setW C.w (C.φ s).blk (.stringIter ⟨str.toArray⟩ (pos + (Utf8.decode ⟨str.toArray⟩ pos).2)))
          else .ok (.tuple #[.bool false]) C.w := by
        subst hptr
        unfold Instr.next
        simp only
        rw [Sem.run_bind, run_getObj' hh hne]
        simp only [Result.andThen_ok, hsz]
        by_cases hp : pos < str.length
        · rw [if_pos hp, if_pos hp]
          rw [Sem.run_bind, run_setObj' _ hh hne]
          rfl
        · rw [if_neg hp, if_neg hp]; rfl
      have hvb : ∀ b, VR C (.tup [.bool b]) (.tuple #[.bool b]) := fun b => .tup [.bool b] [.bool b] rfl (fun i x hi => by
        cases i with
        | zero => simp at hi; subst hi; exact .bool b
        | succ i => simp at hi)
      split at h
      · rename_i hp
        rw [if_pos hp] at hrun
        refine good_value (s := Instr.next (a.eval x) true o.type) (by unfold execOp; rw [ho]) (by rw [hxe]; exact hrun) ?_
        refine ⟨_, _, C.φ, h, set_wf (o := .stringIter ⟨str.toArray⟩ (pos + (Utf8.decode ⟨str.toArray⟩ pos).2)) wf hL rfl, set_sim' wf sim hL rfl hh hne ?_, set_ext' hL rfl hh hne, ?_⟩
        · exact ⟨hb, heap_set_eq (Array.getElem?_eq_some_iff.1 hh).1⟩
        · refine .tup _ [.bool true, .int .i64 pos, .int .i32 (Utf8.decode ⟨str.toArray⟩ pos).1] rfl (fun i x hi => ?_)
          match i, hi with
          | 0, hi => simp at hi; subst hi; exact .bool true
          | 1, hi => simp at hi; subst hi; exact .int _ _
          | 2, hi => simp at hi; subst hi; exact .int _ _
      · rename_i hp
        rw [if_neg hp] at hrun
        exact good_value (s := Instr.next (a.eval x) true o.type) (by unfold execOp; rw [ho]) (by rw [hxe]; exact hrun) (post_same wf sim (hvb false) h)
    · exact h.elim
  · exact h.elim
end
end Go.X
