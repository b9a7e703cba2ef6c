/- The calculus X, part 14: the code does what its short form says. -/
import Derived.Test.YtnejaochjehhgaaDoorXDraw
import Derived.Sort.QuietThIn
import Derived.LoopNIn
import Derived.RangeFuncCalls
set_option linter.unusedVariables false
set_option linter.unusedSimpArgs false
set_option linter.unusedSectionVars false
namespace Go.X
open Go

theorem FOk.fn {F : Fence} (h : FOk F) (f : FuncId) : F.fn f := by
  rcases h with rfl | ⟨l, rfl⟩ <;> trivial
theorem FOk.depth {F : Fence} (h : FOk F) : F.depth = none := by
  rcases h with rfl | ⟨l, rfl⟩ <;> rfl
theorem FOk.calls {F : Fence} (hF : FOk F) {n : Nat} {P : Program} {f : FuncId} {args : Array Value} {w : World} {R : Ending → World → Prop} (h : Calls P f args w R) : CallsIn F n P f args w R := by
  rcases hF with rfl | ⟨l, rfl⟩
  · exact callsIn_wide.2 h
  · exact CallsIn.inRound l (callsIn_wide.2 h)

/-- The marks of loops over functions among the deferred calls: nothing was deferred in their rounds. -/
def DOk (n0 : Nat) (C : Ctx) : List Deferred → Prop
  | [] => True
  | d :: ds => (∃ D, d = { target := .collected D, args := #[] } ∧ n0 ≤ D ∧ D < C.w.heap.size ∧ ¬ C.mine D ∧ C.w.heap[D]? = some (.deferred (some [])) ∧ ∀ d' ∈ ds, d'.target ≠ .collected D) ∧ DOk n0 C ds

theorem DOk.mono {n0 : Nat} {C C' : Ctx} (h : Ext C C') : ∀ {ds : List Deferred}, DOk n0 C ds → DOk n0 C' ds
  | [], _ => trivial
  | d :: ds, ⟨⟨D, h1, h2, h3, h4, h5, h6⟩, h7⟩ =>
    ⟨⟨D, h1, h2, Nat.lt_of_lt_of_le h3 h.size, fun hm => (h.sub D hm).elim h4 (fun hge => absurd h3 (Nat.not_lt.2 hge)), (h.frame D h3 h4).trans h5, h6⟩, h7.mono h⟩

/-- Where we are: the environment, the blocks, against the activation and the world; from where we came. -/
def Rel (E : Env) (C0 : Ctx) (N : Nat) (ρ : Rho) (L : List Blk) (a : Act) (w : World) : Prop :=
  a.tmps.size = N ∧ ∃ φ, Wf E.g0 ⟨w, φ, L, C0.X⟩ ∧ Sim ⟨w, φ, L, C0.X⟩ ∧ Ext C0 ⟨w, φ, L, C0.X⟩ ∧ (∀ n, VR ⟨w, φ, L, C0.X⟩ (ρ n) (a.tmps.getD n undef)) ∧ DOk C0.w.heap.size ⟨w, φ, L, C0.X⟩ a.defers

theorem rel_G {E : Env} {C0 : Ctx} (wf0 : Wf E.g0 C0) (hG : E.G C0.w) {w : World} {φ : Nat → Loc} {L : List Blk} (h : Ext C0 ⟨w, φ, L, C0.X⟩) : E.G w := by
  refine E.hG C0.w w (fun b hb => ?_) hG
  exact h.frame b (Nat.lt_of_lt_of_le hb wf0.g) (fun hm => absurd (wf0.lo b hm) (Nat.not_le.2 hb))

theorem getD_set {t : Array Value} {d n : Nat} {v : Value} (hd : d < t.size) : (t.setIfInBounds d v).getD n undef = if n = d then v else t.getD n undef := by
  rw [Array.getD_eq_getD_getElem?, Array.getD_eq_getD_getElem?, Array.getElem?_setIfInBounds]
  by_cases h : n = d
  · subst h; rw [if_pos rfl, if_pos hd, if_pos rfl]; rfl
  · rw [if_neg (Ne.symm h), if_neg h]

theorem put_defers (a : Act) (d : Option Nat) (v : Value) : (a.put d v).defers = a.defers := by cases d <;> rfl

theorem rel_put {E : Env} {C0 : Ctx} {N : Nat} {ρ : Rho} {L L' : List Blk} {a : Act} {w w' : World} {φ φ' : Nat → Loc} {dst : Option Nat} {r : IV} {v : Value} (hN : a.tmps.size = N) (hd : ∀ d, dst = some d → d < N)
    (hx : Ext C0 ⟨w, φ, L, C0.X⟩) (hρ : ∀ n, VR ⟨w, φ, L, C0.X⟩ (ρ n) (a.tmps.getD n undef)) (hdf : DOk C0.w.heap.size ⟨w, φ, L, C0.X⟩ a.defers) (wf' : Wf E.g0 ⟨w', φ', L', C0.X⟩) (sim' : Sim ⟨w', φ', L', C0.X⟩)
    (hx' : Ext ⟨w, φ, L, C0.X⟩ ⟨w', φ', L', C0.X⟩) (hv : VR ⟨w', φ', L', C0.X⟩ r v) : Rel E C0 N (put ρ dst r) L' (a.put dst v) w' := by
  cases dst with
  | none => exact ⟨hN, φ', wf', sim', hx.trans hx', fun n => (hρ n).mono hx', hdf.mono hx'⟩
  | some d =>
    refine ⟨by simpa [Act.put] using hN, φ', wf', sim', hx.trans hx', fun n => ?_, hdf.mono hx'⟩
    show VR _ (if n = d then r else ρ n) ((a.tmps.setIfInBounds d v).getD n undef)
    rw [getD_set (by rw [hN]; exact hd d rfl)]
    by_cases h : n = d
    · rw [if_pos h, if_pos h]; exact hv
    · rw [if_neg h, if_neg h]; exact (hρ n).mono hx'

theorem no_defer {P : Program} {o : Op} {x : XO} (h : compOp P o = some x) : ∀ c, o ≠ .defer c := by
  rintro c rfl; cases h

section
variable {E : Env} {F : Fence} {C0 : Ctx} {N : Nat}

/-- What the compiled operation says. -/
theorem compOper_spec {P : Program} {N : Nat} {ops : List Oper} {o : Oper} {x : XOper} (h : compOper P N ops o = some x) :
    compOp P o.op = some x.op ∧ x.dst = o.dst ∧ (∀ d, o.dst = some d → d < N) ∧ ((o.guard = none ∧ x.guard = none) ∨ ∃ j b t, o.guard = some (j, b) ∧ (ops[j]?).bind (·.dst) = some t ∧ x.guard = some (t, b)) := by
  unfold compOper at h
  rw [Option.bind_eq_some_iff] at h
  obtain ⟨y, hy, h⟩ := h
  split at h
  · rename_i hd
    have hd' : ∀ d, o.dst = some d → d < N := fun d he => by
      rw [he] at hd; simpa [dstOk] using hd
    split at h
    · rename_i hg
      simp only [Option.some.injEq] at h; subst h
      exact ⟨hy, rfl, hd', .inl ⟨hg, rfl⟩⟩
    · rename_i j b hg
      rw [Option.map_eq_some_iff] at h
      obtain ⟨t, ht, rfl⟩ := h
      exact ⟨hy, rfl, hd', .inr ⟨j, b, t, hg, ht, rfl⟩⟩
  · cases h

theorem yielded_of {ops : Array Oper} {tmps : Array Value} {j t : Nat} (h : (ops.toList[j]?).bind (·.dst) = some t) {b : Bool} (hv : tmps.getD t undef = .bool b) : yielded ops tmps j = some b := by
  unfold yielded
  rw [← Array.getElem?_toList, h]
  simp only [Option.bind_some]
  rw [Array.getD_eq_getD_getElem?] at hv
  cases ht : tmps[t]? with
  | none => rw [ht] at hv; cases hv
  | some v => rw [ht] at hv; simp at hv; subst hv; rfl
theorem yielded_und {ops : Array Oper} {tmps : Array Value} {j t : Nat} (h : (ops.toList[j]?).bind (·.dst) = some t) (hv : tmps.getD t undef = undef) : yielded ops tmps j = none := by
  unfold yielded
  rw [← Array.getElem?_toList, h]
  simp only [Option.bind_some]
  rw [Array.getD_eq_getD_getElem?] at hv
  cases ht : tmps[t]? with
  | none => rfl
  | some v => rw [ht] at hv; simp at hv; subst hv; rfl

/-- One operation. -/
theorem xoper_sound (hF : FOk F) (wf0 : Wf E.g0 C0) (hG0 : E.G C0.w) {ops : Array Oper} {KV : IV → List Blk → Prop} {next : Act → World → Prop} {Q : Exit → Act → World → Prop} {i : Nat} {o : Oper} {x : XOper}
    (ho : ops[i]? = some o) (hx : compOper E.P N ops.toList o = some x) {ρ : Rho} {L : List Blk} {a : Act} {w : World} (h : stepV E x ρ L KV) (hr : Rel E C0 N ρ L a w)
    (hn : ∀ v L' a' w', KV v L' → Rel E C0 N (put ρ x.dst v) L' a' w' → next a' w') : wpOpIn F 0 E.P ops Q i next a w := by
  obtain ⟨hop, hdst, hdN, hguard⟩ := compOper_spec hx
  obtain ⟨hN, φ, wf, sim, hext, hρ, hdf⟩ := hr
  have hG := rel_G wf0 hG0 hext
  have habout : ∀ f, o.about E.P w a.eval = some f → F.fn f := fun f _ => hF.fn f
  have hskip : KV .und L → next (a.put o.dst undef) w := fun hs =>
    hn .und L _ w hs (by rw [hdst]; exact rel_put hN hdN hext hρ hdf wf sim (Ext.refl _) .und)
  have hexec : xop E x.op (Opd.ev ρ) L KV → o.wpIn F 0 E.P a w next Q := fun he => by
    refine ⟨habout, ?_⟩
    rw [Oper.semAt_eq _ _ _ (no_defer hop)]
    have hgood := xop_sound (E := E) (C := ⟨w, φ, L, C0.X⟩) (a := a) wf sim hG (opds_of hρ) hop he
    have hnext : ∀ v w', Post E ⟨w, φ, L, C0.X⟩ KV v w' → next (a.put o.dst v) w' := by
      rintro v w' ⟨r, L', φ', h1, h2, h3, h4, h5⟩
      exact hn r L' _ w' h1 (by rw [hdst]; exact rel_put hN hdN hext hρ hdf h2 h3 h4 h5)
    rcases hgood with ⟨v, w', h1, h2⟩ | ⟨w', h1, h2⟩ | ⟨f, args, w', h1, h2⟩ | ⟨l, fn, tmps, asg, body, w', h1, h2⟩
    · rw [h1]; exact hnext v w' h2
    · rw [h1]; exact hnext undef w' h2
    · rw [h1]
      refine ⟨(fun h => by rw [hF.depth] at h; cases h), (hF.calls h2).mono ?_⟩
      rintro e w'' ⟨v, rfl, hp⟩
      exact hnext v w'' hp
    · rw [h1]
      refine ⟨(fun h => by rw [hF.depth] at h; cases h), (h2 F hF).mono ?_⟩
      rintro e w'' ⟨v, rfl, hp⟩
      exact hnext v w'' hp
  unfold wpOpIn
  simp only [ho]
  unfold stepV at h
  rcases hguard with ⟨hg, hxg⟩ | ⟨j, b, t, hg, ht, hxg⟩
  · rw [hxg] at h
    rw [if_pos (by simp [Region.wanted, hg])]
    exact hexec h
  · rw [hxg] at h
    simp only at h
    have hvt := hρ t
    split at h
    · rename_i b' hb'
      rw [hb'] at hvt
      have hvt' : a.tmps.getD t undef = .bool b' := by generalize a.tmps.getD t undef = u at hvt; cases hvt; rfl
      have hy := yielded_of ht hvt'
      by_cases hbb : b' = b
      · rw [if_pos (by simp [Region.wanted, hg, hy, hbb])]
        exact hexec (h.1 hbb)
      · rw [if_neg (by simp [Region.wanted, hg, hy, hbb])]
        exact ⟨habout, hskip (h.2 hbb)⟩
    · rename_i hb'
      rw [hb'] at hvt
      have hvt' : a.tmps.getD t undef = undef := by generalize a.tmps.getD t undef = u at hvt; cases hvt; rfl
      have hy := yielded_und ht hvt'
      rw [if_neg (by simp [Region.wanted, hg, hy])]
      exact ⟨habout, hskip h⟩
    · exact h.elim

theorem xops_sound (hF : FOk F) (wf0 : Wf E.g0 C0) (hG0 : E.G C0.w) {ops : Array Oper} {K : Rho → List Blk → Prop} {Q : Exit → Act → World → Prop}
    (hQ : ∀ ρ L a w, K ρ L → Rel E C0 N ρ L a w → Q .normal a w) :
    ∀ (m k : Nat) (xs : List XOper) (ρ : Rho) (L : List Blk) (a : Act) (w : World), k + m = ops.size → mapO (compOper E.P N ops.toList) (ops.toList.drop k) = some xs → xops E xs ρ L K → Rel E C0 N ρ L a w →
      wpOpsIn F 0 E.P ops Q (List.range' k m) a w
  | 0, k, xs, ρ, L, a, w, hk, hxs, h, hr => by
    have : ops.toList.drop k = [] := List.drop_eq_nil_of_le (by simp; omega)
    rw [this] at hxs
    simp only [mapO, Option.some.injEq] at hxs; subst hxs
    exact hQ ρ L a w h hr
  | m + 1, k, xs, ρ, L, a, w, hk, hxs, h, hr => by
    have hlt : k < ops.toList.length := by simp; omega
    obtain ⟨o, ho⟩ : ∃ o, ops.toList[k]? = some o := ⟨_, List.getElem?_eq_getElem hlt⟩
    have hdrop : ops.toList.drop k = o :: ops.toList.drop (k + 1) := by
      rw [List.drop_eq_getElem_cons hlt]
      congr 1
      exact Option.some.inj ((List.getElem?_eq_getElem hlt).symm.trans ho)
    rw [hdrop] at hxs
    simp only [mapO] at hxs
    split at hxs
    · split at hxs
      · rename_i x hx _ xr hxr
        simp only [Option.some.injEq] at hxs; subst hxs
        rw [xops_cons] at h
        have ho' : ops[k]? = some o := by rw [← Array.getElem?_toList]; exact ho
        show wpOpsIn F 0 E.P ops Q (k :: List.range' (k + 1) m) a w
        rw [wpOpsIn_cons]
        exact xoper_sound hF wf0 hG0 ho' hx h hr fun v L' a' w' hk' hr' => xops_sound hF wf0 hG0 hQ m (k + 1) xr _ L' a' w' (by omega) hxr hk' hr'
      · cases hxs
    · cases hxs

theorem sv_toP {o : XOper} {ρ : Rho} {L : List Blk} {KV : IV → List Blk → Prop} (h : stepV E o.toP ρ L KV) : stepV E o ρ L KV := by
  obtain ⟨d, op, g⟩ := o
  cases g with
  | none => exact xop_toP h
  | some p =>
    obtain ⟨t, w⟩ := p
    simp only [stepV, XOper.toP] at h ⊢
    split at h
    · exact ⟨fun hw => xop_toP (h.1 hw), h.2⟩
    · exact h
    · exact h.elim

/-- A region that draws its order. -/
theorem xdraw_sound (hF : FOk F) (wf0 : Wf E.g0 C0) (hG0 : E.G C0.w) {id : Nat} {ops : Array Oper} {K : Rho → List Blk → Prop} {Q : Exit → Act → World → Prop} (hm : E.P.follows .mixedOrders = true)
    {xs0 xs : List XOper} (hx0 : mapO (compOper E.P N ops.toList) ops.toList = some xs0) (hxs : ∀ (i : Nat) (x : XOper), xs[i]? = some x → ∃ x0, xs0[i]? = some x0 ∧ (x = x0 ∨ x = x0.toP)) (hl : xs.length = xs0.length) (hB : xlexB ops xs = true)
    {ρ : Rho} {L : List Blk} {a : Act} {w : World} (h : xops E xs ρ L K) (hr : Rel E C0 N ρ L a w) (hQ : ∀ ρ L a w, K ρ L → Rel E C0 N ρ L a w → Q .normal a w) : (Code.region id ops true).wpIn F 0 E.P Q a w := by
  simp only [xlexB, Bool.and_eq_true, List.all_eq_true, decide_eq_true_eq] at hB
  have hlen : xs.length = ops.size := by rw [hl, mapO_len hx0]; simp
  have hr' : Rel E C0 N ρ L a w.drew := by
    obtain ⟨hN, φ, wf, sim, hext, hρ, hdf⟩ := hr
    exact ⟨hN, φ, drew_wf wf, drew_sim sim, hext.trans (drew_ext _), fun n => (hρ n).mono (drew_ext _), hdf.mono (drew_ext _)⟩
  refine wpIn_region_any hm ?_
  have hany : xAny E ops xs K ops.size (Array.replicate ops.size false) ρ L := by
    have := xAny_lex (E := E) (K := K) hlen hB.1 xs 0 (Array.replicate ops.size false) ρ L (by simp) (by rw [hlen]; exact hB.2) h
    rwa [hlen] at this
  have key : ∀ (fuel : Nat) (listed : Array Bool) (ρ : Rho) (L : List Blk) (a : Act) (w : World), xAny E ops xs K fuel listed ρ L → Rel E C0 N ρ L a w → wpAnyIn F 0 E.P .any ops Q fuel listed a w := by
    intro fuel
    induction fuel with
    | zero => intro listed ρ L a w h hr; exact ⟨h.1, hQ ρ L a w h.2 hr⟩
    | succ fuel ih =>
      intro listed ρ L a w h hr
      refine ⟨fun h0 => hQ ρ L a w (h.1 h0) hr, fun i hi => ?_⟩
      have h1 := h.2 i hi
      obtain ⟨_, o, ho, _⟩ := mem_ready.1 hi
      have hilt : i < xs.length := by rw [hlen]; exact (Array.getElem?_eq_some_iff.1 ho).1
      obtain ⟨x, hx⟩ : ∃ x, xs[i]? = some x := ⟨_, List.getElem?_eq_getElem hilt⟩
      obtain ⟨x0, hx1, hx2⟩ := hxs i x hx
      obtain ⟨o', ho', hc⟩ := mapO_get hx0 i x0 hx1
      rw [Array.getElem?_toList, ho] at ho'
      obtain rfl := Option.some.inj ho'
      simp only [sOp, hx] at h1
      have hd : x.dst = x0.dst := by rcases hx2 with rfl | rfl <;> rfl
      have h2 : stepV E x0 ρ L fun v L' => xAny E ops xs K fuel (listed.setIfInBounds i true) (put ρ x.dst v) L' := by
        rcases hx2 with rfl | rfl
        · exact h1
        · exact sv_toP h1
      exact xoper_sound hF wf0 hG0 ho hc h2 hr fun v L' a' w' hk' hr' => ih _ _ L' a' w' hk' (by rw [hd]; exact hr')
  exact key _ _ _ _ _ _ hany hr'

def XE.to : XE → Exit
  | .normal => .normal
  | .exit id => .exit id
  | .goto l => .goto l
  | .ret => .ret

/-! ### A scope with labels -/
theorem stepR_scope {P : Program} {b : Frame} {a : Act} {k : List Item} {cs : List Frame} {w : World} {c : Code} : step P (lone (b.atR a (.code (.scope c) :: k)) cs w) = .next (lone (b.atR a (.code c :: .inScope c :: k)) cs w) :=
  step_lone_go (by simp [stepG, stepG.exec, Frame.atR])
theorem stepR_inScope {P : Program} {b : Frame} {a : Act} {k : List Item} {cs : List Frame} {w : World} {c : Code} : step P (lone (b.atR a (.inScope c :: k)) cs w) = .next (lone (b.atR a k) cs w) :=
  step_lone_go (by simp [stepG, stepG.exec, Frame.atR])

/-- What is to be shown where the scope's code ends: a jump to a label of its own goes on there, no more than m times. -/
def scopeN (F : Fence) (n : Nat) (P : Program) (c : Code) (Q : Exit → Act → World → Prop) : Nat → Exit → Act → World → Prop
  | m, .goto l, a, w => match findLabel c l with
    | none => Q (.goto l) a w
    | some rest => match m with
      | 0 => False
      | m + 1 => rest.wpIn F n P (scopeN F n P c Q m) a w
  | _, e, a, w => Q e a w

theorem wpIn_scope {n : Nat} {P : Program} {Q : Exit → Act → World → Prop} {a : Act} {w : World} {c : Code} (m : Nat) (h : c.wpIn F n P (scopeN F n P c Q m) a w) : (Code.scope c).wpIn F n P Q a w := by
  intro b k cs hro hb hr
  have key : ∀ m c' a w, Code.wpIn F n P c' (scopeN F n P c Q m) a w →
      ∃ e a' w', Q e a' w' ∧ ArrivesIn (Machine.fenced P F) P (lone (b.atR a (.code c' :: .inScope c :: k)) cs w) b k cs e a' w' := by
    intro m
    induction m with
    | zero =>
      intro c' a w h
      obtain ⟨e, a₁, w₁, hq, harr⟩ := h b (.inScope c :: k) cs hro hb hr
      cases e with
      | normal => exact ⟨_, a₁, w₁, hq, StepsIn.trans harr (.one (fenced_calm hb hr rfl) stepR_inScope)⟩
      | exit id => exact ⟨_, a₁, w₁, hq, ⟨fun k' hk => harr.1 k' (by simpa [exitTo] using hk), fun h1 hk => harr.2 h1 (by simpa [exitTo] using hk)⟩⟩
      | goto l =>
        unfold scopeN at hq
        cases hf : findLabel c l with
        | none =>
          simp only [hf] at hq
          exact ⟨_, a₁, w₁, hq, ⟨fun k' hk => harr.1 k' (by simpa [gotoIn, hf] using hk), fun h1 hk => harr.2 h1 (by simpa [gotoIn, hf] using hk)⟩⟩
        | some rest => simp only [hf] at hq
      | ret => exact ⟨_, a₁, w₁, hq, harr⟩
      | panic ch => exact ⟨_, a₁, w₁, hq, harr⟩
      | outgrown => exact ⟨_, a₁, w₁, hq, harr⟩
    | succ m ih =>
      intro c' a w h
      obtain ⟨e, a₁, w₁, hq, harr⟩ := h b (.inScope c :: k) cs hro hb hr
      cases e with
      | normal => exact ⟨_, a₁, w₁, hq, StepsIn.trans harr (.one (fenced_calm hb hr rfl) stepR_inScope)⟩
      | exit id => exact ⟨_, a₁, w₁, hq, ⟨fun k' hk => harr.1 k' (by simpa [exitTo] using hk), fun h1 hk => harr.2 h1 (by simpa [exitTo] using hk)⟩⟩
      | goto l =>
        unfold scopeN at hq
        cases hf : findLabel c l with
        | none =>
          simp only [hf] at hq
          exact ⟨_, a₁, w₁, hq, ⟨fun k' hk => harr.1 k' (by simpa [gotoIn, hf] using hk), fun h1 hk => harr.2 h1 (by simpa [gotoIn, hf] using hk)⟩⟩
        | some rest =>
          simp only [hf] at hq
          obtain ⟨e₂, a₂, w₂, hq₂, harr₂⟩ := ih rest a₁ w₁ hq
          exact ⟨e₂, a₂, w₂, hq₂, .of_steps (harr.1 _ (by simp [gotoIn, hf])) harr₂⟩
      | ret => exact ⟨_, a₁, w₁, hq, harr⟩
      | panic ch => exact ⟨_, a₁, w₁, hq, harr⟩
      | outgrown => exact ⟨_, a₁, w₁, hq, harr⟩
  obtain ⟨e, a', w', hq, harr⟩ := key m c a w h
  exact ⟨e, a', w', hq, .of_steps (.one (fenced_calm hb hr rfl) stepR_scope) harr⟩

theorem compDraw_find {P : Program} {N l : Nat} {ops : Array Oper} : (compDraw P N ops).find l = none := by
  unfold compDraw
  split
  · split
    · split
      · rfl
      · split <;> rfl
    · rfl
  · rfl

theorem comp_find {P : Program} {N : Nat} : ∀ {c : Code} {x : XC}, comp P N c = some x → ∀ l, (findLabel c l = none ∧ x.find l = none) ∨ ∃ rest xr, findLabel c l = some rest ∧ x.find l = some xr ∧ comp P N rest = some xr
  | .seq a b, x, h, l => by
    simp only [comp, Option.bind_eq_some_iff, Option.map_eq_some_iff] at h
    obtain ⟨a', ha, b', hb, rfl⟩ := h
    simp only [findLabel, XC.find]
    rcases comp_find ha l with ⟨h1, h2⟩ | ⟨r, xr, h1, h2, h3⟩
    · rw [h1, h2]; exact comp_find hb l
    · rw [h1, h2]; exact .inr ⟨_, _, rfl, rfl, by simp only [comp, h3, hb, Option.bind_some, Option.map_some]⟩
  | .label l', x, h, l => by
    simp only [comp, Option.some.injEq] at h; subst h
    simp only [findLabel, XC.find]
    by_cases hl : l' = l
    · subst hl; simp [comp]
    · have : (l' == l) = false := by simpa using hl
      simp [this]
  | .skip, x, h, l => by simp only [comp, Option.some.injEq] at h; subst h; exact .inl ⟨rfl, rfl⟩
  | .region _ ops false, x, h, l => by
    simp only [comp] at h
    split at h <;> (simp only [Option.some.injEq] at h; subst h; exact .inl ⟨rfl, rfl⟩)
  | .region _ ops true, x, h, l => by simp only [comp, Option.some.injEq] at h; subst h; exact .inl ⟨rfl, compDraw_find⟩
  | .cond c t e, x, h, l => by
    simp only [comp, Option.bind_eq_some_iff, Option.map_eq_some_iff] at h
    obtain ⟨c', _, t', _, e', _, rfl⟩ := h; exact .inl ⟨rfl, rfl⟩
  | .block id b, x, h, l => by simp only [comp, Option.map_eq_some_iff] at h; obtain ⟨y, _, rfl⟩ := h; exact .inl ⟨rfl, rfl⟩
  | .loop b, x, h, l => by simp only [comp, Option.map_eq_some_iff] at h; obtain ⟨y, _, rfl⟩ := h; exact .inl ⟨rfl, rfl⟩
  | .exit id, x, h, l => by simp only [comp, Option.some.injEq] at h; subst h; exact .inl ⟨rfl, rfl⟩
  | .scope b, x, h, l => by simp only [comp, Option.map_eq_some_iff] at h; obtain ⟨y, _, rfl⟩ := h; exact .inl ⟨rfl, rfl⟩
  | .goto l', x, h, l => by simp only [comp, Option.some.injEq] at h; subst h; exact .inl ⟨rfl, rfl⟩
  | .ret, x, h, l => by simp only [comp, Option.some.injEq] at h; subst h; exact .inl ⟨rfl, rfl⟩
  | .refuse _, x, h, l => by cases h
  | .rangeFunc .., x, h, l => by
    simp only [comp] at h
    split at h <;> (simp only [Option.some.injEq] at h; subst h; exact .inl ⟨rfl, rfl⟩)

theorem labels_find {P : Program} {N : Nat} : ∀ {c : Code} {x : XC}, comp P N c = some x → ∀ l, x.find l ≠ none → l ∈ labels c
  | .seq a b, x, h, l, hf => by
    simp only [comp, Option.bind_eq_some_iff, Option.map_eq_some_iff] at h
    obtain ⟨a', ha, b', hb, rfl⟩ := h
    simp only [XC.find] at hf
    simp only [labels, List.mem_append]
    cases h1 : a'.find l with
    | none => rw [h1] at hf; exact .inr (labels_find hb l hf)
    | some r => exact .inl (labels_find ha l (by rw [h1]; simp))
  | .label l', x, h, l, hf => by
    simp only [comp, Option.some.injEq] at h; subst h
    simp only [XC.find] at hf
    split at hf
    · rename_i he
      have : l' = l := by simpa using he
      simp [labels, this]
    · exact absurd rfl hf
  | .skip, x, h, l, hf => by simp only [comp, Option.some.injEq] at h; subst h; exact absurd rfl hf
  | .region _ ops false, x, h, l, hf => by
    simp only [comp] at h
    split at h <;> (simp only [Option.some.injEq] at h; subst h; exact absurd rfl hf)
  | .region _ ops true, x, h, l, hf => by simp only [comp, Option.some.injEq] at h; subst h; exact absurd compDraw_find hf
  | .cond c t e, x, h, l, hf => by
    simp only [comp, Option.bind_eq_some_iff, Option.map_eq_some_iff] at h
    obtain ⟨c', _, t', _, e', _, rfl⟩ := h; exact absurd rfl hf
  | .block id b, x, h, l, hf => by simp only [comp, Option.map_eq_some_iff] at h; obtain ⟨y, _, rfl⟩ := h; exact absurd rfl hf
  | .loop b, x, h, l, hf => by simp only [comp, Option.map_eq_some_iff] at h; obtain ⟨y, _, rfl⟩ := h; exact absurd rfl hf
  | .exit id, x, h, l, hf => by simp only [comp, Option.some.injEq] at h; subst h; exact absurd rfl hf
  | .scope b, x, h, l, hf => by simp only [comp, Option.map_eq_some_iff] at h; obtain ⟨y, _, rfl⟩ := h; exact absurd rfl hf
  | .goto l', x, h, l, hf => by simp only [comp, Option.some.injEq] at h; subst h; exact absurd rfl hf
  | .ret, x, h, l, hf => by simp only [comp, Option.some.injEq] at h; subst h; exact absurd rfl hf
  | .refuse _, x, h, l, hf => by cases h
  | .rangeFunc .., x, h, l, hf => by
    simp only [comp] at h
    split at h <;> (simp only [Option.some.injEq] at h; subst h; exact absurd rfl hf)

theorem xlabs_mk (b : XC) (l : Nat) : ∀ ls : List Nat, (l ∈ ls ∨ b.find l = none) → xlabs E (mkLabs b ls) l = (b.find l).map (xrun E)
  | [], h => by
    have := h.resolve_left (by simp)
    rw [this]; simp [mkLabs, xlabs]
  | l' :: r, h => by
    simp only [mkLabs]
    by_cases hl : l = l'
    · subst hl
      cases hf : b.find l with
      | none => simp only; rw [xlabs_mk b l r (.inr hf), hf]
      | some c => simp only [xlabs, if_true, Option.map_some]
    · cases hf : b.find l' with
      | none => simp only; exact xlabs_mk b l r (h.imp (fun h => (List.mem_cons.1 h).resolve_left hl) id)
      | some c => simp only [xlabs, hl, if_false]; exact xlabs_mk b l r (h.imp (fun h => (List.mem_cons.1 h).resolve_left hl) id)

/-- No loop over a function. -/
def noRng : XC → Bool
  | .seq a b => noRng a && noRng b
  | .cond _ t e => noRng t && noRng e
  | .block _ b | .loop b | .scope b _ => noRng b
  | .rngF .. => false
  | _ => true
theorem noRng_find {l : Nat} : ∀ {x r : XC}, noRng x = true → x.find l = some r → noRng r = true
  | .seq a b, r, h, hf => by
    simp only [noRng, Bool.and_eq_true] at h
    simp only [XC.find] at hf
    cases ha : a.find l with
    | none => rw [ha] at hf; exact noRng_find h.2 hf
    | some ra =>
      rw [ha] at hf
      simp only [Option.some.injEq] at hf; subst hf
      simp only [noRng, Bool.and_eq_true]
      exact ⟨noRng_find h.1 ha, h.2⟩
  | .label l', r, _, hf => by
    simp only [XC.find] at hf
    split at hf
    · simp only [Option.some.injEq] at hf; subst hf; rfl
    · cases hf
  | .skip, _, _, hf | .ops _, _, _, hf | .draw _, _, _, hf | .drawE _, _, _, hf | .bad, _, _, hf | .rngF .., _, _, hf | .cond .., _, _, hf | .block .., _, _, hf | .loop _, _, _, hf | .exit _, _, _, hf | .scope .., _, _, hf | .goto _, _, _, hf | .ret, _, _, hf => by cases hf

/-- A block is laid that is none of ours. -/
def layC (C : Ctx) (o : Obj) : Ctx := ⟨pushW C.w o, C.φ, C.L, C.X⟩
theorem lay_ext (C : Ctx) (o : Obj) : Ext C (layC C o) where
  size := by simp [layC, pushW]
  frame := fun b hb _ => heap_push_lt hb
  sub := fun b h => .inl h
  slot := fun _ _ => rfl
  len := Nat.le_refl _
  cap := fun b c e fr h => ⟨c, e, fr, (heap_push_lt (Array.getElem?_eq_some_iff.1 h).1).trans h, rfl⟩
  ex := rfl
  os := rfl
  tape := rfl
  output := rfl
theorem lay_wf {g0 : Nat} {C : Ctx} {o : Obj} (wf : Wf g0 C) : Wf g0 (layC C o) :=
  ⟨wf.inj, wf.lo, wf.apart, fun b hx => Nat.lt_of_lt_of_le (wf.exlo b hx) (by simp [layC, pushW]), Nat.le_trans wf.g (by simp [layC, pushW])⟩
theorem lay_sim {C : Ctx} {o : Obj} (sim : Sim C) : Sim (layC C o) := fun s k hk => by
  by_cases ha : k.alive = true
  · exact (sim s k hk).mono (lay_ext C o) (lt_of_get hk) (heap_push_lt (mine_lt sim ⟨s, k, hk, ha, rfl⟩))
  · cases k <;> first | trivial | (exfalso; exact ha rfl)

theorem list_getD {α : Type} {N n : Nat} {f : Nat → α} {d : α} (h : n < N) : ((List.range N).map f).getD n d = f n := by
  simp [List.getD, h]

/-- THE LOOP OVER A FUNCTION. -/
theorem xrng_sound (wf0 : Wf E.g0 C0) (hG0 : E.G C0.w) {g : Operand} {g' : Opd} {ps : Array Tmp} {asg body : Code} {xa xb : XC} (hg : opd g = some g') (hxa : comp E.P N asg = some xa) (hxb : comp E.P N body = some xb)
    {ρ : Rho} {L : List Blk} {K : XE → Rho → List Blk → Prop} {Q : Exit → Act → World → Prop} {a : Act} {w : World} (h : xrun E (.rngF g' N ps.toList xa xb) ρ L K) (hr : Rel E C0 N ρ L a w)
    (hQ : ∀ e ρ L a w, K e ρ L → Rel E C0 N ρ L a w → Q e.to a w) : (Code.rangeFunc g ps asg body).wpIn Fence.wide 0 E.P Q a w := by
  obtain ⟨hN, φ, wf, sim, hext, hρ, hdf⟩ := hr
  simp only [xrun] at h
  have hgv := opds_of hρ g g' hg
  split at h
  case h_2 => exact h.elim
  rename_i gf caps hge
  rw [hge] at hgv
  generalize hav : a.eval g = gv at hgv
  cases hgv with
  | fn _ _ _ va vb ha hb hva hvb =>
  have : va = [] := List.eq_nil_of_length_eq_zero (by simpa using ha.symm)
  subst this
  refine wpIn_rangeFunc fun fn hfn => ?_
  obtain ⟨rec0, hrec⟩ : ∃ rec0 : Loop, rec0 = { state := .ready, pending := none, fn, tmps := a.tmps, params := ps, assign := asg, body, defers := w.heap.size } := ⟨_, rfl⟩
  have hrt : rec0.tmps = a.tmps := by rw [hrec]
  let C : Ctx := ⟨w, φ, L, C0.X⟩
  let C1 : Ctx := layC C (.deferred (some []))
  let l := (List.range N).map ρ
  let C2 : Ctx := newC C1 (.loop rec0) (.lp rec0 l) 0
  have e1 : Ext C C1 := lay_ext C _
  have e2 : Ext C1 C2 := new_ext (.loop rec0) (.lp rec0 l) 0
  have e02 : Ext C0 C2 := hext.trans (e1.trans e2)
  have hρ2 : ∀ n, VR C2 (ρ n) (a.tmps.getD n undef) := fun n => (hρ n).mono (e1.trans e2)
  have wf2 : Wf E.g0 C2 := new_wf (lay_wf wf) (lay_sim sim)
  have hsz1 : C1.w.heap.size = w.heap.size + 1 := by simp [C1, layC, pushW, C]
  have hφ2 : C2.φ L.length = ⟨w.heap.size + 1, 0, 0⟩ := by
    show (if L.length = L.length then _ else _) = _
    rw [if_pos rfl, hsz1]
  have sim2 : Sim C2 := new_sim (lay_sim sim) ⟨by
      show (pushW C1.w (.loop rec0)).heap[(C2.φ L.length).blk]? = _
      rw [hφ2, ← hsz1]; exact heap_push_eq, fun n => by
      by_cases hn : n < N
      · rw [list_getD hn, hrt]; exact hρ2 n
      · rw [hrt]
        have h1 : l.getD n .und = .und := by simp [l, List.getD, hn]
        have h2 : a.tmps.getD n undef = undef := by rw [Array.getD_eq_getD_getElem?, Array.getElem?_eq_none (by omega)]; rfl
        rw [h1, h2]; exact .und⟩
  obtain ⟨⟨gfn, hgf, hnm, hbody⟩, hcall⟩ := h rec0 (by rw [hrec]) (by rw [hrec]) ⟨by rw [hrec], by rw [hrec]; exact hxa, by rw [hrec]; exact hxb, by rw [hrec]; exact hN⟩
  have hcall := hcall C2.w C2.φ C0.X (.func (.yield (w.heap.size + 1)) #[] #[] :: vb) wf2 sim2 (rel_G wf0 hG0 e02) (by simp [hb]) (fun i x hi => by
    cases i with
    | zero =>
      simp only [List.getElem?_cons_zero, Option.some.injEq] at hi; subst hi
      have := VR.yld (C := C2) L.length (by simp [C2, newC, C1, layC, C])
      rw [hφ2] at this
      exact this
    | succ i => exact (hvb i x (by simpa using hi)).mono (e1.trans e2))
  refine ⟨w.heap.size + 1, [{ target := .collected w.heap.size, args := #[] }], C2.w, { target := .fn (.func gf) vb.toArray, args := #[.func (.yield (w.heap.size + 1)) #[] #[]] }, C2.w, gf,
    (.func (.yield (w.heap.size + 1)) #[] #[] :: vb).toArray, C2.w, ?_, ?_, ?_, ?_, (fun h => by cases h), ?_⟩
  · rw [show C2.w = (w.alloc (.deferred (some []))).alloc (.loop rec0) from rfl, hrec]; exact run_enterLoop_outer _ _ _ _ _
  · simp only [resolve, hav]
    simp [Deferred.ofValue, Act.eval]
  · intro f' _; trivial
  · simp only [invoke]
    have : (#[Value.func (.yield (w.heap.size + 1)) #[] #[]] ++ vb.toArray) = (.func (.yield (w.heap.size + 1)) #[] #[] :: vb).toArray := by apply Array.ext'; simp
    rw [this]
    unfold callFunc
    rw [Sem.run_bind, run_program]
    have hnm' : (gfn.name == "runtime.NumGoroutine") = false := by simpa using hnm
    simp only [Result.andThen_ok, hgf, hnm', Bool.false_eq_true, if_false, hbody]
    rfl
  · refine (callsIn_wide.2 hcall).mono ?_
    rintro e w' ⟨r, L', φ', v, ⟨r1, hL', hst, hK⟩, rfl, wf', sim', ext', -⟩
    let C' : Ctx := ⟨w', φ', L', C0.X⟩
    have hslot : φ' L.length = ⟨w.heap.size + 1, 0, 0⟩ := (ext'.slot L.length (by simp [C2, newC, C1, layC, C])).trans hφ2
    have hb' := (sim' _ _ hL').1
    rw [show (⟨w', φ', L', C0.X⟩ : Ctx).φ L.length = φ' L.length from rfl, hslot] at hb'
    have hne : ∀ c e fr, Obj.loop r1 ≠ .cells c e fr := fun _ _ _ h => by cases h
    have hb'' : C'.w.heap[(C'.φ L.length).blk]? = some (.loop r1) := by show w'.heap[(φ' L.length).blk]? = _; rw [hslot]; exact hb'
    let C3 : Ctx := setC C' L.length (.loop { r1 with state := .exhausted }) .dead
    have wf3 : Wf E.g0 C3 := set_wf wf' hL' rfl
    have sim3 : Sim C3 := set_sim' wf' sim' hL' rfl hb'' hne trivial
    have e3 : Ext C' C3 := set_ext' hL' rfl hb'' hne
    have hw3 : C3.w = w'.putObj (w.heap.size + 1) (.loop { r1 with state := .exhausted }) := by
      show setW w' (φ' L.length).blk _ = _
      rw [hslot]; rfl
    have hD2 : DOk C0.w.heap.size C2 ({ target := .collected w.heap.size, args := #[] } :: a.defers) := by
      refine ⟨⟨w.heap.size, rfl, hext.size, ?_, ?_, ?_, ?_⟩, hdf.mono (e1.trans e2)⟩
      · have : C2.w.heap.size = w.heap.size + 2 := by simp [C2, newC, C1, layC, pushW, C]
        omega
      · intro hm
        rcases e2.sub _ hm with h1 | h1
        · exact absurd (mine_lt sim h1) (Nat.lt_irrefl _)
        · rw [hsz1] at h1; omega
      · show (pushW C1.w (.loop rec0)).heap[w.heap.size]? = _
        rw [heap_push_lt (by rw [hsz1]; omega)]
        exact heap_push_eq
      · intro d' hd' hc
        have : ∀ (ds : List Deferred), DOk C0.w.heap.size C ds → ∀ d' ∈ ds, d'.target ≠ .collected w.heap.size := by
          intro ds
          induction ds with
          | nil => intro _ d' hd'; cases hd'
          | cons d ds ih =>
            rintro ⟨⟨D, h1, _, h3, _⟩, h7⟩ d' hd'
            rcases List.mem_cons.1 hd' with rfl | hd'
            · rw [h1]; intro hc; cases hc; exact absurd h3 (Nat.lt_irrefl _)
            · exact ih h7 d' hd'
        exact this _ hdf d' hd' hc
    have hrel : Rel E C0 N ρ (L'.set L.length .dead) { a with defers := [{ target := .collected w.heap.size, args := #[] }] ++ a.defers } C3.w :=
      ⟨hN, φ', wf3, sim3, (e02.trans ext').trans e3, fun n => ((hρ2 n).mono ext').mono e3, (hD2.mono ext').mono e3⟩
    refine ⟨r1.pending, C3.w, by rw [hw3]; exact run_endLoop hb' hst, ?_⟩
    cases hp : r1.pending with
    | none => rw [hp] at hK; exact hQ .normal _ _ _ _ hK hrel
    | some c =>
      rw [hp] at hK
      cases c with
      | ret => exact wpIn_ret (hQ .ret _ _ _ _ hK hrel)
      | exit i => exact wpIn_exit (hQ (.exit i) _ _ _ _ hK hrel)
      | goto l => exact wpIn_goto (hQ (.goto l) _ _ _ _ hK hrel)
      | _ => exact hK.elim

def csize : Code → Nat
  | .seq a b => csize a + csize b + 1
  | .cond _ t e => csize t + csize e + 1
  | .block _ b => csize b + 1
  | .loop b => csize b + 1
  | .scope b => csize b + 1
  | _ => 1

theorem csize_find {l : Nat} : ∀ {c rest : Code}, findLabel c l = some rest → csize rest ≤ csize c
  | .seq a b, rest, hf => by
    simp only [findLabel] at hf
    split at hf
    · rename_i r hr
      simp only [Option.some.injEq] at hf; subst hf
      have := csize_find hr
      simp only [csize]; omega
    · have := csize_find hf
      simp only [csize]; omega
  | .label l', rest, hf => by
    simp only [findLabel] at hf
    split at hf
    · simp only [Option.some.injEq] at hf; subst hf; exact Nat.le_refl _
    · cases hf
  | .skip, _, hf => by cases hf
  | .region .., _, hf => by cases hf
  | .cond .., _, hf => by cases hf
  | .block .., _, hf => by cases hf
  | .loop .., _, hf => by cases hf
  | .exit .., _, hf => by cases hf
  | .scope .., _, hf => by cases hf
  | .goto .., _, hf => by cases hf
  | .ret, _, hf => by cases hf
  | .refuse .., _, hf => by cases hf
  | .rangeFunc .., _, hf => by cases hf

/-- THE CODE DOES WHAT ITS SHORT FORM SAYS. ('m': the depth of the recursion: labels' rests are no parts of the code.) -/
theorem xrun_sound (hF : FOk F) (wf0 : Wf E.g0 C0) (hG0 : E.G C0.w) : ∀ (m : Nat) (c : Code), csize c ≤ m → ∀ (x : XC), comp E.P N c = some x → (F = Fence.wide ∨ noRng x = true) →
    ∀ (ρ : Rho) (L : List Blk) (K : XE → Rho → List Blk → Prop) (Q : Exit → Act → World → Prop) (a : Act) (w : World), xrun E x ρ L K → Rel E C0 N ρ L a w →
      (∀ e ρ L a w, K e ρ L → Rel E C0 N ρ L a w → Q e.to a w) → c.wpIn F 0 E.P Q a w := by
  intro m
  induction m with
  | zero => intro c hc; exfalso; cases c <;> simp [csize] at hc
  | succ m ih =>
    intro c hc x hx hdr ρ L K Q a w h hr hQ
    cases c with
    | skip => simp only [comp, Option.some.injEq] at hx; subst hx; exact wpIn_skip (hQ .normal ρ L a w h hr)
    | label l => simp only [comp, Option.some.injEq] at hx; subst hx; exact wpIn_label (hQ .normal ρ L a w h hr)
    | exit id => simp only [comp, Option.some.injEq] at hx; subst hx; exact wpIn_exit (hQ (.exit id) ρ L a w h hr)
    | goto l => simp only [comp, Option.some.injEq] at hx; subst hx; exact wpIn_goto (hQ (.goto l) ρ L a w h hr)
    | ret => simp only [comp, Option.some.injEq] at hx; subst hx; exact wpIn_ret (hQ .ret ρ L a w h hr)
    | refuse s => cases hx
    | rangeFunc g ps asg body =>
      simp only [comp] at hx
      split at hx
      · rename_i g' xa xb hg hxa hxb
        simp only [Option.some.injEq] at hx; subst hx
        obtain rfl := hdr.resolve_right (by simp [noRng])
        exact xrng_sound wf0 hG0 hg hxa hxb h hr hQ
      · simp only [Option.some.injEq] at hx; subst hx; exact h.elim
    | region id ops d =>
      cases d
      · simp only [comp] at hx
        split at hx
        · rename_i xs hxs
          simp only [Option.some.injEq] at hx; subst hx
          refine wpIn_region ?_
          rw [List.range_eq_range']
          exact xops_sound hF wf0 hG0 (fun ρ L a w hk hr => hQ .normal ρ L a w hk hr) ops.size 0 xs ρ L a w (by omega) (by simpa using hxs) h hr
        · simp only [Option.some.injEq] at hx; subst hx; exact h.elim
      · simp only [comp, Option.some.injEq] at hx
        subst hx
        unfold compDraw at h
        split at h
        · rename_i hm
          split at h
          · rename_i xs hxs
            split at h
            · rename_i hc
              simp only [Bool.and_eq_true] at hc
              exact xdraw_sound hF wf0 hG0 (K := fun ρ' L' => K .normal ρ' L') hm hxs (fun i x hx => ⟨x, hx, .inl rfl⟩) rfl hc.2 h.2 hr fun ρ L a w hk hr => hQ .normal ρ L a w hk hr
            · split at h
              · rename_i hc
                refine xdraw_sound hF wf0 hG0 (K := fun ρ' L' => K .normal ρ' L') hm hxs (fun i x hx => ?_) (by simp) hc h hr fun ρ L a w hk hr => hQ .normal ρ L a w hk hr
                rw [List.getElem?_map, Option.map_eq_some_iff] at hx
                obtain ⟨y, hy, rfl⟩ := hx
                exact ⟨y, hy, .inr rfl⟩
              · exact h.elim
          · exact h.elim
        · exact h.elim
    | seq c1 c2 =>
      simp only [comp, Option.bind_eq_some_iff, Option.map_eq_some_iff] at hx
      obtain ⟨x1, h1, x2, h2, rfl⟩ := hx
      simp only [noRng, Bool.and_eq_true] at hdr
      simp only [csize] at hc
      refine wpIn_seq (ih c1 (by omega) x1 h1 (hdr.imp id And.left) ρ L _ _ a w h hr ?_)
      intro e ρ' L' a' w' hk hr'
      cases e with
      | normal => exact ih c2 (by omega) x2 h2 (hdr.imp id And.right) ρ' L' K Q a' w' hk hr' hQ
      | exit id => exact hQ _ ρ' L' a' w' hk hr'
      | goto l => exact hQ _ ρ' L' a' w' hk hr'
      | ret => exact hQ _ ρ' L' a' w' hk hr'
    | cond c1 t e =>
      simp only [comp, Option.bind_eq_some_iff, Option.map_eq_some_iff] at hx
      obtain ⟨q, hq, xt, ht, xe, he, rfl⟩ := hx
      simp only [noRng, Bool.and_eq_true] at hdr
      simp only [csize] at hc
      simp only [xrun] at h
      have hv : VR _ (q.ev ρ) (a.eval c1) := opds_of hr.2.choose_spec.2.2.2.1 c1 q hq
      split at h
      · rename_i b hb
        rw [hb] at hv
        have hv' : a.eval c1 = .bool b := by generalize a.eval c1 = u at hv; cases hv; rfl
        exact wpIn_cond_split hv' (fun hb => ih t (by omega) xt ht (hdr.imp id And.left) ρ L K Q a w (h.1 hb) hr hQ) (fun hb => ih e (by omega) xe he (hdr.imp id And.right) ρ L K Q a w (h.2 hb) hr hQ)
      · exact h.elim
    | block id b =>
      simp only [comp, Option.map_eq_some_iff] at hx; obtain ⟨xb, hb, rfl⟩ := hx
      simp only [csize] at hc
      refine wpIn_block (ih b (by omega) xb hb hdr ρ L _ _ a w h hr ?_)
      intro e ρ' L' a' w' hk hr'
      cases e with
      | normal => exact hQ .normal ρ' L' a' w' hk hr'
      | exit i =>
        simp only [XE.inBlock] at hk
        simp only [XE.to, Exit.inBlock]
        split at hk
        · rename_i hi; rw [if_pos hi]; exact hQ .normal ρ' L' a' w' hk hr'
        · rename_i hi; rw [if_neg hi]; exact hQ (.exit i) ρ' L' a' w' hk hr'
      | goto l => exact hQ _ ρ' L' a' w' hk hr'
      | ret => exact hQ _ ρ' L' a' w' hk hr'
    | loop b =>
      simp only [comp, Option.map_eq_some_iff] at hx; obtain ⟨xb, hb, rfl⟩ := hx
      simp only [csize] at hc
      simp only [xrun] at h
      obtain ⟨n, h⟩ := h
      refine wpIn_loop_rounds n ?_
      have key : ∀ n ρ L a w, xloop (xrun E xb) n ρ L K → Rel E C0 N ρ L a w → Code.roundsIn F 0 E.P b Q n a w := by
        intro n
        induction n with
        | zero => intro ρ L a w h; exact h.elim
        | succ n ihn =>
          intro ρ L a w h hr
          refine ih b (by omega) xb hb hdr ρ L _ _ a w h hr ?_
          intro e ρ' L' a' w' hk hr'
          cases e with
          | normal => exact ihn ρ' L' a' w' hk hr'
          | exit i => exact hQ _ ρ' L' a' w' hk hr'
          | goto l => exact hQ _ ρ' L' a' w' hk hr'
          | ret => exact hQ _ ρ' L' a' w' hk hr'
      exact key n ρ L a w h hr
    | scope b =>
      simp only [comp, Option.map_eq_some_iff] at hx; obtain ⟨xb, hb, rfl⟩ := hx
      simp only [csize] at hc
      simp only [xrun] at h
      obtain ⟨n, h⟩ := h
      refine wpIn_scope n (ih b (by omega) xb hb hdr ρ L _ _ a w h hr ?_)
      have key : ∀ n e ρ L a w, xgoto (xlabs E (mkLabs xb (labels b))) n e ρ L K → Rel E C0 N ρ L a w → scopeN F 0 E.P b Q n e.to a w := by
        intro n
        induction n with
        | zero =>
          intro e ρ L a w h hr
          cases e with
          | normal => exact hQ .normal ρ L a w h hr
          | exit id => exact hQ (.exit id) ρ L a w h hr
          | ret => exact hQ .ret ρ L a w h hr
          | goto l =>
            simp only [xgoto] at h
            rw [xlabs_mk xb l (labels b) (by
              cases hf : xb.find l with
              | none => exact .inr rfl
              | some r => exact .inl (labels_find hb l (by rw [hf]; simp)))] at h
            simp only [XE.to]
            unfold scopeN
            rcases comp_find hb l with ⟨h1, h2⟩ | ⟨rest, xr, h1, h2, h3⟩
            · rw [h2] at h; simp only [Option.map_none] at h
              simp only [h1]; exact hQ (.goto l) ρ L a w h hr
            · rw [h2] at h; simp only [Option.map_some] at h
        | succ n ihn =>
          intro e ρ L a w h hr
          cases e with
          | normal => exact hQ .normal ρ L a w h hr
          | exit id => exact hQ (.exit id) ρ L a w h hr
          | ret => exact hQ .ret ρ L a w h hr
          | goto l =>
            simp only [xgoto] at h
            rw [xlabs_mk xb l (labels b) (by
              cases hf : xb.find l with
              | none => exact .inr rfl
              | some r => exact .inl (labels_find hb l (by rw [hf]; simp)))] at h
            simp only [XE.to]
            unfold scopeN
            rcases comp_find hb l with ⟨h1, h2⟩ | ⟨rest, xr, h1, h2, h3⟩
            · rw [h2] at h; simp only [Option.map_none] at h
              simp only [h1]; exact hQ (.goto l) ρ L a w h hr
            · rw [h2] at h; simp only [Option.map_some] at h
              simp only [h1]
              have hsz := csize_find h1
              exact ih rest (by omega) xr h3 (hdr.imp id (fun h => noRng_find h h2)) ρ L _ _ a w h hr (fun e ρ L a w hk hr => ihn e ρ L a w hk hr)
      exact fun e ρ L a w hk hr => key n e ρ L a w hk hr

end
end Go.X
