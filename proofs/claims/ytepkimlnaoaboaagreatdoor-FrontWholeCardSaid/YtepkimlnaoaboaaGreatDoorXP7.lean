/- Parts of the proof: XSound, XFun, XLib. -/
import Derived.Test.YtepkimlnaoaboaaGreatDoorXP6
import Derived.Sort.QuietThIn
import Derived.LoopNIn
import Derived.RangeFuncCalls
set_option linter.unusedVariables false
set_option linter.unusedSimpArgs false
set_option linter.unusedSectionVars false
section
/- The calculus X, part 14: the code does what its short form says. -/
namespace Go.X
open Go

theorem FOk.fn {F : Fence} (h : FOk F) (f : FuncId) : F.fn f := by
  rcases h with rfl | ⟨l, rfl⟩ <;> trivial
theorem FOk.depth {F : Fence} (h : FOk F) : F.depth = none := by
  rcases h with rfl | ⟨l, rfl⟩ <;> rfl
theorem FOk.calls {F : Fence} (hF : FOk F) {n : Nat} {P : Program} {f : FuncId} {args : Array Value} {w : World} {R : Ending → World → Prop} (h : Calls P f args w R) : CallsIn F n P f args w R := by
  rcases hF with rfl | ⟨l, rfl⟩
  · exact callsIn_wide.2 h
  · exact CallsIn.inRound l (callsIn_wide.2 h)

/-- The marks of loops over functions among the deferred calls: nothing was deferred in their rounds. -/
def DOk (n0 : Nat) (C : Ctx) : List Deferred → Prop
  | [] => True
  | d :: ds => (∃ D, d = { target := .collected D, args := #[] } ∧ n0 ≤ D ∧ D < C.w.heap.size ∧ ¬ C.mine D ∧ C.w.heap[D]? = some (.deferred (some [])) ∧ ∀ d' ∈ ds, d'.target ≠ .collected D) ∧ DOk n0 C ds
/-- .. or just what the environment says. -/
def DOkE (E : Env) (n0 : Nat) (C : Ctx) (ds : List Deferred) : Prop := match E.base with
  | none => DOk n0 C ds
  | some B => ds = B
def KeptE (E : Env) (a : Act) : Prop := ∀ t, t < E.lo → a.tmps.getD t undef = E.kept t
def Env.plain (E : Env) : Prop := E.lo = 0 ∧ E.base = none

theorem DOk.mono {n0 : Nat} {C C' : Ctx} (h : Ext C C') : ∀ {ds : List Deferred}, DOk n0 C ds → DOk n0 C' ds
  | [], _ => trivial
  | d :: ds, ⟨⟨D, h1, h2, h3, h4, h5, h6⟩, h7⟩ =>
    ⟨⟨D, h1, h2, Nat.lt_of_lt_of_le h3 h.size, fun hm => (h.sub D hm).elim h4 (fun hge => absurd h3 (Nat.not_lt.2 hge)), (h.frame D h3 h4).trans h5, h6⟩, h7.mono h⟩

theorem DOkE.mono {E : Env} {n0 : Nat} {C C' : Ctx} (h : Ext C C') {ds : List Deferred} (hd : DOkE E n0 C ds) : DOkE E n0 C' ds := by
  unfold DOkE at *
  split
  · rename_i hb; rw [hb] at hd; exact DOk.mono h hd
  · rename_i B hb; rw [hb] at hd; exact hd
theorem DOkE.none {E : Env} (hb : E.base = none) {n0 : Nat} {C : Ctx} {ds : List Deferred} : DOkE E n0 C ds ↔ DOk n0 C ds := by
  unfold DOkE; rw [hb]
theorem keptE_zero {E : Env} (h : E.lo = 0) {a : Act} : KeptE E a := fun t ht => by rw [h] at ht; omega
/-- Where we are: the environment, the blocks, against the activation and the world; from where we came. -/
def Rel (E : Env) (C0 : Ctx) (N : Nat) (ρ : Rho) (L : List Blk) (a : Act) (w : World) : Prop :=
  a.tmps.size = N ∧ ∃ φ, Wf E.g0 ⟨w, φ, L, C0.X⟩ ∧ Sim ⟨w, φ, L, C0.X⟩ ∧ Ext C0 ⟨w, φ, L, C0.X⟩ ∧ (∀ n, VR ⟨w, φ, L, C0.X⟩ (ρ n) (a.tmps.getD n undef)) ∧ DOkE E C0.w.heap.size ⟨w, φ, L, C0.X⟩ a.defers ∧ KeptE E a

/-- Where it panics. -/
def PanOk (E : Env) (C0 : Ctx) (N : Nat) (Q : Exit → Act → World → Prop) : Prop :=
  ∀ (x : IV) (v : Value) (L' : List Blk) (φ' : Nat → Loc) (a : Act) (w' : World), E.pan x L' → a.tmps.size = N → Wf E.g0 ⟨w', φ', L', C0.X⟩ → Sim ⟨w', φ', L', C0.X⟩ → Ext C0 ⟨w', φ', L', C0.X⟩ →
    VR ⟨w', φ', L', C0.X⟩ x v → DOkE E C0.w.heap.size ⟨w', φ', L', C0.X⟩ a.defers → KeptE E a → (∃ ρ : Rho, ∀ n, VR ⟨w', φ', L', C0.X⟩ (ρ n) (a.tmps.getD n undef)) → Q (.panic [{ v, recovered := false }]) a w'
theorem rel_G {E : Env} {C0 : Ctx} (wf0 : Wf E.g0 C0) (hG : E.G C0.w) {w : World} {φ : Nat → Loc} {L : List Blk} (h : Ext C0 ⟨w, φ, L, C0.X⟩) : E.G w := by
  refine E.hG C0.w w (fun b hb => ?_) hG
  exact h.frame b (Nat.lt_of_lt_of_le hb wf0.g) (fun hm => absurd (wf0.lo b hm) (Nat.not_le.2 hb))

theorem getD_set {t : Array Value} {d n : Nat} {v : Value} (hd : d < t.size) : (t.setIfInBounds d v).getD n undef = if n = d then v else t.getD n undef := by
  rw [Array.getD_eq_getD_getElem?, Array.getD_eq_getD_getElem?, Array.getElem?_setIfInBounds]
  by_cases h : n = d
  · subst h; rw [if_pos rfl, if_pos hd, if_pos rfl]; rfl
  · rw [if_neg (Ne.symm h), if_neg h]

theorem rel_put {E : Env} {C0 : Ctx} {N : Nat} {ρ : Rho} {L L' : List Blk} {a : Act} {w w' : World} {φ φ' : Nat → Loc} {dst : Option Nat} {r : IV} {v : Value} (hN : a.tmps.size = N) (hd : ∀ d, dst = some d → d < N)
    (hx : Ext C0 ⟨w, φ, L, C0.X⟩) (hρ : ∀ n, VR ⟨w, φ, L, C0.X⟩ (ρ n) (a.tmps.getD n undef)) (hdf : DOkE E C0.w.heap.size ⟨w, φ, L, C0.X⟩ a.defers ∧ KeptE E a) (hlo : E.lo = 0 ∨ ∀ d, dst = some d → E.lo ≤ d) (wf' : Wf E.g0 ⟨w', φ', L', C0.X⟩) (sim' : Sim ⟨w', φ', L', C0.X⟩)
    (hx' : Ext ⟨w, φ, L, C0.X⟩ ⟨w', φ', L', C0.X⟩) (hv : VR ⟨w', φ', L', C0.X⟩ r v) : Rel E C0 N (put ρ dst r) L' (a.put dst v) w' := by
  cases dst with
  | none => exact ⟨hN, φ', wf', sim', hx.trans hx', fun n => (hρ n).mono hx', hdf.1.mono hx', hdf.2⟩
  | some d =>
    refine ⟨by simpa [Act.put] using hN, φ', wf', sim', hx.trans hx', fun n => ?_, hdf.1.mono hx', fun t ht => ?_⟩
    rotate_left
    · show (a.tmps.setIfInBounds d v).getD t undef = _
      rw [getD_set (by rw [hN]; exact hd d rfl), if_neg, hdf.2 t ht]
      rcases hlo with h | h
      · rw [h] at ht; omega
      · have := h d rfl; omega
    show VR _ (if n = d then r else ρ n) ((a.tmps.setIfInBounds d v).getD n undef)
    rw [getD_set (by rw [hN]; exact hd d rfl)]
    by_cases h : n = d
    · rw [if_pos h, if_pos h]; exact hv
    · rw [if_neg h, if_neg h]; exact (hρ n).mono hx'

theorem no_defer {P : Program} {o : Op} {x : XO} (h : compOp P o = some x) : ∀ c, o ≠ .defer c := by
  rintro c rfl; cases h

section
variable {E : Env} {F : Fence} {C0 : Ctx} {N : Nat}

/-- What the compiled operation says. -/
theorem compOper_spec {P : Program} {N : Nat} {ops : List Oper} {o : Oper} {x : XOper} (h : compOper P N ops o = some x) :
    compOp P o.op = some x.op ∧ x.dst = o.dst ∧ (∀ d, o.dst = some d → d < N) ∧ ((o.guard = none ∧ x.guard = none) ∨ ∃ j b t, o.guard = some (j, b) ∧ (ops[j]?).bind (·.dst) = some t ∧ x.guard = some (t, b)) := by
  unfold compOper at h
  rw [Option.bind_eq_some_iff] at h
  obtain ⟨y, hy, h⟩ := h
  split at h
  · rename_i hd
    have hd' : ∀ d, o.dst = some d → d < N := fun d he => by
      rw [he] at hd; simpa [dstOk] using hd
    split at h
    · rename_i hg
      simp only [Option.some.injEq] at h; subst h
      exact ⟨hy, rfl, hd', .inl ⟨hg, rfl⟩⟩
    · rename_i j b hg
      rw [Option.map_eq_some_iff] at h
      obtain ⟨t, ht, rfl⟩ := h
      exact ⟨hy, rfl, hd', .inr ⟨j, b, t, hg, ht, rfl⟩⟩
  · cases h

theorem yielded_of {ops : Array Oper} {tmps : Array Value} {j t : Nat} (h : (ops.toList[j]?).bind (·.dst) = some t) {b : Bool} (hv : tmps.getD t undef = .bool b) : yielded ops tmps j = some b := by
  unfold yielded
  rw [← Array.getElem?_toList, h]
  simp only [Option.bind_some]
  rw [Array.getD_eq_getD_getElem?] at hv
  cases ht : tmps[t]? with
  | none => rw [ht] at hv; cases hv
  | some v => rw [ht] at hv; simp at hv; subst hv; rfl
theorem yielded_und {ops : Array Oper} {tmps : Array Value} {j t : Nat} (h : (ops.toList[j]?).bind (·.dst) = some t) (hv : tmps.getD t undef = undef) : yielded ops tmps j = none := by
  unfold yielded
  rw [← Array.getElem?_toList, h]
  simp only [Option.bind_some]
  rw [Array.getD_eq_getD_getElem?] at hv
  cases ht : tmps[t]? with
  | none => rfl
  | some v => rw [ht] at hv; simp at hv; subst hv; rfl

def dstLo (lo : Nat) (o : XOper) : Bool := match o.dst with | none => true | some d => decide (lo ≤ d)
theorem dstLo_of {lo : Nat} {o : XOper} (h : dstLo lo o = true) : ∀ d, o.dst = some d → lo ≤ d := fun d hd => by
  unfold dstLo at h; rw [hd] at h; simpa using h
/-- One operation. -/
theorem xoper_sound (hF : FOk F) (wf0 : Wf E.g0 C0) (hG0 : E.G C0.w) {ops : Array Oper} {KV : IV → List Blk → Prop} {next : Act → World → Prop} {Q : Exit → Act → World → Prop} (hP : PanOk E C0 N Q) {i : Nat} {o : Oper} {x : XOper}
    (hlo : E.lo = 0 ∨ ∀ d, x.dst = some d → E.lo ≤ d) (ho : ops[i]? = some o) (hx : compOper E.P N ops.toList o = some x) {ρ : Rho} {L : List Blk} {a : Act} {w : World} (h : stepV E x ρ L KV) (hr : Rel E C0 N ρ L a w)
    (hn : ∀ v L' a' w', KV v L' → Rel E C0 N (put ρ x.dst v) L' a' w' → next a' w') : wpOpIn F 0 E.P ops Q i next a w := by
  obtain ⟨hop, hdst, hdN, hguard⟩ := compOper_spec hx
  obtain ⟨hN, φ, wf, sim, hext, hρ, hdf⟩ := hr
  have hG := rel_G wf0 hG0 hext
  have habout : ∀ f, o.about E.P w a.eval = some f → F.fn f := fun f _ => hF.fn f
  have hskip : KV .und L → next (a.put o.dst undef) w := fun hs =>
    hn .und L _ w hs (by rw [hdst]; exact rel_put hN hdN hext hρ hdf (by rw [← hdst]; exact hlo) wf sim (Ext.refl _) .und)
  have hexec : xop E x.op (Opd.ev ρ) L KV → o.wpIn F 0 E.P a w next Q := fun he => by
    refine ⟨habout, ?_⟩
    rw [Oper.semAt_eq _ _ _ (no_defer hop)]
    have hgood := xop_sound (E := E) (C := ⟨w, φ, L, C0.X⟩) (a := a) wf sim hG (opds_of hρ) hop he
    have hnext : ∀ v w', Post E ⟨w, φ, L, C0.X⟩ KV v w' → next (a.put o.dst v) w' := by
      rintro v w' ⟨r, L', φ', h1, h2, h3, h4, h5⟩
      exact hn r L' _ w' h1 (by rw [hdst]; exact rel_put hN hdN hext hρ hdf (by rw [← hdst]; exact hlo) h2 h3 h4 h5)
    have hpan : ∀ v w', Post E ⟨w, φ, L, C0.X⟩ E.pan v w' → Q (.panic [{ v, recovered := false }]) a w' := by
      rintro v w' ⟨r, L', φ', h1, h2, h3, h4, h5⟩
      exact hP r v L' φ' a w' h1 hN h2 h3 (hext.trans h4) h5 (hdf.1.mono h4) hdf.2 ⟨ρ, fun n => (hρ n).mono h4⟩
    rcases hgood with ⟨v, w', h1, h2⟩ | ⟨w', h1, h2⟩ | ⟨f, args, w', h1, h2⟩ | ⟨l, fn, tmps, asg, body, w', h1, h2⟩ | ⟨v, w', h1, h2⟩
    · rw [h1]; exact hnext v w' h2
    · rw [h1]; exact hnext undef w' h2
    · rw [h1]
      refine ⟨(fun h => by rw [hF.depth] at h; cases h), (hF.calls h2).mono ?_⟩
      rintro e w'' ⟨v, ⟨rfl, hp⟩ | ⟨rfl, hp⟩⟩
      · exact hnext v w'' hp
      · exact hpan v w'' hp
    · rw [h1]
      refine ⟨(fun h => by rw [hF.depth] at h; cases h), (h2 F hF).mono ?_⟩
      rintro e w'' ⟨v, rfl, hp⟩
      exact hnext v w'' hp
    · rw [h1]; exact hpan v w' h2
  unfold wpOpIn
  simp only [ho]
  unfold stepV at h
  rcases hguard with ⟨hg, hxg⟩ | ⟨j, b, t, hg, ht, hxg⟩
  · rw [hxg] at h
    rw [if_pos (by simp [Region.wanted, hg])]
    exact hexec h
  · rw [hxg] at h
    simp only at h
    have hvt := hρ t
    split at h
    · rename_i b' hb'
      rw [hb'] at hvt
      have hvt' : a.tmps.getD t undef = .bool b' := by generalize a.tmps.getD t undef = u at hvt; cases hvt; rfl
      have hy := yielded_of ht hvt'
      by_cases hbb : b' = b
      · rw [if_pos (by simp [Region.wanted, hg, hy, hbb])]
        exact hexec (h.1 hbb)
      · rw [if_neg (by simp [Region.wanted, hg, hy, hbb])]
        exact ⟨habout, hskip (h.2 hbb)⟩
    · rename_i hb'
      rw [hb'] at hvt
      have hvt' : a.tmps.getD t undef = undef := by generalize a.tmps.getD t undef = u at hvt; cases hvt; rfl
      have hy := yielded_und ht hvt'
      rw [if_neg (by simp [Region.wanted, hg, hy])]
      exact ⟨habout, hskip h⟩
    · exact h.elim

theorem xops_sound (hF : FOk F) (wf0 : Wf E.g0 C0) (hG0 : E.G C0.w) {ops : Array Oper} {K : Rho → List Blk → Prop} {Q : Exit → Act → World → Prop} (hP : PanOk E C0 N Q)
    (hQ : ∀ ρ L a w, K ρ L → Rel E C0 N ρ L a w → Q .normal a w) :
    ∀ (m k : Nat) (xs : List XOper) (ρ : Rho) (L : List Blk) (a : Act) (w : World), (E.lo = 0 ∨ xs.all (dstLo E.lo) = true) → k + m = ops.size → mapO (compOper E.P N ops.toList) (ops.toList.drop k) = some xs → xops E xs ρ L K → Rel E C0 N ρ L a w →
      wpOpsIn F 0 E.P ops Q (List.range' k m) a w
  | 0, k, xs, ρ, L, a, w, hlo, hk, hxs, h, hr => by
    have : ops.toList.drop k = [] := List.drop_eq_nil_of_le (by simp; omega)
    rw [this] at hxs
    simp only [mapO, Option.some.injEq] at hxs; subst hxs
    exact hQ ρ L a w h hr
  | m + 1, k, xs, ρ, L, a, w, hlo, hk, hxs, h, hr => by
    have hlt : k < ops.toList.length := by simp; omega
    obtain ⟨o, ho⟩ : ∃ o, ops.toList[k]? = some o := ⟨_, List.getElem?_eq_getElem hlt⟩
    have hdrop : ops.toList.drop k = o :: ops.toList.drop (k + 1) := by
      rw [List.drop_eq_getElem_cons hlt]
      congr 1
      exact Option.some.inj ((List.getElem?_eq_getElem hlt).symm.trans ho)
    rw [hdrop] at hxs
    simp only [mapO] at hxs
    split at hxs
    · split at hxs
      · rename_i x hx _ xr hxr
        simp only [Option.some.injEq] at hxs; subst hxs
        rw [xops_cons] at h
        have ho' : ops[k]? = some o := by rw [← Array.getElem?_toList]; exact ho
        show wpOpsIn F 0 E.P ops Q (k :: List.range' (k + 1) m) a w
        rw [wpOpsIn_cons]
        simp only [List.all_cons, Bool.and_eq_true] at hlo
        exact xoper_sound hF wf0 hG0 hP (hlo.imp (fun h => h) fun h => dstLo_of h.1) ho' hx h hr fun v L' a' w' hk' hr' => xops_sound hF wf0 hG0 hP hQ m (k + 1) xr _ L' a' w' (hlo.imp id And.right) (by omega) hxr hk' hr'
      · cases hxs
    · cases hxs

theorem sv_toP {o : XOper} {ρ : Rho} {L : List Blk} {KV : IV → List Blk → Prop} (h : stepV E o.toP ρ L KV) : stepV E o ρ L KV := by
  obtain ⟨d, op, g⟩ := o
  cases g with
  | none => exact xop_toP h
  | some p =>
    obtain ⟨t, w⟩ := p
    simp only [stepV, XOper.toP] at h ⊢
    split at h
    · exact ⟨fun hw => xop_toP (h.1 hw), h.2⟩
    · exact h
    · exact h.elim

/-- A region that draws its order. -/
theorem xdraw_sound (hF : FOk F) (wf0 : Wf E.g0 C0) (hG0 : E.G C0.w) {id : Nat} {ops : Array Oper} {K : Rho → List Blk → Prop} {Q : Exit → Act → World → Prop} (hP : PanOk E C0 N Q) (hm : E.P.follows .mixedOrders = true)
    {xs0 xs : List XOper} (hlo : E.lo = 0 ∨ xs.all (dstLo E.lo) = true) (hx0 : mapO (compOper E.P N ops.toList) ops.toList = some xs0) (hxs : ∀ (i : Nat) (x : XOper), xs[i]? = some x → ∃ x0, xs0[i]? = some x0 ∧ (x = x0 ∨ x = x0.toP)) (hl : xs.length = xs0.length) (hB : xlexB ops xs = true)
    {ρ : Rho} {L : List Blk} {a : Act} {w : World} (h : xops E xs ρ L K) (hr : Rel E C0 N ρ L a w) (hQ : ∀ ρ L a w, K ρ L → Rel E C0 N ρ L a w → Q .normal a w) : (Code.region id ops true).wpIn F 0 E.P Q a w := by
  simp only [xlexB, Bool.and_eq_true, List.all_eq_true, decide_eq_true_eq] at hB
  have hlen : xs.length = ops.size := by rw [hl, mapO_len hx0]; simp
  have hr' : Rel E C0 N ρ L a w.drew := by
    obtain ⟨hN, φ, wf, sim, hext, hρ, hdf⟩ := hr
    exact ⟨hN, φ, drew_wf wf, drew_sim sim, hext.trans (drew_ext _), fun n => (hρ n).mono (drew_ext _), hdf.1.mono (drew_ext _), hdf.2⟩
  refine wpIn_region_any hm ?_
  have hany : xAny E ops xs K ops.size (Array.replicate ops.size false) ρ L := by
    have := xAny_lex (E := E) (K := K) hlen hB.1 xs 0 (Array.replicate ops.size false) ρ L (by simp) (by rw [hlen]; exact hB.2) h
    rwa [hlen] at this
  have key : ∀ (fuel : Nat) (listed : Array Bool) (ρ : Rho) (L : List Blk) (a : Act) (w : World), xAny E ops xs K fuel listed ρ L → Rel E C0 N ρ L a w → wpAnyIn F 0 E.P .any ops Q fuel listed a w := by
    intro fuel
    induction fuel with
    | zero => intro listed ρ L a w h hr; exact ⟨h.1, hQ ρ L a w h.2 hr⟩
    | succ fuel ih =>
      intro listed ρ L a w h hr
      refine ⟨fun h0 => hQ ρ L a w (h.1 h0) hr, fun i hi => ?_⟩
      have h1 := h.2 i hi
      obtain ⟨_, o, ho, _⟩ := mem_ready.1 hi
      have hilt : i < xs.length := by rw [hlen]; exact (Array.getElem?_eq_some_iff.1 ho).1
      obtain ⟨x, hx⟩ : ∃ x, xs[i]? = some x := ⟨_, List.getElem?_eq_getElem hilt⟩
      obtain ⟨x0, hx1, hx2⟩ := hxs i x hx
      obtain ⟨o', ho', hc⟩ := mapO_get hx0 i x0 hx1
      rw [Array.getElem?_toList, ho] at ho'
      obtain rfl := Option.some.inj ho'
      simp only [sOp, hx] at h1
      have hd : x.dst = x0.dst := by rcases hx2 with rfl | rfl <;> rfl
      have h2 : stepV E x0 ρ L fun v L' => xAny E ops xs K fuel (listed.setIfInBounds i true) (put ρ x.dst v) L' := by
        rcases hx2 with rfl | rfl
        · exact h1
        · exact sv_toP h1
      exact xoper_sound hF wf0 hG0 hP (hlo.imp (fun h => h) fun h => by rw [← hd]; rw [List.all_eq_true] at h; exact dstLo_of (h x (List.mem_of_getElem? hx))) ho hc h2 hr fun v L' a' w' hk' hr' => ih _ _ L' a' w' hk' (by rw [hd]; exact hr')
  exact key _ _ _ _ _ _ hany hr'

/-- One operation with a number kept for it. -/
theorem xoperR_sound (hF : FOk F) (wf0 : Wf E.g0 C0) (hG0 : E.G C0.w) {ops : Array Oper} {KV : IV → List Blk → Prop} {next : Act → World → Prop} {Q : Exit → Act → World → Prop} (hP : PanOk E C0 N Q) {i g : Nat} {o : Oper} {x : XOper}
    (hlo : E.lo = 0 ∨ ∀ d, x.dst = some d → E.lo ≤ d) (ho : ops[i]? = some o) (hx : compOper E.P N ops.toList o = some x) {ρ : Rho} {L : List Blk} {a : Act} {w : World} (h : stepR E x g ρ L KV) (hr : Rel E C0 N ρ L a w)
    (hn : ∀ v L' a' w', KV v L' → Rel E C0 N (put ρ x.dst v) L' a' w' → next a' w') : wpOpIn F 0 E.P ops Q i next a w := by
  obtain ⟨hop, hdst, hdN, hguard⟩ := compOper_spec hx
  obtain ⟨hN, φ, wf, sim, hext, hρ, hdf⟩ := hr
  have hG := rel_G wf0 hG0 hext
  have habout : ∀ f, o.about E.P w a.eval = some f → F.fn f := fun f _ => hF.fn f
  have hskip : KV .und L → next (a.put o.dst undef) w := fun hs =>
    hn .und L _ w hs (by rw [hdst]; exact rel_put hN hdN hext hρ hdf (by rw [← hdst]; exact hlo) wf sim (Ext.refl _) .und)
  have hexec : xopR E x.op (Opd.ev ρ) g L KV → o.wpIn F 0 E.P a w next Q := fun he => by
    refine ⟨habout, ?_⟩
    rw [Oper.semAt_eq _ _ _ (no_defer hop)]
    obtain ⟨g', hf', hT⟩ := xopR_T he
    have hgood := xopT_sound (E := E) (C := ⟨w, φ, L, C0.X⟩) (a := a) hf' wf sim hG (opds_of hρ) hop hT
    have hnext : ∀ v w', Post E ⟨w, φ, L, C0.X⟩ KV v w' → next (a.put o.dst v) w' := by
      rintro v w' ⟨r, L', φ', h1, h2, h3, h4, h5⟩
      exact hn r L' _ w' h1 (by rw [hdst]; exact rel_put hN hdN hext hρ hdf (by rw [← hdst]; exact hlo) h2 h3 h4 h5)
    have hpan : ∀ v w', Post E ⟨w, φ, L, C0.X⟩ E.pan v w' → Q (.panic [{ v, recovered := false }]) a w' := by
      rintro v w' ⟨r, L', φ', h1, h2, h3, h4, h5⟩
      exact hP r v L' φ' a w' h1 hN h2 h3 (hext.trans h4) h5 (hdf.1.mono h4) hdf.2 ⟨ρ, fun n => (hρ n).mono h4⟩
    rcases hgood with ⟨v, w', h1, h2⟩ | ⟨w', h1, h2⟩ | ⟨f, args, w', h1, h2⟩ | ⟨l, fn, tmps, asg, body, w', h1, h2⟩ | ⟨v, w', h1, h2⟩
    · rw [h1]; exact hnext v w' h2
    · rw [h1]; exact hnext undef w' h2
    · rw [h1]
      refine ⟨(fun h => by rw [hF.depth] at h; cases h), (hF.calls h2).mono ?_⟩
      rintro e w'' ⟨v, ⟨rfl, hp⟩ | ⟨rfl, hp⟩⟩
      · exact hnext v w'' hp
      · exact hpan v w'' hp
    · rw [h1]
      refine ⟨(fun h => by rw [hF.depth] at h; cases h), (h2 F hF).mono ?_⟩
      rintro e w'' ⟨v, rfl, hp⟩
      exact hnext v w'' hp
    · rw [h1]; exact hpan v w' h2
  unfold wpOpIn
  simp only [ho]
  unfold stepR at h
  rcases hguard with ⟨hg, hxg⟩ | ⟨j, b, t, hg, ht, hxg⟩
  · rw [hxg] at h
    rw [if_pos (by simp [Region.wanted, hg])]
    exact hexec h
  · rw [hxg] at h
    simp only at h
    have hvt := hρ t
    split at h
    · rename_i b' hb'
      rw [hb'] at hvt
      have hvt' : a.tmps.getD t undef = .bool b' := by generalize a.tmps.getD t undef = u at hvt; cases hvt; rfl
      have hy := yielded_of ht hvt'
      by_cases hbb : b' = b
      · rw [if_pos (by simp [Region.wanted, hg, hy, hbb])]
        exact hexec (h.1 hbb)
      · rw [if_neg (by simp [Region.wanted, hg, hy, hbb])]
        exact ⟨habout, hskip (h.2 hbb)⟩
    · rename_i hb'
      rw [hb'] at hvt
      have hvt' : a.tmps.getD t undef = undef := by generalize a.tmps.getD t undef = u at hvt; cases hvt; rfl
      have hy := yielded_und ht hvt'
      rw [if_neg (by simp [Region.wanted, hg, hy])]
      exact ⟨habout, hskip h⟩
    · exact h.elim

theorem xopR_toP {o : XO} {e : Opd → IV} {g : Nat} {L : List Blk} {K : IV → List Blk → Prop} (h : xopR E o.toP e g L K) : xopR E o e g L K := by
  cases o with
  | call f as => exact xop_toP (o := .call f as) h
  | _ => exact h
theorem sr_toP {o : XOper} {g : Nat} {ρ : Rho} {L : List Blk} {KV : IV → List Blk → Prop} (h : stepR E o.toP g ρ L KV) : stepR E o g ρ L KV := by
  obtain ⟨d, op, gd⟩ := o
  cases gd with
  | none => exact xopR_toP h
  | some p =>
    obtain ⟨t, w⟩ := p
    simp only [stepR, XOper.toP] at h ⊢
    split at h
    · exact ⟨fun hw => xopR_toP (h.1 hw), h.2⟩
    · exact h
    · exact h.elim

/-- Blocks that are kept. -/
theorem rel_keep {ρ : Rho} {L : List Blk} {a : Act} {w : World} (m : Nat) (h : Rel E C0 N ρ L a w) : Rel E C0 N ρ (L ++ List.replicate m .unborn) a w := by
  obtain ⟨hN, φ, wf, sim, hext, hρ, hdf⟩ := h
  let C : Ctx := ⟨w, φ, L, C0.X⟩
  let C' : Ctx := ⟨w, φ, L ++ List.replicate m .unborn, C0.X⟩
  have hget : ∀ (s : Nat) (k : Blk), C'.L[s]? = some k → k.alive = true → C.L[s]? = some k := fun s k hk ha => by
    rcases Nat.lt_or_ge s L.length with h1 | h1
    · rw [show C'.L = L ++ List.replicate m .unborn from rfl, List.getElem?_append_left h1] at hk; exact hk
    · rw [show C'.L = L ++ List.replicate m .unborn from rfl, List.getElem?_append_right h1, List.getElem?_replicate] at hk
      split at hk
      · cases hk; cases ha
      · cases hk
  have hmine : ∀ b, C'.mine b → C.mine b := by
    rintro b ⟨s, k, hk, ha, rfl⟩
    exact ⟨s, k, hget s k hk ha, ha, rfl⟩
  have hx : Ext C C' := ⟨Nat.le_refl _, fun _ _ _ => rfl, fun b h => .inl (hmine b h), fun _ _ => rfl, fun s hs => by
    obtain ⟨k, h1, h2⟩ := hs
    exact ⟨k, by show (L ++ _)[s]? = _; rw [List.getElem?_append_left (lt_of_get h1)]; exact h1, h2⟩, by simp [C, C'], fun b c e fr h => ⟨c, e, fr, h, rfl⟩, rfl, rfl, rfl, rfl⟩
  refine ⟨hN, φ, ⟨fun s t k l hs ht as at_ heq => wf.inj s t k l (hget s k hs as) (hget t l ht at_) as at_ heq, fun b h => wf.lo b (hmine b h), fun b hb h => wf.apart b hb (hmine b h), wf.exlo, wf.g⟩, ?_, hext.trans hx, fun n => (hρ n).mono hx, hdf.1.mono hx, hdf.2⟩
  intro s k hk
  by_cases ha : k.alive = true
  · exact (sim s k (hget s k hk ha)).mono hx (hget s k hk ha) rfl
  · cases k <;> first | trivial | (exfalso; exact ha rfl)

theorem getD_arr {a : Array Bool} {i : Nat} {d : Bool} (h : i < a.size) : a.getD i d = a[i] := by
  rw [Array.getD_eq_getD_getElem?, Array.getElem?_eq_getElem h]; rfl

/-- A region that draws its order, with several effects. -/
theorem xdrawR_sound (hF : FOk F) (wf0 : Wf E.g0 C0) (hG0 : E.G C0.w) {id : Nat} {ops : Array Oper} {K : Rho → List Blk → Prop} {Q : Exit → Act → World → Prop} (hP : PanOk E C0 N Q) (hm : E.P.follows .mixedOrders = true)
    {xs0 : List XOper} (hlo : E.lo = 0 ∨ xs0.all (dstLo E.lo) = true) (hx0 : mapO (compOper E.P N ops.toList) ops.toList = some xs0) {xs : List (XOper × List Nat × Bool)} (hxs : xs.map (·.1) = xs0.map XOper.toP) (hB : xresB ops xs = true)
    {ρ : Rho} {L : List Blk} {a : Act} {w : World} (h : xopsD E 0 [] xs ρ L K) (hr : Rel E C0 N ρ L a w) (hQ : ∀ ρ L a w, K ρ L → Rel E C0 N ρ L a w → Q .normal a w) : (Code.region id ops true).wpIn F 0 E.P Q a w := by
  obtain ⟨hlen, hrk, htopo, hpair⟩ := raceOk_of hB
  obtain ⟨tr, m, ρ', L', hK, hrun, hchk⟩ := trace xs 0 [] ρ L hrk h
  obtain ⟨hl1, hat, hfin⟩ := run_at _ _ _ _ hrun
  obtain ⟨_, hpr⟩ := chk_pair xs 0 [] tr hchk
  let ys := xs.map (·.1)
  let n := ops.size
  have hyl : ys.length = n := by simp [ys, n, hlen]
  have htl : tr.length = n := by rw [← hl1]; exact hyl
  let s0 : St := (ρ, L ++ List.replicate m .unborn)
  have hys : ∀ (i : Nat) (o : XOper), ys[i]? = some o → ∃ chk keep, xs[i]? = some (o, chk, keep) := fun i o hi => by
    simp only [ys, List.getElem?_map, Option.map_eq_some_iff] at hi
    obtain ⟨⟨o', chk, keep⟩, h1, rfl⟩ := hi
    exact ⟨chk, keep, h1⟩
  have hok : ∀ (i : Nat) (o : XOper) (t : Tr), ys[i]? = some o → tr[i]? = some t → TrOk E o t (SS ys tr (fun _ => true) s0 i) := hat
  have hfit : ∀ t ∈ tr, Fits t := fun t ht => by
    obtain ⟨i, hi, rfl⟩ := List.mem_iff_getElem.1 ht
    have hi' : i < ys.length := by omega
    exact (hok i _ _ (List.getElem?_eq_getElem hi') (List.getElem?_eq_getElem hi)).1
  have hind : ∀ (i j : Nat) (o : XOper) (t : Tr) (p : XOper) (u : Tr), i < j → j ∉ xwaits ops i → ys[i]? = some o → tr[i]? = some t → ys[j]? = some p → tr[j]? = some u → Ind o t p u := fun i j o t p u hij hw hi ht hj hu => by
    obtain ⟨chk, keep, h1⟩ := hys i o hi
    obtain ⟨chk', keep', h2⟩ := hys j p hj
    rcases hpair i j o chk keep p chk' keep' hij h1 h2 with h3 | ⟨h3, h4, h5, h6⟩
    · exact absurd h3 hw
    · refine ⟨h3, h4, h5, ?_⟩
      obtain ⟨_, a1, a2, _⟩ := hok i o t hi ht
      obtain ⟨_, b1, b2, _⟩ := hok j p u hj hu
      by_cases hrc : racy o p = true
      · obtain ⟨h7, h8⟩ := h6 hrc
        exact hpr i j o chk keep t p chk' keep' u hij h1 ht h2 hu h7 (by rw [Nat.zero_add]; exact h8)
      · simp only [racy, Bool.and_eq_true, Bool.not_eq_true', beq_eq_false_iff_ne, ne_eq, Bool.and_eq_false_iff, not_and, not_or] at hrc
        by_cases ho : o.op.rk = 0
        · obtain ⟨e1, e2⟩ := a1 ho; rw [e1, e2]; exact ap_nil_l
        · by_cases hp : p.op.rk = 0
          · obtain ⟨e1, e2⟩ := b1 hp; rw [e1, e2]; exact ap_nil_r
          · have h9 := hrc ⟨ho, hp⟩
            have ho1 : o.op.rk = 1 := by
              by_cases h10 : o.op.rk = 1
              · exact h10
              · exact absurd h10 h9.1
            have hp1 : p.op.rk = 1 := by
              by_cases h10 : p.op.rk = 1
              · exact h10
              · exact absurd h10 h9.2
            rw [a2 ho1, b2 hp1]
            exact ⟨fun i h => by simp at h, fun i h => by simp at h⟩
  have hr' : Rel E C0 N s0.1 s0.2 a w.drew := by
    refine rel_keep m ?_
    obtain ⟨hN, φ, wf, sim, hext, hρ, hdf⟩ := hr
    exact ⟨hN, φ, drew_wf wf, drew_sim sim, hext.trans (drew_ext _), fun n => (hρ n).mono (drew_ext _), hdf.1.mono (drew_ext _), hdf.2⟩
  refine wpIn_region_any hm ?_
  -- any order
  have key : ∀ (fuel : Nat) (listed : Array Bool) (a : Act) (w : World), listed.size = n → (∀ (j : Nat) (o : Oper), ops[j]? = some o → listed.getD j true = true → ∀ e ∈ o.after, Region.binds .any e = true → listed.getD e.on true = true) →
      ((List.range n).filter fun i => !listed.getD i true).length = fuel →
      Rel E C0 N (SS ys tr (fun i => listed.getD i true) s0 n).1 (SS ys tr (fun i => listed.getD i true) s0 n).2 a w → wpAnyIn F 0 E.P .any ops Q fuel listed a w := by
    intro fuel
    -- nothing is ready: all are listed
    have hend : ∀ (listed : Array Bool) (a : Act) (w : World), listed.size = n → Region.ready .any ops listed = [] →
        Rel E C0 N (SS ys tr (fun i => listed.getD i true) s0 n).1 (SS ys tr (fun i => listed.getD i true) s0 n).2 a w → Q .normal a w := by
      intro listed a w hsz hrd hr
      have hall : ∀ i, i < n → listed.getD i true = true := by
        intro i
        induction i using Nat.strongRecOn with
        | ind i ih =>
          intro hi
          by_cases hli : listed.getD i true = true
          · exact hli
          · exfalso
            have : i ∈ Region.ready .any ops listed := by
              rw [mem_ready]
              refine ⟨by simpa using hli, ops[i], Array.getElem?_eq_getElem hi, fun e he hb => ?_⟩
              have h1 := htopo i _ (Array.getElem?_eq_getElem hi) e he hb
              have h2 := ih e.on h1 (by omega)
              rw [getD_arr (by omega)] at h2 ⊢
              exact h2
            rw [hrd] at this; cases this
      have e1 : SS ys tr (fun i => listed.getD i true) s0 n = SS ys tr (fun _ => true) s0 n := SS_congr n fun i hi => hall i hi
      rw [e1] at hr
      have e2 : SS ys tr (fun _ => true) s0 n = (ρ', L') := by rw [← hyl]; exact hfin
      rw [e2] at hr
      exact hQ _ _ _ _ hK hr
    induction fuel with
    | zero =>
      intro listed a w hsz hcl hcnt hr
      have hrd : Region.ready .any ops listed = [] := by
        cases hrd : Region.ready .any ops listed with
        | nil => rfl
        | cons i r =>
          exfalso
          have hi : i ∈ Region.ready .any ops listed := by rw [hrd]; exact List.mem_cons_self
          obtain ⟨h1, o, ho, _⟩ := mem_ready.1 hi
          have : i ∈ (List.range n).filter fun i => !listed.getD i true := by
            simp only [List.mem_filter, List.mem_range, Bool.not_eq_true']
            exact ⟨(Array.getElem?_eq_some_iff.1 ho).1, h1⟩
          rw [List.eq_nil_of_length_eq_zero hcnt] at this; cases this
      exact ⟨hrd, hend listed a w hsz hrd hr⟩
    | succ fuel ih =>
      intro listed a w hsz hcl hcnt hr
      refine ⟨fun h0 => hend listed a w hsz h0 hr, fun j hj => ?_⟩
      obtain ⟨hjun, o, ho, hdeps⟩ := mem_ready.1 hj
      have hjn : j < n := (Array.getElem?_eq_some_iff.1 ho).1
      obtain ⟨p, hp⟩ : ∃ p, ys[j]? = some p := ⟨_, List.getElem?_eq_getElem (by omega)⟩
      obtain ⟨u, hu⟩ : ∃ u, tr[j]? = some u := ⟨_, List.getElem?_eq_getElem (by omega)⟩
      -- who waits is not listed
      have hwait : ∀ i, listed.getD i true = false → ∀ k, k ∈ xwaits ops i → listed.getD k true = false := by
        intro i hi
        intro k
        induction k using Nat.strongRecOn with
        | ind k ihk =>
          intro hk
          by_cases hki : k = i
          · subst hki; exact hi
          · obtain ⟨o', e, h1, h2, h3, h4⟩ := (xwaits_spec ops i).edge k hk hki
            have h5 := ihk e.on (htopo k o' h1 e h2 h3) h4
            by_cases h6 : listed.getD k true = true
            · have := hcl k o' h1 h6 e h2 h3
              rw [h5] at this; cases this
            · simpa using h6
      have hjw : ∀ i, listed.getD i true = false → i < j → j ∉ xwaits ops i := fun i hi hij hw => by
        obtain ⟨o', e, h1, h2, h3, h4⟩ := (xwaits_spec ops i).edge j hw (by omega)
        rw [ho] at h1; cases h1
        have h5 := hdeps e h2 h3
        have h6 := hwait i hi e.on h4
        have h7 := htopo j o ho e h2 h3
        rw [getD_arr (by omega)] at h5 h6
        rw [h5] at h6; cases h6
      have hI1 : ∀ (i : Nat) (o : XOper) (t : Tr), i < j → (fun i => listed.getD i true) i = false → ys[i]? = some o → tr[i]? = some t → Ind o t p u := fun i o t hij hi ho' ht => hind i j o t p u hij (hjw i hi hij) ho' ht hp hu
      have hI2 : ∀ (i : Nat) (o : XOper) (t : Tr), j < i → (fun i => listed.getD i true) i = true → ys[i]? = some o → tr[i]? = some t → Ind o t p u := fun i o t hij hi ho' ht =>
        (hind j i p u o t hij (fun hw => by have := hwait j hjun i hw; simp only at hi; rw [this] at hi; cases hi) hp hu ho' ht).symm
      have hag := (ss_agree hfit (s0 := s0) hp hu hjun hI1 hI2 n).2 (by omega)
      obtain ⟨_, _, _, hstep⟩ := hok j p u hp hu
      have hst := hstep (SS ys tr (fun i => listed.getD i true) s0 n).1 (SS ys tr (fun i => listed.getD i true) s0 n).2 hag.1 hag.2.1 (fun v L'' => v = u.v ∧ L'' = setL (SS ys tr (fun i => listed.getD i true) s0 n).2 u.wl) ⟨rfl, rfl⟩
      -- the operation's short form
      have hp' : (xs0.map XOper.toP)[j]? = some p := by rw [← hxs]; exact hp
      rw [List.getElem?_map, Option.map_eq_some_iff] at hp'
      obtain ⟨x0, hx1, rfl⟩ := hp'
      obtain ⟨o', ho', hc⟩ := mapO_get hx0 j x0 hx1
      rw [Array.getElem?_toList, ho] at ho'
      obtain rfl := Option.some.inj ho'
      refine xoperR_sound hF wf0 hG0 hP (hlo.imp (fun h => h) fun h => by rw [List.all_eq_true] at h; exact dstLo_of (h x0 (List.mem_of_getElem? hx1))) ho hc (sr_toP hst) hr fun v L'' a' w' hv hr'' => ?_
      obtain ⟨rfl, rfl⟩ := hv
      refine ih (listed.setIfInBounds j true) a' w' (by simp [hsz]) ?_ ?_ ?_
      · intro k o' hk hlk e he hb
        by_cases hkj : j = k
        · subst hkj
          rw [ho] at hk; cases hk
          have h5 := hdeps e he hb
          have h7 := htopo j o ho e he hb
          have h8 : listed.getD e.on true = true := by rw [getD_arr (by omega)] at h5 ⊢; exact h5
          rw [Go.getD_set_ne true (by omega)]; exact h8
        · rw [Go.getD_set_ne true hkj] at hlk
          have := hcl k o' hk hlk e he hb
          by_cases hej : j = e.on
          · rw [← hej, getD_arr (by simp; omega)]; simp
          · rw [Go.getD_set_ne true hej]; exact this
      · have h1 : ((List.range n).filter fun i => !listed.getD i true) = ((List.range n).filter fun i => !listed.getD i true) := rfl
        have hmem : j ∈ (List.range n).filter fun i => !listed.getD i true := by
          simp only [List.mem_filter, List.mem_range, Bool.not_eq_true']; exact ⟨hjn, hjun⟩
        have he : ((List.range n).filter fun i => !(listed.setIfInBounds j true).getD i true) = ((List.range n).filter fun i => !listed.getD i true).erase j := by
          rw [List.Nodup.erase_eq_filter (show List.Nodup _ from List.Pairwise.filter _ List.nodup_range), List.filter_filter]
          refine List.filter_congr fun i hi => ?_
          by_cases hij : j = i
          · subst hij
            rw [getD_arr (by simp; omega)]; simp
          · rw [Go.getD_set_ne true hij]
            have : (i != j) = true := by simp [Ne.symm hij]
            rw [this, Bool.true_and]
        rw [he, List.length_erase_of_mem hmem, hcnt]; rfl
      · have hadd := ss_add hfit (s0 := s0) (lst' := fun i => (listed.setIfInBounds j true).getD i true) hp hu hjun (by rw [getD_arr (by simp; omega)]; simp) (fun i hi => by rw [Go.getD_set_ne true (Ne.symm hi)]) hI2 n hjn
        rw [hadd]
        exact hr''
  have h0 : SS ys tr (fun i => (Array.replicate ops.size false).getD i true) s0 n = s0 := by
    have : ∀ k, k ≤ n → SS ys tr (fun i => (Array.replicate ops.size false).getD i true) s0 k = s0 := by
      intro k
      induction k with
      | zero => intro _; rfl
      | succ k ih =>
        intro hk
        simp only [SS]
        rw [if_neg (by rw [getD_arr (by simp; omega)]; simp)]
        exact ih (by omega)
    exact this n (Nat.le_refl _)
  refine key ops.size (Array.replicate ops.size false) a w.drew (by simp [n]) (fun j o ho hl => ?_) ?_ (by rw [h0]; exact hr')
  · rw [getD_arr (by simpa using (Array.getElem?_eq_some_iff.1 ho).1)] at hl
    simp at hl
  · rw [List.filter_eq_self.2, List.length_range]
    intro i hi
    rw [getD_arr (by simpa using List.mem_range.1 hi)]
    simp

def XE.to : XE → Exit
  | .normal => .normal
  | .exit id => .exit id
  | .goto l => .goto l
  | .ret => .ret

/-! ### A scope with labels -/
theorem stepR_scope {P : Program} {b : Frame} {a : Act} {k : List Item} {cs : List Frame} {w : World} {c : Code} : step P (lone (b.atR a (.code (.scope c) :: k)) cs w) = .next (lone (b.atR a (.code c :: .inScope c :: k)) cs w) :=
  step_lone_go (by simp [stepG, stepG.exec, Frame.atR])
theorem stepR_inScope {P : Program} {b : Frame} {a : Act} {k : List Item} {cs : List Frame} {w : World} {c : Code} : step P (lone (b.atR a (.inScope c :: k)) cs w) = .next (lone (b.atR a k) cs w) :=
  step_lone_go (by simp [stepG, stepG.exec, Frame.atR])

/-- What is to be shown where the scope's code ends: a jump to a label of its own goes on there, no more than m times. -/
def scopeN (F : Fence) (n : Nat) (P : Program) (c : Code) (Q : Exit → Act → World → Prop) : Nat → Exit → Act → World → Prop
  | m, .goto l, a, w => match findLabel c l with
    | none => Q (.goto l) a w
    | some rest => match m with
      | 0 => False
      | m + 1 => rest.wpIn F n P (scopeN F n P c Q m) a w
  | _, e, a, w => Q e a w

theorem scopeN_pan {F : Fence} {n : Nat} {P : Program} {c : Code} {Q : Exit → Act → World → Prop} (k : Nat) {ch : List PanicEntry} {a : Act} {w : World} : scopeN F n P c Q k (.panic ch) a w = Q (.panic ch) a w := by
  cases k <;> rfl
theorem PanOk.scope {E : Env} {C0 : Ctx} {N : Nat} {F : Fence} {n : Nat} {P : Program} {c : Code} {Q : Exit → Act → World → Prop} (k : Nat) (h : PanOk E C0 N Q) : PanOk E C0 N (scopeN F n P c Q k) :=
  fun x v L' φ' a w' h1 h2 h3 h4 h5 h6 h7 => by rw [scopeN_pan]; exact h x v L' φ' a w' h1 h2 h3 h4 h5 h6 h7
theorem wpIn_scope {n : Nat} {P : Program} {Q : Exit → Act → World → Prop} {a : Act} {w : World} {c : Code} (m : Nat) (h : c.wpIn F n P (scopeN F n P c Q m) a w) : (Code.scope c).wpIn F n P Q a w := by
  intro b k cs hro hb hr
  have key : ∀ m c' a w, Code.wpIn F n P c' (scopeN F n P c Q m) a w →
      ∃ e a' w', Q e a' w' ∧ ArrivesIn (Machine.fenced P F) P (lone (b.atR a (.code c' :: .inScope c :: k)) cs w) b k cs e a' w' := by
    intro m
    induction m with
    | zero =>
      intro c' a w h
      obtain ⟨e, a₁, w₁, hq, harr⟩ := h b (.inScope c :: k) cs hro hb hr
      cases e with
      | normal => exact ⟨_, a₁, w₁, hq, StepsIn.trans harr (.one (fenced_calm hb hr rfl) stepR_inScope)⟩
      | exit id => exact ⟨_, a₁, w₁, hq, ⟨fun k' hk => harr.1 k' (by simpa [exitTo] using hk), fun h1 hk => harr.2 h1 (by simpa [exitTo] using hk)⟩⟩
      | goto l =>
        unfold scopeN at hq
        cases hf : findLabel c l with
        | none =>
          simp only [hf] at hq
          exact ⟨_, a₁, w₁, hq, ⟨fun k' hk => harr.1 k' (by simpa [gotoIn, hf] using hk), fun h1 hk => harr.2 h1 (by simpa [gotoIn, hf] using hk)⟩⟩
        | some rest => simp only [hf] at hq
      | ret => exact ⟨_, a₁, w₁, hq, harr⟩
      | panic ch => exact ⟨_, a₁, w₁, hq, harr⟩
      | outgrown => exact ⟨_, a₁, w₁, hq, harr⟩
    | succ m ih =>
      intro c' a w h
      obtain ⟨e, a₁, w₁, hq, harr⟩ := h b (.inScope c :: k) cs hro hb hr
      cases e with
      | normal => exact ⟨_, a₁, w₁, hq, StepsIn.trans harr (.one (fenced_calm hb hr rfl) stepR_inScope)⟩
      | exit id => exact ⟨_, a₁, w₁, hq, ⟨fun k' hk => harr.1 k' (by simpa [exitTo] using hk), fun h1 hk => harr.2 h1 (by simpa [exitTo] using hk)⟩⟩
      | goto l =>
        unfold scopeN at hq
        cases hf : findLabel c l with
        | none =>
          simp only [hf] at hq
          exact ⟨_, a₁, w₁, hq, ⟨fun k' hk => harr.1 k' (by simpa [gotoIn, hf] using hk), fun h1 hk => harr.2 h1 (by simpa [gotoIn, hf] using hk)⟩⟩
        | some rest =>
          simp only [hf] at hq
          obtain ⟨e₂, a₂, w₂, hq₂, harr₂⟩ := ih rest a₁ w₁ hq
          exact ⟨e₂, a₂, w₂, hq₂, .of_steps (harr.1 _ (by simp [gotoIn, hf])) harr₂⟩
      | ret => exact ⟨_, a₁, w₁, hq, harr⟩
      | panic ch => exact ⟨_, a₁, w₁, hq, harr⟩
      | outgrown => exact ⟨_, a₁, w₁, hq, harr⟩
  obtain ⟨e, a', w', hq, harr⟩ := key m c a w h
  exact ⟨e, a', w', hq, .of_steps (.one (fenced_calm hb hr rfl) stepR_scope) harr⟩

theorem compDraw_find {P : Program} {N l : Nat} {ops : Array Oper} : (compDraw P N ops).find l = none := by
  unfold compDraw
  split
  · split
    · split
      · rfl
      · split
        · rfl
        · split <;> rfl
    · rfl
  · rfl

theorem comp_find {P : Program} {N : Nat} : ∀ {c : Code} {x : XC}, comp P N c = some x → ∀ l, (findLabel c l = none ∧ x.find l = none) ∨ ∃ rest xr, findLabel c l = some rest ∧ x.find l = some xr ∧ comp P N rest = some xr
  | .seq a b, x, h, l => by
    simp only [comp, Option.bind_eq_some_iff, Option.map_eq_some_iff] at h
    obtain ⟨a', ha, b', hb, rfl⟩ := h
    simp only [findLabel, XC.find]
    rcases comp_find ha l with ⟨h1, h2⟩ | ⟨r, xr, h1, h2, h3⟩
    · rw [h1, h2]; exact comp_find hb l
    · rw [h1, h2]; exact .inr ⟨_, _, rfl, rfl, by simp only [comp, h3, hb, Option.bind_some, Option.map_some]⟩
  | .label l', x, h, l => by
    simp only [comp, Option.some.injEq] at h; subst h
    simp only [findLabel, XC.find]
    by_cases hl : l' = l
    · subst hl; simp [comp]
    · have : (l' == l) = false := by simpa using hl
      simp [this]
  | .skip, x, h, l => by simp only [comp, Option.some.injEq] at h; subst h; exact .inl ⟨rfl, rfl⟩
  | .region _ ops false, x, h, l => by
    simp only [comp] at h
    split at h <;> (simp only [Option.some.injEq] at h; subst h; exact .inl ⟨rfl, rfl⟩)
  | .region _ ops true, x, h, l => by simp only [comp, Option.some.injEq] at h; subst h; exact .inl ⟨rfl, compDraw_find⟩
  | .cond c t e, x, h, l => by
    simp only [comp, Option.bind_eq_some_iff, Option.map_eq_some_iff] at h
    obtain ⟨c', _, t', _, e', _, rfl⟩ := h; exact .inl ⟨rfl, rfl⟩
  | .block id b, x, h, l => by simp only [comp, Option.map_eq_some_iff] at h; obtain ⟨y, _, rfl⟩ := h; exact .inl ⟨rfl, rfl⟩
  | .loop b, x, h, l => by simp only [comp, Option.map_eq_some_iff] at h; obtain ⟨y, _, rfl⟩ := h; exact .inl ⟨rfl, rfl⟩
  | .exit id, x, h, l => by simp only [comp, Option.some.injEq] at h; subst h; exact .inl ⟨rfl, rfl⟩
  | .scope b, x, h, l => by simp only [comp, Option.map_eq_some_iff] at h; obtain ⟨y, _, rfl⟩ := h; exact .inl ⟨rfl, rfl⟩
  | .goto l', x, h, l => by simp only [comp, Option.some.injEq] at h; subst h; exact .inl ⟨rfl, rfl⟩
  | .ret, x, h, l => by simp only [comp, Option.some.injEq] at h; subst h; exact .inl ⟨rfl, rfl⟩
  | .refuse _, x, h, l => by simp only [comp, Option.some.injEq] at h; subst h; exact .inl ⟨rfl, rfl⟩
  | .rangeFunc .., x, h, l => by
    simp only [comp] at h
    split at h <;> (simp only [Option.some.injEq] at h; subst h; exact .inl ⟨rfl, rfl⟩)

theorem labels_find {P : Program} {N : Nat} : ∀ {c : Code} {x : XC}, comp P N c = some x → ∀ l, x.find l ≠ none → l ∈ labels c
  | .seq a b, x, h, l, hf => by
    simp only [comp, Option.bind_eq_some_iff, Option.map_eq_some_iff] at h
    obtain ⟨a', ha, b', hb, rfl⟩ := h
    simp only [XC.find] at hf
    simp only [labels, List.mem_append]
    cases h1 : a'.find l with
    | none => rw [h1] at hf; exact .inr (labels_find hb l hf)
    | some r => exact .inl (labels_find ha l (by rw [h1]; simp))
  | .label l', x, h, l, hf => by
    simp only [comp, Option.some.injEq] at h; subst h
    simp only [XC.find] at hf
    split at hf
    · rename_i he
      have : l' = l := by simpa using he
      simp [labels, this]
    · exact absurd rfl hf
  | .skip, x, h, l, hf => by simp only [comp, Option.some.injEq] at h; subst h; exact absurd rfl hf
  | .region _ ops false, x, h, l, hf => by
    simp only [comp] at h
    split at h <;> (simp only [Option.some.injEq] at h; subst h; exact absurd rfl hf)
  | .region _ ops true, x, h, l, hf => by simp only [comp, Option.some.injEq] at h; subst h; exact absurd compDraw_find hf
  | .cond c t e, x, h, l, hf => by
    simp only [comp, Option.bind_eq_some_iff, Option.map_eq_some_iff] at h
    obtain ⟨c', _, t', _, e', _, rfl⟩ := h; exact absurd rfl hf
  | .block id b, x, h, l, hf => by simp only [comp, Option.map_eq_some_iff] at h; obtain ⟨y, _, rfl⟩ := h; exact absurd rfl hf
  | .loop b, x, h, l, hf => by simp only [comp, Option.map_eq_some_iff] at h; obtain ⟨y, _, rfl⟩ := h; exact absurd rfl hf
  | .exit id, x, h, l, hf => by simp only [comp, Option.some.injEq] at h; subst h; exact absurd rfl hf
  | .scope b, x, h, l, hf => by simp only [comp, Option.map_eq_some_iff] at h; obtain ⟨y, _, rfl⟩ := h; exact absurd rfl hf
  | .goto l', x, h, l, hf => by simp only [comp, Option.some.injEq] at h; subst h; exact absurd rfl hf
  | .ret, x, h, l, hf => by simp only [comp, Option.some.injEq] at h; subst h; exact absurd rfl hf
  | .refuse _, x, h, l, hf => by simp only [comp, Option.some.injEq] at h; subst h; exact absurd rfl hf
  | .rangeFunc .., x, h, l, hf => by
    simp only [comp] at h
    split at h <;> (simp only [Option.some.injEq] at h; subst h; exact absurd rfl hf)

theorem xlabs_mk (b : XC) (l : Nat) : ∀ ls : List Nat, (l ∈ ls ∨ b.find l = none) → xlabs E (mkLabs b ls) l = (b.find l).map (xrun E)
  | [], h => by
    have := h.resolve_left (by simp)
    rw [this]; simp [mkLabs, xlabs]
  | l' :: r, h => by
    simp only [mkLabs]
    by_cases hl : l = l'
    · subst hl
      cases hf : b.find l with
      | none => simp only; rw [xlabs_mk b l r (.inr hf), hf]
      | some c => simp only [xlabs, if_true, Option.map_some]
    · cases hf : b.find l' with
      | none => simp only; exact xlabs_mk b l r (h.imp (fun h => (List.mem_cons.1 h).resolve_left hl) id)
      | some c => simp only [xlabs, hl, if_false]; exact xlabs_mk b l r (h.imp (fun h => (List.mem_cons.1 h).resolve_left hl) id)

/-- No loop over a function. -/
def noRng : XC → Bool
  | .seq a b => noRng a && noRng b
  | .cond _ t e => noRng t && noRng e
  | .block _ b | .loop b | .scope b _ => noRng b
  | .rngF .. => false
  | _ => true
theorem noRng_find {l : Nat} : ∀ {x r : XC}, noRng x = true → x.find l = some r → noRng r = true
  | .seq a b, r, h, hf => by
    simp only [noRng, Bool.and_eq_true] at h
    simp only [XC.find] at hf
    cases ha : a.find l with
    | none => rw [ha] at hf; exact noRng_find h.2 hf
    | some ra =>
      rw [ha] at hf
      simp only [Option.some.injEq] at hf; subst hf
      simp only [noRng, Bool.and_eq_true]
      exact ⟨noRng_find h.1 ha, h.2⟩
  | .label l', r, _, hf => by
    simp only [XC.find] at hf
    split at hf
    · simp only [Option.some.injEq] at hf; subst hf; rfl
    · cases hf
  | .skip, _, _, hf | .ops _, _, _, hf | .draw _, _, _, hf | .drawE _, _, _, hf | .drawR _, _, _, hf | .bad, _, _, hf | .rngF .., _, _, hf | .cond .., _, _, hf | .block .., _, _, hf | .loop _, _, _, hf | .exit _, _, _, hf | .scope .., _, _, hf | .goto _, _, _, hf | .ret, _, _, hf => by cases hf

/-- A block is laid that is none of ours. -/
def layC (C : Ctx) (o : Obj) : Ctx := ⟨pushW C.w o, C.φ, C.L, C.X⟩
theorem lay_ext (C : Ctx) (o : Obj) : Ext C (layC C o) where
  size := by simp [layC, pushW]
  frame := fun b hb _ => heap_push_lt hb
  sub := fun b h => .inl h
  slot := fun _ _ => rfl
  bo := fun _ h => h
  len := Nat.le_refl _
  cap := fun b c e fr h => ⟨c, e, fr, (heap_push_lt (Array.getElem?_eq_some_iff.1 h).1).trans h, rfl⟩
  ex := rfl
  os := rfl
  tape := rfl
  output := rfl
theorem lay_wf {g0 : Nat} {C : Ctx} {o : Obj} (wf : Wf g0 C) : Wf g0 (layC C o) :=
  ⟨wf.inj, wf.lo, wf.apart, fun b hx => Nat.lt_of_lt_of_le (wf.exlo b hx) (by simp [layC, pushW]), Nat.le_trans wf.g (by simp [layC, pushW])⟩
theorem lay_sim {C : Ctx} {o : Obj} (sim : Sim C) : Sim (layC C o) := fun s k hk => by
  by_cases ha : k.alive = true
  · exact (sim s k hk).mono (lay_ext C o) hk (heap_push_lt (mine_lt sim ⟨s, k, hk, ha, rfl⟩))
  · cases k <;> first | trivial | (exfalso; exact ha rfl)

theorem list_getD {α : Type} {N n : Nat} {f : Nat → α} {d : α} (h : n < N) : ((List.range N).map f).getD n d = f n := by
  simp [List.getD, h]

/-- THE LOOP OVER A FUNCTION. -/
theorem xrng_sound (hpl : E.plain) (wf0 : Wf E.g0 C0) (hG0 : E.G C0.w) {g : Operand} {g' : Opd} {ps : Array Tmp} {asg body : Code} {xa xb : XC} (hg : opd g = some g') (hxa : comp E.P N asg = some xa) (hxb : comp E.P N body = some xb)
    {ρ : Rho} {L : List Blk} {K : XE → Rho → List Blk → Prop} {Q : Exit → Act → World → Prop} {a : Act} {w : World} (h : xrun E (.rngF g' N ps.toList xa xb) ρ L K) (hr : Rel E C0 N ρ L a w)
    (hQ : ∀ e ρ L a w, K e ρ L → Rel E C0 N ρ L a w → Q e.to a w) : (Code.rangeFunc g ps asg body).wpIn Fence.wide 0 E.P Q a w := by
  obtain ⟨hN, φ, wf, sim, hext, hρ, hdf, hkp⟩ := hr
  rw [DOkE.none hpl.2] at hdf
  simp only [xrun] at h
  have hgv := opds_of hρ g g' hg
  split at h
  case h_2 => exact h.elim
  rename_i gf caps hge
  rw [hge] at hgv
  generalize hav : a.eval g = gv at hgv
  cases hgv with
  | fn _ _ _ va vb ha hb hva hvb =>
  have : va = [] := List.eq_nil_of_length_eq_zero (by simpa using ha.symm)
  subst this
  refine wpIn_rangeFunc fun fn hfn => ?_
  obtain ⟨rec0, hrec⟩ : ∃ rec0 : Loop, rec0 = { state := .ready, pending := none, fn, tmps := a.tmps, params := ps, assign := asg, body, defers := w.heap.size } := ⟨_, rfl⟩
  have hrt : rec0.tmps = a.tmps := by rw [hrec]
  let C : Ctx := ⟨w, φ, L, C0.X⟩
  let C1 : Ctx := layC C (.deferred (some []))
  let l := (List.range N).map ρ
  let C2 : Ctx := ⟨pushW C1.w (.loop rec0), newφ C1 L.length 0, L ++ [.lp rec0 l], C0.X⟩
  have hC2 : newC C1 L.length (.loop rec0) (.lp rec0 l) 0 = C2 := by
    show (⟨pushW C1.w (.loop rec0), newφ C1 L.length 0, layAt L L.length (.lp rec0 l), C0.X⟩ : Ctx) = ⟨pushW C1.w (.loop rec0), newφ C1 L.length 0, L ++ [.lp rec0 l], C0.X⟩
    rw [layAt_end]
  have hg1 : Free C1.L L.length := .inl rfl
  have e1 : Ext C C1 := lay_ext C _
  have e2 : Ext C1 C2 := hC2 ▸ new_ext hg1 (.loop rec0) (.lp rec0 l) 0
  have e02 : Ext C0 C2 := hext.trans (e1.trans e2)
  have hρ2 : ∀ n, VR C2 (ρ n) (a.tmps.getD n undef) := fun n => (hρ n).mono (e1.trans e2)
  have wf2 : Wf E.g0 C2 := hC2 ▸ new_wf hg1 (lay_wf wf) (lay_sim sim)
  have hsz1 : C1.w.heap.size = w.heap.size + 1 := by simp [C1, layC, pushW, C]
  have hφ2 : C2.φ L.length = ⟨w.heap.size + 1, 0, 0⟩ := by
    show (if L.length = L.length then _ else _) = _
    rw [if_pos rfl, hsz1]
  have blk2 : BlkOk C2 L.length (.lp rec0 l) := ⟨by
      show (pushW C1.w (.loop rec0)).heap[(C2.φ L.length).blk]? = _
      rw [hφ2, ← hsz1]; exact heap_push_eq, fun n => by
      by_cases hn : n < N
      · rw [list_getD hn, hrt]; exact hρ2 n
      · rw [hrt]
        have h1 : l.getD n .und = .und := by simp [l, List.getD, hn]
        have h2 : a.tmps.getD n undef = undef := by rw [Array.getD_eq_getD_getElem?, Array.getElem?_eq_none (by omega)]; rfl
        rw [h1, h2]; exact .und⟩
  have sim2 : Sim C2 := by
    rw [← hC2] at blk2 ⊢
    exact new_sim hg1 (lay_sim sim) blk2
  obtain ⟨⟨gfn, hgf, hnm, hbody⟩, hcall⟩ := h rec0 (by rw [hrec]) (by rw [hrec]) ⟨by rw [hrec], by rw [hrec]; exact hxa, by rw [hrec]; exact hxb, by rw [hrec]; exact hN⟩
  have hcall := hcall C2.w C2.φ C0.X (.func (.yield (w.heap.size + 1)) #[] #[] :: vb) wf2 sim2 (rel_G wf0 hG0 e02) (by simp [hb]) (fun i x hi => by
    cases i with
    | zero =>
      simp only [List.getElem?_cons_zero, Option.some.injEq] at hi; subst hi
      have := VR.yld (C := C2) L.length ⟨.lp rec0 l, by show (L ++ [Blk.lp rec0 l])[L.length]? = _; simp, rfl⟩
      rw [hφ2] at this
      exact this
    | succ i => exact (hvb i x (by simpa using hi)).mono (e1.trans e2))
  refine ⟨w.heap.size + 1, [{ target := .collected w.heap.size, args := #[] }], C2.w, { target := .fn (.func gf) vb.toArray, args := #[.func (.yield (w.heap.size + 1)) #[] #[]] }, C2.w, gf,
    (.func (.yield (w.heap.size + 1)) #[] #[] :: vb).toArray, C2.w, ?_, ?_, ?_, ?_, (fun h => by cases h), ?_⟩
  · rw [show C2.w = (w.alloc (.deferred (some []))).alloc (.loop rec0) from rfl, hrec]; exact run_enterLoop_outer _ _ _ _ _
  · simp only [resolve, hav]
    simp [Deferred.ofValue, Act.eval]
  · intro f' _; trivial
  · simp only [invoke]
    have : (#[Value.func (.yield (w.heap.size + 1)) #[] #[]] ++ vb.toArray) = (.func (.yield (w.heap.size + 1)) #[] #[] :: vb).toArray := by apply Array.ext'; simp
    rw [this]
    unfold callFunc
    rw [Sem.run_bind, run_program]
    have hnm' : (gfn.name == "runtime.NumGoroutine") = false := by simpa using hnm
    simp only [Result.andThen_ok, hgf, hnm', Bool.false_eq_true, if_false, hbody]
    rfl
  · refine (callsIn_wide.2 hcall).mono ?_
    rintro e w' ⟨r, L', φ', v, ⟨r1, hL', hst, hK⟩, rfl, wf', sim', ext', -⟩
    let C' : Ctx := ⟨w', φ', L', C0.X⟩
    have hslot : φ' L.length = ⟨w.heap.size + 1, 0, 0⟩ := (ext'.slot L.length ⟨.lp rec0 l, by show (L ++ [Blk.lp rec0 l])[L.length]? = _; simp, rfl⟩).trans hφ2
    have hb' := (sim' _ _ hL').1
    rw [show (⟨w', φ', L', C0.X⟩ : Ctx).φ L.length = φ' L.length from rfl, hslot] at hb'
    have hne : ∀ c e fr, Obj.loop r1 ≠ .cells c e fr := fun _ _ _ h => by cases h
    have hb'' : C'.w.heap[(C'.φ L.length).blk]? = some (.loop r1) := by show w'.heap[(φ' L.length).blk]? = _; rw [hslot]; exact hb'
    let C3 : Ctx := setC C' L.length (.loop { r1 with state := .exhausted }) .dead
    have wf3 : Wf E.g0 C3 := set_wf wf' hL' rfl
    have sim3 : Sim C3 := set_sim' wf' sim' hL' rfl hb'' hne trivial
    have e3 : Ext C' C3 := set_ext' hL' rfl hb'' hne
    have hw3 : C3.w = w'.putObj (w.heap.size + 1) (.loop { r1 with state := .exhausted }) := by
      show setW w' (φ' L.length).blk _ = _
      rw [hslot]; rfl
    have hD2 : DOk C0.w.heap.size C2 ({ target := .collected w.heap.size, args := #[] } :: a.defers) := by
      refine ⟨⟨w.heap.size, rfl, hext.size, ?_, ?_, ?_, ?_⟩, hdf.mono (e1.trans e2)⟩
      · have : C2.w.heap.size = w.heap.size + 2 := by simp [C2, C1, layC, pushW, C]
        omega
      · intro hm
        rcases e2.sub _ hm with h1 | h1
        · exact absurd (mine_lt sim h1) (Nat.lt_irrefl _)
        · rw [hsz1] at h1; omega
      · show (pushW C1.w (.loop rec0)).heap[w.heap.size]? = _
        rw [heap_push_lt (by rw [hsz1]; omega)]
        exact heap_push_eq
      · intro d' hd' hc
        have : ∀ (ds : List Deferred), DOk C0.w.heap.size C ds → ∀ d' ∈ ds, d'.target ≠ .collected w.heap.size := by
          intro ds
          induction ds with
          | nil => intro _ d' hd'; cases hd'
          | cons d ds ih =>
            rintro ⟨⟨D, h1, _, h3, _⟩, h7⟩ d' hd'
            rcases List.mem_cons.1 hd' with rfl | hd'
            · rw [h1]; intro hc; cases hc; exact absurd h3 (Nat.lt_irrefl _)
            · exact ih h7 d' hd'
        exact this _ hdf d' hd' hc
    have hrel : Rel E C0 N ρ (L'.set L.length .dead) { a with defers := [{ target := .collected w.heap.size, args := #[] }] ++ a.defers } C3.w :=
      ⟨hN, φ', wf3, sim3, (e02.trans ext').trans e3, fun n => ((hρ2 n).mono ext').mono e3, (DOkE.none hpl.2).2 ((hD2.mono ext').mono e3), keptE_zero hpl.1⟩
    refine ⟨r1.pending, C3.w, by rw [hw3]; exact run_endLoop hb' hst, ?_⟩
    cases hp : r1.pending with
    | none => rw [hp] at hK; exact hQ .normal _ _ _ _ hK hrel
    | some c =>
      rw [hp] at hK
      cases c with
      | ret => exact wpIn_ret (hQ .ret _ _ _ _ hK hrel)
      | exit i => exact wpIn_exit (hQ (.exit i) _ _ _ _ hK hrel)
      | goto l => exact wpIn_goto (hQ (.goto l) _ _ _ _ hK hrel)
      | _ => exact hK.elim

def csize : Code → Nat
  | .seq a b => csize a + csize b + 1
  | .cond _ t e => csize t + csize e + 1
  | .block _ b => csize b + 1
  | .loop b => csize b + 1
  | .scope b => csize b + 1
  | _ => 1

theorem csize_find {l : Nat} : ∀ {c rest : Code}, findLabel c l = some rest → csize rest ≤ csize c
  | .seq a b, rest, hf => by
    simp only [findLabel] at hf
    split at hf
    · rename_i r hr
      simp only [Option.some.injEq] at hf; subst hf
      have := csize_find hr
      simp only [csize]; omega
    · have := csize_find hf
      simp only [csize]; omega
  | .label l', rest, hf => by
    simp only [findLabel] at hf
    split at hf
    · simp only [Option.some.injEq] at hf; subst hf; exact Nat.le_refl _
    · cases hf
  | .skip, _, hf => by cases hf
  | .region .., _, hf => by cases hf
  | .cond .., _, hf => by cases hf
  | .block .., _, hf => by cases hf
  | .loop .., _, hf => by cases hf
  | .exit .., _, hf => by cases hf
  | .scope .., _, hf => by cases hf
  | .goto .., _, hf => by cases hf
  | .ret, _, hf => by cases hf
  | .refuse .., _, hf => by cases hf
  | .rangeFunc .., _, hf => by cases hf

/-- No slot below lo is written; no loop over a function. -/
def safe (lo : Nat) : XC → Bool
  | .ops l | .draw l | .drawE l => l.all (dstLo lo)
  | .drawR l => l.all fun p => dstLo lo p.1
  | .seq a b => safe lo a && safe lo b
  | .cond _ t e => safe lo t && safe lo e
  | .block _ b | .loop b | .scope b _ => safe lo b
  | .rngF .. => false
  | _ => true
theorem safe_find {lo l : Nat} : ∀ {x r : XC}, safe lo x = true → x.find l = some r → safe lo r = true
  | .seq a b, r, h, hf => by
    simp only [safe, Bool.and_eq_true] at h
    simp only [XC.find] at hf
    cases ha : a.find l with
    | none => rw [ha] at hf; exact safe_find h.2 hf
    | some ra =>
      rw [ha] at hf
      simp only [Option.some.injEq] at hf; subst hf
      simp only [safe, Bool.and_eq_true]
      exact ⟨safe_find h.1 ha, h.2⟩
  | .label l', r, h, hf => by
    simp only [XC.find] at hf
    split at hf
    · simp only [Option.some.injEq] at hf; subst hf; rfl
    · cases hf
  | .skip, _, _, hf => by cases hf
  | .ops _, _, _, hf => by cases hf
  | .draw _, _, _, hf => by cases hf
  | .drawE _, _, _, hf => by cases hf
  | .drawR _, _, _, hf => by cases hf
  | .bad, _, _, hf => by cases hf
  | .rngF .., _, _, hf => by cases hf
  | .cond .., _, _, hf => by cases hf
  | .block .., _, _, hf => by cases hf
  | .loop .., _, _, hf => by cases hf
  | .exit .., _, _, hf => by cases hf
  | .scope .., _, _, hf => by cases hf
  | .goto .., _, _, hf => by cases hf
  | .ret, _, _, hf => by cases hf
theorem safe_toP {lo : Nat} {xs : List XOper} : (xs.map XOper.toP).all (dstLo lo) = xs.all (dstLo lo) := by
  rw [List.all_map]; rfl
theorem safe_race {lo : Nat} {ops : Array Oper} {xs : List XOper} (h : (mkRace ops (xs.map XOper.toP)).all (fun p => dstLo lo p.1) = true) : xs.all (dstLo lo) = true := by
  rw [← safe_toP]
  have h1 : (mkRace ops (xs.map XOper.toP)).map (·.1) = xs.map XOper.toP := by simp [mkRace, List.map_map, Function.comp_def, List.zipIdx_map_fst]
  rw [← h1, List.all_map]; exact h
/-- THE CODE DOES WHAT ITS SHORT FORM SAYS. ('m': the depth of the recursion: labels' rests are no parts of the code.) -/
theorem xrun_sound (hF : FOk F) (wf0 : Wf E.g0 C0) (hG0 : E.G C0.w) : ∀ (m : Nat) (c : Code), csize c ≤ m → ∀ (x : XC), comp E.P N c = some x → (F = Fence.wide ∨ noRng x = true) → (E.plain ∨ safe E.lo x = true) →
    ∀ (ρ : Rho) (L : List Blk) (K : XE → Rho → List Blk → Prop) (Q : Exit → Act → World → Prop) (a : Act) (w : World), PanOk E C0 N Q → xrun E x ρ L K → Rel E C0 N ρ L a w →
      (∀ e ρ L a w, K e ρ L → Rel E C0 N ρ L a w → Q e.to a w) → c.wpIn F 0 E.P Q a w := by
  intro m
  induction m with
  | zero => intro c hc; exfalso; cases c <;> simp [csize] at hc
  | succ m ih =>
    intro c hc x hx hdr hsf ρ L K Q a w hP h hr hQ
    cases c with
    | skip => simp only [comp, Option.some.injEq] at hx; subst hx; exact wpIn_skip (hQ .normal ρ L a w h hr)
    | label l => simp only [comp, Option.some.injEq] at hx; subst hx; exact wpIn_label (hQ .normal ρ L a w h hr)
    | exit id => simp only [comp, Option.some.injEq] at hx; subst hx; exact wpIn_exit (hQ (.exit id) ρ L a w h hr)
    | goto l => simp only [comp, Option.some.injEq] at hx; subst hx; exact wpIn_goto (hQ (.goto l) ρ L a w h hr)
    | ret => simp only [comp, Option.some.injEq] at hx; subst hx; exact wpIn_ret (hQ .ret ρ L a w h hr)
    | refuse s => simp only [comp, Option.some.injEq] at hx; subst hx; exact h.elim
    | rangeFunc g ps asg body =>
      simp only [comp] at hx
      split at hx
      · rename_i g' xa xb hg hxa hxb
        simp only [Option.some.injEq] at hx; subst hx
        obtain rfl := hdr.resolve_right (by simp [noRng])
        exact xrng_sound (hsf.resolve_right (by simp [safe])) wf0 hG0 hg hxa hxb h hr hQ
      · simp only [Option.some.injEq] at hx; subst hx; exact h.elim
    | region id ops d =>
      cases d
      · simp only [comp] at hx
        split at hx
        · rename_i xs hxs
          simp only [Option.some.injEq] at hx; subst hx
          refine wpIn_region ?_
          rw [List.range_eq_range']
          exact xops_sound hF wf0 hG0 hP (fun ρ L a w hk hr => hQ .normal ρ L a w hk hr) ops.size 0 xs ρ L a w (hsf.imp And.left fun h => h) (by omega) (by simpa using hxs) h hr
        · simp only [Option.some.injEq] at hx; subst hx; exact h.elim
      · simp only [comp, Option.some.injEq] at hx
        subst hx
        unfold compDraw at h hsf
        split at h
        · rename_i hm
          rw [if_pos hm] at hsf
          split at h
          · rename_i xs hxs
            rw [hxs] at hsf
            simp only at hsf
            split at h
            · rename_i hc
              rw [if_pos hc] at hsf
              simp only [Bool.and_eq_true] at hc
              exact xdraw_sound hF wf0 hG0 hP (K := fun ρ' L' => K .normal ρ' L') hm (hsf.imp And.left fun h => h) hxs (fun i x hx => ⟨x, hx, .inl rfl⟩) rfl hc.2 h.2 hr fun ρ L a w hk hr => hQ .normal ρ L a w hk hr
            · rename_i hc0
              rw [if_neg hc0] at hsf
              split at h
              · rename_i hc
                rw [if_pos hc] at hsf
                refine xdraw_sound hF wf0 hG0 hP (K := fun ρ' L' => K .normal ρ' L') hm (hsf.imp And.left fun h => h) hxs (fun i x hx => ?_) (by simp) hc h hr fun ρ L a w hk hr => hQ .normal ρ L a w hk hr
                rw [List.getElem?_map, Option.map_eq_some_iff] at hx
                obtain ⟨y, hy, rfl⟩ := hx
                exact ⟨y, hy, .inr rfl⟩
              · rename_i hc1
                rw [if_neg hc1] at hsf
                split at h
                · rename_i hc
                  rw [if_pos hc] at hsf
                  exact xdrawR_sound hF wf0 hG0 hP (K := fun ρ' L' => K .normal ρ' L') hm (hsf.imp And.left safe_race) hxs (by simp [mkRace, List.map_map, Function.comp_def, List.zipIdx_map_fst]) hc h hr fun ρ L a w hk hr => hQ .normal ρ L a w hk hr
                · exact h.elim
          · exact h.elim
        · exact h.elim
    | seq c1 c2 =>
      simp only [comp, Option.bind_eq_some_iff, Option.map_eq_some_iff] at hx
      obtain ⟨x1, h1, x2, h2, rfl⟩ := hx
      simp only [noRng, Bool.and_eq_true] at hdr
      simp only [safe, Bool.and_eq_true] at hsf
      simp only [csize] at hc
      refine wpIn_seq (ih c1 (by omega) x1 h1 (hdr.imp id And.left) (hsf.imp id And.left) ρ L _ _ a w hP h hr ?_)
      intro e ρ' L' a' w' hk hr'
      cases e with
      | normal => exact ih c2 (by omega) x2 h2 (hdr.imp id And.right) (hsf.imp id And.right) ρ' L' K Q a' w' hP hk hr' hQ
      | exit id => exact hQ _ ρ' L' a' w' hk hr'
      | goto l => exact hQ _ ρ' L' a' w' hk hr'
      | ret => exact hQ _ ρ' L' a' w' hk hr'
    | cond c1 t e =>
      simp only [comp, Option.bind_eq_some_iff, Option.map_eq_some_iff] at hx
      obtain ⟨q, hq, xt, ht, xe, he, rfl⟩ := hx
      simp only [noRng, Bool.and_eq_true] at hdr
      simp only [safe, Bool.and_eq_true] at hsf
      simp only [csize] at hc
      simp only [xrun] at h
      have hv : VR _ (q.ev ρ) (a.eval c1) := opds_of hr.2.choose_spec.2.2.2.1 c1 q hq
      split at h
      · rename_i b hb
        rw [hb] at hv
        have hv' : a.eval c1 = .bool b := by generalize a.eval c1 = u at hv; cases hv; rfl
        exact wpIn_cond_split hv' (fun hb => ih t (by omega) xt ht (hdr.imp id And.left) (hsf.imp id And.left) ρ L K Q a w hP (h.1 hb) hr hQ) (fun hb => ih e (by omega) xe he (hdr.imp id And.right) (hsf.imp id And.right) ρ L K Q a w hP (h.2 hb) hr hQ)
      · exact h.elim
    | block id b =>
      simp only [comp, Option.map_eq_some_iff] at hx; obtain ⟨xb, hb, rfl⟩ := hx
      simp only [csize] at hc
      refine wpIn_block (ih b (by omega) xb hb hdr hsf ρ L _ _ a w hP h hr ?_)
      intro e ρ' L' a' w' hk hr'
      cases e with
      | normal => exact hQ .normal ρ' L' a' w' hk hr'
      | exit i =>
        simp only [XE.inBlock] at hk
        simp only [XE.to, Exit.inBlock]
        split at hk
        · rename_i hi; rw [if_pos hi]; exact hQ .normal ρ' L' a' w' hk hr'
        · rename_i hi; rw [if_neg hi]; exact hQ (.exit i) ρ' L' a' w' hk hr'
      | goto l => exact hQ _ ρ' L' a' w' hk hr'
      | ret => exact hQ _ ρ' L' a' w' hk hr'
    | loop b =>
      simp only [comp, Option.map_eq_some_iff] at hx; obtain ⟨xb, hb, rfl⟩ := hx
      simp only [csize] at hc
      simp only [xrun] at h
      obtain ⟨n, h⟩ := h
      refine wpIn_loop_rounds n ?_
      have key : ∀ n ρ L a w, xloop (xrun E xb) n ρ L K → Rel E C0 N ρ L a w → Code.roundsIn F 0 E.P b Q n a w := by
        intro n
        induction n with
        | zero => intro ρ L a w h; exact h.elim
        | succ n ihn =>
          intro ρ L a w h hr
          refine ih b (by omega) xb hb hdr hsf ρ L _ _ a w hP h hr ?_
          intro e ρ' L' a' w' hk hr'
          cases e with
          | normal => exact ihn ρ' L' a' w' hk hr'
          | exit i => exact hQ _ ρ' L' a' w' hk hr'
          | goto l => exact hQ _ ρ' L' a' w' hk hr'
          | ret => exact hQ _ ρ' L' a' w' hk hr'
      exact key n ρ L a w h hr
    | scope b =>
      simp only [comp, Option.map_eq_some_iff] at hx; obtain ⟨xb, hb, rfl⟩ := hx
      simp only [csize] at hc
      simp only [xrun] at h
      obtain ⟨n, h⟩ := h
      refine wpIn_scope n (ih b (by omega) xb hb hdr hsf ρ L _ _ a w (hP.scope n) h hr ?_)
      have key : ∀ n e ρ L a w, xgoto (xlabs E (mkLabs xb (labels b))) n e ρ L K → Rel E C0 N ρ L a w → scopeN F 0 E.P b Q n e.to a w := by
        intro n
        induction n with
        | zero =>
          intro e ρ L a w h hr
          cases e with
          | normal => exact hQ .normal ρ L a w h hr
          | exit id => exact hQ (.exit id) ρ L a w h hr
          | ret => exact hQ .ret ρ L a w h hr
          | goto l =>
            simp only [xgoto] at h
            rw [xlabs_mk xb l (labels b) (by
              cases hf : xb.find l with
              | none => exact .inr rfl
              | some r => exact .inl (labels_find hb l (by rw [hf]; simp)))] at h
            simp only [XE.to]
            unfold scopeN
            rcases comp_find hb l with ⟨h1, h2⟩ | ⟨rest, xr, h1, h2, h3⟩
            · rw [h2] at h; simp only [Option.map_none] at h
              simp only [h1]; exact hQ (.goto l) ρ L a w h hr
            · rw [h2] at h; simp only [Option.map_some] at h
        | succ n ihn =>
          intro e ρ L a w h hr
          cases e with
          | normal => exact hQ .normal ρ L a w h hr
          | exit id => exact hQ (.exit id) ρ L a w h hr
          | ret => exact hQ .ret ρ L a w h hr
          | goto l =>
            simp only [xgoto] at h
            rw [xlabs_mk xb l (labels b) (by
              cases hf : xb.find l with
              | none => exact .inr rfl
              | some r => exact .inl (labels_find hb l (by rw [hf]; simp)))] at h
            simp only [XE.to]
            unfold scopeN
            rcases comp_find hb l with ⟨h1, h2⟩ | ⟨rest, xr, h1, h2, h3⟩
            · rw [h2] at h; simp only [Option.map_none] at h
              simp only [h1]; exact hQ (.goto l) ρ L a w h hr
            · rw [h2] at h; simp only [Option.map_some] at h
              simp only [h1]
              have hsz := csize_find h1
              exact ih rest (by omega) xr h3 (hdr.imp id (fun h => noRng_find h h2)) (hsf.imp id (fun h => safe_find h h2)) ρ L _ _ a w (hP.scope n) h hr (fun e ρ L a w hk hr => ihn e ρ L a w hk hr)
      exact fun e ρ L a w hk hr => key n e ρ L a w hk hr

end
end Go.X
end
section
/- The calculus X, part 15: a function's contract out of the run of its body. -/
namespace Go.X
open Go

inductive XRes where
  | tmp (t : Nat)
  | cell1 (a : Nat)
  | cellN (a n : Nat)

def compRes (P : Program) : ResultVar → Option XRes
  | .tmp t => some (.tmp t)
  | .cell a t => (isAggT P t).bind fun g => (sizeT P t).map fun n => if g then .cellN a n else .cell1 a

def xres1 (E : Env) (ρ : Rho) (L : List Blk) : XRes → (IV → Prop) → Prop
  | .tmp t, K => K (ρ t)
  | .cell1 a, K => xop E (.load1 (.t a)) (Opd.ev ρ) L fun r _ => K r
  | .cellN a n, K => xop E (.loadN n (.t a)) (Opd.ev ρ) L fun r _ => K r

def xress (E : Env) (ρ : Rho) (L : List Blk) : List XRes → (List IV → Prop) → Prop
  | [], K => K []
  | r :: l, K => xres1 E ρ L r fun v => xress E ρ L l fun vs => K (v :: vs)

def oneOrTup : List IV → IV
  | [x] => x
  | l => .tup l

def xresults (E : Env) (rs : List XRes) (ρ : Rho) (L : List Blk) (K : IV → Prop) : Prop := xress E ρ L rs fun vs => K (oneOrTup vs)

def renLeave (n : Nat) (keep : List Nat) : Ren := fun s => if s < n then some (some s) else
  match pos keep s n with
  | some i => some (some i)
  | none => some none

/-- The answer and the blocks that stay, as the caller gets them: the first n blocks are his; 'keep': others that he gets; all else is only read from now on, or gone. -/
def Leave (n : Nat) (r : IV) (L' : List Blk) (R : IV → List Blk → Prop) : Prop :=
  ∃ keep : List Nat, keep.Pairwise (· < ·) ∧ (∀ s ∈ keep, n ≤ s ∧ s < L'.length) ∧ ∃ r' L'', conv L' fuel (renLeave n keep) r = some r' ∧
    mapO (convB L' fuel (renLeave n keep)) (L'.take n ++ keep.map fun s => L'.getD s .dead) = some L'' ∧ R r' L''

def entry (args : List IV) : Rho := fun n => args.getD n .und

/-- A function in short form. -/
structure XFn where
  ntmps : Nat
  results : List XRes
  body : XC

def xfun (E : Env) (F : XFn) (args : List IV) (L : List Blk) (R : IV → List Blk → Prop) : Prop :=
  xrun E F.body (entry args) L fun e ρ L' => (e = .ret ∨ e = .normal) ∧ xresults E F.results ρ L' fun r => Leave L.length r L' R

def compFn (P : Program) (fn : Func) : Option XFn :=
  fn.body.bind fun c => (comp P fn.ntmps c).bind fun x => (mapO (compRes P) fn.results.toList).map fun rs => ⟨fn.ntmps, rs, x⟩

section
variable {E : Env}

/-- One result. -/
def resSem (tmps : Array Value) : ResultVar → Sem Value
  | .tmp t => pure (tmps.getD t undef)
  | .cell a t => do loadVar t (← asAddr (tmps.getD a undef))

theorem res1_sound {C : Ctx} (sim : Sim C) (hG : E.G C.w) {ρ : Rho} {tmps : Array Value} (hρ : ∀ n, VR C (ρ n) (tmps.getD n undef)) {rv : ResultVar} {x : XRes} (hx : compRes E.P rv = some x) {K : IV → Prop} (h : xres1 E ρ C.L x K) :
    ∃ v r, (resSem tmps rv).run E.P C.w = .ok v C.w ∧ VR C r v ∧ K r := by
  have hload : ∀ (t : TypeId) (at_ : Nat) (Q : IV → List Blk → Prop) (xo : XO), compOp E.P (.load t (.tmp at_)) = some xo → xo.quiet = true → xop E xo (Opd.ev ρ) C.L Q →
      ∃ v r, (do loadVar t (← asAddr (tmps.getD at_ undef)) : Sem Value).run E.P C.w = .ok v C.w ∧ VR C r v ∧ Q r C.L := by
    intro t at_ Q xo hxo hq hxop
    obtain ⟨v, r, h1, h2, h3⟩ := xop_pure (E := E) (C := C) (a := ⟨tmps, []⟩) (o := { (default : Oper) with op := .load t (.tmp at_) }) (x := xo) sim hG (opds_of hρ) hxo hq hxop
    refine ⟨v, r, ?_, h2, h3⟩
    have h4 : (execOp (Act.eval ⟨tmps, []⟩) { (default : Oper) with op := .load t (.tmp at_) }).run E.P C.w = ((Instr.loadAt t (tmps.getD at_ undef)).run E.P C.w).andThen fun v w' => .ok (.value v) w' := by
      show (do pure (Next.value (← Instr.loadAt t (tmps.getD at_ undef))) : Sem Next).run E.P C.w = _
      rw [Sem.run_bind]; rfl
    rw [h4] at h1
    have h5 : (Instr.loadAt t (tmps.getD at_ undef)).run E.P C.w = .ok v C.w := by
      cases hr : (Instr.loadAt t (tmps.getD at_ undef)).run E.P C.w with
      | ok u w' => rw [hr] at h1; simp only [Result.andThen_ok, Result.ok.injEq, Next.value.injEq] at h1; rw [h1.1, h1.2]
      | halt hh w' => rw [hr] at h1; cases h1
    unfold Instr.loadAt at h5
    rw [Sem.run_bind] at h5 ⊢
    cases hv : tmps.getD at_ undef with
    | pointer p =>
      cases p with
      | none => rw [hv] at h5; cases h5
      | some p => rw [hv] at h5; exact h5
    | _ => rw [hv] at h5; cases h5
  cases rv with
  | tmp t => simp only [compRes, Option.some.injEq] at hx; subst hx; exact ⟨_, _, rfl, hρ t, h⟩
  | cell at_ t =>
    simp only [compRes, Option.bind_eq_some_iff, Option.map_eq_some_iff] at hx
    obtain ⟨g, hg, n, hn, rfl⟩ := hx
    cases g
    · simp only [Bool.false_eq_true, if_false, xres1] at h
      exact hload t at_ (fun r _ => K r) (.load1 (.t at_)) (by simp [compOp, hg, hn, opd]) rfl h
    · simp only [if_true, xres1] at h
      exact hload t at_ (fun r _ => K r) (.loadN n (.t at_)) (by simp [compOp, hg, hn, opd]) rfl h

theorem ress_sound {C : Ctx} (sim : Sim C) (hG : E.G C.w) {ρ : Rho} {tmps : Array Value} (hρ : ∀ n, VR C (ρ n) (tmps.getD n undef)) : ∀ (rvs : List ResultVar) (xs : List XRes) (K : List IV → Prop), mapO (compRes E.P) rvs = some xs → xress E ρ C.L xs K →
    ∃ vs rs, (rvs.mapM (resSem tmps)).run E.P C.w = .ok vs C.w ∧ rs.length = vs.length ∧
      (∀ (i : Nat) (x : IV), rs[i]? = some x → VR C x (vs.getD i undef)) ∧ K rs
  | [], xs, K, hx, h => by
    simp only [mapO, Option.some.injEq] at hx; subst hx
    exact ⟨[], [], rfl, rfl, fun i x hi => by simp at hi, h⟩
  | rv :: rvs, xs, K, hx, h => by
    simp only [mapO] at hx
    split at hx
    · split at hx
      · rename_i x hx1 _ xr hxr
        simp only [Option.some.injEq] at hx; subst hx
        obtain ⟨v, r, h1, h2, h3⟩ := res1_sound (E := E) sim hG hρ hx1 h
        obtain ⟨vs, rs, h4, h5, h6, h7⟩ := ress_sound sim hG hρ rvs xr _ hxr h3
        refine ⟨v :: vs, r :: rs, ?_, by simp [h5], fun i x hi => ?_, h7⟩
        · rw [List.mapM_cons, Sem.run_bind, h1]
          simp only [Result.andThen_ok]
          rw [Sem.run_bind, h4]
          rfl
        · cases i with
          | zero => simp at hi; subst hi; exact h2
          | succ i => simpa using h6 i x (by simpa using hi)
      · cases hx
    · cases hx

theorem results_sound {C : Ctx} (sim : Sim C) (hG : E.G C.w) {ρ : Rho} {tmps : Array Value} (hρ : ∀ n, VR C (ρ n) (tmps.getD n undef)) {fn : Func} {xs : List XRes} {K : IV → Prop} (hx : mapO (compRes E.P) fn.results.toList = some xs) (h : xresults E xs ρ C.L K) :
    ∃ v r, (results fn tmps).run E.P C.w = .ok v C.w ∧ VR C r v ∧ K r := by
  obtain ⟨vs, rs, h1, h2, h3, h4⟩ := ress_sound (E := E) sim hG hρ fn.results.toList xs _ hx h
  have hrun : (results fn tmps).run E.P C.w = .ok (if h : vs.toArray.size = 1 then vs.toArray[0] else .tuple vs.toArray) C.w := by
    have h0 : results fn tmps = (do let vs ← fn.results.mapM (resSem tmps); pure (if h : vs.size = 1 then vs[0] else .tuple vs)) := rfl
    rw [h0, Sem.run_bind, Array.mapM_eq_mapM_toList, Sem.run_map, h1]
    rfl
  refine ⟨_, _, hrun, ?_, h4⟩
  clear h1 hrun h4
  match rs, vs, h2, h3 with
  | [], [], _, _ => exact .tup [] [] rfl (fun i x hi => by simp at hi)
  | [r], [v], _, h3 => exact h3 0 r rfl
  | r1 :: r2 :: rs, v1 :: v2 :: vs, h2, h3 =>
    have : ¬ ((v1 :: v2 :: vs).toArray.size = 1) := by simp
    rw [dif_neg this]
    exact .tup _ _ h2 h3

theorem leave_sound {g0 : Nat} {C0 C : Ctx} (wf : Wf g0 C) (sim : Sim C) (ext : Ext C0 C) {r : IV} {v : Value} (hv : VR C r v) {R : IV → List Blk → Prop} (h : Leave C0.L.length r C.L R) :
    ∃ r' L' φ', R r' L' ∧ Wf g0 ⟨C.w, φ', L', C.X⟩ ∧ Sim ⟨C.w, φ', L', C.X⟩ ∧ Ext C0 ⟨C.w, φ', L', C.X⟩ ∧ VR ⟨C.w, φ', L', C.X⟩ r' v := by
  obtain ⟨keep, hnd, hkeep, r', L', hr, hL, hR⟩ := h
  let n := C0.L.length
  have hn : n ≤ C.L.length := ext.len
  let src : Nat → Nat := fun s => if s < n then s else keep.getD (s - n) 0
  let φ' : Nat → Loc := fun s => C.φ (src s)
  have hlen : L'.length = n + keep.length := by
    rw [mapO_len hL]; simp only [List.length_append, List.length_take, List.length_map]; omega
  -- where a block of the new list comes from
  have hget : ∀ s k, L'[s]? = some k → ∃ k0, C.L[src s]? = some k0 ∧ convB C.L fuel (renLeave n keep) k0 = some k ∧ ((s < n ∧ src s = s) ∨ (n ≤ s ∧ keep[s - n]? = some (src s))) := by
    intro s k hs
    obtain ⟨k0, h1, h2⟩ := mapO_get hL s k hs
    by_cases hsn : s < n
    · rw [List.getElem?_append_left (by rw [List.length_take]; omega), List.getElem?_take, if_pos hsn] at h1
      exact ⟨k0, by simp only [src, hsn, if_true]; exact h1, h2, .inl ⟨hsn, by simp only [src, hsn, if_true]⟩⟩
    · have hlt := lt_of_getL hs
      rw [List.getElem?_append_right (by rw [List.length_take]; omega), List.length_take, List.getElem?_map, Option.map_eq_some_iff] at h1
      obtain ⟨t, h3, rfl⟩ := h1
      have e1 : s - min n C.L.length = s - n := by omega
      have h3' : keep[s - n]? = some t := by rw [← e1]; exact h3
      have hsrc : src s = t := by simp only [src, hsn, if_false]; exact getD_getL h3'
      have htk : t ∈ keep := List.mem_of_getElem? h3'
      obtain ⟨h5, h6⟩ := hkeep t htk
      exact ⟨_, by rw [hsrc]; exact getD_get (d := .dead) h6, h2, .inr ⟨by omega, by rw [hsrc]; exact h3'⟩⟩
  have hmine : ∀ b, (⟨C.w, φ', L', C.X⟩ : Ctx).mine b → C.mine b := by
    rintro b ⟨s, k, hk, ha, rfl⟩
    obtain ⟨k0, h1, h2, _⟩ := hget s k hk
    exact ⟨src s, k0, h1, by rw [← convB_alive h2]; exact ha, rfl⟩
  have hext : Ext C0 ⟨C.w, φ', L', C.X⟩ :=
    ⟨ext.size, ext.frame, fun b hb => ext.sub b (hmine b hb), fun s hs0 => by
      have hs : s < n := hs0.lt
      show C.φ (src s) = _
      have : src s = s := by simp only [src]; exact if_pos hs
      rw [this]; exact ext.slot s hs0, fun s hs0 => by
      have hs : s < n := hs0.lt
      obtain ⟨k, h1, h2⟩ := ext.bo s hs0
      have h3 : (C.L.take n ++ keep.map fun s => C.L.getD s .dead)[s]? = some k := by
        rw [List.getElem?_append_left (by rw [List.length_take]; omega), List.getElem?_take, if_pos hs]; exact h1
      obtain ⟨k', h4, h5⟩ := mapO_get' hL s k h3
      exact ⟨k', h4, by rw [convB_born h5]; exact h2⟩, by show n ≤ L'.length; omega, ext.cap, ext.ex, ext.os, ext.tape, ext.output⟩
  have hinj : ∀ s t, s < L'.length → t < L'.length → ((s < n ∧ src s = s) ∨ (n ≤ s ∧ keep[s - n]? = some (src s))) → ((t < n ∧ src t = t) ∨ (n ≤ t ∧ keep[t - n]? = some (src t))) → src s = src t → s = t := by
    intro s t _ _ hs ht heq
    have hk : ∀ i x, keep[i]? = some x → n ≤ x := fun i x hx => (hkeep x (List.mem_of_getElem? hx)).1
    rcases hs with ⟨h1, h2⟩ | ⟨h1, h2⟩ <;> rcases ht with ⟨h3, h4⟩ | ⟨h3, h4⟩
    · omega
    · have := hk _ _ h4; omega
    · have := hk _ _ h2; omega
    · rw [heq] at h2
      rcases Nat.lt_trichotomy (s - n) (t - n) with h5 | h5 | h5
      · have h6 := List.pairwise_iff_getElem.1 hnd (s - n) (t - n) (lt_of_getL h2) (lt_of_getL h4) h5
        have e1 := Option.some.inj ((List.getElem?_eq_getElem (lt_of_getL h2)).symm.trans h2)
        have e2 := Option.some.inj ((List.getElem?_eq_getElem (lt_of_getL h4)).symm.trans h4)
        omega
      · omega
      · have h6 := List.pairwise_iff_getElem.1 hnd (t - n) (s - n) (lt_of_getL h4) (lt_of_getL h2) h5
        have e1 := Option.some.inj ((List.getElem?_eq_getElem (lt_of_getL h2)).symm.trans h2)
        have e2 := Option.some.inj ((List.getElem?_eq_getElem (lt_of_getL h4)).symm.trans h4)
        omega
  have hren : RenOk C ⟨C.w, φ', L', C.X⟩ (renLeave n keep) := by
    intro s k hk
    refine ⟨fun hm ha hown => ?_, fun t hm => ?_⟩
    · have hsn : ¬ s < n := by
        intro h; unfold renLeave at hm; rw [if_pos h] at hm; cases hm
      have hnk : s ∉ keep := by
        unfold renLeave at hm
        rw [if_neg hsn] at hm
        split at hm
        · cases hm
        · rename_i hp; exact pos_none hp
      rcases hown with hx | ⟨t, l, hl, hla, heq⟩
      · exact wf.apart _ hx ⟨s, k, hk, ha, rfl⟩
      · obtain ⟨k0, h1, h2, h3⟩ := hget t l hl
        have := wf.inj s (src t) k k0 hk h1 ha (by rw [← convB_alive h2]; exact hla) heq.symm
        rcases h3 with ⟨h4, h5⟩ | ⟨h4, h5⟩
        · omega
        · rw [← this] at h5; exact hnk (List.mem_of_getElem? h5)
    · unfold renLeave at hm
      split at hm
      · rename_i hsn
        simp only [Option.some.injEq] at hm; subst hm
        refine ⟨fun hb => ?_, ?_⟩
        · have h3 : (C.L.take n ++ keep.map fun s => C.L.getD s .dead)[s]? = some k := by
            rw [List.getElem?_append_left (by rw [List.length_take]; omega), List.getElem?_take, if_pos hsn]; exact hk
          obtain ⟨k', h4, h5⟩ := mapO_get' hL s k h3
          exact ⟨k', h4, by rw [convB_born h5]; exact hb⟩
        show C.φ (src s) = _
        have : src s = s := by simp only [src]; exact if_pos hsn
        rw [this]
      · rename_i hsn
        split at hm
        · rename_i i hp
          simp only [Option.some.injEq] at hm; subst hm
          obtain ⟨d, rfl, hd⟩ := pos_some hp
          have hdl := lt_of_getL hd
          refine ⟨fun hb => ?_, ?_⟩
          · have h3 : (C.L.take n ++ keep.map fun s => C.L.getD s .dead)[n + d]? = some k := by
              rw [List.getElem?_append_right (by rw [List.length_take]; omega), List.length_take, List.getElem?_map]
              have e1 : n + d - min n C.L.length = d := by omega
              rw [e1, hd]
              show some (C.L.getD s .dead) = _
              rw [List.getD_eq_getElem?_getD, hk]; rfl
            obtain ⟨k', h4, h5⟩ := mapO_get' hL _ k h3
            exact ⟨k', h4, by rw [convB_born h5]; exact hb⟩
          show C.φ (src (n + d)) = _
          have : src (n + d) = s := by
            have h1 : ¬ n + d < n := by omega
            simp only [src, h1, if_false, Nat.add_sub_cancel_left]; exact getD_getL hd
          rw [this]
        · cases hm
  have hown : ∀ b, (⟨C.w, φ', L', C.X⟩ : Ctx).own b → C.own b := fun b h => h.imp id (hmine b)
  refine ⟨r', L', φ', hR, ⟨?_, fun b h => wf.lo b (hmine b h), fun b hx h => wf.apart b hx (hmine b h), wf.exlo, wf.g⟩, ?_, hext, conv_sound (C := C) (C' := ⟨C.w, φ', L', C.X⟩) rfl sim hown fuel _ r r' v hren hr hv⟩
  · intro s t ks kt hs ht as at_ heq
    obtain ⟨k1, h1, h2, h3⟩ := hget s ks hs
    obtain ⟨k2, h4, h5, h6⟩ := hget t kt ht
    exact hinj s t (lt_of_getL hs) (lt_of_getL ht) h3 h6 (wf.inj _ _ k1 k2 h1 h4 (by rw [← convB_alive h2]; exact as) (by rw [← convB_alive h5]; exact at_) heq)
  · intro s k hk
    obtain ⟨k0, h1, h2, _⟩ := hget s k hk
    exact convB_ok (C := C) (C' := ⟨C.w, φ', L', C.X⟩) (s := src s) rfl rfl (fun x x' u _ hc hu => conv_sound (C := C) (C' := ⟨C.w, φ', L', C.X⟩) rfl sim hown fuel _ x x' u hren hc hu) h2 (sim _ k0 h1)

/-- What a tree says of a value abides where only what is no cells turns. -/
theorem VR.keep {C C' : Ctx} (hs : C'.w.heap.size = C.w.heap.size) (hφ : C'.φ = C.φ) (hL : C'.L = C.L) (hX : C'.X = C.X) (hc : ∀ (b : Nat) c e fr, C.w.heap[b]? = some (.cells c e fr) → C'.w.heap[b]? = some (.cells c e fr))
    {x : IV} {v : Value} (h : VR C x v) : VR C' x v := by
  have hown : ∀ b, C'.own b ↔ C.own b := fun b => by simp only [Ctx.own, Ctx.mine, hφ, hL, hX]
  have hcell : ∀ b o v, C.w.cell? ⟨b, o, none⟩ = some v → C'.w.cell? ⟨b, o, none⟩ = some v := fun b o v hv => by
    simp only [World.cell?] at hv ⊢
    cases hb : C.w.heap[b]? with
    | none => rw [hb] at hv; cases hv
    | some ob => cases ob with
      | cells c e fr => rw [hb] at hv; rw [hc b c e fr hb]; exact hv
      | _ => rw [hb] at hv; cases hv
  induction h with
  | bool b => exact .bool b
  | int k n => exact .int k n
  | str s => exact .str s
  | raw v h => exact .raw v h
  | und => exact .und
  | ptr s r o hs' => rw [← hφ]; exact .ptr s r o (by unfold Ctx.born; rw [hL]; exact hs')
  | sl s off len cap a cap' hs' hl hcc ha =>
    refine .sl s off len cap a cap' (by unfold Ctx.born; rw [hL]; exact hs') hl hcc ?_
    rcases ha with h0 | ⟨ha, c, e, fr, hh, hle⟩
    · exact .inl h0
    · exact .inr ⟨by rw [hφ]; exact ha, c, e, fr, by rw [hφ]; exact hc _ _ _ _ hh, by rw [hφ]; exact hle⟩
  | isl rows a cap' sz vals hcap hsz hcl ha hv ih =>
    refine .isl rows a cap' sz vals hcap hsz hcl ?_ ih
    rcases ha with h0 | ⟨b, o, ha, hb, hn, hcc⟩
    · exact .inl h0
    · exact .inr ⟨b, o, ha, by rw [hs]; exact hb, fun h => hn ((hown b).1 h), fun i row hi j x hj => hcell _ _ _ (hcc i row hi j x hj)⟩
  | iptr rows r o b base sz vals hsz hcl hb ho ha hv ih =>
    exact .iptr rows r o b base sz vals hsz hcl (by rw [hs]; exact hb) (fun h => ho ((hown b).1 h)) (fun i row hi j x hj => hcell _ _ _ (ha i row hi j x hj)) ih
  | esl a => exact .esl a
  | nsl => exact .nsl
  | agg cs vs hl hv ih => exact .agg cs vs hl ih
  | tup cs vs hl hv ih => exact .tup cs vs hl ih
  | fn f as bs va vb ha hb hva hvb iha ihb => exact .fn f as bs va vb ha hb iha ihb
  | iface t x v hv ih => exact .iface t x v ih
  | mp s hs' => rw [← hφ]; exact .mp s (by unfold Ctx.born; rw [hL]; exact hs')
  | yld s hs' => rw [← hφ]; exact .yld s (by unfold Ctx.born; rw [hL]; exact hs')

/-- What is known on the way out. -/
def RelM (E : Env) (C0 : Ctx) (xs : Nat → IV) (us : Nat → Value) (L : List Blk) (ds : List Deferred) (w : World) : Prop :=
  ∃ φ, Wf E.g0 ⟨w, φ, L, C0.X⟩ ∧ Sim ⟨w, φ, L, C0.X⟩ ∧ Ext C0 ⟨w, φ, L, C0.X⟩ ∧ (∀ n, VR ⟨w, φ, L, C0.X⟩ (xs n) (us n)) ∧ DOk C0.w.heap.size ⟨w, φ, L, C0.X⟩ ds
/-- The marks are taken, one by one. -/
theorem marks_sound {C0 : Ctx} {fn : Func} {xs : Nat → IV} {us : Nat → Value} {L : List Blk} {tmps : Array Value} {R : Ending → World → Prop} {u : FrameMode} (hu : u ≠ .run) (hfin : ∀ w, RelM E C0 xs us L [] w → LeavesInM Fence.wide 0 E.P fn tmps R [] u w) :
    ∀ (ds : List Deferred) (w : World), RelM E C0 xs us L ds w → LeavesInM Fence.wide 0 E.P fn tmps R ds u w
  | [], w, h => hfin w h
  | d :: ds, w, h => by
    obtain ⟨φ, wf, sim, hext, hρ, ⟨⟨D, rfl, h2, h3, h4, h5, h6⟩, h7⟩⟩ := h
    refine ⟨hu, .inl ⟨D, w.putObj D (.deferred none), rfl, run_takeDeferred h5, marks_sound hu hfin ds _ ?_⟩⟩
    let C : Ctx := ⟨w, φ, L, C0.X⟩
    let C' : Ctx := ⟨w.putObj D (.deferred none), φ, L, C0.X⟩
    have hsz : C'.w.heap.size = C.w.heap.size := World.putObj_size
    have hother : ∀ b, b ≠ D → C'.w.heap[b]? = C.w.heap[b]? := fun b hb => World.putObj_heap_other hb
    have hcc : ∀ (b : Nat) c e fr, C.w.heap[b]? = some (.cells c e fr) → C'.w.heap[b]? = some (.cells c e fr) := fun b c e fr hb => by
      rw [hother b (fun h => by subst h; rw [h5] at hb; cases hb)]; exact hb
    have hvr : ∀ {x v}, VR C x v → VR C' x v := fun h => VR.keep hsz rfl rfl rfl hcc h
    have hext' : Ext C0 C' :=
      ⟨Nat.le_trans hext.size (Nat.le_of_eq hsz.symm), fun b hb hm => (hother b (by omega)).trans (hext.frame b hb hm), hext.sub, hext.slot, hext.bo, hext.len,
        fun b c e fr hb => by obtain ⟨c', e', fr', h8, h9⟩ := hext.cap b c e fr hb; exact ⟨c', e', fr', hcc _ _ _ _ h8, h9⟩, hext.ex, hext.os, hext.tape, hext.output⟩
    refine ⟨φ, ⟨wf.inj, wf.lo, wf.apart, fun b hb => by rw [hsz]; exact wf.exlo b hb, by rw [hsz]; exact wf.g⟩, ?_, hext', fun n => hvr (hρ n), ?_⟩
    · intro s k hk
      have h8 := sim s k hk
      by_cases ha : k.alive = true
      · have hb : (φ s).blk ≠ D := fun h => h4 ⟨s, k, hk, ha, h⟩
        cases k with
        | cells sz rows =>
          obtain ⟨h9, c, e, fr, h10, hfr, h11, h12⟩ := h8
          exact ⟨h9, c, e, fr, hcc _ _ _ _ h10, hfr, h11, fun i row hi => ⟨(h12 i row hi).1, fun j x hj => let ⟨v, h13, h14⟩ := (h12 i row hi).2 j x hj; ⟨v, h13, hvr h14⟩⟩⟩
        | tcells ty sz rows =>
          obtain ⟨⟨h9, c, e, fr, h10, hfr, h11, h12⟩, hb0, c', fr', hc'⟩ := h8
          exact ⟨⟨h9, c, e, fr, hcc _ _ _ _ h10, hfr, h11, fun i row hi => ⟨(h12 i row hi).1, fun j x hj => let ⟨v, h13, h14⟩ := (h12 i row hi).2 j x hj; ⟨v, h13, hvr h14⟩⟩⟩, hb0, c', fr', hcc _ _ _ _ hc'⟩
        | siter t p => exact ⟨h8.1, (hother _ hb).trans h8.2⟩
        | map es => exact h8
        | lp r l => exact ⟨(hother _ hb).trans h8.1, fun n => hvr (h8.2 n)⟩
        | dead => trivial
        | unborn => trivial
      · cases k <;> first | trivial | (exfalso; exact ha rfl)
    · have : ∀ ds : List Deferred, (∀ d' ∈ ds, d'.target ≠ .collected D) → DOk C0.w.heap.size C ds → DOk C0.w.heap.size C' ds := by
        intro ds
        induction ds with
        | nil => intro _ _; trivial
        | cons d ds ih =>
          rintro hne ⟨⟨D', h1, h2', h3', h4', h5', h6'⟩, h7'⟩
          refine ⟨⟨D', h1, h2', by rw [hsz]; exact h3', h4', ?_, h6'⟩, ih (fun d' hd' => hne d' (List.mem_cons_of_mem _ hd')) h7'⟩
          rw [hother D' (fun h => hne d List.mem_cons_self (by rw [h1, h]))]; exact h5'
      exact this ds h6 h7

/-- .. of one that may panic; of one that does not. -/
def Env.withPan (E : Env) (Q : IV → List Blk → Prop) : Env := { E with pan := Q, lo := 0, kept := fun _ => undef, base := none }
def Env.noPan (E : Env) : Env := { E with pan := fun _ _ => False, lo := 0, kept := fun _ => undef, base := none }
/-- A FUNCTION's CONTRACT, OUT OF THE RUN OF ITS BODY. -/
theorem xtp_of_fun {f : FuncId} {fn : Func} {F : XFn} {args : List IV} {L : List Blk} {R Q : IV → List Blk → Prop} {pq : IV → List Blk → Prop} (hpq : ∀ x L', pq x L' → Leave L.length x L' Q) (hf : E.P.funcs[f]? = some fn) (hF : compFn E.P fn = some F) (hnm : fn.name ≠ "runtime.NumGoroutine")
    (hargs : args.length ≤ fn.ntmps) (h : xfun (E.withPan pq) F args L R) : XTP E f args L R Q := by
  simp only [compFn, Option.bind_eq_some_iff, Option.map_eq_some_iff] at hF
  obtain ⟨c, hb, x, hx, rs, hrs, rfl⟩ := hF
  refine ⟨⟨fn, hf, hnm, by rw [hb]; rfl⟩, fun w φ X vs wf sim hG hl hvs => ?_⟩
  refine callsIn_wide.1 (callsIn_of_wp_marks (n := 0) hf hb trivial ?_)
  have hrel : Rel (E.withPan pq) ⟨w, φ, L, X⟩ fn.ntmps (entry args) L { tmps := vs.toArray ++ Array.replicate (fn.ntmps - vs.toArray.size) undef, defers := [] } w := by
    refine ⟨by simp; omega, φ, wf, sim, Ext.refl _, fun n => ?_, (DOkE.none (E := E.withPan pq) rfl).2 trivial, keptE_zero rfl⟩
    show VR _ (args.getD n .und) _
    by_cases hn : n < args.length
    · have h1 := hvs n _ (getD_get (d := .und) hn)
      have h2 : (vs.toArray ++ Array.replicate (fn.ntmps - vs.toArray.size) undef).getD n undef = vs.getD n undef := by
        rw [Array.getD_eq_getD_getElem?, Array.getElem?_append_left (by simpa [← hl] using hn), List.getD_eq_getElem?_getD]
        simp
      rw [h2]; exact h1
    · have h1 : args.getD n .und = .und := by rw [List.getD_eq_getElem?_getD, List.getElem?_eq_none (by omega)]; rfl
      have h2 : (vs.toArray ++ Array.replicate (fn.ntmps - vs.toArray.size) undef).getD n undef = undef := by
        rw [Array.getD_eq_getD_getElem?, Array.getElem?_append_right (by simp; omega), Array.getElem?_replicate]
        split <;> rfl
      rw [h1, h2]; exact .und
  let P1 : Ending → World → Prop := fun e w'' => ∃ r L'' φ'' v', Wf E.g0 ⟨w'', φ'', L'', X⟩ ∧ Sim ⟨w'', φ'', L'', X⟩ ∧ Ext ⟨w, φ, L, X⟩ ⟨w'', φ'', L'', X⟩ ∧ VR ⟨w'', φ'', L'', X⟩ r v' ∧
      ((R r L'' ∧ e = .returned v') ∨ (Q r L'' ∧ e = .panicked [{ v := v', recovered := false }]))
  refine xrun_sound (E := E.withPan pq) (F := Fence.wide) (.inl rfl) (C0 := ⟨w, φ, L, X⟩) wf hG (csize c) c (Nat.le_refl _) x hx (.inl rfl) (.inl ⟨rfl, rfl⟩) (entry args) L _ (bodyPostM Fence.wide 0 E.P fn P1) _ w ?_ h hrel ?_
  · intro y v L' φ' a w' hy hN wf' sim' ext' hv hd _ _
    have hd := (DOkE.none (E := E.withPan pq) rfl).1 hd
    refine marks_sound (E := E) (C0 := ⟨w, φ, L, X⟩) (fn := fn) (xs := fun _ => y) (us := fun _ => v) (L := L') (R := P1) (by intro h; cases h) (fun w'' hr => ?_) a.defers w' ⟨φ', wf', sim', ext', fun _ => hv, hd⟩
    obtain ⟨φ1, wf1, sim1, ext1, hv1, _⟩ := hr
    obtain ⟨r', L'', φ'', h4, h5, h6, h7, h8⟩ := leave_sound (C0 := ⟨w, φ, L, X⟩) (C := ⟨w'', φ1, L', X⟩) wf1 sim1 ext1 (hv1 0) (hpq y L' hy)
    exact ⟨r', L'', φ'', v, h5, h6, h7, h8, .inr ⟨h4, rfl⟩⟩
  rintro e ρ L' a' w' ⟨he, hres⟩ ⟨hN', φ', wf', sim', ext', hρ', hd', _⟩
  have hd' := (DOkE.none (E := E.withPan pq) rfl).1 hd'
  have hfin : LeavesInM Fence.wide 0 E.P fn a'.tmps P1 a'.defers .returning w' := by
    refine marks_sound (E := E) (C0 := ⟨w, φ, L, X⟩) (xs := ρ) (us := fun n => a'.tmps.getD n undef) (L := L') (by intro h; cases h) (fun w'' hr => ?_) a'.defers w' ⟨φ', wf', sim', ext', hρ', hd'⟩
    obtain ⟨φ1, wf1, sim1, ext1, hρ1, _⟩ := hr
    obtain ⟨v, r, h1, h2, h3⟩ := results_sound (E := E.withPan pq) (C := ⟨w'', φ1, L', X⟩) sim1 (rel_G (C0 := ⟨w, φ, L, X⟩) wf hG ext1) hρ1 hrs hres
    obtain ⟨r', L'', φ'', h4, h5, h6, h7, h8⟩ := leave_sound (C0 := ⟨w, φ, L, X⟩) (C := ⟨w'', φ1, L', X⟩) wf1 sim1 ext1 h2 h3
    exact ⟨v, h1, r', L'', φ'', v, h5, h6, h7, h8, .inl ⟨h4, rfl⟩⟩
  rcases he with rfl | rfl
  · exact hfin
  · exact hfin
theorem xtp_xt {f : FuncId} {args : List IV} {L : List Blk} {R : IV → List Blk → Prop} (h : XTP E f args L R fun _ _ => False) : XT E f args L R :=
  ⟨h.1, fun w φ X vs wf sim hG hl hv => (h.2 w φ X vs wf sim hG hl hv).mono fun e w' ⟨r, L', φ', v, h1, h2, h3, h4, h5⟩ => by
    rcases h5 with ⟨h5, rfl⟩ | ⟨h5, _⟩
    · exact ⟨r, L', φ', v, h5, rfl, h1, h2, h3, h4⟩
    · exact h5.elim⟩
theorem xt_xtp {f : FuncId} {args : List IV} {L : List Blk} {R Q : IV → List Blk → Prop} (h : XT E f args L R) : XTP E f args L R Q :=
  ⟨h.1, fun w φ X vs wf sim hG hl hv => (h.2 w φ X vs wf sim hG hl hv).mono fun e w' ⟨r, L', φ', v, h1, he, h2, h3, h4, h5⟩ => ⟨r, L', φ', v, h2, h3, h4, h5, .inl ⟨h1, he⟩⟩⟩
theorem XPure.wp {f : FuncId} {args : List IV} {r : IV} {Q : IV → List Blk → Prop} (h : XPure E f args r) : XPure (E.withPan Q) f args r := h
theorem xt_of_fun {f : FuncId} {fn : Func} {F : XFn} {args : List IV} {L : List Blk} {R : IV → List Blk → Prop} (hf : E.P.funcs[f]? = some fn) (hF : compFn E.P fn = some F) (hnm : fn.name ≠ "runtime.NumGoroutine")
    (hargs : args.length ≤ fn.ntmps) (h : xfun E.noPan F args L R) : XT E f args L R :=
  xtp_xt (xtp_of_fun (pq := fun _ _ => False) (fun _ _ h => h.elim) hf hF hnm hargs h)

end
end Go.X
end
section
/- The calculus X, part 16: rules for proofs: weakening, loops, calls. -/
namespace Go.X
open Go
section
variable {E : Env}

theorem xcall_mono {f : FuncId} {args : List IV} {L : List Blk} {K K' : IV → List Blk → Prop} (hk : ∀ v L', K v L' → K' v L') (h : xcall E f args L K) : xcall E f args L K' := by
  rcases h with ⟨b, args', h1, h2⟩ | ⟨r, h1, h2⟩ | ⟨sel, dl, b, args', L0, h1, h2, h3, h4, h5, h6⟩
  case inr.inl => exact .inr (.inl ⟨r, h1, hk _ _ h2⟩)
  case inr.inr => exact .inr (.inr ⟨sel, dl, b, args', L0, h1, h2, h3, h4, h5, h6.mono (fun r L1 ⟨h7, r', L1', h8, h9, h10⟩ => ⟨h7, r', L1', h8, h9, hk _ _ h10⟩) fun _ _ h => h⟩)
  exact .inl ⟨b, args', h1, h2.mono fun r L1 ⟨h3, r', L1', h4, h5, h6⟩ => ⟨h3, r', L1', h4, h5, hk _ _ h6⟩⟩

theorem xbin_mono {op : BinOp} {x y : IV} {K K' : IV → Prop} (hk : ∀ v, K v → K' v) (h : xbin op x y K) : xbin op x y K' := by
  unfold xbin at *
  split at h
  all_goals first | exact ⟨h.1, hk _ h.2⟩ | exact ⟨h.1, h.2.1, hk _ h.2.2⟩ | exact hk _ h | exact h.elim
theorem xun_mono {op : UnOp} {x : IV} {K K' : IV → Prop} (hk : ∀ v, K v → K' v) (h : xun op x K) : xun op x K' := by
  unfold xun at *
  split at h
  all_goals first | exact hk _ h | exact h.elim
theorem bnd_mono {x : Option IV} {d : Nat} {K K' : Nat → Prop} (hk : ∀ v, K v → K' v) (h : bnd x d K) : bnd x d K' := by
  unfold bnd at *
  split at h
  all_goals first | exact hk _ h | exact ⟨h.1, hk _ h.2⟩ | exact h.elim

theorem xappend_mono {sz by_ : Nat} {s x : IV} {L : List Blk} {K K' : IV → List Blk → Prop} (hk : ∀ v L', K v L' → K' v L') (h : xappend sz by_ s x L K) : xappend sz by_ s x L K' := by
  unfold xappend at *
  split
  · simp_all
  · rename_i rs hrs
    rw [hrs] at h
    refine ⟨h.1, ?_⟩
    have h2 := h.2
    split
    · exact ⟨fun h => hk _ _ (h2.1 h), fun h => ⟨(h2.2 h).1, hk _ _ (h2.2 h).2⟩⟩
    · exact ⟨fun h => hk _ _ (h2.1 h), fun h => ⟨(h2.2 h).1, hk _ _ (h2.2 h).2⟩⟩
    · rename_i t off len cap
      simp only at h2
      split
      · rename_i sz' rows hL
        simp only [hL] at h2
        obtain ⟨h3, h4, h5⟩ := h2
        refine ⟨h3, h4, ?_⟩
        split
        · rename_i hle; rw [if_pos hle] at h5; exact hk _ _ h5
        · rename_i hle; rw [if_neg hle] at h5; exact ⟨h5.1, hk _ _ h5.2⟩
      · rename_i hL
        split at h2
        · rename_i sz' rows hL'; exact absurd hL' (hL _ _)
        · exact h2
    · split at h2
      · rename_i h3 _ _; exact absurd rfl h3
      · rename_i h3 _; exact absurd rfl (by assumption)
      · rename_i t off len cap h3 h4 h5; exact absurd rfl (h5 _ _ _ _)
      · exact h2

theorem xappendR_mono {sz by_ g : Nat} {lay : List Blk → Blk → List Blk} {s x : IV} {L : List Blk} {K K' : IV → List Blk → Prop} (hk : ∀ v L', K v L' → K' v L') (h : xappendR sz by_ s x g lay L K) : xappendR sz by_ s x g lay L K' := by
  unfold xappendR at *
  split
  · simp_all
  · rename_i rs hrs
    rw [hrs] at h
    refine ⟨h.1, ?_⟩
    have h2 := h.2
    split
    · exact ⟨fun h => hk _ _ (h2.1 h), fun h => ⟨(h2.2 h).1, hk _ _ (h2.2 h).2⟩⟩
    · exact ⟨fun h => hk _ _ (h2.1 h), fun h => ⟨(h2.2 h).1, hk _ _ (h2.2 h).2⟩⟩
    · rename_i t off len cap
      simp only at h2
      split
      · rename_i sz' rows hL
        simp only [hL] at h2
        obtain ⟨h3, h4, h5⟩ := h2
        refine ⟨h3, h4, ?_⟩
        split
        · rename_i hle; rw [if_pos hle] at h5; exact hk _ _ h5
        · rename_i hle; rw [if_neg hle] at h5; exact ⟨h5.1, hk _ _ h5.2⟩
      · rename_i hL
        split at h2
        · rename_i sz' rows hL'; exact absurd hL' (hL _ _)
        · exact h2
    · split at h2
      · rename_i h3 _ _; exact absurd rfl h3
      · rename_i h3 _; exact absurd rfl (by assumption)
      · rename_i t off len cap h3 h4 h5; exact absurd rfl (h5 _ _ _ _)
      · exact h2

theorem xappT_mono {ty bytes g : Nat} {s x : IV} {L : List Blk} {K K' : IV → List Blk → Prop} (hk : ∀ v L', K v L' → K' v L') (h : xappT ty bytes s x g L K) : xappT ty bytes s x g L K' := by
  unfold xappT at *
  split at h <;> try exact h.elim
  refine ⟨h.1, ?_⟩
  have h2 := h.2
  clear h
  split at h2
  · exact ⟨fun h0 => hk _ _ (h2.1 h0), fun h0 => ⟨(h2.2 h0).1, hk _ _ (h2.2 h0).2⟩⟩
  · exact ⟨fun h0 => hk _ _ (h2.1 h0), fun h0 => ⟨(h2.2 h0).1, hk _ _ (h2.2 h0).2⟩⟩
  · refine ⟨h2.1, h2.2.1, ?_⟩
    have h3 := h2.2.2
    clear h2
    split at h3 <;> try exact h3.elim
    · exact ⟨h3.1, h3.2.1, h3.2.2.1, fun h0 => hk _ _ (h3.2.2.2.1 h0), fun h0 => ⟨(h3.2.2.2.2 h0).1, hk _ _ (h3.2.2.2.2 h0).2⟩⟩
    · exact xappendR_mono hk h3
  · exact h2.elim
theorem xex_mono {k : XX} {vs : List IV} {g : Nat} {L : List Blk} {K K' : IV → List Blk → Prop} (hk : ∀ v L', K v L' → K' v L') (h : xex E k vs g L K) : xex E k vs g L K' := by
  have hU : ∀ {ty s r o : Nat} {n : Int}, xusU ty s r o n L K → xusU ty s r o n L K' := fun h => by
    refine ⟨h.1, h.2.1, ?_⟩
    have h2 := h.2.2
    clear h
    split at h2 <;> try exact h2.elim
    refine ⟨h2.1, h2.2.1, h2.2.2.1, h2.2.2.2.1, h2.2.2.2.2.1, ?_⟩
    have h3 := h2.2.2.2.2.2
    clear h2
    split at h3 <;> try exact h3.elim
    exact hk _ _ h3
  have hP : ∀ {ty n s r o : Nat}, xptrU ty n s r o L K → xptrU ty n s r o L K' := fun h => by
    refine ⟨h.1, h.2.1, ?_⟩
    have h2 := h.2.2
    clear h
    split at h2 <;> try exact h2.elim
    exact ⟨h2.1, h2.2.1, h2.2.2.1, hk _ _ h2.2.2.2⟩
  cases k <;> simp only [xex] at * <;> try exact h
  case allocT => exact hk _ _ h
  case mkif => split at h <;> first | exact h.elim | exact hk _ _ h
  case slId =>
    split at h
    · refine ⟨h.1, ?_⟩
      have h2 := h.2
      split at h2
      · exact hk _ _ h2
      · exact hk _ _ h2
      · exact h2.elim
    · exact h.elim
  case strB => split at h <;> first | exact h.elim | exact hk _ _ h
  case appT => split at h <;> first | exact h.elim | exact xappT_mono hk h
  case sdata =>
    split at h
    · exact hk _ _ h
    · exact hk _ _ h
    · exact ⟨h.1, hk _ _ h.2⟩
    · exact h.elim
  case ustr =>
    split at h
    · exact ⟨h.1, hk _ _ h.2⟩
    · exact hU h
    · exact h.elim
  case toU => split at h <;> first | exact h.elim | exact hP h
  case ofU => split at h <;> first | exact h.elim | exact hP h
  case tas =>
    split at h
    · split at h
      · rename_i ht; rw [if_pos ht]; exact hk _ _ h
      · exact h.elim
    · exact h.elim
  all_goals
    split at h <;> try exact h.elim
    split at h <;> try exact h.elim
    exact hk _ _ h

theorem xop_mono {o : XO} {e : Opd → IV} {L : List Blk} {K K' : IV → List Blk → Prop} (hk : ∀ v L', K v L' → K' v L') (h : xop E o e L K) : xop E o e L K' := by
  cases o with
  | bin op x y => exact xbin_mono (fun v hv => hk v L hv) h
  | un op x => exact xun_mono (fun v hv => hk v L hv) h
  | append sz by_ s x => exact xappend_mono hk h
  | fld off n agg x =>
    simp only [xop] at *
    cases hx : e x <;> simp only [hx] at h ⊢ <;> first | exact h.elim | skip
    refine ⟨h.1, ?_⟩
    have h2 := h.2
    split
    · rename_i hg; rw [if_pos hg] at h2; exact hk _ _ h2
    · rename_i hg; rw [if_neg hg] at h2; exact ⟨h2.1, hk _ _ h2.2⟩
  | store n a x =>
    simp only [xop] at *
    cases hx : e a <;> simp only [hx] at h ⊢ <;> first | exact h.elim | skip
    split at h
    · exact ⟨h.1, h.2.1, h.2.2.1, h.2.2.2.1, hk _ _ h.2.2.2.2⟩
    · exact ⟨h.1, h.2.1, h.2.2.1, h.2.2.2.1, hk _ _ h.2.2.2.2⟩
    · exact h.elim
  | ex k xs => exact xex_mono hk h
  | slice m x lo hi =>
    simp only [xop] at *
    cases hx : e x <;> simp only [hx] at h ⊢ <;>
      first
        | exact h.elim
        | exact ⟨h.1, bnd_mono (fun l => bnd_mono fun _ h => ⟨h.1, h.2.1, hk _ _ h.2.2⟩) h.2⟩
        | exact bnd_mono (fun l => bnd_mono fun _ h => ⟨h.1, h.2.1, hk _ _ h.2.2⟩) h
  | sliceS x lo hi =>
    simp only [xop] at *
    cases hx : e x <;> simp only [hx] at h ⊢ <;>
      first
        | exact h.elim
        | exact bnd_mono (fun l => bnd_mono fun _ h => ⟨h.1, h.2.1, hk _ _ h.2.2⟩) h
  | call f as =>
    simp only [xop] at *
    split at h
    · exact xcall_mono hk h
    · exact E.hylm _ _ _ _ _ hk h
    · exact h.elim
  | pcall f as =>
    simp only [xop] at *
    split at h
    · rename_i hf
      obtain ⟨fz, args', r, h1, h2, h0, h3, h4⟩ := h
      exact ⟨fz, args', r, h1, h2, h0, h3, hk _ _ h4⟩
    · exact h.elim
  | isNil k neg x =>
    simp only [xop] at *
    unfold xnil at *
    split at h <;> first
      | exact hk _ _ h
      | exact ⟨hk _ _ h.1, hk _ _ h.2⟩
      | exact ⟨hk _ _ h.1, fun hr => hk _ _ (h.2 hr)⟩
      | exact h.elim
  | nxt t =>
    simp only [xop] at *
    split at h
    · split at h
      · split at h
        · rename_i h1 _ _ _ h2 h3; simp only [h1, h2, h3, if_true]; exact hk _ _ h
        · rename_i h1 _ _ _ h2 h3; simp only [h1, h2, h3, if_false]; exact hk _ _ h
      · exact h.elim
    · exact h.elim
  | _ =>
    simp only [xop] at *
    first
      | exact hk _ _ h
      | (split at h <;>
          first
            | exact hk _ _ h
            | exact ⟨h.1, hk _ _ h.2⟩
            | exact ⟨h.1, h.2.1, hk _ _ h.2.2⟩
            | exact ⟨h.1, h.2.1, h.2.2.1, hk _ _ h.2.2.2⟩
            | exact ⟨h.1, h.2.1, h.2.2.1, h.2.2.2.1, hk _ _ h.2.2.2.2⟩
            | exact h.elim)
      | (refine ⟨h.1, ?_⟩
         have h2 := h.2
         clear h
         split at h2 <;> first | exact hk _ _ h2 | exact h2.elim)

theorem xops_mono {K K' : Rho → List Blk → Prop} (hk : ∀ ρ L, K ρ L → K' ρ L) : ∀ {l : List XOper} {ρ : Rho} {L : List Blk}, xops E l ρ L K → xops E l ρ L K'
  | [], ρ, L, h => hk _ _ h
  | o :: r, ρ, L, h => by
    simp only [xops] at *
    split
    · rename_i hg; rw [hg] at h; exact xop_mono (fun v L' => xops_mono hk) h
    · rename_i t want hg
      rw [hg] at h
      simp only at h
      split
      · rename_i b hb; rw [hb] at h
        exact ⟨fun hw => xop_mono (fun v L' => xops_mono hk) (h.1 hw), fun hw => xops_mono hk (h.2 hw)⟩
      · rename_i hb; rw [hb] at h; exact xops_mono hk h
      · split at h <;> simp_all

theorem xopsD_mono {K K' : Rho → List Blk → Prop} (hk : ∀ ρ L, K ρ L → K' ρ L) : ∀ {l : List (XOper × List Nat × Bool)} {i : Nat} {lg : List (Nat × List Nat × List Nat)} {ρ : Rho} {L : List Blk}, xopsD E i lg l ρ L K → xopsD E i lg l ρ L K'
  | [], i, lg, ρ, L, h => hk _ _ h
  | (o, chk, keep) :: r, i, lg, ρ, L, h => by
    simp only [xopsD] at *
    split
    · rename_i hg; rw [hg] at h; exact xop_mono (fun v L' h => ⟨h.1, xopsD_mono hk h.2⟩) h
    · rename_i t want hg
      rw [hg] at h
      simp only at h
      split
      · rename_i b hb; rw [hb] at h
        exact ⟨fun hw => xop_mono (fun v L' h => ⟨h.1, xopsD_mono hk h.2⟩) (h.1 hw), fun hw => xopsD_mono hk (h.2 hw)⟩
      · rename_i hb; rw [hb] at h; exact xopsD_mono hk h
      · split at h <;> simp_all

/-- A run that is weakened. -/
def MonoR (f : Run) : Prop := ∀ (ρ : Rho) (L : List Blk) (K K' : XE → Rho → List Blk → Prop), (∀ e ρ L, K e ρ L → K' e ρ L) → f ρ L K → f ρ L K'

theorem xloop_mono {f : Run} (hf : MonoR f) {K K' : XE → Rho → List Blk → Prop} (hk : ∀ e ρ L, K e ρ L → K' e ρ L) :
    ∀ {n : Nat} {ρ : Rho} {L : List Blk}, xloop f n ρ L K → xloop f n ρ L K'
  | 0, _, _, h => h.elim
  | n + 1, ρ, L, h => hf _ _ _ _ (fun e ρ L h => by
      cases e with
      | normal => exact xloop_mono hf hk h
      | exit => exact hk _ _ _ h
      | goto => exact hk _ _ _ h
      | ret => exact hk _ _ _ h) h

theorem xgoto_mono {g : Nat → Option Run} (hg : ∀ l f, g l = some f → MonoR f) {K K' : XE → Rho → List Blk → Prop} (hk : ∀ e ρ L, K e ρ L → K' e ρ L) :
    ∀ {n : Nat} {e : XE} {ρ : Rho} {L : List Blk}, xgoto g n e ρ L K → xgoto g n e ρ L K'
  | n, .normal, _, _, h => by cases n <;> exact hk _ _ _ h
  | n, .ret, _, _, h => by cases n <;> exact hk _ _ _ h
  | n, .exit id, _, _, h => by cases n <;> exact hk _ _ _ h
  | 0, .goto l, _, _, h => by
    unfold xgoto at *
    split at h
    · exact hk _ _ _ h
    · exact h.elim
  | n + 1, .goto l, _, _, h => by
    unfold xgoto at *
    split at h
    · exact hk _ _ _ h
    · rename_i f hl
      exact hg l f hl _ _ _ _ (fun e ρ L h => xgoto_mono hg hk h) h

mutual
theorem xrun_mono : ∀ (c : XC) {ρ : Rho} {L : List Blk} {K K' : XE → Rho → List Blk → Prop}, (∀ e ρ L, K e ρ L → K' e ρ L) → xrun E c ρ L K → xrun E c ρ L K'
  | .skip, _, _, _, _, hk, h => hk _ _ _ h
  | .ops l, _, _, _, _, hk, h => xops_mono (fun ρ L => hk _ ρ L) h
  | .draw l, _, _, _, _, hk, h => ⟨h.1, xops_mono (fun ρ L => hk _ ρ L) h.2⟩
  | .seq a b, _, _, _, _, hk, h => by
    simp only [xrun] at *
    exact xrun_mono a (fun e ρ L h => by cases e <;> first | exact xrun_mono b hk h | exact hk _ _ _ h) h
  | .cond c t e, _, _, _, _, hk, h => by
    simp only [xrun] at *
    split
    · rename_i heq; rw [heq] at h; exact ⟨fun hb => xrun_mono t hk (h.1 hb), fun hb => xrun_mono e hk (h.2 hb)⟩
    · split at h <;> simp_all
  | .block id b, _, _, _, _, hk, h => by
    simp only [xrun] at *
    refine xrun_mono b (fun e ρ L h => ?_) h
    cases e with
    | exit i => simp only [XE.inBlock] at *; split <;> simp_all
    | normal => exact hk _ _ _ h
    | goto l => exact hk _ _ _ h
    | ret => exact hk _ _ _ h
  | .loop b, _, _, _, _, hk, h => by
    simp only [xrun] at *
    obtain ⟨n, h⟩ := h
    exact ⟨n, xloop_mono (f := xrun E b) (fun _ _ _ _ hk h => xrun_mono b hk h) hk h⟩
  | .exit id, _, _, _, _, hk, h => hk _ _ _ h
  | .scope b ls, _, _, _, _, hk, h => by
    simp only [xrun] at *
    obtain ⟨n, h⟩ := h
    exact ⟨n, xrun_mono b (fun e ρ L h => xgoto_mono (fun _ _ hl => xlabs_mono ls hl) hk h) h⟩
  | .drawE l, _, _, _, _, hk, h => xops_mono (fun ρ L => hk _ ρ L) h
  | .drawR l, _, _, _, _, hk, h => xopsD_mono (fun ρ L => hk _ ρ L) h
  | .bad, _, _, _, _, _, h => h.elim
  | .rngF g N ps asg body, ρ, L, _, _, hk, h => by
    simp only [xrun] at *
    split at h
    · rename_i heq
      refine fun r0 h1 h2 h3 => (h r0 h1 h2 h3).mono fun r L' hr => ?_
      obtain ⟨r1, h4, h5, h6⟩ := hr
      refine ⟨r1, h4, h5, ?_⟩
      split at h6 <;> first
        | exact hk _ _ _ h6
        | exact h6.elim
        | (rename_i hp; rw [hp]; exact hk _ _ _ h6)
    · exact h.elim
  | .label _, _, _, _, _, hk, h => hk _ _ _ h
  | .goto l, _, _, _, _, hk, h => hk _ _ _ h
  | .ret, _, _, _, _, hk, h => hk _ _ _ h
theorem xlabs_mono : ∀ (ls : XLabs) {l : Nat} {f : Run}, xlabs E ls l = some f → MonoR f
  | .nil, _, _, h => by cases h
  | .cons l' c r, l, f, h => by
    simp only [xlabs] at h
    split at h
    · simp only [Option.some.injEq] at h; subst h; exact fun _ _ _ _ hk h => xrun_mono c hk h
    · exact xlabs_mono r h
end

/-- A cut. -/
theorem xrun_cut {c : XC} {ρ : Rho} {L : List Blk} {K : XE → Rho → List Blk → Prop} (M : XE → Rho → List Blk → Prop) (h1 : xrun E c ρ L M) (h2 : ∀ e ρ L, M e ρ L → K e ρ L) : xrun E c ρ L K :=
  xrun_mono c h2 h1

/-- Behind the piece: where it ends normally. -/
def Norm (M : Rho → List Blk → Prop) : XE → Rho → List Blk → Prop
  | .normal, ρ, L => M ρ L
  | _, _, _ => False

/-- A loop: 'I n': what holds at a round's head, n being more than what is left. -/
theorem xloop_inv {b : XC} {ρ : Rho} {L : List Blk} {K : XE → Rho → List Blk → Prop} (I : Nat → Rho → List Blk → Prop) {n : Nat} (h0 : I n ρ L)
    (hs : ∀ n ρ L, I n ρ L → xrun E b ρ L fun e ρ' L' => match e with
      | .normal => ∃ m, m < n ∧ I m ρ' L'
      | e => K e ρ' L') : xrun E (.loop b) ρ L K := by
  simp only [xrun]
  have key : ∀ n m ρ L, m ≤ n → I m ρ L → xloop (xrun E b) (n + 1) ρ L K := by
    intro n
    induction n with
    | zero =>
      intro m ρ L hm h
      refine xrun_mono b (fun e ρ' L' h' => ?_) (hs m ρ L h)
      cases e with
      | normal => obtain ⟨k, hk, _⟩ := h'; omega
      | exit => exact h'
      | goto => exact h'
      | ret => exact h'
    | succ n ih =>
      intro m ρ L hm h
      refine xrun_mono b (fun e ρ' L' h' => ?_) (hs m ρ L h)
      cases e with
      | normal => obtain ⟨k, hk, h2⟩ := h'; exact ih k ρ' L' (by omega) h2
      | exit => exact h'
      | goto => exact h'
      | ret => exact h'
  exact ⟨n + 1, key n n ρ L (Nat.le_refl _) h0⟩

/-- .. with arguments that do: they are lent. -/
theorem xcall_lend {f : FuncId} {args args' : List IV} {L : List Blk} {K : IV → List Blk → Prop} {r : IV} (hc : mapO (conv L fuel renFreeze) args = some args') (h : XPure E f args' r) (ht : noTree r = true) (hr : conv [] fuel (renShift L.length) r = some r)
    (hk : K r L) : xcall E f args L K :=
  .inl ⟨true, args', hc, h.mono fun r' L1 ⟨h1, h2⟩ => by
    subst h1; subst h2
    exact ⟨fun _ => ⟨ht, rfl⟩, r', [], hr, rfl, by simpa using hk⟩⟩

/-- .. of a function that the model answers by itself. -/
theorem xcall_ext {f : FuncId} {args : List IV} {L : List Blk} {K : IV → List Blk → Prop} {r : IV} (h : XExt E f args r) (hk : K r L) : xcall E f args L K := .inr (.inl ⟨r, h, hk⟩)

theorem xpure_of_fun {f : FuncId} {fn : Func} {F : XFn} {args : List IV} {r : IV} (hf : E.P.funcs[f]? = some fn) (hF : compFn E.P fn = some F) (hnm : fn.name ≠ "runtime.NumGoroutine")
    (hargs : args.length ≤ fn.ntmps) (h : xrun E.noPan F.body (entry args) [] fun e ρ L' => (e = .ret ∨ e = .normal) ∧ xresults E.noPan F.results ρ L' fun r' => conv L' fuel renFreeze r' = some r) : XPure E f args r := by
  refine xt_of_fun hf hF hnm hargs (xrun_mono _ (fun e ρ L' ⟨h1, h2⟩ => ⟨h1, ?_⟩) h)
  have hren : renLeave 0 [] = renFreeze := by funext s; simp [renLeave, pos, renFreeze]
  have key : ∀ (rs : List XRes) (K K' : List IV → Prop), (∀ v, K v → K' v) → xress E.noPan ρ L' rs K → xress E.noPan ρ L' rs K' := by
    intro rs
    induction rs with
    | nil => intro K K' hk h; exact hk _ h
    | cons x l ih =>
      intro K K' hk h
      simp only [xress] at *
      have h1 : ∀ (Q Q' : IV → Prop), (∀ v, Q v → Q' v) → xres1 E.noPan ρ L' x Q → xres1 E.noPan ρ L' x Q' := by
        intro Q Q' hq hx
        cases x with
        | tmp t => exact hq _ hx
        | cell1 a => exact xop_mono (E := E.noPan) (fun v _ hv => hq v hv) (by simpa only [xres1] using hx)
        | cellN a n => exact xop_mono (E := E.noPan) (fun v _ hv => hq v hv) (by simpa only [xres1] using hx)
      exact h1 _ _ (fun v hv => ih _ _ (fun vs hvs => hk _ hvs) hv) h
  refine key _ _ _ (fun vs hvs => ?_) h2
  exact ⟨[], .nil, by simp, r, [], by simpa only [List.length_nil, hren] using hvs, rfl, rfl, rfl⟩

end
end Go.X
end
