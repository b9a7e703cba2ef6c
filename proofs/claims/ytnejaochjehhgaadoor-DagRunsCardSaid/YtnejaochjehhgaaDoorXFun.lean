/- The calculus X, part 15: a function's contract out of the run of its body. -/
import Derived.Test.YtnejaochjehhgaaDoorXSound
set_option linter.unusedVariables false
set_option linter.unusedSimpArgs false
set_option linter.unusedSectionVars false
namespace Go.X
open Go

inductive XRes where
  | tmp (t : Nat)
  | cell1 (a : Nat)
  | cellN (a n : Nat)

def compRes (P : Program) : ResultVar → Option XRes
  | .tmp t => some (.tmp t)
  | .cell a t => (isAggT P t).bind fun g => (sizeT P t).map fun n => if g then .cellN a n else .cell1 a

def xres1 (E : Env) (ρ : Rho) (L : List Blk) : XRes → (IV → Prop) → Prop
  | .tmp t, K => K (ρ t)
  | .cell1 a, K => xop E (.load1 (.t a)) (Opd.ev ρ) L fun r _ => K r
  | .cellN a n, K => xop E (.loadN n (.t a)) (Opd.ev ρ) L fun r _ => K r

def xress (E : Env) (ρ : Rho) (L : List Blk) : List XRes → (List IV → Prop) → Prop
  | [], K => K []
  | r :: l, K => xres1 E ρ L r fun v => xress E ρ L l fun vs => K (v :: vs)

def oneOrTup : List IV → IV
  | [x] => x
  | l => .tup l

def xresults (E : Env) (rs : List XRes) (ρ : Rho) (L : List Blk) (K : IV → Prop) : Prop := xress E ρ L rs fun vs => K (oneOrTup vs)

/-- Where a number stands in a list. -/
def pos : List Nat → Nat → Nat → Option Nat
  | [], _, _ => none
  | k :: r, s, i => if s = k then some i else pos r s (i + 1)

theorem pos_some : ∀ {l : List Nat} {s i j : Nat}, pos l s i = some j → ∃ d, j = i + d ∧ l[d]? = some s
  | [], _, _, _, h => by cases h
  | k :: r, s, i, j, h => by
    simp only [pos] at h
    split at h
    · rename_i hk; subst hk; simp only [Option.some.injEq] at h; subst h; exact ⟨0, rfl, rfl⟩
    · obtain ⟨d, h1, h2⟩ := pos_some h
      exact ⟨d + 1, by omega, by simpa using h2⟩
theorem pos_none : ∀ {l : List Nat} {s i : Nat}, pos l s i = none → s ∉ l
  | [], _, _, _ => by simp
  | k :: r, s, i, h => by
    simp only [pos] at h
    split at h
    · cases h
    · rename_i hk
      have := pos_none h
      simp [hk, this]

def renLeave (n : Nat) (keep : List Nat) : Ren := fun s => if s < n then some (some s) else
  match pos keep s n with
  | some i => some (some i)
  | none => some none

/-- The answer and the blocks that stay, as the caller gets them: the first n blocks are his; 'keep': others that he gets; all else is only read from now on, or gone. -/
def Leave (n : Nat) (r : IV) (L' : List Blk) (R : IV → List Blk → Prop) : Prop :=
  ∃ keep : List Nat, keep.Pairwise (· < ·) ∧ (∀ s ∈ keep, n ≤ s ∧ s < L'.length) ∧ ∃ r' L'', conv L' fuel (renLeave n keep) r = some r' ∧
    mapO (convB L' fuel (renLeave n keep)) (L'.take n ++ keep.map fun s => L'.getD s .dead) = some L'' ∧ R r' L''

def entry (args : List IV) : Rho := fun n => args.getD n .und

/-- A function in short form. -/
structure XFn where
  ntmps : Nat
  results : List XRes
  body : XC

def xfun (E : Env) (F : XFn) (args : List IV) (L : List Blk) (R : IV → List Blk → Prop) : Prop :=
  xrun E F.body (entry args) L fun e ρ L' => (e = .ret ∨ e = .normal) ∧ xresults E F.results ρ L' fun r => Leave L.length r L' R

def compFn (P : Program) (fn : Func) : Option XFn :=
  fn.body.bind fun c => (comp P fn.ntmps c).bind fun x => (mapO (compRes P) fn.results.toList).map fun rs => ⟨fn.ntmps, rs, x⟩

section
variable {E : Env}

/-- One result. -/
def resSem (tmps : Array Value) : ResultVar → Sem Value
  | .tmp t => pure (tmps.getD t undef)
  | .cell a t => do loadVar t (← asAddr (tmps.getD a undef))

theorem res1_sound {C : Ctx} (sim : Sim C) (hG : E.G C.w) {ρ : Rho} {tmps : Array Value} (hρ : ∀ n, VR C (ρ n) (tmps.getD n undef)) {rv : ResultVar} {x : XRes} (hx : compRes E.P rv = some x) {K : IV → Prop} (h : xres1 E ρ C.L x K) :
    ∃ v r, (resSem tmps rv).run E.P C.w = .ok v C.w ∧ VR C r v ∧ K r := by
  have hload : ∀ (t : TypeId) (at_ : Nat) (Q : IV → List Blk → Prop) (xo : XO), compOp E.P (.load t (.tmp at_)) = some xo → xo.quiet = true → xop E xo (Opd.ev ρ) C.L Q →
      ∃ v r, (do loadVar t (← asAddr (tmps.getD at_ undef)) : Sem Value).run E.P C.w = .ok v C.w ∧ VR C r v ∧ Q r C.L := by
    intro t at_ Q xo hxo hq hxop
    obtain ⟨v, r, h1, h2, h3⟩ := xop_pure (E := E) (C := C) (a := ⟨tmps, []⟩) (o := { (default : Oper) with op := .load t (.tmp at_) }) (x := xo) sim hG (opds_of hρ) hxo hq hxop
    refine ⟨v, r, ?_, h2, h3⟩
    have h4 : (execOp (Act.eval ⟨tmps, []⟩) { (default : Oper) with op := .load t (.tmp at_) }).run E.P C.w = ((Instr.loadAt t (tmps.getD at_ undef)).run E.P C.w).andThen fun v w' => .ok (.value v) w' := by
      show (do pure (Next.value (← Instr.loadAt t (tmps.getD at_ undef))) : Sem Next).run E.P C.w = _
      rw [Sem.run_bind]; rfl
    rw [h4] at h1
    have h5 : (Instr.loadAt t (tmps.getD at_ undef)).run E.P C.w = .ok v C.w := by
      cases hr : (Instr.loadAt t (tmps.getD at_ undef)).run E.P C.w with
      | ok u w' => rw [hr] at h1; simp only [Result.andThen_ok, Result.ok.injEq, Next.value.injEq] at h1; rw [h1.1, h1.2]
      | halt hh w' => rw [hr] at h1; cases h1
    unfold Instr.loadAt at h5
    rw [Sem.run_bind] at h5 ⊢
    cases hv : tmps.getD at_ undef with
    | pointer p =>
      cases p with
      | none => rw [hv] at h5; cases h5
      | some p => rw [hv] at h5; exact h5
    | _ => rw [hv] at h5; cases h5
  cases rv with
  | tmp t => simp only [compRes, Option.some.injEq] at hx; subst hx; exact ⟨_, _, rfl, hρ t, h⟩
  | cell at_ t =>
    simp only [compRes, Option.bind_eq_some_iff, Option.map_eq_some_iff] at hx
    obtain ⟨g, hg, n, hn, rfl⟩ := hx
    cases g
    · simp only [Bool.false_eq_true, if_false, xres1] at h
      exact hload t at_ (fun r _ => K r) (.load1 (.t at_)) (by simp [compOp, hg, hn, opd]) rfl h
    · simp only [if_true, xres1] at h
      exact hload t at_ (fun r _ => K r) (.loadN n (.t at_)) (by simp [compOp, hg, hn, opd]) rfl h

theorem ress_sound {C : Ctx} (sim : Sim C) (hG : E.G C.w) {ρ : Rho} {tmps : Array Value} (hρ : ∀ n, VR C (ρ n) (tmps.getD n undef)) : ∀ (rvs : List ResultVar) (xs : List XRes) (K : List IV → Prop), mapO (compRes E.P) rvs = some xs → xress E ρ C.L xs K →
    ∃ vs rs, (rvs.mapM (resSem tmps)).run E.P C.w = .ok vs C.w ∧ rs.length = vs.length ∧
      (∀ (i : Nat) (x : IV), rs[i]? = some x → VR C x (vs.getD i undef)) ∧ K rs
  | [], xs, K, hx, h => by
    simp only [mapO, Option.some.injEq] at hx; subst hx
    exact ⟨[], [], rfl, rfl, fun i x hi => by simp at hi, h⟩
  | rv :: rvs, xs, K, hx, h => by
    simp only [mapO] at hx
    split at hx
    · split at hx
      · rename_i x hx1 _ xr hxr
        simp only [Option.some.injEq] at hx; subst hx
        obtain ⟨v, r, h1, h2, h3⟩ := res1_sound (E := E) sim hG hρ hx1 h
        obtain ⟨vs, rs, h4, h5, h6, h7⟩ := ress_sound sim hG hρ rvs xr _ hxr h3
        refine ⟨v :: vs, r :: rs, ?_, by simp [h5], fun i x hi => ?_, h7⟩
        · rw [List.mapM_cons, Sem.run_bind, h1]
          simp only [Result.andThen_ok]
          rw [Sem.run_bind, h4]
          rfl
        · cases i with
          | zero => simp at hi; subst hi; exact h2
          | succ i => simpa using h6 i x (by simpa using hi)
      · cases hx
    · cases hx

theorem results_sound {C : Ctx} (sim : Sim C) (hG : E.G C.w) {ρ : Rho} {tmps : Array Value} (hρ : ∀ n, VR C (ρ n) (tmps.getD n undef)) {fn : Func} {xs : List XRes} {K : IV → Prop} (hx : mapO (compRes E.P) fn.results.toList = some xs) (h : xresults E xs ρ C.L K) :
    ∃ v r, (results fn tmps).run E.P C.w = .ok v C.w ∧ VR C r v ∧ K r := by
  obtain ⟨vs, rs, h1, h2, h3, h4⟩ := ress_sound (E := E) sim hG hρ fn.results.toList xs _ hx h
  have hrun : (results fn tmps).run E.P C.w = .ok (if h : vs.toArray.size = 1 then vs.toArray[0] else .tuple vs.toArray) C.w := by
    have h0 : results fn tmps = (do let vs ← fn.results.mapM (resSem tmps); pure (if h : vs.size = 1 then vs[0] else .tuple vs)) := rfl
    rw [h0, Sem.run_bind, Array.mapM_eq_mapM_toList, Sem.run_map, h1]
    rfl
  refine ⟨_, _, hrun, ?_, h4⟩
  clear h1 hrun h4
  match rs, vs, h2, h3 with
  | [], [], _, _ => exact .tup [] [] rfl (fun i x hi => by simp at hi)
  | [r], [v], _, h3 => exact h3 0 r rfl
  | r1 :: r2 :: rs, v1 :: v2 :: vs, h2, h3 =>
    have : ¬ ((v1 :: v2 :: vs).toArray.size = 1) := by simp
    rw [dif_neg this]
    exact .tup _ _ h2 h3

theorem leave_sound {g0 : Nat} {C0 C : Ctx} (wf : Wf g0 C) (sim : Sim C) (ext : Ext C0 C) {r : IV} {v : Value} (hv : VR C r v) {R : IV → List Blk → Prop} (h : Leave C0.L.length r C.L R) :
    ∃ r' L' φ', R r' L' ∧ Wf g0 ⟨C.w, φ', L', C.X⟩ ∧ Sim ⟨C.w, φ', L', C.X⟩ ∧ Ext C0 ⟨C.w, φ', L', C.X⟩ ∧ VR ⟨C.w, φ', L', C.X⟩ r' v := by
  obtain ⟨keep, hnd, hkeep, r', L', hr, hL, hR⟩ := h
  let n := C0.L.length
  have hn : n ≤ C.L.length := ext.len
  let src : Nat → Nat := fun s => if s < n then s else keep.getD (s - n) 0
  let φ' : Nat → Loc := fun s => C.φ (src s)
  have hlen : L'.length = n + keep.length := by
    rw [mapO_len hL]; simp only [List.length_append, List.length_take, List.length_map]; omega
  -- where a block of the new list comes from
  have hget : ∀ s k, L'[s]? = some k → ∃ k0, C.L[src s]? = some k0 ∧ convB C.L fuel (renLeave n keep) k0 = some k ∧ ((s < n ∧ src s = s) ∨ (n ≤ s ∧ keep[s - n]? = some (src s))) := by
    intro s k hs
    obtain ⟨k0, h1, h2⟩ := mapO_get hL s k hs
    by_cases hsn : s < n
    · rw [List.getElem?_append_left (by rw [List.length_take]; omega), List.getElem?_take, if_pos hsn] at h1
      exact ⟨k0, by simp only [src, hsn, if_true]; exact h1, h2, .inl ⟨hsn, by simp only [src, hsn, if_true]⟩⟩
    · have hlt := lt_of_getL hs
      rw [List.getElem?_append_right (by rw [List.length_take]; omega), List.length_take, List.getElem?_map, Option.map_eq_some_iff] at h1
      obtain ⟨t, h3, rfl⟩ := h1
      have e1 : s - min n C.L.length = s - n := by omega
      have h3' : keep[s - n]? = some t := by rw [← e1]; exact h3
      have hsrc : src s = t := by simp only [src, hsn, if_false]; exact getD_getL h3'
      have htk : t ∈ keep := List.mem_of_getElem? h3'
      obtain ⟨h5, h6⟩ := hkeep t htk
      exact ⟨_, by rw [hsrc]; exact getD_get (d := .dead) h6, h2, .inr ⟨by omega, by rw [hsrc]; exact h3'⟩⟩
  have hmine : ∀ b, (⟨C.w, φ', L', C.X⟩ : Ctx).mine b → C.mine b := by
    rintro b ⟨s, k, hk, ha, rfl⟩
    obtain ⟨k0, h1, h2, _⟩ := hget s k hk
    exact ⟨src s, k0, h1, by rw [← convB_alive h2]; exact ha, rfl⟩
  have hext : Ext C0 ⟨C.w, φ', L', C.X⟩ :=
    ⟨ext.size, ext.frame, fun b hb => ext.sub b (hmine b hb), fun s hs => by
      show C.φ (src s) = _
      have : src s = s := by simp only [src]; exact if_pos hs
      rw [this]; exact ext.slot s hs, by show n ≤ L'.length; omega, ext.cap, ext.ex, ext.os, ext.tape, ext.output⟩
  have hinj : ∀ s t, s < L'.length → t < L'.length → ((s < n ∧ src s = s) ∨ (n ≤ s ∧ keep[s - n]? = some (src s))) → ((t < n ∧ src t = t) ∨ (n ≤ t ∧ keep[t - n]? = some (src t))) → src s = src t → s = t := by
    intro s t _ _ hs ht heq
    have hk : ∀ i x, keep[i]? = some x → n ≤ x := fun i x hx => (hkeep x (List.mem_of_getElem? hx)).1
    rcases hs with ⟨h1, h2⟩ | ⟨h1, h2⟩ <;> rcases ht with ⟨h3, h4⟩ | ⟨h3, h4⟩
    · omega
    · have := hk _ _ h4; omega
    · have := hk _ _ h2; omega
    · rw [heq] at h2
      rcases Nat.lt_trichotomy (s - n) (t - n) with h5 | h5 | h5
      · have h6 := List.pairwise_iff_getElem.1 hnd (s - n) (t - n) (lt_of_getL h2) (lt_of_getL h4) h5
        have e1 := Option.some.inj ((List.getElem?_eq_getElem (lt_of_getL h2)).symm.trans h2)
        have e2 := Option.some.inj ((List.getElem?_eq_getElem (lt_of_getL h4)).symm.trans h4)
        omega
      · omega
      · have h6 := List.pairwise_iff_getElem.1 hnd (t - n) (s - n) (lt_of_getL h4) (lt_of_getL h2) h5
        have e1 := Option.some.inj ((List.getElem?_eq_getElem (lt_of_getL h2)).symm.trans h2)
        have e2 := Option.some.inj ((List.getElem?_eq_getElem (lt_of_getL h4)).symm.trans h4)
        omega
  have hren : RenOk C ⟨C.w, φ', L', C.X⟩ (renLeave n keep) := by
    intro s k hk
    refine ⟨fun hm ha hown => ?_, fun t hm => ?_⟩
    · have hsn : ¬ s < n := by
        intro h; unfold renLeave at hm; rw [if_pos h] at hm; cases hm
      have hnk : s ∉ keep := by
        unfold renLeave at hm
        rw [if_neg hsn] at hm
        split at hm
        · cases hm
        · rename_i hp; exact pos_none hp
      rcases hown with hx | ⟨t, l, hl, hla, heq⟩
      · exact wf.apart _ hx ⟨s, k, hk, ha, rfl⟩
      · obtain ⟨k0, h1, h2, h3⟩ := hget t l hl
        have := wf.inj s (src t) k k0 hk h1 ha (by rw [← convB_alive h2]; exact hla) heq.symm
        rcases h3 with ⟨h4, h5⟩ | ⟨h4, h5⟩
        · omega
        · rw [← this] at h5; exact hnk (List.mem_of_getElem? h5)
    · unfold renLeave at hm
      split at hm
      · rename_i hsn
        simp only [Option.some.injEq] at hm; subst hm
        refine ⟨by show s < L'.length; omega, ?_⟩
        show C.φ (src s) = _
        have : src s = s := by simp only [src]; exact if_pos hsn
        rw [this]
      · rename_i hsn
        split at hm
        · rename_i i hp
          simp only [Option.some.injEq] at hm; subst hm
          obtain ⟨d, rfl, hd⟩ := pos_some hp
          have hdl := lt_of_getL hd
          refine ⟨by show n + d < L'.length; omega, ?_⟩
          show C.φ (src (n + d)) = _
          have : src (n + d) = s := by
            have h1 : ¬ n + d < n := by omega
            simp only [src, h1, if_false, Nat.add_sub_cancel_left]; exact getD_getL hd
          rw [this]
        · cases hm
  have hown : ∀ b, (⟨C.w, φ', L', C.X⟩ : Ctx).own b → C.own b := fun b h => h.imp id (hmine b)
  refine ⟨r', L', φ', hR, ⟨?_, fun b h => wf.lo b (hmine b h), fun b hx h => wf.apart b hx (hmine b h), wf.exlo, wf.g⟩, ?_, hext, conv_sound (C := C) (C' := ⟨C.w, φ', L', C.X⟩) rfl sim hown fuel _ r r' v hren hr hv⟩
  · intro s t ks kt hs ht as at_ heq
    obtain ⟨k1, h1, h2, h3⟩ := hget s ks hs
    obtain ⟨k2, h4, h5, h6⟩ := hget t kt ht
    exact hinj s t (lt_of_getL hs) (lt_of_getL ht) h3 h6 (wf.inj _ _ k1 k2 h1 h4 (by rw [← convB_alive h2]; exact as) (by rw [← convB_alive h5]; exact at_) heq)
  · intro s k hk
    obtain ⟨k0, h1, h2, _⟩ := hget s k hk
    exact convB_ok (C := C) (C' := ⟨C.w, φ', L', C.X⟩) (s := src s) rfl rfl (fun x x' u _ hc hu => conv_sound (C := C) (C' := ⟨C.w, φ', L', C.X⟩) rfl sim hown fuel _ x x' u hren hc hu) h2 (sim _ k0 h1)

/-- What a tree says of a value abides where only what is no cells turns. -/
theorem VR.keep {C C' : Ctx} (hs : C'.w.heap.size = C.w.heap.size) (hφ : C'.φ = C.φ) (hL : C'.L = C.L) (hX : C'.X = C.X) (hc : ∀ (b : Nat) c e fr, C.w.heap[b]? = some (.cells c e fr) → C'.w.heap[b]? = some (.cells c e fr))
    {x : IV} {v : Value} (h : VR C x v) : VR C' x v := by
  have hown : ∀ b, C'.own b ↔ C.own b := fun b => by simp only [Ctx.own, Ctx.mine, hφ, hL, hX]
  have hcell : ∀ b o v, C.w.cell? ⟨b, o, none⟩ = some v → C'.w.cell? ⟨b, o, none⟩ = some v := fun b o v hv => by
    simp only [World.cell?] at hv ⊢
    cases hb : C.w.heap[b]? with
    | none => rw [hb] at hv; cases hv
    | some ob => cases ob with
      | cells c e fr => rw [hb] at hv; rw [hc b c e fr hb]; exact hv
      | _ => rw [hb] at hv; cases hv
  induction h with
  | bool b => exact .bool b
  | int k n => exact .int k n
  | str s => exact .str s
  | raw v h => exact .raw v h
  | und => exact .und
  | ptr s r o hs' => rw [← hφ]; exact .ptr s r o (by rw [hL]; exact hs')
  | sl s off len cap a cap' hs' hl hcc ha =>
    refine .sl s off len cap a cap' (by rw [hL]; exact hs') hl hcc ?_
    rcases ha with h0 | ⟨ha, c, e, fr, hh, hle⟩
    · exact .inl h0
    · exact .inr ⟨by rw [hφ]; exact ha, c, e, fr, by rw [hφ]; exact hc _ _ _ _ hh, by rw [hφ]; exact hle⟩
  | isl rows a cap' sz vals hcap hsz hcl ha hv ih =>
    refine .isl rows a cap' sz vals hcap hsz hcl ?_ ih
    rcases ha with h0 | ⟨b, o, ha, hb, hn, hcc⟩
    · exact .inl h0
    · exact .inr ⟨b, o, ha, by rw [hs]; exact hb, fun h => hn ((hown b).1 h), fun i row hi j x hj => hcell _ _ _ (hcc i row hi j x hj)⟩
  | iptr rows r o b base sz vals hsz hcl hb ho ha hv ih =>
    exact .iptr rows r o b base sz vals hsz hcl (by rw [hs]; exact hb) (fun h => ho ((hown b).1 h)) (fun i row hi j x hj => hcell _ _ _ (ha i row hi j x hj)) ih
  | esl a => exact .esl a
  | nsl => exact .nsl
  | agg cs vs hl hv ih => exact .agg cs vs hl ih
  | tup cs vs hl hv ih => exact .tup cs vs hl ih
  | fn f as bs va vb ha hb hva hvb iha ihb => exact .fn f as bs va vb ha hb iha ihb
  | iface t x v hv ih => exact .iface t x v ih
  | mp s hs' => rw [← hφ]; exact .mp s (by rw [hL]; exact hs')
  | yld s hs' => rw [← hφ]; exact .yld s (by rw [hL]; exact hs')

/-- The marks are taken, one by one. -/
theorem marks_sound {C0 : Ctx} {N : Nat} {fn : Func} {ρ : Rho} {L : List Blk} {tmps : Array Value} {R : Ending → World → Prop} (hfin : ∀ a w, a.tmps = tmps → a.defers = [] → Rel E C0 N ρ L a w → ∃ v, (results fn tmps).run E.P w = .ok v w ∧ R (.returned v) w) :
    ∀ (ds : List Deferred) (w : World), Rel E C0 N ρ L { tmps := tmps, defers := ds } w → LeavesInM Fence.wide 0 E.P fn tmps R ds .returning w
  | [], w, h => hfin _ w rfl rfl h
  | d :: ds, w, h => by
    obtain ⟨hN, φ, wf, sim, hext, hρ, ⟨⟨D, rfl, h2, h3, h4, h5, h6⟩, h7⟩⟩ := h
    refine ⟨(by intro h; cases h), .inl ⟨D, w.putObj D (.deferred none), rfl, run_takeDeferred h5, marks_sound hfin ds _ ?_⟩⟩
    let C : Ctx := ⟨w, φ, L, C0.X⟩
    let C' : Ctx := ⟨w.putObj D (.deferred none), φ, L, C0.X⟩
    have hsz : C'.w.heap.size = C.w.heap.size := World.putObj_size
    have hother : ∀ b, b ≠ D → C'.w.heap[b]? = C.w.heap[b]? := fun b hb => World.putObj_heap_other hb
    have hcc : ∀ (b : Nat) c e fr, C.w.heap[b]? = some (.cells c e fr) → C'.w.heap[b]? = some (.cells c e fr) := fun b c e fr hb => by
      rw [hother b (fun h => by subst h; rw [h5] at hb; cases hb)]; exact hb
    have hvr : ∀ {x v}, VR C x v → VR C' x v := fun h => VR.keep hsz rfl rfl rfl hcc h
    have hext' : Ext C0 C' :=
      ⟨Nat.le_trans hext.size (Nat.le_of_eq hsz.symm), fun b hb hm => (hother b (by omega)).trans (hext.frame b hb hm), hext.sub, hext.slot, hext.len,
        fun b c e fr hb => by obtain ⟨c', e', fr', h8, h9⟩ := hext.cap b c e fr hb; exact ⟨c', e', fr', hcc _ _ _ _ h8, h9⟩, hext.ex, hext.os, hext.tape, hext.output⟩
    refine ⟨hN, φ, ⟨wf.inj, wf.lo, wf.apart, fun b hb => by rw [hsz]; exact wf.exlo b hb, by rw [hsz]; exact wf.g⟩, ?_, hext', fun n => hvr (hρ n), ?_⟩
    · intro s k hk
      have h8 := sim s k hk
      by_cases ha : k.alive = true
      · have hb : (φ s).blk ≠ D := fun h => h4 ⟨s, k, hk, ha, h⟩
        cases k with
        | cells sz rows =>
          obtain ⟨h9, c, e, h10, h11, h12⟩ := h8
          exact ⟨h9, c, e, hcc _ _ _ _ h10, h11, fun i row hi => ⟨(h12 i row hi).1, fun j x hj => let ⟨v, h13, h14⟩ := (h12 i row hi).2 j x hj; ⟨v, h13, hvr h14⟩⟩⟩
        | siter t p => exact ⟨h8.1, (hother _ hb).trans h8.2⟩
        | map es => exact h8
        | lp r l => exact ⟨(hother _ hb).trans h8.1, fun n => hvr (h8.2 n)⟩
        | dead => trivial
      · cases k <;> first | trivial | (exfalso; exact ha rfl)
    · have : ∀ ds : List Deferred, (∀ d' ∈ ds, d'.target ≠ .collected D) → DOk C0.w.heap.size C ds → DOk C0.w.heap.size C' ds := by
        intro ds
        induction ds with
        | nil => intro _ _; trivial
        | cons d ds ih =>
          rintro hne ⟨⟨D', h1, h2', h3', h4', h5', h6'⟩, h7'⟩
          refine ⟨⟨D', h1, h2', by rw [hsz]; exact h3', h4', ?_, h6'⟩, ih (fun d' hd' => hne d' (List.mem_cons_of_mem _ hd')) h7'⟩
          rw [hother D' (fun h => hne d List.mem_cons_self (by rw [h1, h]))]; exact h5'
      exact this ds h6 h7

/-- A FUNCTION's CONTRACT, OUT OF THE RUN OF ITS BODY. -/
theorem xt_of_fun {f : FuncId} {fn : Func} {F : XFn} {args : List IV} {L : List Blk} {R : IV → List Blk → Prop} (hf : E.P.funcs[f]? = some fn) (hF : compFn E.P fn = some F) (hnm : fn.name ≠ "runtime.NumGoroutine")
    (hargs : args.length ≤ fn.ntmps) (h : xfun E F args L R) : XT E f args L R := by
  simp only [compFn, Option.bind_eq_some_iff, Option.map_eq_some_iff] at hF
  obtain ⟨c, hb, x, hx, rs, hrs, rfl⟩ := hF
  refine ⟨⟨fn, hf, hnm, by rw [hb]; rfl⟩, fun w φ X vs wf sim hG hl hvs => ?_⟩
  refine callsIn_wide.1 (callsIn_of_wp_marks (n := 0) hf hb trivial ?_)
  have hrel : Rel E ⟨w, φ, L, X⟩ fn.ntmps (entry args) L { tmps := vs.toArray ++ Array.replicate (fn.ntmps - vs.toArray.size) undef, defers := [] } w := by
    refine ⟨by simp; omega, φ, wf, sim, Ext.refl _, fun n => ?_, trivial⟩
    show VR _ (args.getD n .und) _
    by_cases hn : n < args.length
    · have h1 := hvs n _ (getD_get (d := .und) hn)
      have h2 : (vs.toArray ++ Array.replicate (fn.ntmps - vs.toArray.size) undef).getD n undef = vs.getD n undef := by
        rw [Array.getD_eq_getD_getElem?, Array.getElem?_append_left (by simpa [← hl] using hn), List.getD_eq_getElem?_getD]
        simp
      rw [h2]; exact h1
    · have h1 : args.getD n .und = .und := by rw [List.getD_eq_getElem?_getD, List.getElem?_eq_none (by omega)]; rfl
      have h2 : (vs.toArray ++ Array.replicate (fn.ntmps - vs.toArray.size) undef).getD n undef = undef := by
        rw [Array.getD_eq_getD_getElem?, Array.getElem?_append_right (by simp; omega), Array.getElem?_replicate]
        split <;> rfl
      rw [h1, h2]; exact .und
  refine xrun_sound (F := Fence.wide) (.inl rfl) (C0 := ⟨w, φ, L, X⟩) wf hG (csize c) c (Nat.le_refl _) x hx (.inl rfl) (entry args) L _ _ _ w h hrel ?_
  rintro e ρ L' a' w' ⟨he, hres⟩ hr'
  have hfin : LeavesInM Fence.wide 0 E.P fn a'.tmps (fun e w'' => ∃ r L'' φ'' v', R r L'' ∧ e = .returned v' ∧ Wf E.g0 ⟨w'', φ'', L'', X⟩ ∧ Sim ⟨w'', φ'', L'', X⟩ ∧ Ext ⟨w, φ, L, X⟩ ⟨w'', φ'', L'', X⟩ ∧ VR ⟨w'', φ'', L'', X⟩ r v') a'.defers .returning w' := by
    refine marks_sound (E := E) (C0 := ⟨w, φ, L, X⟩) (N := fn.ntmps) (ρ := ρ) (L := L') (fun a w'' hat had hr => ?_) a'.defers w' hr'
    obtain ⟨hN, φ', wf', sim', ext', hρ', _⟩ := hr
    rw [hat] at hρ'
    obtain ⟨v, r, h1, h2, h3⟩ := results_sound (E := E) (C := ⟨w'', φ', L', X⟩) sim' (rel_G (C0 := ⟨w, φ, L, X⟩) wf hG ext') hρ' hrs hres
    obtain ⟨r', L'', φ'', h4, h5, h6, h7, h8⟩ := leave_sound (C0 := ⟨w, φ, L, X⟩) (C := ⟨w'', φ', L', X⟩) wf' sim' ext' h2 h3
    exact ⟨v, h1, r', L'', φ'', v, h4, rfl, h5, h6, h7, h8⟩
  rcases he with rfl | rfl
  · exact hfin
  · exact hfin

end
end Go.X
