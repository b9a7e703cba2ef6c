/- The calculus X, part 16: rules for proofs: weakening, loops, calls. -/
import Derived.Test.YtnejaochjehhgaaDoorXFun
set_option linter.unusedVariables false
set_option linter.unusedSimpArgs false
set_option linter.unusedSectionVars false
namespace Go.X
open Go
section
variable {E : Env}

theorem xcall_mono {f : FuncId} {args : List IV} {L : List Blk} {K K' : IV → List Blk → Prop} (hk : ∀ v L', K v L' → K' v L') (h : xcall E f args L K) : xcall E f args L K' := by
  rcases h with ⟨b, args', h1, h2⟩ | ⟨r, h1, h2⟩
  case inr => exact .inr ⟨r, h1, hk _ _ h2⟩
  exact .inl ⟨b, args', h1, h2.mono fun r L1 ⟨h3, r', L1', h4, h5, h6⟩ => ⟨h3, r', L1', h4, h5, hk _ _ h6⟩⟩

theorem xbin_mono {op : BinOp} {x y : IV} {K K' : IV → Prop} (hk : ∀ v, K v → K' v) (h : xbin op x y K) : xbin op x y K' := by
  unfold xbin at *
  split at h
  all_goals first | exact ⟨h.1, hk _ h.2⟩ | exact ⟨h.1, h.2.1, hk _ h.2.2⟩ | exact hk _ h | exact h.elim
theorem xun_mono {op : UnOp} {x : IV} {K K' : IV → Prop} (hk : ∀ v, K v → K' v) (h : xun op x K) : xun op x K' := by
  unfold xun at *
  split at h
  all_goals first | exact hk _ h | exact h.elim
theorem bnd_mono {x : Option IV} {d : Nat} {K K' : Nat → Prop} (hk : ∀ v, K v → K' v) (h : bnd x d K) : bnd x d K' := by
  unfold bnd at *
  split at h
  all_goals first | exact hk _ h | exact ⟨h.1, hk _ h.2⟩ | exact h.elim

theorem xappend_mono {sz by_ : Nat} {s x : IV} {L : List Blk} {K K' : IV → List Blk → Prop} (hk : ∀ v L', K v L' → K' v L') (h : xappend sz by_ s x L K) : xappend sz by_ s x L K' := by
  unfold xappend at *
  split
  · simp_all
  · rename_i rs hrs
    rw [hrs] at h
    refine ⟨h.1, ?_⟩
    have h2 := h.2
    split
    · exact ⟨fun h => hk _ _ (h2.1 h), fun h => ⟨(h2.2 h).1, hk _ _ (h2.2 h).2⟩⟩
    · exact ⟨fun h => hk _ _ (h2.1 h), fun h => ⟨(h2.2 h).1, hk _ _ (h2.2 h).2⟩⟩
    · rename_i t off len cap
      simp only at h2
      split
      · rename_i sz' rows hL
        simp only [hL] at h2
        obtain ⟨h3, h4, h5⟩ := h2
        refine ⟨h3, h4, ?_⟩
        split
        · rename_i hle; rw [if_pos hle] at h5; exact hk _ _ h5
        · rename_i hle; rw [if_neg hle] at h5; exact ⟨h5.1, hk _ _ h5.2⟩
      · rename_i hL
        split at h2
        · rename_i sz' rows hL'; exact absurd hL' (hL _ _)
        · exact h2
    · split at h2
      · rename_i h3 _ _; exact absurd rfl h3
      · rename_i h3 _; exact absurd rfl (by assumption)
      · rename_i t off len cap h3 h4 h5; exact absurd rfl (h5 _ _ _ _)
      · exact h2

theorem xop_mono {o : XO} {e : Opd → IV} {L : List Blk} {K K' : IV → List Blk → Prop} (hk : ∀ v L', K v L' → K' v L') (h : xop E o e L K) : xop E o e L K' := by
  cases o with
  | bin op x y => exact xbin_mono (fun v hv => hk v L hv) h
  | un op x => exact xun_mono (fun v hv => hk v L hv) h
  | append sz by_ s x => exact xappend_mono hk h
  | fld off n agg x =>
    simp only [xop] at *
    cases hx : e x <;> simp only [hx] at h ⊢ <;> first | exact h.elim | skip
    refine ⟨h.1, ?_⟩
    have h2 := h.2
    split
    · rename_i hg; rw [if_pos hg] at h2; exact hk _ _ h2
    · rename_i hg; rw [if_neg hg] at h2; exact ⟨h2.1, hk _ _ h2.2⟩
  | store n a x =>
    simp only [xop] at *
    cases hx : e a <;> simp only [hx] at h ⊢ <;> first | exact h.elim | skip
    split at h
    · exact ⟨h.1, h.2.1, h.2.2.1, h.2.2.2.1, hk _ _ h.2.2.2.2⟩
    · exact h.elim
  | slice m x lo hi =>
    simp only [xop] at *
    cases hx : e x <;> simp only [hx] at h ⊢ <;>
      first
        | exact h.elim
        | exact ⟨h.1, bnd_mono (fun l => bnd_mono fun _ h => ⟨h.1, h.2.1, hk _ _ h.2.2⟩) h.2⟩
        | exact bnd_mono (fun l => bnd_mono fun _ h => ⟨h.1, h.2.1, hk _ _ h.2.2⟩) h
  | sliceS x lo hi =>
    simp only [xop] at *
    cases hx : e x <;> simp only [hx] at h ⊢ <;>
      first
        | exact h.elim
        | exact bnd_mono (fun l => bnd_mono fun _ h => ⟨h.1, h.2.1, hk _ _ h.2.2⟩) h
  | call f as =>
    simp only [xop] at *
    split at h
    · exact xcall_mono hk h
    · exact E.hylm _ _ _ _ _ hk h
    · exact h.elim
  | pcall f as =>
    simp only [xop] at *
    split at h
    · rename_i hf
      obtain ⟨args', r, h1, h2, h3, h4⟩ := h
      exact ⟨args', r, h1, h2, h3, hk _ _ h4⟩
    · exact h.elim
  | isNil k neg x =>
    simp only [xop] at *
    unfold xnil at *
    split at h <;> first
      | exact hk _ _ h
      | exact ⟨hk _ _ h.1, hk _ _ h.2⟩
      | exact ⟨hk _ _ h.1, fun hr => hk _ _ (h.2 hr)⟩
      | exact h.elim
  | nxt t =>
    simp only [xop] at *
    split at h
    · split at h
      · split at h
        · rename_i h1 _ _ _ h2 h3; simp only [h1, h2, h3, if_true]; exact hk _ _ h
        · rename_i h1 _ _ _ h2 h3; simp only [h1, h2, h3, if_false]; exact hk _ _ h
      · exact h.elim
    · exact h.elim
  | _ =>
    simp only [xop] at *
    first
      | exact hk _ _ h
      | (split at h <;>
          first
            | exact hk _ _ h
            | exact ⟨h.1, hk _ _ h.2⟩
            | exact ⟨h.1, h.2.1, hk _ _ h.2.2⟩
            | exact ⟨h.1, h.2.1, h.2.2.1, hk _ _ h.2.2.2⟩
            | exact ⟨h.1, h.2.1, h.2.2.1, h.2.2.2.1, hk _ _ h.2.2.2.2⟩
            | exact h.elim)
      | (refine ⟨h.1, ?_⟩
         have h2 := h.2
         clear h
         split at h2 <;> first | exact hk _ _ h2 | exact h2.elim)

theorem xops_mono {K K' : Rho → List Blk → Prop} (hk : ∀ ρ L, K ρ L → K' ρ L) : ∀ {l : List XOper} {ρ : Rho} {L : List Blk}, xops E l ρ L K → xops E l ρ L K'
  | [], ρ, L, h => hk _ _ h
  | o :: r, ρ, L, h => by
    simp only [xops] at *
    split
    · rename_i hg; rw [hg] at h; exact xop_mono (fun v L' => xops_mono hk) h
    · rename_i t want hg
      rw [hg] at h
      simp only at h
      split
      · rename_i b hb; rw [hb] at h
        exact ⟨fun hw => xop_mono (fun v L' => xops_mono hk) (h.1 hw), fun hw => xops_mono hk (h.2 hw)⟩
      · rename_i hb; rw [hb] at h; exact xops_mono hk h
      · split at h <;> simp_all

/-- A run that is weakened. -/
def MonoR (f : Run) : Prop := ∀ (ρ : Rho) (L : List Blk) (K K' : XE → Rho → List Blk → Prop), (∀ e ρ L, K e ρ L → K' e ρ L) → f ρ L K → f ρ L K'

theorem xloop_mono {f : Run} (hf : MonoR f) {K K' : XE → Rho → List Blk → Prop} (hk : ∀ e ρ L, K e ρ L → K' e ρ L) :
    ∀ {n : Nat} {ρ : Rho} {L : List Blk}, xloop f n ρ L K → xloop f n ρ L K'
  | 0, _, _, h => h.elim
  | n + 1, ρ, L, h => hf _ _ _ _ (fun e ρ L h => by
      cases e with
      | normal => exact xloop_mono hf hk h
      | exit => exact hk _ _ _ h
      | goto => exact hk _ _ _ h
      | ret => exact hk _ _ _ h) h

theorem xgoto_mono {g : Nat → Option Run} (hg : ∀ l f, g l = some f → MonoR f) {K K' : XE → Rho → List Blk → Prop} (hk : ∀ e ρ L, K e ρ L → K' e ρ L) :
    ∀ {n : Nat} {e : XE} {ρ : Rho} {L : List Blk}, xgoto g n e ρ L K → xgoto g n e ρ L K'
  | n, .normal, _, _, h => by cases n <;> exact hk _ _ _ h
  | n, .ret, _, _, h => by cases n <;> exact hk _ _ _ h
  | n, .exit id, _, _, h => by cases n <;> exact hk _ _ _ h
  | 0, .goto l, _, _, h => by
    unfold xgoto at *
    split at h
    · exact hk _ _ _ h
    · exact h.elim
  | n + 1, .goto l, _, _, h => by
    unfold xgoto at *
    split at h
    · exact hk _ _ _ h
    · rename_i f hl
      exact hg l f hl _ _ _ _ (fun e ρ L h => xgoto_mono hg hk h) h

mutual
theorem xrun_mono : ∀ (c : XC) {ρ : Rho} {L : List Blk} {K K' : XE → Rho → List Blk → Prop}, (∀ e ρ L, K e ρ L → K' e ρ L) → xrun E c ρ L K → xrun E c ρ L K'
  | .skip, _, _, _, _, hk, h => hk _ _ _ h
  | .ops l, _, _, _, _, hk, h => xops_mono (fun ρ L => hk _ ρ L) h
  | .draw l, _, _, _, _, hk, h => ⟨h.1, xops_mono (fun ρ L => hk _ ρ L) h.2⟩
  | .seq a b, _, _, _, _, hk, h => by
    simp only [xrun] at *
    exact xrun_mono a (fun e ρ L h => by cases e <;> first | exact xrun_mono b hk h | exact hk _ _ _ h) h
  | .cond c t e, _, _, _, _, hk, h => by
    simp only [xrun] at *
    split
    · rename_i heq; rw [heq] at h; exact ⟨fun hb => xrun_mono t hk (h.1 hb), fun hb => xrun_mono e hk (h.2 hb)⟩
    · split at h <;> simp_all
  | .block id b, _, _, _, _, hk, h => by
    simp only [xrun] at *
    refine xrun_mono b (fun e ρ L h => ?_) h
    cases e with
    | exit i => simp only [XE.inBlock] at *; split <;> simp_all
    | normal => exact hk _ _ _ h
    | goto l => exact hk _ _ _ h
    | ret => exact hk _ _ _ h
  | .loop b, _, _, _, _, hk, h => by
    simp only [xrun] at *
    obtain ⟨n, h⟩ := h
    exact ⟨n, xloop_mono (f := xrun E b) (fun _ _ _ _ hk h => xrun_mono b hk h) hk h⟩
  | .exit id, _, _, _, _, hk, h => hk _ _ _ h
  | .scope b ls, _, _, _, _, hk, h => by
    simp only [xrun] at *
    obtain ⟨n, h⟩ := h
    exact ⟨n, xrun_mono b (fun e ρ L h => xgoto_mono (fun _ _ hl => xlabs_mono ls hl) hk h) h⟩
  | .drawE l, _, _, _, _, hk, h => xops_mono (fun ρ L => hk _ ρ L) h
  | .bad, _, _, _, _, _, h => h.elim
  | .rngF g N ps asg body, ρ, L, _, _, hk, h => by
    simp only [xrun] at *
    split at h
    · rename_i heq
      refine fun r0 h1 h2 h3 => (h r0 h1 h2 h3).mono fun r L' hr => ?_
      obtain ⟨r1, h4, h5, h6⟩ := hr
      refine ⟨r1, h4, h5, ?_⟩
      split at h6 <;> first
        | exact hk _ _ _ h6
        | exact h6.elim
        | (rename_i hp; rw [hp]; exact hk _ _ _ h6)
    · exact h.elim
  | .label _, _, _, _, _, hk, h => hk _ _ _ h
  | .goto l, _, _, _, _, hk, h => hk _ _ _ h
  | .ret, _, _, _, _, hk, h => hk _ _ _ h
theorem xlabs_mono : ∀ (ls : XLabs) {l : Nat} {f : Run}, xlabs E ls l = some f → MonoR f
  | .nil, _, _, h => by cases h
  | .cons l' c r, l, f, h => by
    simp only [xlabs] at h
    split at h
    · simp only [Option.some.injEq] at h; subst h; exact fun _ _ _ _ hk h => xrun_mono c hk h
    · exact xlabs_mono r h
end

/-- A cut. -/
theorem xrun_cut {c : XC} {ρ : Rho} {L : List Blk} {K : XE → Rho → List Blk → Prop} (M : XE → Rho → List Blk → Prop) (h1 : xrun E c ρ L M) (h2 : ∀ e ρ L, M e ρ L → K e ρ L) : xrun E c ρ L K :=
  xrun_mono c h2 h1

/-- Behind the piece: where it ends normally. -/
def Norm (M : Rho → List Blk → Prop) : XE → Rho → List Blk → Prop
  | .normal, ρ, L => M ρ L
  | _, _, _ => False

theorem xseq_cut {a b : XC} {ρ : Rho} {L : List Blk} {K : XE → Rho → List Blk → Prop} (M : Rho → List Blk → Prop) (h1 : xrun E a ρ L (Norm M)) (h2 : ∀ ρ L, M ρ L → xrun E b ρ L K) : xrun E (.seq a b) ρ L K := by
  refine xrun_mono a (fun e ρ L h => ?_) h1
  cases e with
  | normal => exact h2 ρ L h
  | exit => exact h.elim
  | goto => exact h.elim
  | ret => exact h.elim

/-- A loop: 'I n': what holds at a round's head, n being more than what is left. -/
theorem xloop_inv {b : XC} {ρ : Rho} {L : List Blk} {K : XE → Rho → List Blk → Prop} (I : Nat → Rho → List Blk → Prop) {n : Nat} (h0 : I n ρ L)
    (hs : ∀ n ρ L, I n ρ L → xrun E b ρ L fun e ρ' L' => match e with
      | .normal => ∃ m, m < n ∧ I m ρ' L'
      | e => K e ρ' L') : xrun E (.loop b) ρ L K := by
  simp only [xrun]
  have key : ∀ n m ρ L, m ≤ n → I m ρ L → xloop (xrun E b) (n + 1) ρ L K := by
    intro n
    induction n with
    | zero =>
      intro m ρ L hm h
      refine xrun_mono b (fun e ρ' L' h' => ?_) (hs m ρ L h)
      cases e with
      | normal => obtain ⟨k, hk, _⟩ := h'; omega
      | exit => exact h'
      | goto => exact h'
      | ret => exact h'
    | succ n ih =>
      intro m ρ L hm h
      refine xrun_mono b (fun e ρ' L' h' => ?_) (hs m ρ L h)
      cases e with
      | normal => obtain ⟨k, hk, h2⟩ := h'; exact ih k ρ' L' (by omega) h2
      | exit => exact h'
      | goto => exact h'
      | ret => exact h'
  exact ⟨n + 1, key n n ρ L (Nat.le_refl _) h0⟩

/-- .. with arguments that do: they are lent. -/
theorem xcall_lend {f : FuncId} {args args' : List IV} {L : List Blk} {K : IV → List Blk → Prop} {r : IV} (hc : mapO (conv L fuel renFreeze) args = some args') (h : XPure E f args' r) (ht : noTree r = true) (hr : conv [] fuel (renShift L.length) r = some r)
    (hk : K r L) : xcall E f args L K :=
  .inl ⟨true, args', hc, h.mono fun r' L1 ⟨h1, h2⟩ => by
    subst h1; subst h2
    exact ⟨fun _ => ⟨ht, rfl⟩, r', [], hr, rfl, by simpa using hk⟩⟩

/-- .. of a function that the model answers by itself. -/
theorem xcall_ext {f : FuncId} {args : List IV} {L : List Blk} {K : IV → List Blk → Prop} {r : IV} (h : XExt E f args r) (hk : K r L) : xcall E f args L K := .inr ⟨r, h, hk⟩

theorem xpure_of_fun {f : FuncId} {fn : Func} {F : XFn} {args : List IV} {r : IV} (hf : E.P.funcs[f]? = some fn) (hF : compFn E.P fn = some F) (hnm : fn.name ≠ "runtime.NumGoroutine")
    (hargs : args.length ≤ fn.ntmps) (h : xrun E F.body (entry args) [] fun e ρ L' => (e = .ret ∨ e = .normal) ∧ xresults E F.results ρ L' fun r' => conv L' fuel renFreeze r' = some r) : XPure E f args r := by
  refine xt_of_fun hf hF hnm hargs (xrun_mono _ (fun e ρ L' ⟨h1, h2⟩ => ⟨h1, ?_⟩) h)
  have hren : renLeave 0 [] = renFreeze := by funext s; simp [renLeave, pos, renFreeze]
  have key : ∀ (rs : List XRes) (K K' : List IV → Prop), (∀ v, K v → K' v) → xress E ρ L' rs K → xress E ρ L' rs K' := by
    intro rs
    induction rs with
    | nil => intro K K' hk h; exact hk _ h
    | cons x l ih =>
      intro K K' hk h
      simp only [xress] at *
      have h1 : ∀ (Q Q' : IV → Prop), (∀ v, Q v → Q' v) → xres1 E ρ L' x Q → xres1 E ρ L' x Q' := by
        intro Q Q' hq hx
        cases x with
        | tmp t => exact hq _ hx
        | cell1 a => exact xop_mono (E := E) (fun v _ hv => hq v hv) (by simpa only [xres1] using hx)
        | cellN a n => exact xop_mono (E := E) (fun v _ hv => hq v hv) (by simpa only [xres1] using hx)
      exact h1 _ _ (fun v hv => ih _ _ (fun vs hvs => hk _ hvs) hv) h
  refine key _ _ _ (fun vs hvs => ?_) h2
  exact ⟨[], .nil, by simp, r, [], by simpa only [List.length_nil, hren] using hvs, rfl, rfl, rfl⟩

end
end Go.X
