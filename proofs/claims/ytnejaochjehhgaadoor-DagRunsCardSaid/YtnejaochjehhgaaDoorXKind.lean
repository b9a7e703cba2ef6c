/- The calculus X, part 13b: which operations may change places. -/
import Derived.Test.YtnejaochjehhgaaDoorXOps7
set_option linter.unusedVariables false
set_option linter.unusedSimpArgs false
set_option linter.unusedSectionVars false
namespace Go.X
open Go
section
variable {E : Env} {e : Opd → IV} {L : List Blk} {K : IV → List Blk → Prop}

theorem ev_loc {ρ ρ' : Rho} (x : Opd) (h : ∀ n ∈ x.us, ρ n = ρ' n) : x.ev ρ = x.ev ρ' := by
  cases x with
  | t n => exact h n (by simp [Opd.us])
  | _ => rfl
theorem ev_locL {ρ ρ' : Rho} : ∀ (l : List Opd), (∀ n ∈ usL l, ρ n = ρ' n) → l.map (Opd.ev ρ) = l.map (Opd.ev ρ')
  | [], _ => rfl
  | x :: r, h => by
    simp only [List.map_cons]
    rw [ev_loc x (fun n hn => h n (by simp [usL, hn])), ev_locL r (fun n hn => h n (by simp only [usL, List.flatMap_cons, List.mem_append]; exact .inr hn))]
theorem ev_locO {ρ ρ' : Rho} (x : Option Opd) (h : ∀ n ∈ usO x, ρ n = ρ' n) : x.map (Opd.ev ρ) = x.map (Opd.ev ρ') := by
  cases x with
  | none => rfl
  | some x => simp only [Option.map_some]; rw [ev_loc x h]

/-- What an operation does hangs on the slots that it reads. -/
theorem xop_loc {o : XO} {ρ ρ' : Rho} (h : ∀ n ∈ o.us, ρ n = ρ' n) : xop E o (Opd.ev ρ) L K = xop E o (Opd.ev ρ') L K := by
  have h1 : ∀ {x : Opd}, (∀ n, n ∈ x.us → n ∈ o.us) → x.ev ρ = x.ev ρ' := fun {x} hx => ev_loc x fun n hn => h n (hx n hn)
  have hO : ∀ {x : Option Opd}, (∀ n, n ∈ usO x → n ∈ o.us) → x.map (Opd.ev ρ) = x.map (Opd.ev ρ') := fun {x} hx => ev_locO x fun n hn => h n (hx n hn)
  have hL : ∀ {l : List Opd}, (∀ n, n ∈ usL l → n ∈ o.us) → l.map (Opd.ev ρ) = l.map (Opd.ev ρ') := fun {l} hx => ev_locL l fun n hn => h n (hx n hn)
  cases o with
  | mov x | box x | load1 x | loadN _ x | nilck x | un _ x | cvInt _ x | cvIntStr x | cvStr x | fldA _ x | fld _ _ _ x | slice0 x | len x | lenS x | isNil _ _ x | rng x | nxt x | ext x _ =>
    simp only [xop, h1 (x := x) (fun n hn => hn)]
  | pick c x y =>
    simp only [xop]
    rw [h1 (x := c) (fun n hn => by simp [XO.us, hn]), h1 (x := x) (fun n hn => by simp [XO.us, hn]), h1 (x := y) (fun n hn => by simp [XO.us, hn])]
  | alloc z => rfl
  | build z ps =>
    simp only [xop]
    have : (ps.map fun p => (p.1, p.2.1, p.2.2.ev ρ)) = ps.map fun p => (p.1, p.2.1, p.2.2.ev ρ') :=
      List.map_congr_left fun p hp => by rw [h1 (x := p.2.2) (fun n hn => by simp only [XO.us, List.mem_flatMap]; exact ⟨p, hp, hn⟩)]
    rw [this]
  | bslice sz z len ps =>
    simp only [xop]
    have : (ps.map fun p => (p.1, p.2.ev ρ)) = ps.map fun p => (p.1, p.2.ev ρ') :=
      List.map_congr_left fun p hp => by rw [h1 (x := p.2) (fun n hn => by simp only [XO.us, List.mem_flatMap]; exact ⟨p, hp, hn⟩)]
    rw [this]
  | store _ x y | bin _ x y | eqB _ x y | idxS _ x y | idxA _ _ x y | idx x y | mkslice _ _ x y | append _ _ x y | max2 x y | min2 x y =>
    simp only [xop]
    rw [h1 (x := x) (fun n hn => by simp [XO.us, hn]), h1 (x := y) (fun n hn => by simp [XO.us, hn])]
  | slice _ x lo hi | sliceS x lo hi =>
    simp only [xop]
    rw [h1 (x := x) (fun n hn => by simp [XO.us, hn]), hO (x := lo) (fun n hn => by simp [XO.us, hn]), hO (x := hi) (fun n hn => by simp [XO.us, hn])]
  | mkfn f a b =>
    simp only [xop]
    rw [hL (l := a) (fun n hn => by simp [XO.us, hn]), hL (l := b) (fun n hn => by simp [XO.us, hn])]
  | call f as | pcall f as =>
    simp only [xop]
    rw [h1 (x := f) (fun n hn => by simp [XO.us, hn]), hL (l := as) (fun n hn => by simp [XO.us, hn])]

theorem xbin_det {op : BinOp} {x y : IV} {Q : IV → Prop} (h : xbin op x y Q) : ∃ r, Q r ∧ ∀ Q' : IV → Prop, Q' r → xbin op x y Q' := by
  unfold xbin at h
  split at h <;> first
    | exact ⟨_, h, fun _ hk => hk⟩
    | exact ⟨_, h.2, fun _ hk => ⟨h.1, hk⟩⟩
    | exact ⟨_, h.2.2, fun _ hk => ⟨h.1, h.2.1, hk⟩⟩
    | exact h.elim
theorem xun_det {op : UnOp} {x : IV} {Q : IV → Prop} (h : xun op x Q) : ∃ r, Q r ∧ ∀ Q' : IV → Prop, Q' r → xun op x Q' := by
  unfold xun at h
  split at h <;> first
    | exact ⟨_, h, fun _ hk => hk⟩
    | exact h.elim
theorem bnd_det {x : Option IV} {d : Nat} {Q : Nat → Prop} (h : bnd x d Q) : ∃ n, Q n ∧ ∀ Q' : Nat → Prop, Q' n → bnd x d Q' := by
  unfold bnd at h
  split at h <;> first
    | exact ⟨_, h, fun _ hk => hk⟩
    | exact ⟨_, h.2, fun _ hk => ⟨h.1, hk⟩⟩
    | exact h.elim

theorem xop_k0 {o : XO} (hk : o.kd = 0) (h : xop E o e L K) : ∃ r, K r L ∧ ∀ (L' : List Blk) (K' : IV → List Blk → Prop), K' r L' → xop E o e L' K' := by
  cases o <;> simp only [XO.kd] at hk <;> try (exact absurd hk (by decide))
  case mov x => exact ⟨_, h, fun _ _ hk => hk⟩
  case mkfn f a b => exact ⟨_, h, fun _ _ hk => hk⟩
  case bin op x y =>
    simp only [xop] at h ⊢
    obtain ⟨r, h1, h2⟩ := xbin_det h
    exact ⟨r, h1, fun L' K' hk => h2 (fun v => K' v L') hk⟩
  case un op x =>
    simp only [xop] at h ⊢
    obtain ⟨r, h1, h2⟩ := xun_det h
    exact ⟨r, h1, fun L' K' hk => h2 (fun v => K' v L') hk⟩
  case sliceS x lo hi =>
    simp only [xop] at h ⊢
    split at h
    · rename_i s hs
      obtain ⟨l, h, h1⟩ := bnd_det h
      obtain ⟨hh, h, h2⟩ := bnd_det h
      exact ⟨_, h.2.2, fun L' K' hk => h1 _ (h2 _ ⟨h.1, h.2.1, hk⟩)⟩
    · exact h.elim
  case fld off n agg x =>
    simp only [xop] at h ⊢
    split at h
    · obtain ⟨h1, h2⟩ := h
      cases agg
      · simp only [Bool.false_eq_true, if_false] at h2 ⊢
        exact ⟨_, h2.2, fun _ _ hk => ⟨h1, h2.1, hk⟩⟩
      · simp only [if_true] at h2 ⊢
        exact ⟨_, h2, fun _ _ hk => ⟨h1, hk⟩⟩
    · exact h.elim
  all_goals
    simp only [xop] at h ⊢
    (try split at h) <;> first
      | exact h.elim
      | exact ⟨_, h, fun _ _ hk => hk⟩
      | exact ⟨_, h.2, fun _ _ hk => ⟨h.1, hk⟩⟩
      | exact ⟨_, h.2.2, fun _ _ hk => ⟨h.1, h.2.1, hk⟩⟩
      | skip

theorem get_app {b : Blk} {s : Nat} {k : Blk} (h : L[s]? = some k) : (L ++ [b])[s]? = some k := by
  rw [List.getElem?_append_left (lt_of_get h)]; exact h
theorem rowsAt_app {gl : Nat → Option (List IV)} {x : IV} {b : Blk} {y : List (List IV) × Nat × Nat} (h : rowsAt gl L x = some y) : rowsAt gl (L ++ [b]) x = some y := by
  unfold rowsAt at h ⊢
  split at h
  · exact h
  · split at h
    · rename_i hs; simp only [get_app hs]; exact h
    · cases h
  · exact h
  · cases h
theorem szOf_app {s m : Nat} {b : Blk} (h : szOf L s = some m) : szOf (L ++ [b]) s = some m := by
  unfold szOf at h ⊢
  split at h
  · rename_i hs; simp only [get_app hs]; exact h
  · cases h

/-- With nothing of ours named, what is handed on is the same, whatever lies in our blocks. -/
theorem conv_none : ∀ (n : Nat) (x : IV) (L L' : List Blk), conv L n renNone x = conv L' n renNone x
  | 0, _, _, _ => rfl
  | n + 1, x, L, L' => by
    have h0 : mapO (conv L n renNone) = mapO (conv L' n renNone) := by
      congr 1; funext y; exact conv_none n y L L'
    cases x <;> simp only [conv, renNone, h0]
    case iface t v => rw [conv_none n v L L']

theorem xop_k1 {o : XO} (hk : o.kd = 1) (h : xop E o e L K) : ∃ r, K r L ∧ (∀ K' : IV → List Blk → Prop, K' r L → xop E o e L K') ∧ ∀ (b : Blk) (K' : IV → List Blk → Prop), K' r (L ++ [b]) → xop E o e (L ++ [b]) K' := by
  cases o <;> simp only [XO.kd] at hk <;> try (exact absurd hk (by decide))
  case load1 x =>
    simp only [xop] at h ⊢
    split at h
    · rename_i rows r off hr
      refine ⟨_, h.2.2, fun K' hk => ?_, fun b K' hk => ?_⟩
      · exact ⟨h.1, h.2.1, hk⟩
      · simp only [rowsAt_app hr]; exact ⟨h.1, h.2.1, hk⟩
    · exact h.elim
  case loadN n x =>
    simp only [xop] at h ⊢
    split at h
    · rename_i rows r off hr
      refine ⟨_, h.2.2, fun K' hk => ?_, fun b K' hk => ?_⟩
      · exact ⟨h.1, h.2.1, hk⟩
      · simp only [rowsAt_app hr]; exact ⟨h.1, h.2.1, hk⟩
    · exact h.elim
  case idxS m x i =>
    simp only [xop] at h ⊢
    split at h
    · exact ⟨_, h.2.2.2, fun K' hk => ⟨h.1, h.2.1, h.2.2.1, hk⟩, fun b K' hk => ⟨h.1, h.2.1, h.2.2.1, hk⟩⟩
    · exact ⟨_, h.2.2.2, fun K' hk => ⟨h.1, h.2.1, h.2.2.1, hk⟩, fun b K' hk => ⟨szOf_app h.1, h.2.1, h.2.2.1, hk⟩⟩
    · exact h.elim
  case slice m x lo hi =>
    simp only [xop] at h ⊢
    split at h
    · obtain ⟨h0, h⟩ := h
      obtain ⟨l, h, h1⟩ := bnd_det h
      obtain ⟨hh, h, h2⟩ := bnd_det h
      exact ⟨_, h.2.2, fun K' hk => ⟨h0, h1 _ (h2 _ ⟨h.1, h.2.1, hk⟩)⟩, fun b K' hk => ⟨h0, h1 _ (h2 _ ⟨h.1, h.2.1, hk⟩)⟩⟩
    · obtain ⟨h0, h⟩ := h
      obtain ⟨l, h, h1⟩ := bnd_det h
      obtain ⟨hh, h, h2⟩ := bnd_det h
      exact ⟨_, h.2.2, fun K' hk => ⟨h0, h1 _ (h2 _ ⟨h.1, h.2.1, hk⟩)⟩, fun b K' hk => ⟨szOf_app h0, h1 _ (h2 _ ⟨h.1, h.2.1, hk⟩)⟩⟩
    · obtain ⟨l, h, h1⟩ := bnd_det h
      obtain ⟨hh, h, h2⟩ := bnd_det h
      exact ⟨_, h.2.2, fun K' hk => h1 _ (h2 _ ⟨h.1, h.2.1, hk⟩), fun b K' hk => h1 _ (h2 _ ⟨h.1, h.2.1, hk⟩)⟩
    · obtain ⟨l, h, h1⟩ := bnd_det h
      obtain ⟨hh, h, h2⟩ := bnd_det h
      exact ⟨_, h.2.2, fun K' hk => h1 _ (h2 _ ⟨h.1, h.2.1, hk⟩), fun b K' hk => h1 _ (h2 _ ⟨h.1, h.2.1, hk⟩)⟩
    · exact h.elim
  case pcall f as =>
    simp only [xop] at h ⊢
    split at h
    · obtain ⟨args', r, h1, h2, h3, h4⟩ := h
      refine ⟨r, h4, fun K' hk => ⟨args', r, h1, h2, h3, hk⟩, fun b K' hk => ⟨args', r, ?_, h2, h3, hk⟩⟩
      have : conv (L ++ [b]) fuel renNone = conv L fuel renNone := by funext y; exact conv_none fuel y _ _
      rw [this]; exact h1
    · exact h.elim

theorem xop_k2 {o : XO} (hk : o.kd = 2) (h : xop E o e L K) : ∃ r b, K r (L ++ [b]) ∧ ∀ K' : IV → List Blk → Prop, K' r (L ++ [b]) → xop E o e L K' := by
  cases o <;> simp only [XO.kd] at hk <;> try (exact absurd hk (by decide))
  case alloc z => exact ⟨_, _, h, fun K' hk => hk⟩
  case box x => exact ⟨_, _, h, fun K' hk => hk⟩

theorem xop_k3 {o : XO} (hk : o.kd = 3) (h : xop E o e L K) : ∃ r L', K r L' ∧ ∀ K' : IV → List Blk → Prop, K' r L' → xop E o e L K' := by
  cases o <;> simp only [XO.kd] at hk <;> try (exact absurd hk (by decide))
  case store n x y =>
    simp only [xop] at h ⊢
    split at h
    · split at h
      · exact ⟨_, _, h.2.2.2.2, fun K' hk => ⟨h.1, h.2.1, h.2.2.1, h.2.2.2.1, hk⟩⟩
      · exact h.elim
    · exact h.elim

/-- One answer. -/
theorem xop_det {o : XO} (hk : o.kd < 4) (h : xop E o e L K) : ∃ r L', K r L' ∧ ∀ K' : IV → List Blk → Prop, K' r L' → xop E o e L K' := by
  have h4 : o.kd = 0 ∨ o.kd = 1 ∨ o.kd = 2 ∨ o.kd = 3 := by omega
  rcases h4 with h0 | h0 | h0 | h0
  · obtain ⟨r, h1, h2⟩ := xop_k0 h0 h; exact ⟨r, L, h1, fun K' hk => h2 L K' hk⟩
  · obtain ⟨r, h1, h2, _⟩ := xop_k1 h0 h; exact ⟨r, L, h1, h2⟩
  · obtain ⟨r, b, h1, h2⟩ := xop_k2 h0 h; exact ⟨r, _, h1, h2⟩
  · exact xop_k3 h0 h
theorem XT.mono {f : FuncId} {args : List IV} {L : List Blk} {R R' : IV → List Blk → Prop} (h : XT E f args L R) (hr : ∀ r L', R r L' → R' r L') : XT E f args L R' :=
  ⟨h.1, fun w φ X vs wf sim hG hl hv => (h.2 w φ X vs wf sim hG hl hv).mono fun e w' ⟨r, L', φ', v, h1, h2⟩ => ⟨r, L', φ', v, hr _ _ h1, h2⟩⟩

/-- A call of a function that only computes, with arguments that name no block of ours. -/
theorem xcall_pure {f : FuncId} {args args' : List IV} {L : List Blk} {K : IV → List Blk → Prop} {r : IV} (hc : mapO (conv L fuel renNone) args = some args') (h : XPure E f args' r) (hr : conv [] fuel (renShift L.length) r = some r)
    (hk : K r L) : xcall E f args L K :=
  .inl ⟨false, args', hc, h.mono fun r' L1 ⟨h1, h2⟩ => by
    subst h1; subst h2
    exact ⟨by simp, r', [], hr, rfl, by simpa using hk⟩⟩

/-- A pure call is a call. -/
theorem xop_toP {o : XO} (h : xop E o.toP e L K) : xop E o e L K := by
  cases o <;> simp only [XO.toP] at h <;> try exact h
  simp only [xop] at h ⊢
  split at h
  · rename_i heq
    obtain ⟨args', r, h1, h2, h3, h4⟩ := h
    simp only [heq]
    exact xcall_pure h1 h2 (h3 _) h4
  · exact h.elim
end
end Go.X
