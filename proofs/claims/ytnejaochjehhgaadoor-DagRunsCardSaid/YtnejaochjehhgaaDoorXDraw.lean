/- The calculus X, part 13c: a region that draws its order: one order stands for all. -/
import Derived.Test.YtnejaochjehhgaaDoorXKind
import Derived.Orders
set_option linter.unusedVariables false
set_option linter.unusedSimpArgs false
set_option linter.unusedSectionVars false
namespace Go.X
open Go
section
variable {E : Env} {ρ ρ' : Rho} {L : List Blk} {KV : IV → List Blk → Prop}

/-- One operation, its condition ahead of it. -/
def stepV (E : Env) (o : XOper) (ρ : Rho) (L : List Blk) (KV : IV → List Blk → Prop) : Prop :=
  match o.guard with
  | none => xop E o.op (Opd.ev ρ) L KV
  | some (t, want) => match ρ t with
    | .bool b => (b = want → xop E o.op (Opd.ev ρ) L KV) ∧ (b ≠ want → KV .und L)
    | .und => KV .und L
    | _ => False

theorem xops_cons {o : XOper} {r : List XOper} {K : Rho → List Blk → Prop} : xops E (o :: r) ρ L K = stepV E o ρ L fun v L' => xops E r (put ρ o.dst v) L' K := by
  simp only [xops, stepV]
  cases o.guard with
  | none => rfl
  | some p => simp only; cases ρ p.1 <;> rfl

theorem sv_loc {o : XOper} (h : ∀ n ∈ o.rds, ρ n = ρ' n) : stepV E o ρ L KV = stepV E o ρ' L KV := by
  obtain ⟨d, op, g⟩ := o
  have h1 : xop E op (Opd.ev ρ) L KV = xop E op (Opd.ev ρ') L KV := xop_loc fun n hn => h n (by simp [XOper.rds, hn])
  cases g with
  | none => simp only [stepV, h1]
  | some p =>
    obtain ⟨t, w⟩ := p
    simp only [stepV, h1, h t (by simp [XOper.rds])]

theorem sv_k0 {o : XOper} (hk : o.op.kd = 0) (h : stepV E o ρ L KV) : ∃ r, KV r L ∧ ∀ (L' : List Blk) (K' : IV → List Blk → Prop), K' r L' → stepV E o ρ L' K' := by
  obtain ⟨d, op, g⟩ := o
  cases g with
  | none => exact xop_k0 hk h
  | some p =>
    obtain ⟨t, w⟩ := p
    simp only [stepV] at h ⊢
    split at h
    · rename_i b hb
      by_cases hw : b = w
      · obtain ⟨r, h1, h2⟩ := xop_k0 hk (h.1 hw)
        exact ⟨r, h1, fun L' K' hk' => ⟨fun _ => h2 L' K' hk', fun hn => absurd hw hn⟩⟩
      · exact ⟨.und, h.2 hw, fun L' K' hk' => ⟨fun hn => absurd hn hw, fun _ => hk'⟩⟩
    · exact ⟨.und, h, fun _ _ hk' => hk'⟩
    · exact h.elim
theorem sv_k1 {o : XOper} (hk : o.op.kd = 1) (h : stepV E o ρ L KV) : ∃ r, KV r L ∧ (∀ K' : IV → List Blk → Prop, K' r L → stepV E o ρ L K') ∧ ∀ (b : Blk) (K' : IV → List Blk → Prop), K' r (L ++ [b]) → stepV E o ρ (L ++ [b]) K' := by
  obtain ⟨d, op, g⟩ := o
  cases g with
  | none => exact xop_k1 hk h
  | some p =>
    obtain ⟨t, w⟩ := p
    simp only [stepV] at h ⊢
    split at h
    · rename_i b hb
      by_cases hw : b = w
      · obtain ⟨r, h1, h2, h3⟩ := xop_k1 hk (h.1 hw)
        exact ⟨r, h1, fun K' hk' => ⟨fun _ => h2 K' hk', fun hn => absurd hw hn⟩, fun b K' hk' => ⟨fun _ => h3 b K' hk', fun hn => absurd hw hn⟩⟩
      · exact ⟨.und, h.2 hw, fun K' hk' => ⟨fun hn => absurd hn hw, fun _ => hk'⟩, fun _ K' hk' => ⟨fun hn => absurd hn hw, fun _ => hk'⟩⟩
    · exact ⟨.und, h, fun _ hk' => hk', fun _ _ hk' => hk'⟩
    · exact h.elim
theorem sv_k2 {o : XOper} (hk : o.op.kd = 2) (h : stepV E o ρ L KV) : ∃ r L', (L' = L ∨ ∃ b, L' = L ++ [b]) ∧ KV r L' ∧ ∀ K' : IV → List Blk → Prop, K' r L' → stepV E o ρ L K' := by
  obtain ⟨d, op, g⟩ := o
  cases g with
  | none => obtain ⟨r, b, h1, h2⟩ := xop_k2 hk h; exact ⟨r, _, .inr ⟨b, rfl⟩, h1, h2⟩
  | some p =>
    obtain ⟨t, w⟩ := p
    simp only [stepV] at h ⊢
    split at h
    · rename_i b hb
      by_cases hw : b = w
      · obtain ⟨r, b, h1, h2⟩ := xop_k2 hk (h.1 hw)
        exact ⟨r, _, .inr ⟨b, rfl⟩, h1, fun K' hk' => ⟨fun _ => h2 K' hk', fun hn => absurd hw hn⟩⟩
      · exact ⟨.und, L, .inl rfl, h.2 hw, fun K' hk' => ⟨fun hn => absurd hn hw, fun _ => hk'⟩⟩
    · exact ⟨.und, L, .inl rfl, h, fun _ hk' => hk'⟩
    · exact h.elim
theorem sv_det {o : XOper} (hk : o.op.kd < 4) (h : stepV E o ρ L KV) : ∃ r L', KV r L' ∧ ∀ K' : IV → List Blk → Prop, K' r L' → stepV E o ρ L K' := by
  obtain ⟨d, op, g⟩ := o
  cases g with
  | none => exact xop_det hk h
  | some p =>
    obtain ⟨t, w⟩ := p
    simp only [stepV] at h ⊢
    split at h
    · rename_i b hb
      by_cases hw : b = w
      · obtain ⟨r, L', h1, h2⟩ := xop_det hk (h.1 hw)
        exact ⟨r, L', h1, fun K' hk' => ⟨fun _ => h2 K' hk', fun hn => absurd hw hn⟩⟩
      · exact ⟨.und, L, h.2 hw, fun K' hk' => ⟨fun hn => absurd hn hw, fun _ => hk'⟩⟩
    · exact ⟨.und, L, h, fun _ hk' => hk'⟩
    · exact h.elim

theorem put_nin {d : Option Nat} {v : IV} {l : List Nat} (h : ninO d l = true) : ∀ n ∈ l, put ρ d v n = ρ n := by
  intro n hn
  cases d with
  | none => rfl
  | some d =>
    simp only [put]
    rw [if_neg]
    intro hnd; subst hnd
    simp only [ninO, Bool.not_eq_true', List.contains_eq_mem] at h
    simp [hn] at h
theorem put_comm {d d' : Option Nat} {v u : IV} (h : neO d d' = true) : put (put ρ d v) d' u = put (put ρ d' u) d v := by
  cases d with
  | none => rfl
  | some d => cases d' with
    | none => rfl
    | some d' =>
      simp only [neO, Bool.not_eq_true', beq_eq_false_iff_ne, ne_eq] at h
      funext n
      simp only [put]
      by_cases h1 : n = d'
      · subst h1; simp [Ne.symm h]
      · simp [h1]

/-- Two that may change places. -/
theorem commute {oi oj : XOper} {v : IV} {Li : List Blk} {KK : Rho → List Blk → Prop} (hap : xap oi oj = true) (hy : ∀ KV : IV → List Blk → Prop, KV v Li → stepV E oi ρ L KV)
    (h : stepV E oj (put ρ oi.dst v) Li fun u L' => KK (put (put ρ oi.dst v) oj.dst u) L') :
    stepV E oj ρ L fun u L' => ∃ Li', (∀ KV : IV → List Blk → Prop, KV v Li' → stepV E oi (put ρ oj.dst u) L' KV) ∧ KK (put (put ρ oj.dst u) oi.dst v) Li' := by
  simp only [xap, Bool.and_eq_true] at hap
  obtain ⟨⟨⟨d1, d2⟩, d3⟩, hk⟩ := hap
  simp only [kdOk, Bool.and_eq_true, Bool.or_eq_true, decide_eq_true_eq, beq_iff_eq] at hk
  obtain ⟨⟨hi4, hj4⟩, hk⟩ := hk
  rw [sv_loc (ρ' := ρ) (fun n hn => put_nin d1 n hn)] at h
  have e2 : ∀ u L' KV, stepV E oi (put ρ oj.dst u) L' KV = stepV E oi ρ L' KV := fun u L' KV => sv_loc fun n hn => put_nin d2 n hn
  simp only [put_comm d3] at h
  simp only [e2]
  have hy0 := hy (fun r L' => r = v ∧ L' = Li) ⟨rfl, rfl⟩
  by_cases hj0 : oj.op.kd = 0
  · obtain ⟨u, h1, h2⟩ := sv_k0 hj0 h
    exact h2 L _ ⟨Li, hy, h1⟩
  by_cases hi0 : oi.op.kd = 0
  · obtain ⟨r, ⟨rfl, rfl⟩, h2⟩ := sv_k0 hi0 hy0
    obtain ⟨u, L', h3, h4⟩ := sv_det hj4 h
    exact h4 _ ⟨L', fun KV hk => h2 L' KV hk, h3⟩
  obtain ⟨hi1, hj3⟩ : oi.op.kd = 1 ∧ oj.op.kd < 3 := by omega
  obtain ⟨r, ⟨rfl, rfl⟩, h2, h2'⟩ := sv_k1 hi1 hy0
  have hj12 : oj.op.kd = 1 ∨ oj.op.kd = 2 := by omega
  rcases hj12 with hj | hj
  · obtain ⟨u, h3, h4, _⟩ := sv_k1 hj h
    exact h4 _ ⟨_, h2, h3⟩
  · obtain ⟨u, L', hL', h3, h4⟩ := sv_k2 hj h
    rcases hL' with rfl | ⟨b, rfl⟩
    · exact h4 _ ⟨_, h2, h3⟩
    · exact h4 _ ⟨_, h2' b, h3⟩

def sOp (E : Env) (xs : List XOper) (i : Nat) (KK : Rho → List Blk → Prop) (ρ : Rho) (L : List Blk) : Prop :=
  match xs[i]? with
  | none => KK ρ L
  | some o => stepV E o ρ L fun v L' => KK (put ρ o.dst v) L'

/-- Whatever order is drawn. -/
def xAny (E : Env) (ops : Array Oper) (xs : List XOper) (K : Rho → List Blk → Prop) : Nat → Array Bool → Rho → List Blk → Prop
  | 0, listed, ρ, L => Region.ready .any ops listed = [] ∧ K ρ L
  | n + 1, listed, ρ, L => (Region.ready .any ops listed = [] → K ρ L) ∧ ∀ i ∈ Region.ready .any ops listed, sOp E xs i (xAny E ops xs K n (listed.setIfInBounds i true)) ρ L

/-- The waiting ones. -/
structure Waits (ops : Array Oper) (i : Nat) (W : Nat → Prop) : Prop where
  self : W i
  edge : ∀ j, W j → j ≠ i → ∃ o e, ops[j]? = some o ∧ e ∈ o.after ∧ Region.binds .any e = true ∧ W e.on

theorem xwaits_spec (ops : Array Oper) (i : Nat) : Waits ops i (fun j => j ∈ xwaits ops i) := by
  unfold xwaits
  have key : ∀ (l : List Nat) (acc : List Nat), Waits ops i (fun j => j ∈ acc) → Waits ops i (fun j => j ∈ l.foldl (fun acc j => if ((ops[j]?).map fun o => o.after.any fun e => Region.binds .any e && acc.contains e.on).getD false then j :: acc else acc) acc) := by
    intro l
    induction l with
    | nil => intro acc h; exact h
    | cons x l ih =>
      intro acc h
      rw [List.foldl_cons]
      refine ih _ ?_
      split
      · rename_i hx
        refine ⟨List.mem_cons_of_mem _ h.self, fun j hj hne => ?_⟩
        rcases List.mem_cons.1 hj with rfl | hj
        · cases ho : ops[j]? with
          | none => rw [ho] at hx; cases hx
          | some o =>
            rw [ho] at hx
            simp only [Option.map_some, Option.getD_some] at hx
            rw [Array.any_eq_true] at hx
            obtain ⟨k, hk, hx⟩ := hx
            simp only [Bool.and_eq_true, List.contains_eq_mem, decide_eq_true_eq] at hx
            exact ⟨o, o.after[k], rfl, Array.getElem_mem hk, hx.1, List.mem_cons_of_mem _ hx.2⟩
        · obtain ⟨o, e, h1, h2, h3, h4⟩ := h.edge j hj hne
          exact ⟨o, e, h1, h2, h3, List.mem_cons_of_mem _ h4⟩
      · exact h
  exact key _ _ ⟨by simp, fun j hj hne => by simp at hj; exact absurd hj hne⟩

/-- One that may come up now may be taken first. -/
theorem xAny_first {ops : Array Oper} {xs : List XOper} {K : Rho → List Blk → Prop} {i : Nat} {oi : XOper} {v : IV} (hlen : xs.length = ops.size) (hi : xs[i]? = some oi) {W : Nat → Prop} (hW : Waits ops i W) :
    ∀ (fuel : Nat) (listed : Array Bool) (ρ : Rho) (L Li : List Blk), (∀ j, W j → listed.getD j true = false) →
      (∀ j oj, xs[j]? = some oj → j ≠ i → listed.getD j true = false → ¬ W j → xap oi oj = true) →
      i ∈ Region.ready .any ops listed → (∀ KV : IV → List Blk → Prop, KV v Li → stepV E oi ρ L KV) →
      xAny E ops xs K fuel (listed.setIfInBounds i true) (put ρ oi.dst v) Li → xAny E ops xs K (fuel + 1) listed ρ L := by
  intro fuel
  induction fuel with
  | zero =>
    intro listed ρ L Li _ _ hr hy H
    refine ⟨fun h => (by rw [h] at hr; cases hr), fun j hj => ?_⟩
    by_cases hji : j = i
    · subst hji; simp only [sOp, hi]; exact hy _ H
    · have := ready_mono hj hji
      rw [H.1] at this
      cases this
  | succ fuel ih =>
    intro listed ρ L Li hWl hfree hr hy H
    refine ⟨fun h => (by rw [h] at hr; cases hr), fun j hj => ?_⟩
    by_cases hji : j = i
    · subst hji; simp only [sOp, hi]; exact hy _ H
    · have h1 := H.2 j (ready_mono hj hji)
      obtain ⟨hjun, oj0, hoj0, hall⟩ := mem_ready.1 hj
      have hjW : ¬ W j := fun hw => by
        obtain ⟨o, e, h2, h3, h4, h5⟩ := hW.edge j hw hji
        rw [hoj0] at h2
        obtain rfl := Option.some.inj h2
        have h6 := hall e h3 h4
        have h7 := hWl _ h5
        rw [Array.getD_eq_getD_getElem?] at h6 h7
        cases hx : listed[e.on]? with
        | none => rw [hx] at h7; cases h7
        | some b => rw [hx] at h6 h7; simp at h6 h7; rw [h6] at h7; cases h7
      have hjlt : j < xs.length := by rw [hlen]; exact (Array.getElem?_eq_some_iff.1 hoj0).1
      obtain ⟨oj, hoj⟩ : ∃ oj, xs[j]? = some oj := ⟨_, List.getElem?_eq_getElem hjlt⟩
      simp only [sOp, hoj] at h1 ⊢
      have hap := hfree j oj hoj hji hjun hjW
      have h2 := commute hap hy h1
      have hk4 : oj.op.kd < 4 := by
        simp only [xap, kdOk, Bool.and_eq_true, decide_eq_true_eq] at hap
        exact hap.2.1.2
      obtain ⟨u, L', ⟨Li', h3, h4⟩, h5⟩ := sv_det hk4 h2
      refine h5 _ (ih (listed.setIfInBounds j true) _ _ Li' (fun k hk => ?_) (fun k ok hk hki hun hnW => ?_) (ready_mono hr (Ne.symm hji)) h3 ?_)
      · have hjk : j ≠ k := fun h => hjW (h ▸ hk)
        rw [Go.getD_set_ne true hjk]; exact hWl k hk
      · refine hfree k ok hk hki ?_ hnW
        by_cases hjk : j = k
        · subst hjk; exact hjun
        · rw [Go.getD_set_ne true hjk] at hun; exact hun
      · rw [Array.setIfInBounds_comm _ _ hji]
        exact h4

theorem xAny_lex {ops : Array Oper} {xs : List XOper} {K : Rho → List Blk → Prop} (hlen : xs.length = ops.size) (hk : ∀ o ∈ xs, o.op.kd < 4) : ∀ (l : List XOper) (k : Nat) (listed : Array Bool) (ρ : Rho) (L : List Blk), (∀ j, l[j]? = xs[k + j]?) →
    xlexF ops xs l.length k listed = true → xops E l ρ L K → xAny E ops xs K l.length listed ρ L
  | [], _, _, _, _, _, hB, h => ⟨by simpa [xlexF] using hB, h⟩
  | o :: l, k, listed, ρ, L, hl, hB, h => by
    have h0 : xs[k]? = some o := by simpa using (hl 0).symm
    simp only [List.length_cons, xlexF, Bool.and_eq_true] at hB
    obtain ⟨hr, hf, hB'⟩ := hB
    rw [xops_cons] at h
    obtain ⟨v, Li, h1, h2⟩ := sv_det (hk o (List.mem_of_getElem? h0)) h
    simp only [xfree, Bool.and_eq_true, List.all_eq_true] at hf
    obtain ⟨hf1, hf2⟩ := hf
    refine xAny_first hlen h0 (xwaits_spec ops k) l.length listed ρ L Li (fun j hj => by simpa using hf1 j hj) (fun j oj hj hjk hun hnW => ?_) (by simpa using hr) h2
      (xAny_lex hlen hk l (k + 1) _ _ _ (fun j => by have := hl (j + 1); simpa [Nat.add_assoc, Nat.add_comm 1 j] using this) hB' h1)
    have h3 := hf2 j (by rw [List.mem_range, ← hlen]; exact lt_of_get hj)
    simp only [Bool.or_eq_true, beq_iff_eq, List.contains_eq_mem, decide_eq_true_eq, h0, hj] at h3
    rcases h3 with ((h3 | h3) | h3) | h3
    · exact absurd h3 hjk
    · rw [hun] at h3; cases h3
    · exact absurd h3 hnW
    · exact h3
end
end Go.X
