/- The calculus X, part 5: what is handed to a call, and what comes back. -/
import Derived.Test.YtnejaochjehhgaaDoorXCtx
set_option linter.unusedVariables false
set_option linter.unusedSimpArgs false
set_option linter.unusedSectionVars false
namespace Go.X
open Go

theorem mapO_len {α β : Type} {f : α → Option β} : ∀ {l : List α} {l' : List β}, mapO f l = some l' → l'.length = l.length
  | [], l', h => by simp only [mapO, Option.some.injEq] at h; subst h; rfl
  | x :: r, l', h => by
    simp only [mapO] at h
    split at h
    · split at h
      · rename_i y hy ys hys
        simp only [Option.some.injEq] at h; subst h
        simp [mapO_len hys]
      · cases h
    · cases h

theorem mapO_get {α β : Type} {f : α → Option β} : ∀ {l : List α} {l' : List β}, mapO f l = some l' → ∀ (i : Nat) (y : β), l'[i]? = some y → ∃ x, l[i]? = some x ∧ f x = some y
  | [], l', h, i, y, hy => by simp only [mapO, Option.some.injEq] at h; subst h; simp at hy
  | x :: r, l', h, i, y, hy => by
    simp only [mapO] at h
    split at h
    · split at h
      · rename_i y0 hy0 _ ys hys
        simp only [Option.some.injEq] at h; subst h
        cases i with
        | zero => simp at hy; subst hy; exact ⟨x, rfl, hy0⟩
        | succ i => simp at hy; exact mapO_get hys i y hy
      · cases h
    · cases h

theorem closedL_iff {l : List IV} : closed.closedL l = true ↔ ∀ (i : Nat) (x : IV), l[i]? = some x → closed x = true := by
  induction l with
  | nil => simp [closed.closedL]
  | cons a r ih =>
    simp only [closed.closedL, Bool.and_eq_true, ih]
    constructor
    · rintro ⟨h1, h2⟩ i x hx
      cases i with
      | zero => simp at hx; subst hx; exact h1
      | succ i => exact h2 i x (by simpa using hx)
    · intro h
      exact ⟨h 0 a rfl, fun i x hx => h (i + 1) x (by simpa using hx)⟩

theorem noTreeL_iff {l : List IV} : noTree.noTreeL l = true ↔ ∀ (i : Nat) (x : IV), l[i]? = some x → noTree x = true := by
  induction l with
  | nil => simp [noTree.noTreeL]
  | cons a r ih =>
    simp only [noTree.noTreeL, Bool.and_eq_true, ih]
    constructor
    · rintro ⟨h1, h2⟩ i x hx
      cases i with
      | zero => simp at hx; subst hx; exact h1
      | succ i => exact h2 i x (by simpa using hx)
    · intro h
      exact ⟨h 0 a rfl, fun i x hx => h (i + 1) x (by simpa using hx)⟩

/-- A tree that names no block of ours: it says the same where no more is owned. -/
theorem VR.weaken {C C' : Ctx} (hw : C'.w = C.w) (hown : ∀ b, C'.own b → C.own b) {x : IV} {v : Value} (h : VR C x v) : closed x = true → VR C' x v := by
  induction h with
  | bool b => exact fun _ => .bool b
  | int k n => exact fun _ => .int k n
  | str s => exact fun _ => .str s
  | raw v h => exact fun _ => .raw v h
  | und => exact fun _ => .und
  | ptr s r o hs => intro h; cases h
  | sl s off len cap a cap' hs hl hc ha => intro h; cases h
  | isl rows a cap' sz vals hcap hsz hcl ha hv ih =>
    intro _
    refine .isl rows a cap' sz vals hcap hsz hcl ?_ (fun i row hi j x hj => ih i row hi j x hj (closedL_iff.1 (hcl i row hi) j x hj))
    rcases ha with h0 | ⟨b, o, ha, hb, hn, hc⟩
    · exact .inl h0
    · exact .inr ⟨b, o, ha, by rw [hw]; exact hb, fun h => hn (hown b h), fun i row hi j x hj => by rw [hw]; exact hc i row hi j x hj⟩
  | iptr rows r o b base sz vals hsz hcl hb hn ha hv ih =>
    intro _
    exact .iptr rows r o b base sz vals hsz hcl (by rw [hw]; exact hb) (fun h => hn (hown b h)) (fun i row hi j x hj => by rw [hw]; exact ha i row hi j x hj)
      (fun i row hi j x hj => ih i row hi j x hj (closedL_iff.1 (hcl i row hi) j x hj))
  | esl a => exact fun _ => .esl a
  | nsl => exact fun _ => .nsl
  | agg cs vs hl hv ih => intro h; exact .agg cs vs hl fun i x hi => ih i x hi (closedL_iff.1 h i x hi)
  | tup cs vs hl hv ih => intro h; exact .tup cs vs hl fun i x hi => ih i x hi (closedL_iff.1 h i x hi)
  | fn f as bs va vb ha hb hva hvb iha ihb =>
    intro h
    simp only [closed, Bool.and_eq_true] at h
    exact .fn f as bs va vb ha hb (fun i x hi => iha i x hi (closedL_iff.1 h.1 i x hi)) (fun i x hi => ihb i x hi (closedL_iff.1 h.2 i x hi))
  | iface t x v hv ih => intro h; exact .iface t x v (ih h)
  | mp s hs => intro h; cases h
  | yld s hs => intro h; cases h

theorem conv_closed {L : List Blk} : ∀ (n : Nat) (m : Ren) (x y : IV), (∀ s t, m s ≠ some (some t)) → conv L n m x = some y → closed y = true
  | 0, m, x, y, hm, h => by cases h
  | n + 1, m, x, y, hm, h => by
    have L1 : ∀ {l l' : List IV}, mapO (conv L n m) l = some l' → closed.closedL l' = true := fun {l l'} hl => closedL_iff.2 fun i x' hi => by
      obtain ⟨z, _, hz⟩ := mapO_get hl i x' hi
      exact conv_closed n m z x' hm hz
    cases x with
    | ptr s r o =>
      simp only [conv] at h
      split at h
      · rename_i t ht; exact absurd ht (hm s t)
      · split at h
        · rw [Option.map_eq_some_iff] at h; obtain ⟨rs, _, rfl⟩ := h; rfl
        · cases h
      · cases h
    | sl s off len cap =>
      simp only [conv] at h
      split at h
      · rename_i t ht; exact absurd ht (hm s t)
      · split at h
        · split at h
          · rw [Option.map_eq_some_iff] at h; obtain ⟨rs, _, rfl⟩ := h; rfl
          · cases h
        · cases h
      · cases h
    | mp s =>
      simp only [conv] at h
      split at h
      · rename_i t ht; exact absurd ht (hm s t)
      · cases h
    | yld s =>
      simp only [conv] at h
      split at h
      · rename_i t ht; exact absurd ht (hm s t)
      · cases h
    | agg cs => simp only [conv, Option.map_eq_some_iff] at h; obtain ⟨l, hl, rfl⟩ := h; exact L1 hl
    | tup cs => simp only [conv, Option.map_eq_some_iff] at h; obtain ⟨l, hl, rfl⟩ := h; exact L1 hl
    | fn f a b =>
      simp only [conv] at h
      split at h
      · rename_i a' b' ha hb
        simp only [Option.some.injEq] at h; subst h
        simp only [closed, L1 ha, L1 hb, Bool.and_self]
      · cases h
    | iface t v => simp only [conv, Option.map_eq_some_iff] at h; obtain ⟨z, hz, rfl⟩ := h; exact conv_closed n m v z hm hz
    | bool b => simp only [conv, Option.some.injEq] at h; subst h; rfl
    | int k i => simp only [conv, Option.some.injEq] at h; subst h; rfl
    | str s => simp only [conv, Option.some.injEq] at h; subst h; rfl
    | raw v => simp only [conv, Option.some.injEq] at h; subst h; rfl
    | und => simp only [conv, Option.some.injEq] at h; subst h; rfl
    | isl rows => simp only [conv, Option.some.injEq] at h; subst h; rfl
    | iptr rows r o => simp only [conv, Option.some.injEq] at h; subst h; rfl
    | esl => simp only [conv, Option.some.injEq] at h; subst h; rfl
    | nsl => simp only [conv, Option.some.injEq] at h; subst h; rfl

theorem inner_no (m : Ren) (s t : Nat) : m.inner s ≠ some (some t) := by
  unfold Ren.inner
  split
  · intro h; cases h
  · intro h; cases h

/-- What 'm' says of the blocks of C fits C'. -/
def RenOk (C C' : Ctx) (m : Ren) : Prop := ∀ s k, C.L[s]? = some k →
  (m s = some none → k.alive = true → ¬ C'.own (C.φ s).blk) ∧ (∀ t, m s = some (some t) → t < C'.L.length ∧ C'.φ t = C.φ s)

theorem RenOk.inner {C C' : Ctx} {m : Ren} (h : RenOk C C' m) : RenOk C C' m.inner := fun s k hk =>
  ⟨fun hm ha => (h s k hk).1 (by unfold Ren.inner at hm; split at hm <;> first | assumption | cases hm) ha, fun t ht => absurd ht (inner_no m s t)⟩

theorem getD_of_get {α : Type} {c : Array α} {i : Nat} {v d : α} (h : c[i]? = some v) : c.getD i d = v := by
  rw [Array.getD_eq_getD_getElem?, h]; rfl

theorem conv_sound {C C' : Ctx} (hw : C'.w = C.w) (sim : Sim C) (hown : ∀ b, C'.own b → C.own b) :
    ∀ (n : Nat) (m : Ren) (x x' : IV) (v : Value), RenOk C C' m → conv C.L n m x = some x' → VR C x v → VR C' x' v
  | 0, m, x, x', v, hm, h, hx => by cases h
  | n + 1, m, x, x', v, hm, h, hx => by
    have Lc : ∀ {cs l : List IV} {vs : List Value}, mapO (conv C.L n m) cs = some l → (∀ (i : Nat) (x : IV), cs[i]? = some x → VR C x (vs.getD i undef)) →
        ∀ (i : Nat) (x : IV), l[i]? = some x → VR C' x (vs.getD i undef) := fun hl hv i y hi => by
      obtain ⟨z, h1, h2⟩ := mapO_get hl i y hi
      exact conv_sound hw sim hown n m z y _ hm h2 (hv i z h1)
    -- what is frozen
    have Fz : ∀ {s : Nat} {sz : Nat} {rows rows0 rs : List (List IV)} (off : Nat), C.L[s]? = some (.cells sz rows) →
        (∀ (i : Nat) (row : List IV), rows0[i]? = some row → rows[off + i]? = some row) → mapO (mapO (conv C.L n m.inner)) rows0 = some rs → m s = some none →
        ∃ (c : Array Value) (e : TypeId), C.w.heap[(C.φ s).blk]? = some (.cells c e (0, 0)) ∧ (C.φ s).sz = sz ∧ rs.length = rows0.length ∧
          (∀ (i : Nat) (row : List IV), rs[i]? = some row → row.length = sz ∧ closed.closedL row = true ∧ ∀ (j : Nat) (x : IV), row[j]? = some x →
            C'.w.cell? ⟨(C.φ s).blk, (C.φ s).base + (off + i) * sz + j, none⟩ = some (c.getD ((C.φ s).base + (off + i) * sz + j) undef) ∧
            VR C' x (c.getD ((C.φ s).base + (off + i) * sz + j) undef)) ∧ (C.φ s).blk < C'.w.heap.size ∧ ¬ C'.own (C.φ s).blk := by
      intro s sz rows rows0 rs off hs hsub hrs hms
      obtain ⟨h1, c, e, h2, h3, h4⟩ := sim s _ hs
      refine ⟨c, e, h2, h1, mapO_len hrs, fun i row hi => ?_, by rw [hw]; exact (Array.getElem?_eq_some_iff.1 h2).1, (hm s _ hs).1 hms rfl⟩
      obtain ⟨row0, h5, h6⟩ := mapO_get hrs i row hi
      obtain ⟨h7, h8⟩ := h4 _ row0 (hsub i row0 h5)
      refine ⟨(mapO_len h6).trans h7, closedL_iff.2 fun j y hj => ?_, fun j y hj => ?_⟩
      · obtain ⟨z, _, hz⟩ := mapO_get h6 j y hj
        exact conv_closed n _ z y (inner_no m) hz
      · obtain ⟨z, hz1, hz⟩ := mapO_get h6 j y hj
        obtain ⟨u, h9, h10⟩ := h8 j z hz1
        rw [getD_of_get h9]
        refine ⟨?_, conv_sound hw sim hown n _ z y u hm.inner hz h10⟩
        rw [hw]
        simp only [World.cell?, h2]
        simpa using h9
    cases x with
    | ptr s r o =>
      cases hx with
      | ptr _ _ _ hs =>
      simp only [conv] at h
      split at h
      · rename_i t ht
        simp only [Option.some.injEq] at h; subst h
        obtain ⟨h1, h2⟩ := (hm s _ (List.getElem?_eq_getElem hs)).2 t ht
        rw [← h2]; exact .ptr t r o h1
      · rename_i hms
        split at h
        · rename_i sz rows hL
          rw [Option.map_eq_some_iff] at h; obtain ⟨rs, hrs, rfl⟩ := h
          obtain ⟨c, e, h2, hsz, _, h4, h5, h6⟩ := Fz 0 hL (fun i row hi => by simpa using hi) hrs hms
          rw [hsz]
          refine .iptr rs r o _ _ sz (fun i j => c.getD ((C.φ s).base + (0 + i) * sz + j) undef) (fun i row hi => (h4 i row hi).1) (fun i row hi => (h4 i row hi).2.1) h5 h6 ?_ ?_
          · intro i row hi j x hj; simpa using ((h4 i row hi).2.2 j x hj).1
          · intro i row hi j x hj; exact ((h4 i row hi).2.2 j x hj).2
        · cases h
      · cases h
    | sl s off len cap =>
      cases hx with
      | sl _ _ _ _ a cap' hs hl hc ha =>
      simp only [conv] at h
      split at h
      · rename_i t ht
        simp only [Option.some.injEq] at h; subst h
        obtain ⟨h1, h2⟩ := (hm s _ (List.getElem?_eq_getElem hs)).2 t ht
        exact .sl t off len cap a cap' h1 hl hc (by rw [h2, hw]; exact ha)
      · rename_i hms
        split at h
        · rename_i sz rows hL
          split at h
          · rename_i hle
            rw [Option.map_eq_some_iff] at h; obtain ⟨rs, hrs, rfl⟩ := h
            obtain ⟨c, e, h2, hsz, h3, h4, h5, h6⟩ := Fz off hL (fun i row hi => by
              rw [List.getElem?_take] at hi
              split at hi
              · rw [List.getElem?_drop] at hi; exact hi
              · cases hi) hrs hms
            have hlen : rs.length = len := by rw [h3, List.length_take, List.length_drop]; omega
            subst hlen
            refine .isl rs a cap' sz (fun i j => c.getD ((C.φ s).base + (off + i) * sz + j) undef) (by omega) (fun i row hi => (h4 i row hi).1) (fun i row hi => (h4 i row hi).2.1) ?_ ?_
            · rcases ha with h0 | ⟨ha, _⟩
              · left; exact List.eq_nil_of_length_eq_zero (by omega)
              · refine .inr ⟨_, _, ha, h5, h6, fun i row hi j x hj => ?_⟩
                have := ((h4 i row hi).2.2 j x hj).1
                rw [hsz]
                rw [show (C.φ s).base + off * sz + i * sz + j = (C.φ s).base + (off + i) * sz + j by rw [Nat.add_mul]; omega]
                exact this
            · intro i row hi j x hj; exact ((h4 i row hi).2.2 j x hj).2
          · cases h
        · cases h
      · cases h
    | mp s =>
      cases hx with
      | mp _ hs =>
      simp only [conv] at h
      split at h
      · rename_i t ht
        simp only [Option.some.injEq] at h; subst h
        obtain ⟨h1, h2⟩ := (hm s _ (List.getElem?_eq_getElem hs)).2 t ht
        rw [← h2]; exact .mp t h1
      · cases h
    | yld s =>
      cases hx with
      | yld _ hs =>
      simp only [conv] at h
      split at h
      · rename_i t ht
        simp only [Option.some.injEq] at h; subst h
        obtain ⟨h1, h2⟩ := (hm s _ (List.getElem?_eq_getElem hs)).2 t ht
        rw [← h2]; exact .yld t h1
      · cases h
    | agg cs => simp only [conv, Option.map_eq_some_iff] at h; obtain ⟨l, hl, rfl⟩ := h; cases hx with | agg _ vs hle hv => exact .agg l vs ((mapO_len hl).trans hle) (Lc hl hv)
    | tup cs => simp only [conv, Option.map_eq_some_iff] at h; obtain ⟨l, hl, rfl⟩ := h; cases hx with | tup _ vs hle hv => exact .tup l vs ((mapO_len hl).trans hle) (Lc hl hv)
    | fn f a b =>
      simp only [conv] at h
      split at h
      · rename_i a' b' ha' hb'
        simp only [Option.some.injEq] at h; subst h
        cases hx with
        | fn _ _ _ va vb ha hb hva hvb => exact .fn f a' b' va vb ((mapO_len ha').trans ha) ((mapO_len hb').trans hb) (Lc ha' hva) (Lc hb' hvb)
      · cases h
    | iface t y => simp only [conv, Option.map_eq_some_iff] at h; obtain ⟨z, hz, rfl⟩ := h; cases hx with | iface _ _ u hu => exact .iface t z u (conv_sound hw sim hown n m y z u hm hz hu)
    | bool b => simp only [conv, Option.some.injEq] at h; subst h; exact hx.weaken hw hown rfl
    | int k i => simp only [conv, Option.some.injEq] at h; subst h; exact hx.weaken hw hown rfl
    | str s => simp only [conv, Option.some.injEq] at h; subst h; exact hx.weaken hw hown rfl
    | raw v => simp only [conv, Option.some.injEq] at h; subst h; exact hx.weaken hw hown rfl
    | und => simp only [conv, Option.some.injEq] at h; subst h; exact hx.weaken hw hown rfl
    | isl rows => simp only [conv, Option.some.injEq] at h; subst h; exact hx.weaken hw hown rfl
    | iptr rows r o => simp only [conv, Option.some.injEq] at h; subst h; exact hx.weaken hw hown rfl
    | esl =>
      simp only [conv, Option.some.injEq] at h; subst h
      cases hx with
      | esl a => exact .isl [] a 0 0 (fun _ _ => undef) (Nat.le_refl _) (fun i row hi => by simp at hi) (fun i row hi => by simp at hi) (.inl rfl) (fun i row hi => by simp at hi)
    | nsl =>
      simp only [conv, Option.some.injEq] at h; subst h
      cases hx with
      | nsl => exact .isl [] none 0 0 (fun _ _ => undef) (Nat.le_refl _) (fun i row hi => by simp at hi) (fun i row hi => by simp at hi) (.inl rfl) (fun i row hi => by simp at hi)

theorem conv_ren {C C' : Ctx} (hw : C'.w = C.w) :
    ∀ (n : Nat) (m : Ren) (x x' : IV) (v : Value), (∀ s, s < C.L.length → ∃ t, m s = some (some t) ∧ t < C'.L.length ∧ C'.φ t = C.φ s) → noTree x = true →
      conv C.L n m x = some x' → VR C x v → VR C' x' v
  | 0, m, x, x', v, hm, hn, h, hx => by cases h
  | n + 1, m, x, x', v, hm, hn, h, hx => by
    have Lc : ∀ {cs l : List IV} {vs : List Value}, noTree.noTreeL cs = true → mapO (conv C.L n m) cs = some l → (∀ (i : Nat) (x : IV), cs[i]? = some x → VR C x (vs.getD i undef)) →
        ∀ (i : Nat) (x : IV), l[i]? = some x → VR C' x (vs.getD i undef) := fun hn hl hv i y hi => by
      obtain ⟨z, h1, h2⟩ := mapO_get hl i y hi
      exact conv_ren hw n m z y _ hm (noTreeL_iff.1 hn i z h1) h2 (hv i z h1)
    cases x with
    | ptr s r o =>
      cases hx with
      | ptr _ _ _ hs =>
      obtain ⟨t, h0, h1, h2⟩ := hm s hs
      simp only [conv, h0, Option.some.injEq] at h; subst h
      rw [← h2]; exact .ptr t r o h1
    | sl s off len cap =>
      cases hx with
      | sl _ _ _ _ a cap' hs hl hc ha =>
      obtain ⟨t, h0, h1, h2⟩ := hm s hs
      simp only [conv, h0, Option.some.injEq] at h; subst h
      exact .sl t off len cap a cap' h1 hl hc (by rw [h2, hw]; exact ha)
    | mp s =>
      cases hx with
      | mp _ hs =>
      obtain ⟨t, h0, h1, h2⟩ := hm s hs
      simp only [conv, h0, Option.some.injEq] at h; subst h
      rw [← h2]; exact .mp t h1
    | yld s =>
      cases hx with
      | yld _ hs =>
      obtain ⟨t, h0, h1, h2⟩ := hm s hs
      simp only [conv, h0, Option.some.injEq] at h; subst h
      rw [← h2]; exact .yld t h1
    | agg cs => simp only [conv, Option.map_eq_some_iff] at h; obtain ⟨l, hl, rfl⟩ := h; cases hx with | agg _ vs hle hv => exact .agg l vs ((mapO_len hl).trans hle) (Lc hn hl hv)
    | tup cs => simp only [conv, Option.map_eq_some_iff] at h; obtain ⟨l, hl, rfl⟩ := h; cases hx with | tup _ vs hle hv => exact .tup l vs ((mapO_len hl).trans hle) (Lc hn hl hv)
    | fn f a b =>
      simp only [conv] at h
      simp only [noTree, Bool.and_eq_true] at hn
      split at h
      · rename_i a' b' ha' hb'
        simp only [Option.some.injEq] at h; subst h
        cases hx with
        | fn _ _ _ va vb ha hb hva hvb => exact .fn f a' b' va vb ((mapO_len ha').trans ha) ((mapO_len hb').trans hb) (Lc hn.1 ha' hva) (Lc hn.2 hb' hvb)
      · cases h
    | iface t y => simp only [conv, Option.map_eq_some_iff] at h; obtain ⟨z, hz, rfl⟩ := h; cases hx with | iface _ _ u hu => exact .iface t z u (conv_ren hw n m y z u hm hn hz hu)
    | bool b => simp only [conv, Option.some.injEq] at h; subst h; cases hx; exact .bool b
    | int k i => simp only [conv, Option.some.injEq] at h; subst h; cases hx; exact .int k i
    | str s => simp only [conv, Option.some.injEq] at h; subst h; cases hx; exact .str s
    | raw v => simp only [conv, Option.some.injEq] at h; subst h; cases hx with | raw _ hr => exact .raw _ hr
    | und => simp only [conv, Option.some.injEq] at h; subst h; cases hx; exact .und
    | isl rows => cases hn
    | iptr rows r o => cases hn
    | esl =>
      simp only [conv, Option.some.injEq] at h; subst h
      cases hx with
      | esl a => exact .isl [] a 0 0 (fun _ _ => undef) (Nat.le_refl _) (fun i row hi => by simp at hi) (fun i row hi => by simp at hi) (.inl rfl) (fun i row hi => by simp at hi)
    | nsl =>
      simp only [conv, Option.some.injEq] at h; subst h
      cases hx with
      | nsl => exact .isl [] none 0 0 (fun _ _ => undef) (Nat.le_refl _) (fun i row hi => by simp at hi) (fun i row hi => by simp at hi) (.inl rfl) (fun i row hi => by simp at hi)

end Go.X
