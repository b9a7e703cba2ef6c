/- The calculus X, part 13: each operation does what its short form says (5); calls; all together. -/
import Derived.Test.YtnejaochjehhgaaDoorXNil
import Derived.Lib.Strings
set_option linter.unusedVariables false
set_option linter.unusedSimpArgs false
set_option linter.unusedSectionVars false
namespace Go.X
open Go

section
variable {E : Env} {C : Ctx} {a : Act} {e : Opd → IV} {o : Oper} {K : IV → List Blk → Prop}

theorem good_idxA (sim : Sim C) (he : Opds C a e) {t el : TypeId} {x i : Operand} {x' i' : Opd} {m n : Nat} (ho : o.op = .indexAddr t x i) (ht : E.P.underlying t = some (.array m el)) (hn : sizeT E.P el = some n)
    (hx : opd x = some x') (hi : opd i = some i') (h : xop E (.idxA m n x' i') e C.L K) : PureG E C a o K := by
  have hxv := he x x' hx
  have hiv := he i i' hi
  generalize hxe : a.eval x = xv at hxv
  generalize hie : a.eval i = iv at hiv
  simp only [xop] at h
  generalize e x' = ex at *
  generalize e i' = ei at *
  have hrun : ∀ (b k : Nat) (q : IntKind) (j : Int), xv = .pointer (some ⟨b, k, none⟩) → iv = .int q j → 0 ≤ j → j < m →
      (Instr.indexAt t (a.eval x) (a.eval i)).run E.P C.w = .ok (.pointer (some ⟨b, k + j.toNat * n, none⟩)) C.w := by
    rintro b k q j rfl rfl h0 h1
    rw [hxe, hie]
    unfold Instr.indexAt
    simp only [asIntOf, Sem.run_bind, Sem.run_pure, Result.andThen_ok, run_und ht, Instr.sureAddr, add_ptr]
    rw [if_pos ⟨h0, h1⟩]
    simp only [Sem.run_bind, Sem.run_pure, Result.andThen_ok, run_sizeOf' hn]
  split at h
  · rename_i s r off q j
    obtain ⟨h0, h1, h⟩ := h
    cases hiv
    cases hxv with
    | ptr _ _ _ hs =>
      refine pure_value (by unfold execOp; rw [ho]) (hrun _ _ q j rfl rfl h0 h1) (psame ?_ h)
      rw [Nat.add_assoc]; exact .ptr _ _ _ hs
  · rename_i rows r off q j
    obtain ⟨h0, h1, h⟩ := h
    cases hiv
    cases hxv with
    | iptr _ _ _ b base sz vals hsz hcl hb hown ha hv =>
      refine pure_value (by unfold execOp; rw [ho]) (hrun _ _ q j rfl rfl h0 h1) (psame ?_ h)
      rw [Nat.add_assoc]; exact .iptr _ _ _ b base sz vals hsz hcl hb hown ha hv
  · rename_i b k q j
    obtain ⟨h0, h1, h⟩ := h
    cases hiv
    cases hxv
    exact pure_value (by unfold execOp; rw [ho]) (hrun b k q j rfl rfl h0 h1) (psame (.raw _ rfl) h)
  · exact h.elim

theorem good_idx (sim : Sim C) (he : Opds C a e) {t : TypeId} {x i : Operand} {x' i' : Opd} (ho : o.op = .index t x i) (ht : E.P.underlying t = some .string)
    (hx : opd x = some x') (hi : opd i = some i') (h : xop E (.idx x' i') e C.L K) : PureG E C a o K := by
  have hxv := he x x' hx
  have hiv := he i i' hi
  generalize hxe : a.eval x = xv at hxv
  generalize hie : a.eval i = iv at hiv
  simp only [xop] at h
  generalize e x' = ex at *
  generalize e i' = ei at *
  split at h
  · rename_i s q j
    obtain ⟨h0, h1, h⟩ := h
    cases hiv
    cases hxv
    refine pure_value (s := Instr.index t (a.eval x) (a.eval i)) (by unfold execOp; rw [ho]) (v := .int .u8 (s.getD j.toNat 0).toNat) (w' := C.w) ?_ (psame (.int _ _) h)
    rw [hxe, hie]
    unfold Instr.index
    simp only [asIntOf, Sem.run_bind, Sem.run_pure, Result.andThen_ok, run_und ht]
    rw [if_pos h0]
    have hlt : j.toNat < s.length := by omega
    have : (⟨s.toArray⟩ : ByteArray)[j.toNat]? = some (s.getD j.toNat 0) := by
      have hsz : j.toNat < (⟨s.toArray⟩ : ByteArray).size := by simpa [ByteArray.size] using hlt
      rw [getElem?_pos (⟨s.toArray⟩ : ByteArray) j.toNat hsz]
      congr 1
      simp only [List.getD, List.getElem?_eq_getElem hlt]
      rfl
    rw [this]
    rfl
  · exact h.elim

theorem opdO_none {x : Option Operand} {q : Option Opd} (h : opdO x = some q) : (x = none ∧ q = none) ∨ ∃ p r, x = some p ∧ q = some r ∧ opd p = some r := by
  cases x with
  | none => simp only [opdO, Option.some.injEq] at h; exact .inl ⟨rfl, h.symm⟩
  | some p => simp only [opdO, Option.map_eq_some_iff] at h; obtain ⟨r, hr, rfl⟩ := h; exact .inr ⟨p, r, rfl, rfl, hr⟩

/-- A bound: what it comes to. -/
theorem bnd_run (he : Opds C a e) {x : Option Operand} {q : Option Opd} (hq : opdO x = some q) {d : Nat} {Q : Nat → Prop} (h : bnd (q.map e) d Q) :
    ∃ n, Q n ∧ ((x = none ∧ n = d) ∨ ∃ p, x = some p ∧ ∃ k, a.eval p = .int k n) := by
  rcases opdO_none hq with ⟨rfl, rfl⟩ | ⟨p, r, rfl, rfl, hpr⟩
  · exact ⟨d, h, .inl ⟨rfl, rfl⟩⟩
  · have hv := he p r hpr
    simp only [Option.map_some, bnd] at h
    split at h
    · rename_i heq; cases heq
    · rename_i k n heq
      simp only [Option.some.injEq] at heq
      rw [heq] at hv
      generalize hpe : a.eval p = pv at hv
      cases hv
      refine ⟨n.toNat, h.2, .inr ⟨p, rfl, k, ?_⟩⟩
      rw [hpe]; congr 1; omega
    · exact h.elim

theorem run_sliceBounds {P : Program} {w : World} {isS : Bool} {len cap l hh : Nat} {lo hi : Option Value} (hlo : (lo = none ∧ l = 0) ∨ ∃ k, lo = some (.int k l)) (hhi : (hi = none ∧ hh = len) ∨ ∃ k, hi = some (.int k hh))
    (h1 : l ≤ hh) (h2 : hh ≤ cap) (_h3 : len ≤ cap) : (Instr.sliceBounds isS len cap lo hi none).run P w = .ok (l, hh, cap) w := by
  have hb : ∀ (n y : Nat) (k : IntKind) (c : BoundsCode), n ≤ y → (Instr.sliceBound (.int k n) y c).run P w = .ok n w := fun n y k c hny => by
    unfold Instr.sliceBound
    simp only [asIntOf, Sem.run_bind, Sem.run_pure, Result.andThen_ok]
    rw [if_pos ⟨by omega, by omega⟩]
    simp
  unfold Instr.sliceBounds
  rcases hlo with ⟨rfl, rfl⟩ | ⟨k, rfl⟩ <;> rcases hhi with ⟨rfl, rfl⟩ | ⟨k', rfl⟩ <;> simp [hb, h1, h2]

theorem good_slice_str (sim : Sim C) (he : Opds C a e) {t : TypeId} {x : Operand} {lo hi : Option Operand} {x' : Opd} {lo' hi' : Option Opd} (ho : o.op = .slice t x lo hi none) (ht : E.P.underlying t = some .string)
    (hx : opd x = some x') (hl : opdO lo = some lo') (hh : opdO hi = some hi') {s : List UInt8} (hs : e x' = .str s)
    (h : bnd (lo'.map e) 0 fun l => bnd (hi'.map e) s.length fun h => l ≤ h ∧ h ≤ s.length ∧ K (.str ((s.take h).drop l)) C.L) : PureG E C a o K := by
  have hxv := he x x' hx
  rw [hs] at hxv
  generalize hxe : a.eval x = xv at hxv
  cases hxv
  obtain ⟨l, h, hl1⟩ := bnd_run he hl h
  obtain ⟨hb, ⟨h1, h2, hK⟩, hh1⟩ := bnd_run he hh h
  refine pure_value (s := Instr.sliceAt t (a.eval x) (lo.map a.eval) (hi.map a.eval) none) (by unfold execOp; rw [ho]; rfl) (v := .string ⟨((s.take hb).drop l).toArray⟩) (w' := C.w) ?_ (psame (.str _) hK)
  rw [hxe]
  unfold Instr.sliceAt
  rw [Sem.run_bind, run_und ht]
  simp only [Result.andThen_ok]
  unfold Instr.slice
  rw [Sem.run_bind, run_und ht]
  simp only [Result.andThen_ok, Option.isSome_none, Bool.false_eq_true, if_false]
  rw [Sem.run_bind, run_sliceBounds (l := l) (hh := hb)]
  · simp only [Result.andThen_ok, Sem.run_pure]
    congr 2
    show (⟨_⟩ : ByteArray) = _
    congr 1
    apply Array.ext'
    simp
    rw [List.drop_take]
  · rcases hl1 with ⟨rfl, rfl⟩ | ⟨p, rfl, k, hk⟩
    · exact .inl ⟨rfl, rfl⟩
    · exact .inr ⟨k, by rw [← hk]; rfl⟩
  · rcases hh1 with ⟨rfl, rfl⟩ | ⟨p, rfl, k, hk⟩
    · exact .inl ⟨rfl, by simp [ByteArray.size]⟩
    · exact .inr ⟨k, by rw [← hk]; rfl⟩
  · exact h1
  · simpa [ByteArray.size] using h2
  · exact Nat.le_refl _

theorem run_slice_slice {P : Program} {w : World} {t el : TypeId} {n l hb len cap : Nat} {b : Option Addr} {lo hi : Option Value} (ht : P.underlying t = some (.slice el)) (hn : sizeT P el = some n)
    (hlo : (lo = none ∧ l = 0) ∨ ∃ k, lo = some (.int k l)) (hhi : (hi = none ∧ hb = len) ∨ ∃ k, hi = some (.int k hb)) (h1 : l ≤ hb) (h2 : hb ≤ cap) (h3 : len ≤ cap) :
    (Instr.sliceAt t (.slice b len cap) lo hi none).run P w = .ok (.slice (if cap = l then b else b.map (·.add (l * n))) (hb - l) (cap - l)) w := by
  unfold Instr.sliceAt
  rw [Sem.run_bind, run_und ht]
  simp only [Result.andThen_ok]
  unfold Instr.slice
  rw [Sem.run_bind, run_und ht]
  simp only [Result.andThen_ok]
  rw [Sem.run_bind, run_sliceBounds hlo hhi h1 h2 h3]
  simp only [Result.andThen_ok]
  rw [Sem.run_bind, run_sizeOf' hn]
  rfl

theorem good_slice (sim : Sim C) (he : Opds C a e) {t el : TypeId} {x : Operand} {lo hi : Option Operand} {x' : Opd} {lo' hi' : Option Opd} {n : Nat} (ho : o.op = .slice t x lo hi none) (ht : E.P.underlying t = some (.slice el))
    (hn : sizeT E.P el = some n) (hx : opd x = some x') (hl : opdO lo = some lo') (hh : opdO hi = some hi') (h : xop E (.slice n x' lo' hi') e C.L K) : PureG E C a o K := by
  have hxv := he x x' hx
  simp only [xop] at h
  generalize hxe : a.eval x = xv at hxv
  have hgood : ∀ (b : Option Addr) (len cap l hb : Nat), xv = .slice b len cap → ((lo = none ∧ l = 0) ∨ ∃ p, lo = some p ∧ ∃ k, a.eval p = .int k l) → ((hi = none ∧ hb = len) ∨ ∃ p, hi = some p ∧ ∃ k, a.eval p = .int k hb) →
      l ≤ hb → hb ≤ cap → len ≤ cap → ∀ r, VR C r (.slice (if cap = l then b else b.map (·.add (l * n))) (hb - l) (cap - l)) → K r C.L → PureG E C a o K := by
    rintro b len cap l hb rfl hl1 hh1 h1 h2 h3 r hr hK
    refine pure_value (s := Instr.sliceAt t (a.eval x) (lo.map a.eval) (hi.map a.eval) none) (by unfold execOp; rw [ho]; rfl) (w' := C.w) ?_ (psame hr hK)
    rw [hxe]
    refine run_slice_slice ht hn ?_ ?_ h1 h2 h3
    · rcases hl1 with ⟨rfl, rfl⟩ | ⟨p, rfl, k, hk⟩
      · exact .inl ⟨rfl, rfl⟩
      · exact .inr ⟨k, by rw [← hk]; rfl⟩
    · rcases hh1 with ⟨rfl, rfl⟩ | ⟨p, rfl, k, hk⟩
      · exact .inl ⟨rfl, rfl⟩
      · exact .inr ⟨k, by rw [← hk]; rfl⟩
  split at h
  · rename_i rows heq
    rw [heq] at hxv
    obtain ⟨hr, h⟩ := h
    obtain ⟨l, h, hl1⟩ := bnd_run he hl h
    obtain ⟨hb, ⟨h1, h2, hK⟩, hh1⟩ := bnd_run he hh h
    cases hxv with
    | isl _ av cap' sz vals hcap hsz hcl ha hv =>
      refine hgood av rows.length cap' l hb rfl hl1 hh1 h1 (by omega) hcap _ ?_ hK
      have hlen : ((rows.take hb).drop l).length = hb - l := by rw [List.length_drop, List.length_take]; omega
      have hget : ∀ (i : Nat) (row : List IV), ((rows.take hb).drop l)[i]? = some row → rows[l + i]? = some row := fun i row hi => by
        rw [List.getElem?_drop, List.getElem?_take] at hi
        split at hi
        · exact hi
        · cases hi
      rw [← hlen]
      refine .isl _ _ _ sz (fun i j => vals (l + i) j) (by omega) (fun i row hi => hsz _ row (hget i row hi)) (fun i row hi => hcl _ row (hget i row hi)) ?_ (fun i row hi j y hj => hv _ row (hget i row hi) j y hj)
      rcases ha with ha | ⟨b, k, rfl, hbl, hno, hc⟩
      · left; subst ha; simp
      · by_cases hrs : (rows.take hb).drop l = []
        · exact .inl hrs
        · have hpos : 0 < hb - l := by rw [← hlen]; exact List.length_pos_iff.2 hrs
          have hne : cap' ≠ l := by omega
          have hss : sz = n := by
            have h5 : l < rows.length := by omega
            have := List.getElem?_eq_getElem h5
            rw [← hsz _ _ this, hr _ (List.getElem_mem h5)]
          subst hss
          refine .inr ⟨b, k + l * sz, ?_, hbl, hno, fun i row hi j y hj => ?_⟩
          · rw [if_neg hne]; simp only [Option.map_some, add_ptr]
          · have := hc _ row (hget i row hi) j y hj
            rw [← this]; congr 2; rw [Nat.add_mul]; omega
  · rename_i s off len cap heq
    rw [heq] at hxv
    obtain ⟨hz, h⟩ := h
    obtain ⟨l, h, hl1⟩ := bnd_run he hl h
    obtain ⟨hb, ⟨h1, h2, hK⟩, hh1⟩ := bnd_run he hh h
    cases hxv with
    | sl _ _ _ _ av cap' hs hlc hcc ha =>
      refine hgood av len cap' l hb rfl hl1 hh1 h1 (by omega) (by omega) _ ?_ hK
      refine .sl s (off + l) (hb - l) (cap - l) _ (cap' - l) hs (by omega) (by omega) ?_
      by_cases hcl : cap' = l
      · left; omega
      · right
        obtain ⟨rfl, c, ty, fr, h5, h6⟩ := ha.resolve_left (by omega)
        unfold szOf at hz
        split at hz
        · rename_i sz rows hL
          obtain rfl : sz = n := by simpa using hz
          have h7 := (sim s _ hL).1
          rw [h7] at h6 ⊢
          refine ⟨?_, c, ty, fr, h5, ?_⟩
          · rw [if_neg hcl]; simp only [Option.map_some, add_ptr, Nat.add_mul]; congr 2; omega
          · rw [show off + l + (cap' - l) = off + cap' by omega]; exact h6
        · cases hz
  · rename_i heq
    rw [heq] at hxv
    obtain ⟨l, h, hl1⟩ := bnd_run he hl h
    obtain ⟨hb, ⟨rfl, rfl, hK⟩, hh1⟩ := bnd_run he hh h
    cases hxv with
    | esl av => exact hgood av 0 0 0 0 rfl hl1 hh1 (Nat.le_refl _) (Nat.le_refl _) (Nat.le_refl _) _ (by simpa using VR.esl av) hK
  · rename_i heq
    rw [heq] at hxv
    obtain ⟨l, h, hl1⟩ := bnd_run he hl h
    obtain ⟨hb, ⟨rfl, rfl, hK⟩, hh1⟩ := bnd_run he hh h
    cases hxv with
    | nsl => exact hgood none 0 0 0 0 rfl hl1 hh1 (Nat.le_refl _) (Nat.le_refl _) (Nat.le_refl _) _ (by simpa using VR.nsl) hK
  · exact h.elim

theorem good_slice0 (sim : Sim C) (he : Opds C a e) {t el : TypeId} {x : Operand} {x' : Opd} {n : Nat} {k k' : IntKind} (ho : o.op = .slice t x none (some (.const (.int k 0))) (some (.const (.int k' 0))))
    (ht : E.P.underlying t = some (.slice el)) (hn : sizeT E.P el = some n) (hx : opd x = some x') (h : xop E (.slice0 x') e C.L K) : PureG E C a o K := by
  have hxv := he x x' hx
  simp only [xop] at h
  generalize hxe : a.eval x = xv at hxv
  have hgood : ∀ (b : Option Addr) (len cap : Nat), xv = .slice b len cap → K .esl C.L → PureG E C a o K := by
    rintro b len cap rfl hK
    refine pure_value (s := Instr.sliceAt t (a.eval x) none (some (.int k 0)) (some (.int k' 0))) (by unfold execOp; rw [ho]; rfl) (v := .slice b 0 0) (w' := C.w) ?_ (psame (.esl b) hK)
    rw [hxe]
    unfold Instr.sliceAt
    rw [Sem.run_bind, run_und ht]
    simp only [Result.andThen_ok]
    unfold Instr.slice
    rw [Sem.run_bind, run_und ht]
    simp only [Result.andThen_ok]
    have hsb : (Instr.sliceBounds true len cap none (some (.int k 0)) (some (.int k' 0))).run E.P C.w = .ok (0, 0, 0) C.w := by
      simp [Instr.sliceBounds, Instr.sliceBound, asIntOf]
    rw [Sem.run_bind, hsb]
    simp only [Result.andThen_ok]
    rw [Sem.run_bind, run_sizeOf' hn]
    rfl
  generalize e x' = ex at *
  split at h
  · cases hxv; exact hgood _ _ _ rfl h
  · cases hxv; exact hgood _ _ _ rfl h
  · cases hxv; exact hgood _ _ _ rfl h
  · cases hxv; exact hgood _ _ _ rfl h
  · exact h.elim

theorem vrs_map (he : Opds C a e) {l : List Operand} {l' : List Opd} (h : mapO opd l = some l') :
    (l'.map e).length = (l.map a.eval).length ∧ ∀ (i : Nat) (x : IV), (l'.map e)[i]? = some x → VR C x ((l.map a.eval).getD i undef) := by
  refine ⟨by simp [mapO_len h], fun i x hi => ?_⟩
  rw [List.getElem?_map, Option.map_eq_some_iff] at hi
  obtain ⟨q, hq, rfl⟩ := hi
  obtain ⟨p, h1, h2⟩ := mapO_get h i q hq
  have : (l.map a.eval).getD i undef = a.eval p := getD_getL (by rw [List.getElem?_map, h1]; rfl)
  rw [this]; exact he p q h2

theorem good_mkfn (sim : Sim C) (he : Opds C a e) {f : Fn} {xs ys : Array Operand} {xs' ys' : List Opd} (ho : o.op = .makeFunc f xs ys) (hx : mapO opd xs.toList = some xs') (hy : mapO opd ys.toList = some ys')
    (h : K (.fn f (xs'.map e) (ys'.map e)) C.L) : PureG E C a o K := by
  obtain ⟨h1, h2⟩ := vrs_map he hx
  obtain ⟨h3, h4⟩ := vrs_map he hy
  refine pure_value (s := Instr.makeFunc f (xs.map a.eval) (ys.map a.eval)) (by unfold execOp; rw [ho]) (v := .func f (xs.toList.map a.eval).toArray (ys.toList.map a.eval).toArray) (w' := C.w) ?_ (psame (.fn f _ _ _ _ h1 h3 h2 h4) h)
  unfold Instr.makeFunc
  rw [Sem.run_pure]
  congr 2 <;> (apply Array.ext'; simp)

theorem good_len (sim : Sim C) (he : Opds C a e) {c : Call} {x : Operand} {x' : Opd} {el : TypeId} (ho : o.op = .call c) (hcb : c.callee = .builtin .len) (hargs : c.args.toList = [x])
    (ht : (c.argTypes[0]?).bind E.P.underlying = some (.slice el)) (hx : opd x = some x') (h : xop E (.len x') e C.L K) : PureG E C a o K := by
  have hxv := he x x' hx
  simp only [xop] at h
  have e1 : c.args.map a.eval = #[a.eval x] := by apply Array.ext'; simp [hargs]
  split at h
  · rename_i n hn
    refine pure_value (s := Builtin.len_ c.argTypes o.type #[a.eval x]) (v := .int .i64 n) (w' := C.w) (by
      unfold execOp; rw [ho]; simp only [resolve, hcb]; rw [e1]; rfl) ?_ (psame (.int _ _) h)
    unfold Builtin.len_
    cases ht0 : c.argTypes[0]? with
    | none => rw [ht0] at ht; cases ht
    | some t =>
      rw [ht0] at ht
      simp only [Option.bind_some] at ht
      simp only [List.getElem?_toArray, List.getElem?_cons_zero]
      generalize hxe : a.eval x = xv at hxv
      generalize e x' = ex at *
      cases hxv <;> first
        | (simp only [lenOf, Option.some.injEq] at hn; subst hn; rw [Sem.run_bind, run_und ht]; rfl)
        | cases hn
  · exact h.elim

theorem good_lenS (sim : Sim C) (he : Opds C a e) {c : Call} {x : Operand} {x' : Opd} (ho : o.op = .call c) (hcb : c.callee = .builtin .len) (hargs : c.args.toList = [x])
    (ht : (c.argTypes[0]?).bind E.P.underlying = some .string) (hx : opd x = some x') (h : xop E (.lenS x') e C.L K) : PureG E C a o K := by
  have hxv := he x x' hx
  simp only [xop] at h
  have e1 : c.args.map a.eval = #[a.eval x] := by apply Array.ext'; simp [hargs]
  generalize hxe : a.eval x = xv at hxv
  generalize e x' = ex at *
  split at h
  · rename_i s
    cases hxv
    refine pure_value (s := Builtin.len_ c.argTypes o.type #[a.eval x]) (v := .int .i64 s.length) (w' := C.w) (by
      unfold execOp; rw [ho]; simp only [resolve, hcb]; rw [e1]; rfl) ?_ (psame (.int _ _) h)
    unfold Builtin.len_
    cases ht0 : c.argTypes[0]? with
    | none => rw [ht0] at ht; cases ht
    | some t =>
      rw [ht0] at ht
      simp only [Option.bind_some] at ht
      simp only [List.getElem?_toArray, List.getElem?_cons_zero]
      rw [hxe, Sem.run_bind, run_und ht]; rfl
  · exact h.elim

theorem good_max (sim : Sim C) (he : Opds C a e) {c : Call} {x y : Operand} {x' y' : Opd} (ho : o.op = .call c) (hcb : c.callee = .builtin .max) (hargs : c.args.toList = [x, y])
    (hx : opd x = some x') (hy : opd y = some y') (h : xop E (.max2 x' y') e C.L K) : PureG E C a o K := by
  have hxv := he x x' hx
  have hyv := he y y' hy
  simp only [xop] at h
  have e1 : c.args.map a.eval = #[a.eval x, a.eval y] := by apply Array.ext'; simp [hargs]
  generalize hxe : a.eval x = xv at hxv
  generalize hye : a.eval y = yv at hyv
  generalize e x' = ex at *
  generalize e y' = ey at *
  split at h
  · rename_i k p k' q
    cases hxv; cases hyv
    refine pure_value (s := Builtin.max_ c.argTypes o.type #[a.eval x, a.eval y]) (v := .int k (if q > p then q else p)) (w' := C.w) (by
      unfold execOp; rw [ho]; simp only [resolve, hcb]; rw [e1, hxe, hye]; rfl) ?_ (psame (.int _ _) h)
    rw [hxe, hye]; rfl
  · exact h.elim
theorem good_min (sim : Sim C) (he : Opds C a e) {c : Call} {x y : Operand} {x' y' : Opd} (ho : o.op = .call c) (hcb : c.callee = .builtin .min) (hargs : c.args.toList = [x, y])
    (hx : opd x = some x') (hy : opd y = some y') (h : xop E (.min2 x' y') e C.L K) : PureG E C a o K := by
  have hxv := he x x' hx
  have hyv := he y y' hy
  simp only [xop] at h
  have e1 : c.args.map a.eval = #[a.eval x, a.eval y] := by apply Array.ext'; simp [hargs]
  generalize hxe : a.eval x = xv at hxv
  generalize hye : a.eval y = yv at hyv
  generalize e x' = ex at *
  generalize e y' = ey at *
  split at h
  · rename_i k p k' q
    cases hxv; cases hyv
    refine pure_value (s := Builtin.min_ c.argTypes o.type #[a.eval x, a.eval y]) (v := .int k (if q < p then q else p)) (w' := C.w) (by
      unfold execOp; rw [ho]; simp only [resolve, hcb]; rw [e1, hxe, hye]; rfl) ?_ (psame (.int _ _) h)
    rw [hxe, hye]; rfl
  · exact h.elim

theorem good_nilck (sim : Sim C) (he : Opds C a e) {x : Operand} {x' : Opd} (ho : o.op = .nilCheck x) (hx : opd x = some x') (h : xop E (.nilck x') e C.L K) : PureG E C a o K := by
  have hxv := he x x' hx
  simp only [xop] at h
  generalize hxe : a.eval x = xv at hxv
  have hgood : ∀ r, VR C r (a.eval x) → (execOp a.eval o).run E.P C.w = .ok (.value (a.eval x)) C.w → K r C.L → PureG E C a o K := fun r hr hrun hK => ⟨_, r, hrun, hr, hK⟩
  generalize e x' = ex at *
  split at h
  · cases hxv with
    | ptr s r off hs => exact hgood _ (by rw [hxe]; exact .ptr _ _ _ hs) (by unfold execOp; rw [ho]; simp only [hxe]; rfl) h
  · cases hxv with
    | iptr _ _ _ b base sz vals hsz hcl hb hown ha hv => exact hgood _ (by rw [hxe]; exact .iptr _ _ _ b base sz vals hsz hcl hb hown ha hv) (by unfold execOp; rw [ho]; simp only [hxe]; rfl) h
  · cases hxv with
    | fn _ _ _ va vb ha hb hva hvb => exact hgood _ (by rw [hxe]; exact .fn _ _ _ va vb ha hb hva hvb) (by unfold execOp; rw [ho]; simp only [hxe]; rfl) h
  · cases hxv
    exact hgood _ (by rw [hxe]; exact .raw _ rfl) (by unfold execOp; rw [ho]; simp only [hxe]; rfl) h
  · exact h.elim

theorem good_ext (sim : Sim C) (he : Opds C a e) {t : Operand} {t' : Opd} {i : Nat} (ho : o.op = .extract t i) (ht : opd t = some t') (h : xop E (.ext t' i) e C.L K) : PureG E C a o K := by
  have hxv := he t t' ht
  simp only [xop] at h
  generalize hxe : a.eval t = xv at hxv
  generalize e t' = ex at *
  split at h
  · rename_i cs
    cases hxv with
    | tup _ vs hl hv =>
    have h3 := hv i _ (getD_get (d := .und) h.1)
    refine pure_value (s := Instr.extract (a.eval t) i) (by unfold execOp; rw [ho]) (v := vs.getD i undef) (w' := C.w) ?_ (psame h3 h.2)
    rw [hxe]
    unfold Instr.extract
    have : vs.toArray[i]? = some (vs.getD i undef) := by rw [List.getElem?_toArray]; exact getD_get (by omega)
    simp only [this]; rfl
  · exact h.elim

theorem good_call (wf : Wf E.g0 C) (sim : Sim C) (hG : E.G C.w) (he : Opds C a e) {c : Call} {f : Operand} {f' : Opd} {as : List Opd} (ho : o.op = .call c) (hcb : c.callee = .value f) (hf : opd f = some f') (has : mapO opd c.args.toList = some as)
    (h : xop E (.call f' as) e C.L K) : Good E C a o K := by
  have hfv := he f f' hf
  obtain ⟨h1, h2⟩ := vrs_map he has
  simp only [xop] at h
  generalize hfe : a.eval f = fv at hfv
  generalize e f' = ef at *
  split at h
  · rename_i n p q
    cases hfv with
    | fn _ _ _ va vb ha hb hva hvb =>
    have hlen : (p ++ as.map e ++ q).length = (va ++ c.args.toList.map a.eval ++ vb).length := by
      simp only [List.length_append, h1, ha, hb]
    have hargs : ∀ (i : Nat) (x : IV), (p ++ as.map e ++ q)[i]? = some x → VR C x ((va ++ c.args.toList.map a.eval ++ vb).getD i undef) := by
      intro i x hi
      rw [List.getD_eq_getElem?_getD]
      have lx : ∀ {l : List IV} {v : List Value} {j : Nat}, (∀ (i : Nat) (x : IV), l[i]? = some x → VR C x (v.getD i undef)) → l.length = v.length → l[j]? = some x → VR C x (v[j]?.getD undef) := fun hl hll hj => by
        have := hl _ _ hj; rwa [List.getD_eq_getElem?_getD] at this
      rcases Nat.lt_or_ge i (p ++ as.map e).length with h5 | h5
      · rw [List.getElem?_append_left h5] at hi
        rw [List.getElem?_append_left (by rw [List.length_append] at h5 ⊢; omega)]
        rcases Nat.lt_or_ge i p.length with h6 | h6
        · rw [List.getElem?_append_left h6] at hi
          rw [List.getElem?_append_left (by omega)]
          exact lx hva ha hi
        · rw [List.getElem?_append_right h6] at hi
          rw [List.getElem?_append_right (by omega), ← ha]
          exact lx h2 h1 hi
      · rw [List.getElem?_append_right h5] at hi
        rw [List.getElem?_append_right (by rw [List.length_append] at h5 ⊢; omega)]
        have e2 : (va ++ c.args.toList.map a.eval).length = (p ++ as.map e).length := by simp only [List.length_append, ha, h1]
        rw [e2]
        exact lx hvb hb hi
    have e3 : va.toArray ++ Array.map a.eval c.args ++ vb.toArray = (va ++ c.args.toList.map a.eval ++ vb).toArray := by
      apply Array.ext'; simp
    rcases h with h | ⟨r, h, hk⟩
    case inr =>
      obtain ⟨v, hv1, hv2⟩ := h C _ hG hlen hargs
      refine .inl ⟨v, C.w, ?_, post_same wf sim hv2 hk⟩
      unfold execOp
      rw [ho]
      simp only [resolve, hcb, hfe, Deferred.ofValue]
      rw [Sem.run_bind, Sem.run_pure]
      simp only [Result.andThen_ok, invoke]
      rw [e3]
      exact hv1
    obtain ⟨⟨fn, hfn, hnm, hbody⟩, hcall⟩ := xcall_sound (C := C) (vs := va ++ c.args.toList.map a.eval ++ vb) wf sim hG hlen hargs h
    refine .inr (.inr (.inl ⟨n, (va ++ c.args.toList.map a.eval ++ vb).toArray, C.w, ?_, hcall⟩))
    unfold execOp
    rw [ho]
    simp only [resolve, hcb, hfe, Deferred.ofValue]
    rw [Sem.run_bind, Sem.run_pure]
    simp only [Result.andThen_ok, invoke]
    rw [e3]
    unfold callFunc
    rw [Sem.run_bind, run_program]
    simp only [Result.andThen_ok, hfn]
    have hnm' : (fn.name == "runtime.NumGoroutine") = false := by simpa using hnm
    simp only [hnm', Bool.false_eq_true, if_false, hbody]
    rfl
  · rename_i s
    cases hfv with
    | yld _ hs =>
    obtain ⟨fn, tmps, asg, body, h3, h4⟩ := E.hyl C s (as.map e) (c.args.toList.map a.eval) _ wf sim hG h1 h2 h
    refine .inr (.inr (.inr ⟨_, fn, tmps, asg, body, C.w, ?_, h4⟩))
    unfold execOp
    rw [ho]
    simp only [resolve, hcb, hfe, Deferred.ofValue]
    rw [Sem.run_bind, Sem.run_pure]
    simp only [Result.andThen_ok, invoke]
    rw [← h3]
    congr 1
    congr 1
    apply Array.ext'; simp
  · exact h.elim

/-- ALL TOGETHER. -/
theorem xop_sound (wf : Wf E.g0 C) (sim : Sim C) (hG : E.G C.w) (he : Opds C a e) {x : XO} (hc : compOp E.P o.op = some x) (h : xop E x e C.L K) : Good E C a o K := by
  cases ho : o.op <;> rw [ho] at hc <;> simp only [compOp] at hc <;> try (cases hc; done)
  case move x =>
    simp only [Option.map_eq_some_iff] at hc; obtain ⟨q, hq, rfl⟩ := hc
    exact (good_move sim he (.inl ho) hq h).good wf sim
  case assign x =>
    simp only [Option.map_eq_some_iff] at hc; obtain ⟨q, hq, rfl⟩ := hc
    exact (good_move sim he (.inr ho) hq h).good wf sim
  case pick c x y =>
    simp only [Option.bind_eq_some_iff, Option.map_eq_some_iff] at hc
    obtain ⟨c', hc', x', hx', y', hy', rfl⟩ := hc
    simp only [xop] at h
    split at h
    · rename_i t ht; exact (good_pick sim he ho hc' hx' hy' ht h).good wf sim
    · exact h.elim
  case alloc t =>
    simp only [Option.map_eq_some_iff] at hc; obtain ⟨z, hz, rfl⟩ := hc
    exact good_alloc wf sim ho hz h
  case box t x =>
    simp only [Option.map_eq_some_iff] at hc; obtain ⟨q, hq, rfl⟩ := hc
    exact good_box wf sim he ho hq h
  case build t ps =>
    split at hc
    · rename_i fs ht
      simp only [Option.bind_eq_some_iff] at hc
      obtain ⟨z, hz, qs, hq, hc⟩ := hc
      split at hc
      · rename_i hfs
        simp only [Option.some.injEq] at hc; subst hc
        simp only [xop] at h
        split at h
        · rename_i cs hcs
          exact (good_build_struct sim he ho ht hz (by simpa only [Option.bind_eq_some_iff, Option.map_eq_some_iff] using hq) hfs hcs h).good wf sim
        · exact h.elim
      · cases hc
    · rename_i m el ht
      simp only [Option.bind_eq_some_iff, Option.map_eq_some_iff] at hc
      obtain ⟨z, hz, n, hn, qs, hq, rfl⟩ := hc
      simp only [xop] at h
      split at h
      · rename_i cs hcs
        exact (good_build_array sim he ho ht hz hn hq hcs h).good wf sim
      · exact h.elim
    · cases hc
  case buildSlice t len ps =>
    split at hc
    · rename_i el ht
      simp only [Option.bind_eq_some_iff] at hc
      obtain ⟨n, hn, z, hz, qs, hq, hc⟩ := hc
      split at hc
      · rename_i hcond
        simp only [Option.some.injEq] at hc; subst hc
        simp only [xop] at h
        obtain ⟨_, h⟩ := h
        split at h
        · rename_i rows hrows
          exact good_bslice wf sim he ho ht hn hz hq hcond.1 hcond.2.1 hcond.2.2 hrows h
        · exact h.elim
      · cases hc
    · cases hc
  case load t x =>
    simp only [Option.bind_eq_some_iff, Option.map_eq_some_iff] at hc
    obtain ⟨g, hg, n, hn, q, hq, rfl⟩ := hc
    cases g
    · simp only [Bool.false_eq_true, if_false, xop] at h
      split at h
      · rename_i rows r off hr
        exact (good_load1 sim hG he ho hq hg hr h.1 h.2.1 h.2.2).good wf sim
      · exact h.elim
    · simp only [if_true, xop] at h
      split at h
      · rename_i rows r off hr
        exact (good_loadN sim hG he ho hq hg hn hr h.1 h.2.1 h.2.2).good wf sim
      · exact h.elim
  case store t p x =>
    simp only [Option.bind_eq_some_iff, Option.map_eq_some_iff] at hc
    obtain ⟨g, hg, n, hn, p', hp, x', hx, rfl⟩ := hc
    simp only [xop] at h
    split at h
    · rename_i s r off hs
      split at h
      · rename_i sz rows hL
        exact good_store wf sim he ho hp hx hn hs hL h.1 h.2.1 h.2.2.1 h.2.2.2.1 h.2.2.2.2
      · exact h.elim
    · exact h.elim
  case nilCheck x =>
    simp only [Option.map_eq_some_iff] at hc; obtain ⟨q, hq, rfl⟩ := hc
    exact (good_nilck sim he ho hq h).good wf sim
  case binOp op t x y ty =>
    split at hc
    · rename_i ht
      simp only [Option.bind_eq_some_iff, Option.map_eq_some_iff] at hc
      obtain ⟨x', hx, y', hy, rfl⟩ := hc
      exact (good_bin sim he ho ht hx hy h).good wf sim
    · split at hc
      · rename_i ht
        simp only [Option.bind_eq_some_iff, Option.map_eq_some_iff] at hc
        obtain ⟨x', hx, y', hy, rfl⟩ := hc
        exact (good_eqB sim he ho rfl (by assumption) hx hy h).good wf sim
      · rename_i ht
        simp only [Option.bind_eq_some_iff, Option.map_eq_some_iff] at hc
        obtain ⟨x', hx, y', hy, rfl⟩ := hc
        exact (good_eqB sim he ho rfl (by assumption) hx hy h).good wf sim
      · simp only [Option.bind_eq_some_iff, Option.map_eq_some_iff] at hc
        obtain ⟨k, hk, x', hx, rfl⟩ := hc
        exact (good_isNil sim he ho rfl hk hx h).good wf sim
      · simp only [Option.bind_eq_some_iff, Option.map_eq_some_iff] at hc
        obtain ⟨k, hk, x', hx, rfl⟩ := hc
        exact (good_isNil sim he ho rfl hk hx h).good wf sim
      · cases hc
  case range t x =>
    split at hc
    · rename_i ht
      simp only [Option.map_eq_some_iff] at hc; obtain ⟨q, hq, rfl⟩ := hc
      exact good_rng wf sim he ho ht hq h
    · cases hc
  case next x b =>
    cases b
    · cases hc
    · simp only [if_true, Option.map_eq_some_iff] at hc; obtain ⟨q, hq, rfl⟩ := hc
      exact good_nxt wf sim he ho hq h
  case unOp op t x =>
    simp only [Option.map_eq_some_iff] at hc; obtain ⟨q, hq, rfl⟩ := hc
    exact (good_un sim he ho hq h).good wf sim
  case convert s d x =>
    split at hc
    · rename_i k0 k hs hd
      simp only [Option.map_eq_some_iff] at hc; obtain ⟨q, hq, rfl⟩ := hc
      simp only [xop] at h
      split at h
      · rename_i k1 n h1; exact (good_cvInt sim he ho hs hd hq h1 h).good wf sim
      · exact h.elim
    · rename_i k0 hs hd
      simp only [Option.map_eq_some_iff] at hc; obtain ⟨q, hq, rfl⟩ := hc
      simp only [xop] at h
      split at h
      · rename_i k1 n h1; exact (good_cvIntStr sim he ho hs hd hq h1 h).good wf sim
      · exact h.elim
    · rename_i hs hd
      simp only [Option.map_eq_some_iff] at hc; obtain ⟨q, hq, rfl⟩ := hc
      simp only [xop] at h
      split at h
      · rename_i l h1; exact (good_cvStr sim he ho hs hd hq h1 h).good wf sim
      · exact h.elim
    · cases hc
  case fieldAddr s x f =>
    split at hc
    · rename_i fs hs
      simp only [Option.bind_eq_some_iff] at hc
      obtain ⟨g, hg, n, hn, hc⟩ := hc
      split at hc
      · cases hc
      · rename_i hn0
        simp only [Option.map_eq_some_iff] at hc; obtain ⟨q, hq, rfl⟩ := hc
        exact (good_fldA sim he ho hs hg hn hn0 hq h).good wf sim
    · cases hc
  case field s x f =>
    split at hc
    · rename_i fs hs
      simp only [Option.bind_eq_some_iff, Option.map_eq_some_iff] at hc
      obtain ⟨g, hg, n, hn, b, hb, q, hq, rfl⟩ := hc
      exact (good_fld sim he ho hs hg hn hb hq h).good wf sim
    · cases hc
  case indexAddr t x i =>
    split at hc
    · rename_i el ht
      simp only [Option.bind_eq_some_iff] at hc
      obtain ⟨n, hn, hc⟩ := hc
      split at hc
      · cases hc
      · simp only [Option.bind_eq_some_iff, Option.map_eq_some_iff] at hc
        obtain ⟨x', hx, i', hi, rfl⟩ := hc
        exact (good_idxS sim he ho ht hn hx hi h).good wf sim
    · rename_i m el ht
      simp only [Option.bind_eq_some_iff, Option.map_eq_some_iff] at hc
      obtain ⟨n, hn, x', hx, i', hi, rfl⟩ := hc
      exact (good_idxA sim he ho ht hn hx hi h).good wf sim
    · cases hc
  case index t x i =>
    split at hc
    · rename_i ht
      simp only [Option.bind_eq_some_iff, Option.map_eq_some_iff] at hc
      obtain ⟨x', hx, i', hi, rfl⟩ := hc
      exact (good_idx sim he ho ht hx hi h).good wf sim
    · cases hc
  case slice t x lo hi mx =>
    unfold compSlice at hc
    split at hc
    · split at hc
      · rename_i ht
        simp only [Option.bind_eq_some_iff, Option.map_eq_some_iff] at hc
        obtain ⟨x', hx, l, hl, hh, hhi, rfl⟩ := hc
        simp only [xop] at h
        split at h
        · rename_i s hs
          exact (good_slice_str sim he ho ht hx hl hhi hs h).good wf sim
        · exact h.elim
      · rename_i el ht
        simp only [Option.bind_eq_some_iff] at hc
        obtain ⟨n, hn, hc⟩ := hc
        split at hc
        · cases hc
        · simp only [Option.bind_eq_some_iff, Option.map_eq_some_iff] at hc
          obtain ⟨x', hx, l, hl, hh, hhi, rfl⟩ := hc
          exact (good_slice sim he ho ht hn hx hl hhi h).good wf sim
      · cases hc
    · rename_i m
      split at hc
      · rename_i el ht
        simp only [Option.bind_eq_some_iff] at hc
        obtain ⟨n, hn, hc⟩ := hc
        split at hc
        · rename_i hcond
          simp only [Bool.and_eq_true] at hcond
          obtain ⟨⟨h1, h2⟩, h3⟩ := hcond
          simp only [Option.map_eq_some_iff] at hc; obtain ⟨q, hq, rfl⟩ := hc
          unfold isNought at h1 h2
          split at h1
          · rename_i k1 hk1
            split at h2
            · rename_i k2 hk2
              cases lo with
              | some l => cases h3
              | none => rw [hk1] at ho; exact (good_slice0 sim he ho ht hn hq h).good wf sim
            · cases h2
          · cases h1
        · cases hc
      · cases hc
  case makeFunc f xs ys =>
    simp only [Option.bind_eq_some_iff, Option.map_eq_some_iff] at hc
    obtain ⟨xs', hx, ys', hy, rfl⟩ := hc
    exact (good_mkfn sim he ho hx hy h).good wf sim
  case makeSlice t l c =>
    split at hc
    · rename_i el ht
      simp only [Option.bind_eq_some_iff] at hc
      obtain ⟨n, hn, z, hz, m, hm, l', hl, c', hc', hc⟩ := hc
      split at hc
      · rename_i hcond
        simp only [Option.some.injEq] at hc; subst hc
        simp only [xop] at h
        split at h
        · rename_i k1 n1 k2 n2 h1 h2
          exact good_mkslice wf sim he ho ht hn hz hm hl hc' hcond.1 hcond.2 h1 h2 h.1 h.2.1 h.2.2.1 h.2.2.2.1 h.2.2.2.2
        · exact h.elim
      · cases hc
    · cases hc
  case extract t i =>
    simp only [Option.map_eq_some_iff] at hc; obtain ⟨q, hq, rfl⟩ := hc
    exact (good_ext sim he ho hq h).good wf sim
  case call c =>
    unfold compCall at hc
    split at hc
    · rename_i f hcb
      simp only [Option.bind_eq_some_iff, Option.map_eq_some_iff] at hc
      obtain ⟨f', hf, as, has, rfl⟩ := hc
      exact good_call wf sim hG he ho hcb hf has h
    · rename_i hcb
      split at hc
      · rename_i x hargs ht
        simp only [Option.map_eq_some_iff] at hc; obtain ⟨q, hq, rfl⟩ := hc
        exact (good_lenS sim he ho hcb hargs ht hq h).good wf sim
      · rename_i x el hargs ht
        simp only [Option.map_eq_some_iff] at hc; obtain ⟨q, hq, rfl⟩ := hc
        exact (good_len sim he ho hcb hargs ht hq h).good wf sim
      · cases hc
    · rename_i hcb
      split at hc
      · rename_i s x el el2 hargs h1 h2
        simp only [Option.bind_eq_some_iff] at hc
        obtain ⟨s', hs, x', hx, n, hn, m, hm, z, hz, hc⟩ := hc
        split at hc
        · rename_i hcond
          simp only [Option.some.injEq] at hc; subst hc
          exact good_append wf sim he ho hcb hargs h1 ⟨_, h2, fun k h => by cases h⟩ hs hx hn hm hz hcond.1 hcond.2.1 hcond.2.2 h
        · cases hc
      · rename_i s x el hargs h1 h2
        simp only [Option.bind_eq_some_iff] at hc
        obtain ⟨s', hs, x', hx, n, hn, m, hm, z, hz, hc⟩ := hc
        split at hc
        · rename_i hcond
          simp only [Option.some.injEq] at hc; subst hc
          exact good_append wf sim he ho hcb hargs h1 ⟨_, h2, fun k h => by cases h⟩ hs hx hn hm hz hcond.1 hcond.2.1 hcond.2.2 h
        · cases hc
      · cases hc
    · rename_i hcb
      split at hc
      · rename_i x y hargs
        simp only [Option.bind_eq_some_iff, Option.map_eq_some_iff] at hc
        obtain ⟨x', hx, y', hy, rfl⟩ := hc
        exact (good_max sim he ho hcb hargs hx hy h).good wf sim
      · cases hc
    · rename_i hcb
      split at hc
      · rename_i x y hargs
        simp only [Option.bind_eq_some_iff, Option.map_eq_some_iff] at hc
        obtain ⟨x', hx, y', hy, rfl⟩ := hc
        exact (good_min sim he ho hcb hargs hx hy h).good wf sim
      · cases hc
    · cases hc

/-- WHAT READS ALONE. -/
theorem xop_pure (sim : Sim C) (hG : E.G C.w) (he : Opds C a e) {x : XO} (hc : compOp E.P o.op = some x) (hq0 : x.quiet = true) (h : xop E x e C.L K) : PureG E C a o K := by
  cases ho : o.op <;> rw [ho] at hc <;> simp only [compOp] at hc <;> try (cases hc; done)
  case move x =>
    simp only [Option.map_eq_some_iff] at hc; obtain ⟨q, hq, rfl⟩ := hc
    exact good_move sim he (.inl ho) hq h
  case assign x =>
    simp only [Option.map_eq_some_iff] at hc; obtain ⟨q, hq, rfl⟩ := hc
    exact good_move sim he (.inr ho) hq h
  case pick c x y =>
    simp only [Option.bind_eq_some_iff, Option.map_eq_some_iff] at hc
    obtain ⟨c', hc', x', hx', y', hy', rfl⟩ := hc
    simp only [xop] at h
    split at h
    · rename_i t ht; exact good_pick sim he ho hc' hx' hy' ht h
    · exact h.elim
  case alloc t =>
    simp only [Option.map_eq_some_iff] at hc; obtain ⟨z, hz, rfl⟩ := hc
    exact Bool.noConfusion (show false = true from hq0)
  case box t x =>
    simp only [Option.map_eq_some_iff] at hc; obtain ⟨q, hq, rfl⟩ := hc
    exact Bool.noConfusion (show false = true from hq0)
  case build t ps =>
    split at hc
    · rename_i fs ht
      simp only [Option.bind_eq_some_iff] at hc
      obtain ⟨z, hz, qs, hq, hc⟩ := hc
      split at hc
      · rename_i hfs
        simp only [Option.some.injEq] at hc; subst hc
        simp only [xop] at h
        split at h
        · rename_i cs hcs
          exact good_build_struct sim he ho ht hz (by simpa only [Option.bind_eq_some_iff, Option.map_eq_some_iff] using hq) hfs hcs h
        · exact h.elim
      · cases hc
    · rename_i m el ht
      simp only [Option.bind_eq_some_iff, Option.map_eq_some_iff] at hc
      obtain ⟨z, hz, n, hn, qs, hq, rfl⟩ := hc
      simp only [xop] at h
      split at h
      · rename_i cs hcs
        exact good_build_array sim he ho ht hz hn hq hcs h
      · exact h.elim
    · cases hc
  case buildSlice t len ps =>
    split at hc
    · rename_i el ht
      simp only [Option.bind_eq_some_iff] at hc
      obtain ⟨n, hn, z, hz, qs, hq, hc⟩ := hc
      split at hc
      · rename_i hcond
        simp only [Option.some.injEq] at hc; subst hc
        simp only [xop] at h
        obtain ⟨_, h⟩ := h
        split at h
        · rename_i rows hrows
          exact Bool.noConfusion (show false = true from hq0)
        · exact h.elim
      · cases hc
    · cases hc
  case load t x =>
    simp only [Option.bind_eq_some_iff, Option.map_eq_some_iff] at hc
    obtain ⟨g, hg, n, hn, q, hq, rfl⟩ := hc
    cases g
    · simp only [Bool.false_eq_true, if_false, xop] at h
      split at h
      · rename_i rows r off hr
        exact good_load1 sim hG he ho hq hg hr h.1 h.2.1 h.2.2
      · exact h.elim
    · simp only [if_true, xop] at h
      split at h
      · rename_i rows r off hr
        exact good_loadN sim hG he ho hq hg hn hr h.1 h.2.1 h.2.2
      · exact h.elim
  case store t p x =>
    simp only [Option.bind_eq_some_iff, Option.map_eq_some_iff] at hc
    obtain ⟨g, hg, n, hn, p', hp, x', hx, rfl⟩ := hc
    simp only [xop] at h
    split at h
    · rename_i s r off hs
      split at h
      · rename_i sz rows hL
        exact Bool.noConfusion (show false = true from hq0)
      · exact h.elim
    · exact h.elim
  case nilCheck x =>
    simp only [Option.map_eq_some_iff] at hc; obtain ⟨q, hq, rfl⟩ := hc
    exact good_nilck sim he ho hq h
  case binOp op t x y ty =>
    split at hc
    · rename_i ht
      simp only [Option.bind_eq_some_iff, Option.map_eq_some_iff] at hc
      obtain ⟨x', hx, y', hy, rfl⟩ := hc
      exact good_bin sim he ho ht hx hy h
    · split at hc
      · rename_i ht
        simp only [Option.bind_eq_some_iff, Option.map_eq_some_iff] at hc
        obtain ⟨x', hx, y', hy, rfl⟩ := hc
        exact good_eqB sim he ho rfl (by assumption) hx hy h
      · rename_i ht
        simp only [Option.bind_eq_some_iff, Option.map_eq_some_iff] at hc
        obtain ⟨x', hx, y', hy, rfl⟩ := hc
        exact good_eqB sim he ho rfl (by assumption) hx hy h
      · simp only [Option.bind_eq_some_iff, Option.map_eq_some_iff] at hc
        obtain ⟨k, hk, x', hx, rfl⟩ := hc
        exact Bool.noConfusion (show false = true from hq0)
      · simp only [Option.bind_eq_some_iff, Option.map_eq_some_iff] at hc
        obtain ⟨k, hk, x', hx, rfl⟩ := hc
        exact Bool.noConfusion (show false = true from hq0)
      · cases hc
  case range t x =>
    split at hc
    · simp only [Option.map_eq_some_iff] at hc; obtain ⟨q, hq, rfl⟩ := hc
      exact Bool.noConfusion (show false = true from hq0)
    · cases hc
  case next x b =>
    cases b
    · cases hc
    · simp only [if_true, Option.map_eq_some_iff] at hc; obtain ⟨q, hq, rfl⟩ := hc
      exact Bool.noConfusion (show false = true from hq0)
  case unOp op t x =>
    simp only [Option.map_eq_some_iff] at hc; obtain ⟨q, hq, rfl⟩ := hc
    exact good_un sim he ho hq h
  case convert s d x =>
    split at hc
    · rename_i k0 k hs hd
      simp only [Option.map_eq_some_iff] at hc; obtain ⟨q, hq, rfl⟩ := hc
      simp only [xop] at h
      split at h
      · rename_i k1 n h1; exact good_cvInt sim he ho hs hd hq h1 h
      · exact h.elim
    · rename_i k0 hs hd
      simp only [Option.map_eq_some_iff] at hc; obtain ⟨q, hq, rfl⟩ := hc
      simp only [xop] at h
      split at h
      · rename_i k1 n h1; exact good_cvIntStr sim he ho hs hd hq h1 h
      · exact h.elim
    · rename_i hs hd
      simp only [Option.map_eq_some_iff] at hc; obtain ⟨q, hq, rfl⟩ := hc
      simp only [xop] at h
      split at h
      · rename_i l h1; exact good_cvStr sim he ho hs hd hq h1 h
      · exact h.elim
    · cases hc
  case fieldAddr s x f =>
    split at hc
    · rename_i fs hs
      simp only [Option.bind_eq_some_iff] at hc
      obtain ⟨g, hg, n, hn, hc⟩ := hc
      split at hc
      · cases hc
      · rename_i hn0
        simp only [Option.map_eq_some_iff] at hc; obtain ⟨q, hq, rfl⟩ := hc
        exact good_fldA sim he ho hs hg hn hn0 hq h
    · cases hc
  case field s x f =>
    split at hc
    · rename_i fs hs
      simp only [Option.bind_eq_some_iff, Option.map_eq_some_iff] at hc
      obtain ⟨g, hg, n, hn, b, hb, q, hq, rfl⟩ := hc
      exact good_fld sim he ho hs hg hn hb hq h
    · cases hc
  case indexAddr t x i =>
    split at hc
    · rename_i el ht
      simp only [Option.bind_eq_some_iff] at hc
      obtain ⟨n, hn, hc⟩ := hc
      split at hc
      · cases hc
      · simp only [Option.bind_eq_some_iff, Option.map_eq_some_iff] at hc
        obtain ⟨x', hx, i', hi, rfl⟩ := hc
        exact good_idxS sim he ho ht hn hx hi h
    · rename_i m el ht
      simp only [Option.bind_eq_some_iff, Option.map_eq_some_iff] at hc
      obtain ⟨n, hn, x', hx, i', hi, rfl⟩ := hc
      exact good_idxA sim he ho ht hn hx hi h
    · cases hc
  case index t x i =>
    split at hc
    · rename_i ht
      simp only [Option.bind_eq_some_iff, Option.map_eq_some_iff] at hc
      obtain ⟨x', hx, i', hi, rfl⟩ := hc
      exact good_idx sim he ho ht hx hi h
    · cases hc
  case slice t x lo hi mx =>
    unfold compSlice at hc
    split at hc
    · split at hc
      · rename_i ht
        simp only [Option.bind_eq_some_iff, Option.map_eq_some_iff] at hc
        obtain ⟨x', hx, l, hl, hh, hhi, rfl⟩ := hc
        simp only [xop] at h
        split at h
        · rename_i s hs
          exact good_slice_str sim he ho ht hx hl hhi hs h
        · exact h.elim
      · rename_i el ht
        simp only [Option.bind_eq_some_iff] at hc
        obtain ⟨n, hn, hc⟩ := hc
        split at hc
        · cases hc
        · simp only [Option.bind_eq_some_iff, Option.map_eq_some_iff] at hc
          obtain ⟨x', hx, l, hl, hh, hhi, rfl⟩ := hc
          exact good_slice sim he ho ht hn hx hl hhi h
      · cases hc
    · rename_i m
      split at hc
      · rename_i el ht
        simp only [Option.bind_eq_some_iff] at hc
        obtain ⟨n, hn, hc⟩ := hc
        split at hc
        · rename_i hcond
          simp only [Bool.and_eq_true] at hcond
          obtain ⟨⟨h1, h2⟩, h3⟩ := hcond
          simp only [Option.map_eq_some_iff] at hc; obtain ⟨q, hq, rfl⟩ := hc
          unfold isNought at h1 h2
          split at h1
          · rename_i k1 hk1
            split at h2
            · rename_i k2 hk2
              cases lo with
              | some l => cases h3
              | none => rw [hk1] at ho; exact good_slice0 sim he ho ht hn hq h
            · cases h2
          · cases h1
        · cases hc
      · cases hc
  case makeFunc f xs ys =>
    simp only [Option.bind_eq_some_iff, Option.map_eq_some_iff] at hc
    obtain ⟨xs', hx, ys', hy, rfl⟩ := hc
    exact good_mkfn sim he ho hx hy h
  case makeSlice t l c =>
    split at hc
    · rename_i el ht
      simp only [Option.bind_eq_some_iff] at hc
      obtain ⟨n, hn, z, hz, m, hm, l', hl, c', hc', hc⟩ := hc
      split at hc
      · rename_i hcond
        simp only [Option.some.injEq] at hc; subst hc
        simp only [xop] at h
        split at h
        · rename_i k1 n1 k2 n2 h1 h2
          exact Bool.noConfusion (show false = true from hq0)
        · exact h.elim
      · cases hc
    · cases hc
  case extract t i =>
    simp only [Option.map_eq_some_iff] at hc; obtain ⟨q, hq, rfl⟩ := hc
    exact good_ext sim he ho hq h
  case call c =>
    unfold compCall at hc
    split at hc
    · rename_i f hcb
      simp only [Option.bind_eq_some_iff, Option.map_eq_some_iff] at hc
      obtain ⟨f', hf, as, has, rfl⟩ := hc
      exact Bool.noConfusion (show false = true from hq0)
    · rename_i hcb
      split at hc
      · rename_i x hargs ht
        simp only [Option.map_eq_some_iff] at hc; obtain ⟨q, hq, rfl⟩ := hc
        exact good_lenS sim he ho hcb hargs ht hq h
      · rename_i x el hargs ht
        simp only [Option.map_eq_some_iff] at hc; obtain ⟨q, hq, rfl⟩ := hc
        exact good_len sim he ho hcb hargs ht hq h
      · cases hc
    · rename_i hcb
      split at hc
      · rename_i s x el el2 hargs h1 h2
        simp only [Option.bind_eq_some_iff] at hc
        obtain ⟨s', hs, x', hx, n, hn, m, hm, z, hz, hc⟩ := hc
        split at hc
        · rename_i hcond
          simp only [Option.some.injEq] at hc; subst hc
          exact Bool.noConfusion (show false = true from hq0)
        · cases hc
      · rename_i s x el hargs h1 h2
        simp only [Option.bind_eq_some_iff] at hc
        obtain ⟨s', hs, x', hx, n, hn, m, hm, z, hz, hc⟩ := hc
        split at hc
        · rename_i hcond
          simp only [Option.some.injEq] at hc; subst hc
          exact Bool.noConfusion (show false = true from hq0)
        · cases hc
      · cases hc
    · rename_i hcb
      split at hc
      · rename_i x y hargs
        simp only [Option.bind_eq_some_iff, Option.map_eq_some_iff] at hc
        obtain ⟨x', hx, y', hy, rfl⟩ := hc
        exact good_max sim he ho hcb hargs hx hy h
      · cases hc
    · rename_i hcb
      split at hc
      · rename_i x y hargs
        simp only [Option.bind_eq_some_iff, Option.map_eq_some_iff] at hc
        obtain ⟨x', hx, y', hy, rfl⟩ := hc
        exact good_min sim he ho hcb hargs hx hy h
      · cases hc
    · cases hc


end
end Go.X
