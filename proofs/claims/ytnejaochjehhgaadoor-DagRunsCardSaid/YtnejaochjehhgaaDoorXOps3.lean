/- The calculus X, part 9: each operation does what its short form says (3): what builds. -/
import Derived.Test.YtnejaochjehhgaaDoorXOps2
set_option linter.unusedVariables false
set_option linter.unusedSimpArgs false
set_option linter.unusedSectionVars false
namespace Go.X
open Go

theorem foldl_seg (cs : List Value) : ∀ (off k : Nat) (c : Array Value), off + k + cs.length ≤ c.size →
    (cs.zipIdx k).foldl (fun a (x : Value × Nat) => a.setIfInBounds (off + x.2) x.1) c = seg c (off + k) cs := by
  induction cs with
  | nil => intro off k c h; simp [seg]
  | cons v r ih =>
    intro off k c h
    simp only [List.length_cons] at h
    rw [List.zipIdx_cons, List.foldl_cons, show k + 1 = k + 1 from rfl, ih off (k + 1) _ (by rw [Array.size_setIfInBounds]; omega)]
    apply Array.ext_getElem?
    intro i
    rw [seg_get (by rw [Array.size_setIfInBounds]; omega), seg_get (by simp only [List.length_cons]; omega), Array.getElem?_setIfInBounds]
    simp only [List.length_cons]
    by_cases h1 : i = off + k
    · subst h1
      rw [if_neg (by omega), if_pos rfl, if_pos (by omega), if_pos ⟨by omega, by omega⟩]
      simp
    · by_cases h2 : off + k < i ∧ i < off + k + (r.length + 1)
      · rw [if_pos ⟨by omega, by omega⟩, if_pos ⟨by omega, by omega⟩]
        have : i - (off + k) = (i - (off + (k + 1))) + 1 := by omega
        rw [this, List.getElem?_cons_succ]
      · rw [if_neg (by omega), if_neg (by omega), if_neg (by omega)]

theorem fill_fold (c : Array Value) (off : Nat) (vs : Array Value) (h : off + vs.size ≤ c.size) :
    vs.zipIdx.foldl (fun cs (x : Value × Nat) => cs.setIfInBounds (off + x.2) x.1) c = seg c off vs.toList := by
  rw [← Array.foldl_toList, Array.toList_zipIdx]
  have := foldl_seg vs.toList off 0 c (by simpa using h)
  simpa using this

def Row (C : Ctx) (zs : List IV) (c : Array Value) : Prop := zs.length = c.size ∧ ∀ (j : Nat) (x : IV), zs[j]? = some x → ∃ u, c[j]? = some u ∧ VR C x u

theorem row_splice {C : Ctx} {zs : List IV} {c : Array Value} (h : Row C zs c) {off : Nat} {xs : List IV} {vs : List Value} (hl : xs.length = vs.length) (hle : off + xs.length ≤ zs.length)
    (hx : ∀ (i : Nat) (x : IV), xs[i]? = some x → ∃ v, vs[i]? = some v ∧ VR C x v) : Row C (splice zs off xs) (seg c off vs) := by
  have hle' : off + vs.length ≤ c.size := by rw [← h.1, ← hl]; exact hle
  refine ⟨by rw [splice_len hle, seg_size hle']; exact h.1, fun j x hj => ?_⟩
  rw [splice_get (by omega)] at hj
  rw [seg_get hle']
  split at hj
  · rename_i h1
    rw [if_pos (by omega)]
    exact hx _ x hj
  · rename_i h1
    rw [if_neg (by omega)]
    exact h.2 j x hj

theorem fill_sound {C : Ctx} {place : Nat → Option (Nat × Nat)} : ∀ (ps : List (Nat × Value)) (qs : List (Nat × Nat × IV)) (zs cs : List IV) (c : Array Value), Row C zs c → xfill zs qs = some cs →
    ps.length = qs.length → (∀ (i : Nat) q, qs[i]? = some q → ∃ p, ps[i]? = some p ∧ place p.1 = some (q.1, q.2.1) ∧ VR C q.2.2 p.2) →
    ∃ c', Instr.fill place c ps = some c' ∧ Row C cs c'
  | [], [], zs, cs, c, hr, hf, _, _ => by
    simp only [xfill, Option.some.injEq] at hf; subst hf
    exact ⟨c, rfl, hr⟩
  | [], q :: qs, _, _, _, _, _, hl, _ => by simp at hl
  | p :: ps, [], _, _, _, _, _, hl, _ => by simp at hl
  | (i, v) :: ps, (off, n, x) :: qs, zs, cs, c, hr, hf, hl, h => by
    obtain ⟨p, hp, hpl, hv⟩ := h 0 _ rfl
    simp only [List.getElem?_cons_zero, Option.some.injEq] at hp; subst hp
    simp only [xfill] at hf
    split at hf
    · rename_i hc
      obtain ⟨h1, h2⟩ := hv.cells
      dsimp only at h1 h2
      have hvs : v.cells.size = n := by rw [← h1]; exact hc.1
      have hr' : Row C (splice zs off (cellsOf x)) (seg c off v.cells.toList) := row_splice hr (by simpa using h1) (by rw [hc.1]; exact hc.2)
        (fun i y hi => by obtain ⟨u, h3, h4⟩ := h2 i y hi; exact ⟨u, by simpa using h3, h4⟩)
      obtain ⟨c', h5, h6⟩ := fill_sound ps qs _ cs _ hr' hf (by simpa using hl) (fun i q hi => h (i + 1) q (by simpa using hi))
      refine ⟨c', ?_, h6⟩
      simp only [Instr.fill, hpl]
      have hle : off + n ≤ c.size := by rw [← hr.1]; exact hc.2
      rw [if_neg (by simp only [Bool.or_eq_true, decide_eq_true_eq]; omega), fill_fold c off v.cells (by omega)]
      exact h5
    · cases hf

section
variable {E : Env} {C : Ctx} {a : Act} {e : Opd → IV} {o : Oper} {K : IV → List Blk → Prop}

theorem run_listMapM {P : Program} {α β : Type} {f : α → Sem β} {g : α → β} {w : World} : ∀ (l : List α), (∀ x ∈ l, (f x).run P w = .ok (g x) w) → (l.mapM f).run P w = .ok (l.map g) w
  | [], _ => rfl
  | x :: r, h => by
    rw [List.mapM_cons, Sem.run_bind, h x (by simp)]
    simp only [Result.andThen_ok]
    rw [Sem.run_bind, run_listMapM r (fun y hy => h y (by simp [hy]))]
    rfl

theorem row_zero {z : List IV} {v : Value} (hl : z.length = v.cells.size) (h : ∀ (C : Ctx) (j : Nat) (x : IV), z[j]? = some x → ∃ u, v.cells[j]? = some u ∧ VR C x u) : Row C z v.cells := ⟨hl, h C⟩

theorem row_agg {cs : List IV} {c : Array Value} (h : Row C cs c) : VR C (.agg cs) (.agg c) := by
  have := VR.agg (C := C) cs c.toList (by simpa using h.1) (fun i x hi => by
    obtain ⟨u, h1, h2⟩ := h.2 i x hi
    have : c.toList.getD i undef = u := getD_getL (by simpa using h1)
    rw [this]; exact h2)
  simpa using this

theorem mapO_map {α β γ : Type} {f : α → Option β} {g : β → γ} : ∀ {l : List α} {l' : List β}, mapO f l = some l' → l'.map g = l.filterMap fun x => (f x).map g
  | [], l', h => by simp only [mapO, Option.some.injEq] at h; subst h; rfl
  | x :: r, l', h => by
    simp only [mapO] at h
    split at h
    · split at h
      · rename_i y hy _ ys hys
        simp only [Option.some.injEq] at h; subst h
        simp [hy, mapO_map hys]
      · cases h
    · cases h

theorem good_build_struct (sim : Sim C) (he : Opds C a e) {t : TypeId} {ps : Array (Nat × Operand)} {fs : Array Field} {z : List IV} {qs : List (Nat × Nat × Opd)} (ho : o.op = .build t ps)
    (ht : E.P.underlying t = some (.struct fs)) (hz : zeroCells E.P t = some z)
    (hq : mapO (fun (p : Nat × Operand) => (fs[p.1]?).bind fun f => (sizeT E.P f.type).bind fun n => (opd p.2).map fun x => (f.offset, n, x)) ps.toList = some qs)
    (hfs : fs.toList.all (fun f => (E.P.info? f.type).isSome) = true) {cs : List IV} (hx : xfill z (qs.map fun p => (p.1, p.2.1, e p.2.2)) = some cs) (hK : K (.agg cs) C.L) : PureG E C a o K := by
  obtain ⟨i, v, h1, h2, h3, h4⟩ := zeroCells_spec hz
  let g : Field → Nat × Nat := fun f => (f.offset, ((E.P.info? f.type).map (·.size)).getD 0)
  have hpl : (fs.mapM fun f => (do pure (f.offset, ← sizeOf f.type) : Sem (Nat × Nat))).run E.P C.w = .ok (fs.toList.map g).toArray C.w := by
    rw [Array.mapM_eq_mapM_toList, Sem.run_map, run_listMapM (g := g) fs.toList]
    · rfl
    · intro f hf
      have := List.all_eq_true.1 hfs f hf
      obtain ⟨i, hi⟩ := Option.isSome_iff_exists.1 this
      rw [Sem.run_bind, run_sizeOf' (n := i.size) (by simp [sizeT, hi])]
      simp [g, hi]
  obtain ⟨c', h5, h6⟩ := fill_sound (C := C) (place := fun j => (fs.toList.map g).toArray[j]?) (ps.toList.map fun p => (p.1, a.eval p.2)) (qs.map fun p => (p.1, p.2.1, e p.2.2)) z cs v.cells ⟨h3, h4 C⟩ hx
    (by simp [mapO_len hq]) (fun j q hj => by
      rw [List.getElem?_map, Option.map_eq_some_iff] at hj
      obtain ⟨q0, hj, rfl⟩ := hj
      obtain ⟨p, h7, h8⟩ := mapO_get hq j q0 hj
      rw [Option.bind_eq_some_iff] at h8
      obtain ⟨f, h8, h9⟩ := h8
      rw [Option.bind_eq_some_iff] at h9
      obtain ⟨n, h9, h10⟩ := h9
      rw [Option.map_eq_some_iff] at h10
      obtain ⟨x, h10, rfl⟩ := h10
      refine ⟨(p.1, a.eval p.2), by rw [List.getElem?_map, h7]; rfl, ?_, he _ _ h10⟩
      simp only [List.getElem?_toArray, List.getElem?_map, Array.getElem?_toList, h8, Option.map_some, g]
      unfold sizeT at h9
      rw [h9]; rfl)
  refine pure_value (s := Instr.build t (ps.map fun (i, x) => (i, a.eval x))) (v := .agg c') (w' := C.w) (by unfold execOp; rw [ho]) ?_ (psame (row_agg h6) hK)
  unfold Instr.build
  rw [Sem.run_bind, run_zeroValue h1 h2]
  simp only [Result.andThen_ok]
  rw [Sem.run_bind]
  have hu : (underlying t).run E.P C.w = .ok (.struct fs) C.w := by simp [underlying, ht]
  rw [hu]
  simp only [Result.andThen_ok]
  rw [Sem.run_bind, hpl]
  simp only [Result.andThen_ok]
  have h7 : (ps.map fun (x : Nat × Operand) => (x.1, a.eval x.2)).toList = ps.toList.map fun p => (p.1, a.eval p.2) := by simp
  rw [h7, h5]
  rfl

theorem good_build_array (sim : Sim C) (he : Opds C a e) {t el : TypeId} {ps : Array (Nat × Operand)} {m n : Nat} {z : List IV} {qs : List (Nat × Nat × Opd)} (ho : o.op = .build t ps)
    (ht : E.P.underlying t = some (.array m el)) (hz : zeroCells E.P t = some z) (hn : sizeT E.P el = some n)
    (hq : mapO (fun (p : Nat × Operand) => (opd p.2).map fun x => (p.1 * n, n, x)) ps.toList = some qs)
    {cs : List IV} (hx : xfill z (qs.map fun p => (p.1, p.2.1, e p.2.2)) = some cs) (hK : K (.agg cs) C.L) : PureG E C a o K := by
  obtain ⟨i, v, h1, h2, h3, h4⟩ := zeroCells_spec hz
  obtain ⟨c', h5, h6⟩ := fill_sound (C := C) (place := fun j => some (j * n, n)) (ps.toList.map fun p => (p.1, a.eval p.2)) (qs.map fun p => (p.1, p.2.1, e p.2.2)) z cs v.cells ⟨h3, h4 C⟩ hx
    (by simp [mapO_len hq]) (fun j q hj => by
      rw [List.getElem?_map, Option.map_eq_some_iff] at hj
      obtain ⟨q0, hj, rfl⟩ := hj
      obtain ⟨p, h7, h8⟩ := mapO_get hq j q0 hj
      rw [Option.map_eq_some_iff] at h8
      obtain ⟨x, h10, rfl⟩ := h8
      exact ⟨(p.1, a.eval p.2), by rw [List.getElem?_map, h7]; rfl, rfl, he _ _ h10⟩)
  refine pure_value (s := Instr.build t (ps.map fun (i, x) => (i, a.eval x))) (v := .agg c') (w' := C.w) (by unfold execOp; rw [ho]) ?_ (psame (row_agg h6) hK)
  unfold Instr.build
  rw [Sem.run_bind, run_zeroValue h1 h2]
  simp only [Result.andThen_ok]
  rw [Sem.run_bind]
  have hu : (underlying t).run E.P C.w = .ok (.array m el) C.w := by simp [underlying, ht]
  rw [hu]
  simp only [Result.andThen_ok]
  rw [Sem.run_bind, run_sizeOf' hn]
  simp only [Result.andThen_ok]
  have h7 : (ps.map fun (x : Nat × Operand) => (x.1, a.eval x.2)).toList = ps.toList.map fun p => (p.1, a.eval p.2) := by simp
  rw [h7, h5]
  rfl

/-- The same row again and again. -/
theorem flat_replicate {C : Ctx} {z : List IV} {v : Value} {m : Nat} (hl : z.length = v.cells.size) (h : ∀ (j : Nat) (x : IV), z[j]? = some x → ∃ u, v.cells[j]? = some u ∧ VR C x u)
    (zero : Array Value) (hz : m * z.length = 0 ∨ zero = v.cells) :
    ((Array.range (m * z.length)).map (zero[· % zero.size]!)).size = m * z.length ∧ Flat C ((Array.range (m * z.length)).map (zero[· % zero.size]!)) 0 z.length (List.replicate m z) := by
  refine ⟨by simp, by simp, fun i row hi => ?_⟩
  rw [List.getElem?_replicate] at hi
  split at hi
  · rename_i hlt
    simp only [Option.some.injEq] at hi; subst hi
    refine ⟨rfl, fun j x hj => ?_⟩
    obtain ⟨u, h1, h2⟩ := h j x hj
    have hj' : j < z.length := lt_of_getL hj
    refine ⟨u, ?_, h2⟩
    have hlt2 : i * z.length + j < m * z.length := row_lt hlt hj'
    have hz' : zero = v.cells := hz.resolve_left (by omega)
    subst hz'
    have hj2 : j < v.cells.size := by omega
    have hmod : (i * z.length + j) % v.cells.size = j := by rw [← hl, Nat.mul_comm, Nat.mul_add_mod, Nat.mod_eq_of_lt hj']
    simp only [Nat.zero_add, Array.getElem?_map, Array.getElem?_range, hlt2, if_true, Option.map_some, hmod]
    rw [getElem!_pos v.cells j hj2, ← h1, Array.getElem?_eq_getElem hj2]
  · cases hi

theorem fillRows_sound {C : Ctx} {sz : Nat} : ∀ (ps : List (Nat × Value)) (qs : List (Nat × IV)) (rows rows' : List (List IV)) (c : Array Value), c.size = rows.length * sz → Flat C c 0 sz rows → xfillRows sz rows qs = some rows' →
    ps.length = qs.length → (∀ (i : Nat) (q : Nat × IV), qs[i]? = some q → ∃ p, ps[i]? = some p ∧ p.1 = q.1 ∧ VR C q.2 p.2) →
    ∃ c', Instr.fill (fun i => some (i * sz, sz)) c ps = some c' ∧ c'.size = c.size ∧ rows'.length = rows.length ∧ Flat C c' 0 sz rows'
  | [], [], rows, rows', c, hs, hr, hf, _, _ => by
    simp only [xfillRows, Option.some.injEq] at hf; subst hf
    exact ⟨c, rfl, rfl, rfl, hr⟩
  | [], q :: qs, _, _, _, _, _, _, hl, _ => by simp at hl
  | p :: ps, [], _, _, _, _, _, _, hl, _ => by simp at hl
  | (i, v) :: ps, (k, x) :: qs, rows, rows', c, hs, hr, hf, hl, h => by
    obtain ⟨p, hp, hpl, hv⟩ := h 0 _ rfl
    simp only [List.getElem?_cons_zero, Option.some.injEq] at hp; subst hp
    dsimp only at hpl hv; subst hpl
    simp only [xfillRows] at hf
    split at hf
    · rename_i hc
      obtain ⟨h1, h2⟩ := hv.cells
      have hrow := getD_get (d := []) hc.2
      have hrl := (hr.2 _ _ hrow).1
      have hsp : splice (rows.getD i []) 0 (cellsOf x) = cellsOf x := by
        simp only [splice, List.take_zero, List.nil_append, Nat.zero_add]
        rw [List.drop_eq_nil_of_le (by rw [hrl, hc.1]; exact Nat.le_refl _), List.append_nil]
      obtain ⟨hle, hr'⟩ := flat_store hr hc.2 (off := 0) (xs := cellsOf x) (vs := v.cells.toList) (by rw [hrl, hc.1]; omega) (by simpa using h1)
        (fun i y hi => by obtain ⟨u, h3, h4⟩ := h2 i y hi; exact ⟨u, by simpa using h3, h4⟩)
      rw [hsp] at hr'
      simp only [Nat.zero_add, Nat.add_zero] at hle hr'
      obtain ⟨c', h5, h6, h7, h8⟩ := fillRows_sound ps qs _ rows' _ (by rw [seg_size (by simpa using hle), List.length_set]; exact hs) hr' hf (by simpa using hl) (fun j q hj => h (j + 1) q (by simpa using hj))
      refine ⟨c', ?_, by rw [h6, seg_size (by simpa using hle)], by rw [h7, List.length_set], h8⟩
      simp only [Instr.fill]
      have hvs : v.cells.size = sz := by rw [← h1]; exact hc.1
      simp only [Array.length_toList] at hle
      rw [if_neg (by simp only [Bool.or_eq_true, decide_eq_true_eq]; omega), fill_fold c (i * sz) v.cells hle]
      exact h5
    · cases hf

theorem good_bslice (wf : Wf E.g0 C) (sim : Sim C) (he : Opds C a e) {t el : TypeId} {ps : Array (Nat × Operand)} {len n : Nat} {z : List IV} {qs : List (Nat × Opd)} (ho : o.op = .buildSlice t len ps)
    (ht : E.P.underlying t = some (.slice el)) (hn : sizeT E.P el = some n) (hz : zeroCells E.P el = some z)
    (hq : mapO (fun (p : Nat × Operand) => (opd p.2).map fun x => (p.1, x)) ps.toList = some qs) (hb : len * n ≤ 2 ^ 24) (h0 : 0 < n) (hzn : z.length = n)
    {rows : List (List IV)} (hx : xfillRows n (List.replicate len z) (qs.map fun p => (p.1, e p.2)) = some rows) (hK : K (.sl C.L.length 0 len len) (C.L ++ [.cells n rows])) : Good E C a o K := by
  obtain ⟨i, v, h1, h2, h3, h4⟩ := zeroCells_spec hz
  subst hzn
  let zero : Array Value := if len * z.length = 0 then #[] else v.cells
  have hzero : len * z.length = 0 ∨ zero = v.cells := by
    by_cases h : len * z.length = 0
    · exact .inl h
    · exact .inr (by simp only [zero, h, if_false])
  obtain ⟨hcs, hfl⟩ := flat_replicate (C := C) (m := len) h3 (h4 C) zero hzero
  obtain ⟨c', h5, h6, h7, h8⟩ := fillRows_sound (C := C) (ps.toList.map fun p => (p.1, a.eval p.2)) (qs.map fun p => (p.1, e p.2)) (List.replicate len z) rows _ (by rw [hcs]; simp) hfl hx
    (by simp [mapO_len hq]) (fun j q hj => by
      rw [List.getElem?_map, Option.map_eq_some_iff] at hj
      obtain ⟨q0, hj, rfl⟩ := hj
      obtain ⟨p, h7, h8⟩ := mapO_get hq j q0 hj
      rw [Option.map_eq_some_iff] at h8
      obtain ⟨x, h10, rfl⟩ := h8
      exact ⟨(p.1, a.eval p.2), by rw [List.getElem?_map, h7]; rfl, rfl, he _ _ h10⟩)
  refine good_value (s := Instr.buildSlice t len (ps.map fun (i, x) => (i, a.eval x))) (v := .slice (some ⟨C.w.heap.size, 0, none⟩) len len) (w' := pushW C.w (.cells c' el)) (by unfold execOp; rw [ho]) ?_
    (new_post wf sim h8 (vr_new_sl (Nat.le_refl _) (Nat.le_refl _) (by rw [h6, hcs]; exact Nat.le_refl _)) hK)
  unfold Instr.buildSlice
  rw [Sem.run_bind]
  have hu : (underlying t).run E.P C.w = .ok (.slice el) C.w := by simp [underlying, ht]
  rw [hu]
  simp only [Result.andThen_ok]
  rw [Sem.run_bind, run_sizeOf' hn]
  simp only [Result.andThen_ok]
  have hb' : ¬ (len * z.length > 2 ^ 24) := by omega
  rw [if_neg hb']
  have h9 : (ps.map fun (x : Nat × Operand) => (x.1, a.eval x.2)).toList = ps.toList.map fun p => (p.1, a.eval p.2) := by simp
  by_cases h : len * z.length = 0
  · rw [if_pos h, Sem.run_bind]
    simp only [Sem.run_pure, Result.andThen_ok]
    have e0 : zero = #[] := if_pos h
    rw [e0] at h5
    rw [h9, h5]
    rfl
  · rw [if_neg h, Sem.run_bind, run_zeroValue h1 h2]
    simp only [Result.andThen_ok]
    rw [Sem.run_bind]
    simp only [Sem.run_pure, Result.andThen_ok]
    have e0 : zero = v.cells := if_neg h
    rw [e0] at h5
    rw [h9, h5]
    rfl

theorem wrap64_in {n : Int} (h0 : 0 ≤ n) (h : n ≤ 9223372036854775807) : IntKind.i64.wrap n = n := by rw [IntKind.wrap_i64]; omega

theorem good_mkslice (wf : Wf E.g0 C) (sim : Sim C) (he : Opds C a e) {t el : TypeId} {l c : Operand} {l' c' : Opd} {n by_ : Nat} {z : List IV} (ho : o.op = .makeSlice t l c)
    (ht : E.P.underlying t = some (.slice el)) (hn : sizeT E.P el = some n) (hz : zeroCells E.P el = some z) (hby : bytesT E.P el = some by_) (hl : opd l = some l') (hc : opd c = some c') (h0 : 0 < n) (hzn : z.length = n)
    {k k' : IntKind} {x y : Int} (hlx : e l' = .int k x) (hcy : e c' = .int k' y) (hx0 : 0 ≤ x) (hxy : x ≤ y) (hy : y ≤ 9223372036854775807) (hroom : y * by_ ≤ 281474976710656)
    (hK : K (.sl C.L.length 0 x.toNat y.toNat) (C.L ++ [.cells z.length (List.replicate y.toNat z)])) : Good E C a o K := by
  obtain ⟨i, v, h1, h2, h3, h4⟩ := zeroCells_spec hz
  subst hzn
  have hlv := he l l' hl
  rw [hlx] at hlv
  have hcv := he c c' hc
  rw [hcy] at hcv
  generalize hlv' : a.eval l = lv at hlv
  generalize hcv' : a.eval c = cv at hcv
  cases hlv; cases hcv
  let zero : Array Value := if y.toNat * z.length = 0 then #[] else v.cells
  have hzero : y.toNat * z.length = 0 ∨ zero = v.cells := by
    by_cases h : y.toNat * z.length = 0
    · exact .inl h
    · exact .inr (by simp only [zero, h, if_false])
  obtain ⟨hcs, hfl⟩ := flat_replicate (C := C) (m := y.toNat) h3 (h4 C) zero hzero
  refine good_value (s := Instr.makeSlice t (a.eval l) (a.eval c)) (v := .slice (some ⟨C.w.heap.size, 0, none⟩) x.toNat y.toNat) (w' := pushW C.w (.cells _ el)) (by unfold execOp; rw [ho]) ?_
    (new_post wf sim hfl (vr_new_sl (by omega) (Nat.le_refl _) (by rw [hcs]; exact Nat.le_refl _)) hK)
  rw [hlv', hcv']
  unfold bytesT at hby
  rw [Option.map_eq_some_iff] at hby
  obtain ⟨i', h5, rfl⟩ := hby
  obtain rfl : i = i' := Option.some.inj (h1.symm.trans h5)
  unfold Instr.makeSlice
  rw [Sem.run_bind]
  have hu : (underlying t).run E.P C.w = .ok (.slice el) C.w := by simp [underlying, ht]
  rw [hu]
  simp only [Result.andThen_ok, asInt, asIntOf]
  rw [Sem.run_bind, Sem.run_bind]
  simp only [Sem.run_pure, Result.andThen_ok]
  rw [Sem.run_bind, Sem.run_bind]
  simp only [Sem.run_pure, Result.andThen_ok]
  rw [Sem.run_bind]
  have hi : (typeInfo el).run E.P C.w = .ok i C.w := by simp [typeInfo, h1]
  rw [hi]
  simp only [Result.andThen_ok]
  rw [wrap64_in hx0 (by omega), wrap64_in (by omega) hy]
  have hnot : ¬ (((decide (y < 0) || decide (↑i.bytes * y > 2 ^ 48)) || decide (x < 0) || decide (x > y)) = true) := by
    have h7 : (i.bytes : Int) * y ≤ 281474976710656 := by rw [Int.mul_comm]; exact hroom
    simp only [Bool.or_eq_true, decide_eq_true_eq]
    omega
  rw [if_neg hnot]
  rw [Sem.run_bind, run_askRoom]
  simp only [Result.andThen_ok]
  rw [Sem.run_bind, run_sizeOf' hn]
  simp only [Result.andThen_ok]
  by_cases h : y.toNat * z.length = 0
  · have e0 : zero = #[] := if_pos h
    rw [if_pos h, Sem.run_bind, e0]
    rfl
  · have e0 : zero = v.cells := if_neg h
    rw [if_neg h, Sem.run_bind, run_zeroValue h1 h2, e0]
    rfl

end
end Go.X
