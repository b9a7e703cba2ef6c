/- The calculus X, part 10: append. -/
import Derived.Test.YtnejaochjehhgaaDoorXOps3
set_option linter.unusedVariables false
set_option linter.unusedSimpArgs false
set_option linter.unusedSectionVars false
namespace Go.X
open Go

section
variable {E : Env} {C : Ctx} {a : Act} {e : Opd → IV} {o : Oper} {K : IV → List Blk → Prop}

/-- The flat list of what rows say. -/
def FlatL (C : Ctx) (news : List Value) (sz : Nat) (rs : List (List IV)) : Prop := news.length = rs.length * sz ∧
  ∀ (i : Nat) (row : List IV), rs[i]? = some row → row.length = sz ∧ ∀ (j : Nat) (x : IV), row[j]? = some x → ∃ u, news[i * sz + j]? = some u ∧ VR C x u

theorem FlatL.one {news : List Value} {sz : Nat} {rs : List (List IV)} (h : FlatL C news sz rs) (hc : ∀ row ∈ rs, row.all isCell = true) : ∀ v ∈ news, v.oneCell' = true := by
  intro v hv
  obtain ⟨k, hk, rfl⟩ := List.getElem_of_mem hv
  have hsz : 0 < sz := by
    rcases Nat.eq_zero_or_pos sz with h0 | h0
    · have := h.1; rw [h0] at this; simp at this; rw [this] at hk; simp at hk
    · exact h0
  have hi : k / sz < rs.length := by rw [Nat.div_lt_iff_lt_mul hsz, ← h.1]; exact hk
  obtain ⟨h1, h2⟩ := h.2 (k / sz) _ (List.getElem?_eq_getElem hi)
  have hj : k % sz < (rs[k / sz]).length := by rw [h1]; exact Nat.mod_lt _ hsz
  obtain ⟨u, h3, h4⟩ := h2 (k % sz) _ (List.getElem?_eq_getElem hj)
  have hkk : k / sz * sz + k % sz = k := by rw [Nat.mul_comm]; exact Nat.div_add_mod k sz
  rw [hkk, List.getElem?_eq_getElem hk] at h3
  rw [Option.some.inj h3]
  exact isCell_one h4 (List.all_eq_true.1 (hc _ (List.getElem_mem hi)) _ (List.getElem_mem hj))

theorem run_load_slice {P : Program} {w : World} {sz n : Nat} {b k : Nat} {f : Nat → Value} (h : ∀ j, j < n * sz → w.cell? ⟨b, k + j, none⟩ = some (f j)) (l c : Nat) :
    (Builtin.firstCells sz n (.slice (some ⟨b, k, none⟩) l c)).run P w = .ok ((List.range (n * sz)).map f).toArray w := by
  show (loadCells ⟨b, k, none⟩ (n * sz)).run P w = _
  refine run_loadCells w _ _ f fun j hj => ?_
  have : (⟨b, k, none⟩ : Addr).add j = ⟨b, k + j, none⟩ := by unfold Addr.add; split <;> simp_all
  rw [this]; exact h j hj

theorem flatL_range {sz : Nat} {rs : List (List IV)} {f : Nat → Value} (hsz : ∀ (i : Nat) (row : List IV), rs[i]? = some row → row.length = sz)
    (hv : ∀ (i : Nat) (row : List IV), rs[i]? = some row → ∀ (j : Nat) (x : IV), row[j]? = some x → VR C x (f (i * sz + j))) : FlatL C ((List.range (rs.length * sz)).map f) sz rs := by
  refine ⟨by simp, fun i row hi => ⟨hsz i row hi, fun j x hj => ⟨f (i * sz + j), ?_, hv i row hi j x hj⟩⟩⟩
  have hj' : j < sz := by rw [← hsz i row hi]; exact lt_of_getL hj
  have := row_lt (lt_of_getL hi) hj'
  simp [this]

theorem div_row {k sz i j : Nat} (hj : j < sz) : (i * sz + j) / sz = i ∧ (i * sz + j) % sz = j := by
  have h0 : 0 < sz := by omega
  constructor
  · rw [Nat.mul_comm, Nat.mul_add_div h0, Nat.div_eq_of_lt hj]; rfl
  · rw [Nat.mul_comm, Nat.mul_add_mod, Nat.mod_eq_of_lt hj]

/-- What is appended, or copied: its cells. -/
theorem src_cells (sim : Sim C) {x : IV} {xv : Value} (hv : VR C x xv) {rs : List (List IV)} {sz : Nat} (h : rowsOf C.L x = some rs) (hsz : ∀ row ∈ rs, row.length = sz) :
    ∃ news, FlatL C news sz rs ∧ (Builtin.lenOf xv = pure rs.length) ∧
      ∀ w' : World, w'.heap = C.w.heap → (Builtin.firstCells sz rs.length xv).run E.P w' = .ok news.toArray w' := by
  have hsz' : ∀ (i : Nat) (row : List IV), rs[i]? = some row → row.length = sz := fun i row hi => hsz row (List.mem_of_getElem? hi)
  cases hv with
  | str s =>
    simp only [rowsOf, Option.some.injEq] at h; subst h
    have h1 : s = [] ∨ sz = 1 := by
      cases s with
      | nil => exact .inl rfl
      | cons c r => right; have := hsz [.int .u8 c.toNat] (by simp); simpa using this.symm
    refine ⟨s.map fun b => .int .u8 b.toNat, ⟨?_, fun i row hi => ⟨hsz' i row hi, fun j y hj => ?_⟩⟩, ?_, fun w' _ => ?_⟩
    · rcases h1 with h1 | h1
      · subst h1; simp
      · subst h1; simp
    · rw [List.getElem?_map, Option.map_eq_some_iff] at hi
      obtain ⟨b, hb, rfl⟩ := hi
      have h2 : sz = 1 := h1.resolve_left (fun h => by subst h; simp at hb)
      subst h2
      cases j with
      | zero => simp at hj; subst hj; exact ⟨_, by simp [hb], .int _ _⟩
      | succ j => simp at hj
    · show pure (ByteArray.size _) = _
      simp [ByteArray.size]
    · show (pure ((ByteArray.extract _ 0 _).data.map _) : Sem (Array Value)).run E.P w' = _
      rw [Sem.run_pure]
      congr 1
      apply Array.ext'
      simp [ByteArray.extract, ByteArray.copySlice, ByteArray.data_extract]
  | isl rows av cap' sz' vals hcap hsz2 hcl ha hvv =>
    simp only [rowsOf, Option.some.injEq] at h; subst h
    rcases ha with h0 | ⟨b, k, rfl, hb, hn, hc⟩
    · subst h0
      refine ⟨[], ⟨by simp, fun i row hi => by simp at hi⟩, rfl, fun w' _ => ?_⟩
      cases av with
      | none => rfl
      | some av => show (loadCells av (0 * sz)).run E.P w' = _; rw [Nat.zero_mul]; rfl
    · by_cases hr : rows = []
      · subst hr
        refine ⟨[], ⟨by simp, fun i row hi => by simp at hi⟩, rfl, fun w' _ => ?_⟩
        show (loadCells _ (0 * sz)).run E.P w' = _; rw [Nat.zero_mul]; rfl
      · have hss : sz' = sz := by
          obtain ⟨row, r, rfl⟩ := List.exists_cons_of_ne_nil hr
          rw [← hsz2 0 row rfl, ← hsz' 0 row rfl]
        subst hss
        refine ⟨_, flatL_range (f := fun k => vals (k / sz') (k % sz')) hsz' (fun i row hi j x hj => ?_), rfl, fun w' hw => run_load_slice (fun k hk => ?_) _ _⟩
        · have hj' : j < sz' := by rw [← hsz' i row hi]; exact lt_of_getL hj
          rw [(div_row (k := 0) hj').1, (div_row (k := 0) hj').2]; exact hvv i row hi j x hj
        · have h0 : 0 < sz' := by rcases Nat.eq_zero_or_pos sz' with h | h; · rw [h] at hk; simp at hk
                                  · exact h
          have hi : k / sz' < rows.length := by rw [Nat.div_lt_iff_lt_mul h0]; exact hk
          have hrow := List.getElem?_eq_getElem hi
          have hj : k % sz' < (rows[k / sz']).length := by rw [hsz' _ _ hrow]; exact Nat.mod_lt _ h0
          have := hc _ _ hrow _ _ (List.getElem?_eq_getElem hj)
          rename_i kk
          have hkk : k / sz' * sz' + k % sz' = k := by rw [Nat.mul_comm]; exact Nat.div_add_mod k sz'
          rw [Nat.add_assoc, hkk] at this
          simp only [World.cell?, hw] at this ⊢
          exact this
  | sl s off len cap av cap' hs hl hc ha =>
    simp only [rowsOf] at h
    split at h
    · rename_i sz0 rows hL
      split at h
      · rename_i hle
        simp only [Option.some.injEq] at h; subst h
        have hlen : ((rows.drop off).take len).length = len := by rw [List.length_take, List.length_drop]; omega
        obtain ⟨h1, c, ty, h2, h3, h4⟩ := sim s _ hL
        by_cases hl0 : len = 0
        · subst hl0
          refine ⟨[], ⟨by simp, fun i row hi => by simp at hi⟩, by rw [hlen]; rfl, fun w' _ => ?_⟩
          rw [hlen]
          cases av with
          | none => rfl
          | some av => show (loadCells av (0 * sz)).run E.P w' = _; rw [Nat.zero_mul]; rfl
        · have hsub : ∀ (i : Nat) (row : List IV), ((rows.drop off).take len)[i]? = some row → rows[off + i]? = some row := fun i row hi => by
            rw [List.getElem?_take] at hi
            split at hi
            · rwa [List.getElem?_drop] at hi
            · cases hi
          have hss : sz0 = sz := by
            obtain ⟨row, hrow⟩ : ∃ row, ((rows.drop off).take len)[0]? = some row := ⟨_, List.getElem?_eq_getElem (by rw [hlen]; omega)⟩
            rw [← (h4 _ row (hsub 0 row hrow)).1, hsz' 0 row hrow]
          subst hss
          obtain ⟨rfl, _⟩ := ha.resolve_left (by omega)
          refine ⟨_, flatL_range (f := fun k => c.getD ((C.φ s).base + off * sz0 + k) undef) hsz' (fun i row hi j x hj => ?_), by rw [hlen]; rfl, fun w' hw => run_load_slice (fun k hk => ?_) _ _⟩
          · obtain ⟨u, h5, h6⟩ := (h4 _ row (hsub i row hi)).2 j x hj
            rw [show (C.φ s).base + off * sz0 + (i * sz0 + j) = (C.φ s).base + (off + i) * sz0 + j by rw [Nat.add_mul]; omega, getD_of_get h5]
            exact h6
          · rw [hlen] at hk
            have h5 : (off + len) * sz0 ≤ rows.length * sz0 := Nat.mul_le_mul_right _ hle
            rw [Nat.add_mul] at h5
            have hlt : (C.φ s).base + off * sz0 + k < c.size := by omega
            rw [h1]
            simp only [World.cell?, hw, h2]
            simp [hlt]
      · cases h
    · cases h
  | esl av =>
    simp only [rowsOf, Option.some.injEq] at h; subst h
    refine ⟨[], ⟨by simp, fun i row hi => by simp at hi⟩, rfl, fun w' _ => ?_⟩
    cases av with
    | none => rfl
    | some av => show (loadCells av (0 * sz)).run E.P w' = _; rw [Nat.zero_mul]; rfl
  | nsl =>
    simp only [rowsOf, Option.some.injEq] at h; subst h
    exact ⟨[], ⟨by simp, fun i row hi => by simp at hi⟩, rfl, fun w' _ => rfl⟩
  | _ => cases h

end
end Go.X
