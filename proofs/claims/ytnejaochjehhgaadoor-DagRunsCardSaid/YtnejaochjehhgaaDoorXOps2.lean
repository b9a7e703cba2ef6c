/- The calculus X, part 8: each operation does what its short form says (2): what writes. -/
import Derived.Test.YtnejaochjehhgaaDoorXOps
set_option linter.unusedVariables false
set_option linter.unusedSimpArgs false
set_option linter.unusedSectionVars false
namespace Go.X
open Go

theorem setRow_eq {w : World} {g : Nat} {old cs : Array Value} {t : TypeId} (hg : w.heap[g]? = some (.cells old t (0, 0))) : w.setRow g cs = setW w g (.cells cs t (0, 0)) := by
  unfold World.setRow setW
  cases w with
  | mk heap tape drawn os output =>
    congr 1
    apply Array.ext'
    apply List.ext_getElem?
    intro i
    simp only [Array.getElem?_toList]
    rw [Array.getElem?_modify, Array.getElem?_setIfInBounds]
    by_cases h : g = i
    · subst h
      have hlt := (Array.getElem?_eq_some_iff.1 hg).1
      simp only [if_pos rfl, hlt]
      rw [hg]; simp
    · rw [if_neg h, if_neg h]

/-- A segment is written. -/
def seg (c : Array Value) (k : Nat) (vs : List Value) : Array Value := (c.toList.take k ++ vs ++ c.toList.drop (k + vs.length)).toArray

theorem seg_size {c : Array Value} {k : Nat} {vs : List Value} (h : k + vs.length ≤ c.size) : (seg c k vs).size = c.size := by
  have h' : c.toList.length = c.size := by simp
  simp only [seg, List.size_toArray, List.length_append, List.length_take, List.length_drop, h']; omega

theorem seg_get {c : Array Value} {k : Nat} {vs : List Value} (h : k + vs.length ≤ c.size) (i : Nat) :
    (seg c k vs)[i]? = if k ≤ i ∧ i < k + vs.length then vs[i - k]? else c[i]? := by
  have h' : c.toList.length = c.size := by simp
  simp only [seg, List.getElem?_toArray]
  by_cases h1 : i < k
  · rw [if_neg (by omega), List.append_assoc, List.getElem?_append_left (by rw [List.length_take]; omega), List.getElem?_take, if_pos h1]
    simp
  · by_cases h2 : i < k + vs.length
    · rw [if_pos ⟨by omega, h2⟩, List.append_assoc, List.getElem?_append_right (by rw [List.length_take]; omega), List.getElem?_append_left (by rw [List.length_take]; omega)]
      congr 1
      rw [List.length_take]; omega
    · rw [if_neg (by omega), List.getElem?_append_right (by rw [List.length_append, List.length_take]; omega), List.getElem?_drop]
      rw [List.length_append, List.length_take, ← Array.getElem?_toList]
      congr 1
      omega

theorem splice_len {α : Type} {l xs : List α} {i : Nat} (h : i + xs.length ≤ l.length) : (splice l i xs).length = l.length := by
  simp only [splice, List.length_append, List.length_take, List.length_drop]; omega

theorem splice_get {α : Type} {l xs : List α} {k : Nat} (h : k ≤ l.length) (i : Nat) :
    (splice l k xs)[i]? = if k ≤ i ∧ i < k + xs.length then xs[i - k]? else l[i]? := by
  simp only [splice]
  by_cases h1 : i < k
  · rw [if_neg (by omega), List.append_assoc, List.getElem?_append_left (by rw [List.length_take]; omega), List.getElem?_take, if_pos h1]
  · by_cases h2 : i < k + xs.length
    · rw [if_pos ⟨by omega, h2⟩, List.append_assoc, List.getElem?_append_right (by rw [List.length_take]; omega), List.getElem?_append_left (by rw [List.length_take]; omega)]
      congr 1
      rw [List.length_take]; omega
    · rw [if_neg (by omega), List.getElem?_append_right (by rw [List.length_append, List.length_take]; omega), List.getElem?_drop]
      rw [List.length_append, List.length_take]
      congr 1
      omega

theorem row_lt {i r sz j : Nat} (h : i < r) (hj : j < sz) : i * sz + j < r * sz := by
  have h1 : (i + 1) * sz ≤ r * sz := Nat.mul_le_mul_right sz h
  rw [Nat.add_mul] at h1
  omega

theorem lt_of_getL {α : Type} {l : List α} {i : Nat} {x : α} (h : l[i]? = some x) : i < l.length := (List.getElem?_eq_some_iff.1 h).1

/-- Writing in one row. -/
theorem flat_store {C : Ctx} {c : Array Value} {base sz : Nat} {rows : List (List IV)} (hf : Flat C c base sz rows) {r off : Nat} {xs : List IV} {vs : List Value} (hr : r < rows.length)
    (hoff : off + xs.length ≤ (rows.getD r []).length) (hl : xs.length = vs.length) (hx : ∀ (i : Nat) (x : IV), xs[i]? = some x → ∃ v, vs[i]? = some v ∧ VR C x v) :
    base + r * sz + off + vs.length ≤ c.size ∧ Flat C (seg c (base + r * sz + off) vs) base sz (rows.set r (splice (rows.getD r []) off xs)) := by
  have hrow := getD_get (d := []) hr
  have hsz := (hf.2 r _ hrow).1
  have hle : base + r * sz + off + vs.length ≤ c.size := by
    have h1 := hf.1
    have h2 : (r + 1) * sz ≤ rows.length * sz := Nat.mul_le_mul_right sz hr
    rw [Nat.add_mul] at h2
    omega
  refine ⟨hle, by rw [seg_size hle, List.length_set]; exact hf.1, fun i row hi => ?_⟩
  rcases get_set_cases hi with ⟨h1, h2⟩ | ⟨h1, h2, _⟩
  · refine ⟨(hf.2 i row h2).1, fun j x hj => ?_⟩
    obtain ⟨v, h3, h4⟩ := (hf.2 i row h2).2 j x hj
    refine ⟨v, ?_, h4⟩
    rw [seg_get hle, if_neg, h3]
    rintro ⟨h5, h6⟩
    have hj' : j < sz := by rw [← (hf.2 i row h2).1]; exact lt_of_getL hj
    rcases Nat.lt_or_gt_of_ne h1 with h7 | h7
    · have := row_lt h7 hj'; omega
    · have := row_lt h7 (show off + vs.length - 1 < sz by omega); omega
  · subst h1; subst h2
    refine ⟨(splice_len hoff).trans hsz, fun j x hj => ?_⟩
    rw [splice_get (by omega)] at hj
    split at hj
    · rename_i h5
      obtain ⟨v, h3, h4⟩ := hx _ x hj
      refine ⟨v, ?_, h4⟩
      rw [seg_get hle, if_pos (by omega), ← h3]
      congr 1
      omega
    · rename_i h5
      obtain ⟨v, h3, h4⟩ := (hf.2 i _ hrow).2 j x hj
      refine ⟨v, ?_, h4⟩
      rw [seg_get hle, if_neg (by omega), h3]

section
variable {E : Env} {C : Ctx} {a : Act} {e : Opd → IV} {o : Oper} {K : IV → List Blk → Prop}

/-- A block of ours, written: what is left. -/
theorem set_post {s : Nat} {sz : Nat} {rows rows' : List (List IV)} {c c' : Array Value} {ty : TypeId} {r : IV} {v : Value} (wf : Wf E.g0 C) (sim : Sim C) (hs : C.L[s]? = some (.cells sz rows))
    (hc : C.w.heap[(C.φ s).blk]? = some (.cells c ty (0, 0))) (hsz : c'.size = c.size) (hf : Flat C c' (C.φ s).base sz rows')
    (hv : VR (setC C s (.cells c' ty) (.cells sz rows')) r v) (h : K r (C.L.set s (.cells sz rows'))) : Post E C K v (setW C.w (C.φ s).blk (.cells c' ty)) := by
  refine ⟨r, C.L.set s (Blk.cells sz rows'), C.φ, h, set_wf (o := .cells c' ty) wf hs rfl, set_sim wf sim hs rfl hc hsz ?_, set_ext hs rfl hc hsz, hv⟩
  have hf' := hf.mono (set_ext (k := .cells sz rows') hs rfl hc hsz)
  refine ⟨(sim s _ hs).1, c', ty, ?_, hf'.1, hf'.2⟩
  exact heap_set_eq (Array.getElem?_eq_some_iff.1 hc).1

theorem good_store (wf : Wf E.g0 C) (sim : Sim C) (he : Opds C a e) {t : TypeId} {p x : Operand} {p' x' : Opd} {n : Nat} (ho : o.op = .store t p x) (hp : opd p = some p') (hx : opd x = some x')
    (hn : sizeT E.P t = some n) {s r off sz : Nat} {rows : List (List IV)} (h1 : e p' = .ptr s r off) (h2 : C.L[s]? = some (.cells sz rows)) (hr : r < rows.length) (hoff : off + n ≤ (rows.getD r []).length)
    (hl : (cellsOf (e x')).length = n) (hc : (cellsOf (e x')).all isCell = true)
    (hK : K .und (C.L.set s (.cells sz (rows.set r (splice (rows.getD r []) off (cellsOf (e x'))))))) : Good E C a o K := by
  have hv := he p p' hp
  rw [h1] at hv
  generalize hpv : a.eval p = pv at hv
  cases hv with
  | ptr _ _ _ hs =>
  obtain ⟨hsz, c, ty, h3, hf⟩ := sim s _ h2
  obtain ⟨hl2, hx2⟩ := (he x x' hx).cells
  have hxs : ∀ (i : Nat) (y : IV), (cellsOf (e x'))[i]? = some y → ∃ v, (a.eval x).cells.toList[i]? = some v ∧ VR C y v := fun i y hi => by
    obtain ⟨v, h4, h5⟩ := hx2 i y hi; exact ⟨v, by simpa using h4, h5⟩
  obtain ⟨hle, hf'⟩ := flat_store (C := C) hf hr (by rw [hl]; exact hoff) (vs := (a.eval x).cells.toList) (by simpa using hl2) hxs
  have hone : ∀ v ∈ (a.eval x).cells.toList, v.oneCell' = true := fun v hv => by
    obtain ⟨i, hi, rfl⟩ := List.getElem_of_mem hv
    have hi' : i < (cellsOf (e x')).length := by rw [hl2]; simpa using hi
    obtain ⟨u, h4, h5⟩ := hxs i _ (List.getElem?_eq_getElem hi')
    rw [List.getElem?_eq_getElem hi] at h4
    rw [Option.some.inj h4]
    exact isCell_one h5 (List.all_eq_true.1 hc _ (List.getElem_mem hi'))
  refine good_unit (s := Instr.storeAt t (a.eval p) (a.eval x)) (by unfold execOp; rw [ho]) ?_ (set_post wf sim h2 h3 (seg_size hle) hf' (by exact .und) hK)
  rw [hpv]
  unfold Instr.storeAt storeVar
  rw [Sem.run_bind]
  simp only [Instr.sureAddr, Sem.run_pure, Result.andThen_ok]
  rw [Sem.run_bind, run_sizeOf' hn]
  simp only [Result.andThen_ok]
  rw [if_neg (by rw [← hl2, hl]; simp)]
  have h6 := run_storeCells_at E.P (C.φ s).blk ((C.φ s).base + r * sz + off) ty (a.eval x).cells.toList 0 c C.w h3 (by simpa using hle) hone
  simp only [Nat.add_zero] at h6
  rw [hsz]
  rw [← setRow_eq h3]
  exact h6

end
end Go.X
