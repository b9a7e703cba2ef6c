/- The calculus X, part 4: what becomes of a context when a block is laid, written, or let go. -/
import Derived.Test.YtnejaochjehhgaaDoorXRun
set_option linter.unusedVariables false
set_option linter.unusedSimpArgs false
set_option linter.unusedSectionVars false
namespace Go.X
open Go

/-- The same world, the same blocks. -/
abbrev Post (E : Env) (C : Ctx) (K : IV → List Blk → Prop) (v : Value) (w' : World) : Prop := PostG E.g0 C K v w'

theorem post_same {E : Env} {C : Ctx} {K : IV → List Blk → Prop} {r : IV} {v : Value} (wf : Wf E.g0 C) (sim : Sim C) (hv : VR C r v) (h : K r C.L) : Post E C K v C.w :=
  ⟨r, C.L, C.φ, h, wf, sim, Ext.refl C, hv⟩

def pushW (w : World) (o : Obj) : World := { w with heap := w.heap.push o }
def newφ (C : Ctx) (sz : Nat) : Nat → Loc := fun s => if s = C.L.length then ⟨C.w.heap.size, 0, sz⟩ else C.φ s
def newC (C : Ctx) (o : Obj) (k : Blk) (sz : Nat) : Ctx := ⟨pushW C.w o, newφ C sz, C.L ++ [k], C.X⟩

theorem heap_push_lt {w : World} {o : Obj} {b : Nat} (h : b < w.heap.size) : (pushW w o).heap[b]? = w.heap[b]? := by
  show (w.heap.push o)[b]? = _
  rw [Array.getElem?_push, if_neg (Nat.ne_of_lt h)]
theorem heap_push_eq {w : World} {o : Obj} : (pushW w o).heap[w.heap.size]? = some o := by
  show (w.heap.push o)[w.heap.size]? = _
  rw [Array.getElem?_push, if_pos rfl]

theorem get_append_lt {α : Type} {l : List α} {x : α} {s : Nat} (h : s < l.length) : (l ++ [x])[s]? = l[s]? := by
  rw [List.getElem?_append_left h]
theorem get_append_cases {α : Type} {l : List α} {x y : α} {s : Nat} (h : (l ++ [x])[s]? = some y) : (s < l.length ∧ l[s]? = some y) ∨ (s = l.length ∧ y = x) := by
  rcases Nat.lt_trichotomy s l.length with h1 | h1 | h1
  · rw [get_append_lt h1] at h; exact .inl ⟨h1, h⟩
  · subst h1; simp at h; exact .inr ⟨rfl, h.symm⟩
  · rw [List.getElem?_eq_none (by simp; omega)] at h; cases h
theorem lt_of_get {α : Type} {l : List α} {s : Nat} {x : α} (h : l[s]? = some x) : s < l.length := (List.getElem?_eq_some_iff.1 h).1

theorem new_mine {C : Ctx} {o : Obj} {k : Blk} {sz b : Nat} (h : (newC C o k sz).mine b) : C.mine b ∨ b = C.w.heap.size := by
  obtain ⟨s, l, hl, ha, rfl⟩ := h
  rcases get_append_cases hl with ⟨h1, h2⟩ | ⟨h1, h2⟩
  · left; exact ⟨s, l, h2, ha, by simp [newC, newφ, Nat.ne_of_lt h1]⟩
  · right; simp [newC, newφ, h1]

theorem new_ext {C : Ctx} (o : Obj) (k : Blk) (sz : Nat) : Ext C (newC C o k sz) where
  size := by simp [newC, pushW]
  frame := fun b hb _ => heap_push_lt hb
  sub := fun b h => (new_mine h).imp id (fun h => by omega)
  slot := fun s hs => by simp [newC, newφ, Nat.ne_of_lt hs]
  len := by simp [newC]
  cap := fun b c e fr h => ⟨c, e, fr, (heap_push_lt (Array.getElem?_eq_some_iff.1 h).1).trans h, rfl⟩
  ex := rfl
  os := rfl
  tape := rfl
  output := rfl

theorem BlkOk.mono {C C' : Ctx} (h : Ext C C') {s : Nat} {k : Blk} (hs : s < C.L.length) (hk : BlkOk C s k)
    (hh : C'.w.heap[(C.φ s).blk]? = C.w.heap[(C.φ s).blk]?) : BlkOk C' s k := by
  cases k with
  | cells sz rows =>
    obtain ⟨h1, c, e, h2, h3, h4⟩ := hk
    refine ⟨by rw [h.slot s hs]; exact h1, c, e, by rw [h.slot s hs, hh]; exact h2, by rw [h.slot s hs]; exact h3, fun i row hi => ?_⟩
    obtain ⟨h5, h6⟩ := h4 i row hi
    refine ⟨h5, fun j x hj => ?_⟩
    obtain ⟨v, h7, h8⟩ := h6 j x hj
    exact ⟨v, by rw [h.slot s hs]; exact h7, h8.mono h⟩
  | siter t pos => exact ⟨by rw [h.slot s hs]; exact hk.1, by rw [h.slot s hs, hh]; exact hk.2⟩
  | lp r l => exact ⟨by rw [h.slot s hs, hh]; exact hk.1, fun n => (hk.2 n).mono h⟩
  | map es => exact hk
  | dead => trivial

theorem new_wf {g0 : Nat} {C : Ctx} {o : Obj} {k : Blk} {sz : Nat} (wf : Wf g0 C) (sim : Sim C) : Wf g0 (newC C o k sz) where
  inj := fun s t ks kt hs ht as at_ heq => by
    rcases get_append_cases hs with ⟨h1, h2⟩ | ⟨h1, h2⟩ <;> rcases get_append_cases ht with ⟨h3, h4⟩ | ⟨h3, h4⟩
    · simp only [newC, newφ, Nat.ne_of_lt h1, Nat.ne_of_lt h3, if_false] at heq
      exact wf.inj s t ks kt h2 h4 as at_ heq
    · simp only [newC, newφ, Nat.ne_of_lt h1, h3, if_false, if_true] at heq
      have := mine_lt sim ⟨s, ks, h2, as, rfl⟩
      omega
    · simp only [newC, newφ, Nat.ne_of_lt h3, h1, if_false, if_true] at heq
      have := mine_lt sim ⟨t, kt, h4, at_, rfl⟩
      omega
    · omega
  lo := fun b h => (new_mine h).elim (wf.lo b) (fun h => by rw [h]; exact wf.g)
  apart := fun b hx h => (new_mine h).elim (wf.apart b hx) (fun h => by have := wf.exlo b hx; omega)
  exlo := fun b hx => by have := wf.exlo b hx; simp [newC, pushW]; omega
  g := by have := wf.g; simp [newC, pushW]; omega

theorem new_sim {C : Ctx} {o : Obj} {k : Blk} {sz : Nat} (sim : Sim C) (hk : BlkOk (newC C o k sz) C.L.length k) : Sim (newC C o k sz) := by
  intro s l hl
  rcases get_append_cases hl with ⟨h1, h2⟩ | ⟨h1, h2⟩
  · have h3 := sim s l h2
    by_cases ha : l.alive = true
    · exact h3.mono (new_ext o k sz) h1 (heap_push_lt (mine_lt sim ⟨s, l, h2, ha, rfl⟩))
    · cases l <;> first | trivial | (exfalso; exact ha rfl)
  · subst h1; subst h2; exact hk

/-- Cells for rows: what the rows say, laid flat. -/
def Flat (C : Ctx) (c : Array Value) (base sz : Nat) (rows : List (List IV)) : Prop :=
  base + rows.length * sz ≤ c.size ∧ ∀ (i : Nat) (row : List IV), rows[i]? = some row → row.length = sz ∧
    ∀ (j : Nat) (x : IV), row[j]? = some x → ∃ v, c[base + i * sz + j]? = some v ∧ VR C x v

theorem Flat.mono {C C' : Ctx} (h : Ext C C') {c : Array Value} {base sz : Nat} {rows : List (List IV)} (hf : Flat C c base sz rows) : Flat C' c base sz rows :=
  ⟨hf.1, fun i row hi => ⟨(hf.2 i row hi).1, fun j x hj => let ⟨v, h1, h2⟩ := (hf.2 i row hi).2 j x hj; ⟨v, h1, h2.mono h⟩⟩⟩

theorem new_post {E : Env} {C : Ctx} {K : IV → List Blk → Prop} {c : Array Value} {e : TypeId} {sz : Nat} {rows : List (List IV)} {r : IV} {v : Value} (wf : Wf E.g0 C) (sim : Sim C)
    (hf : Flat C c 0 sz rows) (hv : VR (newC C (.cells c e) (.cells sz rows) sz) r v) (h : K r (C.L ++ [.cells sz rows])) :
    Post E C K v (pushW C.w (.cells c e)) := by
  refine ⟨r, C.L ++ [Blk.cells sz rows], newφ C sz, h, new_wf (o := .cells c e) wf sim, new_sim (o := .cells c e) sim ?_, new_ext (.cells c e) (.cells sz rows) sz, hv⟩
  have hf' := hf.mono (new_ext (.cells c e) (.cells sz rows) sz)
  refine ⟨by simp [newC, newφ], c, e, by simp only [newC, newφ, if_true]; exact heap_push_eq, ?_, ?_⟩
  · simpa [newC, newφ] using hf'.1
  · intro i row hi
    refine ⟨(hf'.2 i row hi).1, fun j x hj => ?_⟩
    obtain ⟨u, h1, h2⟩ := (hf'.2 i row hi).2 j x hj
    exact ⟨u, by simpa [newC, newφ] using h1, h2⟩

theorem vr_new_ptr {C : Ctx} {o : Obj} {k : Blk} {sz : Nat} : VR (newC C o k sz) (.ptr C.L.length 0 0) (.pointer (some ⟨C.w.heap.size, 0, none⟩)) := by
  have := VR.ptr (C := newC C o k sz) C.L.length 0 0 (by simp [newC])
  simpa [newC, newφ] using this

theorem vr_new_sl {C : Ctx} {c : Array Value} {e : TypeId} {k : Blk} {sz len cap cap' : Nat} (hl : len ≤ cap) (hc : cap ≤ cap') (hs : cap' * sz ≤ c.size) :
    VR (newC C (.cells c e) k sz) (.sl C.L.length 0 len cap) (.slice (some ⟨C.w.heap.size, 0, none⟩) len cap') := by
  refine VR.sl (C := newC C (.cells c e) k sz) C.L.length 0 len cap _ cap' (by simp [newC]) hl hc (.inr ⟨by simp [newC, newφ], c, e, (0, 0), ?_, ?_⟩)
  · simp only [newC, newφ, if_true]; exact heap_push_eq
  · simpa [newC, newφ] using hs

theorem flat_one {C : Ctx} {x : IV} {v : Value} (h : VR C x v) : Flat C v.cells 0 (cellsOf x).length [cellsOf x] := by
  obtain ⟨h1, h2⟩ := h.cells
  refine ⟨by simp [h1], fun i row hi => ?_⟩
  cases i with
  | zero =>
    simp at hi; subst hi
    exact ⟨rfl, fun j y hj => by simpa using h2 j y hj⟩
  | succ i => simp at hi

/-! ### A block of ours is written -/
def setW (w : World) (b : Nat) (o : Obj) : World := { w with heap := w.heap.setIfInBounds b o }

theorem heap_set_ne {w : World} {o : Obj} {b b' : Nat} (h : b' ≠ b) : (setW w b o).heap[b']? = w.heap[b']? := by
  show (w.heap.setIfInBounds b o)[b']? = _
  rw [Array.getElem?_setIfInBounds, if_neg (Ne.symm h)]
theorem heap_set_eq {w : World} {o : Obj} {b : Nat} (h : b < w.heap.size) : (setW w b o).heap[b]? = some o := by
  show (w.heap.setIfInBounds b o)[b]? = _
  rw [Array.getElem?_setIfInBounds, if_pos rfl, if_pos h]

def setC (C : Ctx) (s : Nat) (o : Obj) (k : Blk) : Ctx := ⟨setW C.w (C.φ s).blk o, C.φ, C.L.set s k, C.X⟩

theorem get_set_cases {α : Type} {l : List α} {x y : α} {s t : Nat} (h : (l.set s x)[t]? = some y) : (t ≠ s ∧ l[t]? = some y) ∨ (t = s ∧ y = x ∧ s < l.length) := by
  by_cases ht : t = s
  · subst ht
    have := lt_of_get h
    simp at this
    rw [List.getElem?_set_self this] at h
    exact .inr ⟨rfl, (Option.some.inj h).symm, this⟩
  · rw [List.getElem?_set_ne (Ne.symm ht)] at h
    exact .inl ⟨ht, h⟩

theorem set_mine {C : Ctx} {s b : Nat} {o : Obj} {k k0 : Blk} (hs : C.L[s]? = some k0) (ha : k0.alive = true) (h : (setC C s o k).mine b) : C.mine b := by
  obtain ⟨t, l, hl, hla, rfl⟩ := h
  rcases get_set_cases hl with ⟨_, h2⟩ | ⟨h1, _, _⟩
  · exact ⟨t, l, h2, hla, rfl⟩
  · subst h1; exact ⟨t, k0, hs, ha, rfl⟩

theorem set_ext {C : Ctx} {s : Nat} {k k0 : Blk} {c c' : Array Value} {e : TypeId} (hs : C.L[s]? = some k0) (ha : k0.alive = true)
    (hc : C.w.heap[(C.φ s).blk]? = some (.cells c e (0, 0))) (hsz : c'.size = c.size) : Ext C (setC C s (.cells c' e) k) where
  size := by simp [setC, setW]
  frame := fun b _ hm => heap_set_ne (fun h => hm ⟨s, k0, hs, ha, h.symm⟩)
  sub := fun b h => .inl (set_mine hs ha h)
  slot := fun _ _ => rfl
  len := by simp [setC]
  cap := fun b d e' fr h => by
    by_cases hb : b = (C.φ s).blk
    · subst hb
      rw [hc] at h
      obtain ⟨rfl, rfl, rfl⟩ := by simpa using h
      exact ⟨c', e, (0, 0), heap_set_eq (Array.getElem?_eq_some_iff.1 hc).1, hsz⟩
    · exact ⟨d, e', fr, (heap_set_ne hb).trans h, rfl⟩
  ex := rfl
  os := rfl
  tape := rfl
  output := rfl

theorem set_wf {g0 : Nat} {C : Ctx} {s : Nat} {k k0 : Blk} {o : Obj} (wf : Wf g0 C) (hs : C.L[s]? = some k0) (ha : k0.alive = true) : Wf g0 (setC C s o k) where
  inj := fun t u kt ku ht hu at_ au heq => by
    have f : ∀ {t : Nat} {kt : Blk}, (C.L.set s k)[t]? = some kt → kt.alive = true → ∃ l : Blk, C.L[t]? = some l ∧ l.alive = true := fun {t kt} h ha' => by
      rcases get_set_cases h with ⟨_, h2⟩ | ⟨h1, _, _⟩
      · exact ⟨kt, h2, ha'⟩
      · subst h1; exact ⟨k0, hs, ha⟩
    obtain ⟨l, h1, h2⟩ := f ht at_
    obtain ⟨l', h3, h4⟩ := f hu au
    exact wf.inj t u l l' h1 h3 h2 h4 heq
  lo := fun b h => wf.lo b (set_mine hs ha h)
  apart := fun b hx h => wf.apart b hx (set_mine hs ha h)
  exlo := fun b hx => by have := wf.exlo b hx; simpa [setC, setW] using this
  g := by have := wf.g; simpa [setC, setW] using this

theorem set_sim {g0 : Nat} {C : Ctx} {s : Nat} {k k0 : Blk} {c c' : Array Value} {e : TypeId} (wf : Wf g0 C) (sim : Sim C) (hs : C.L[s]? = some k0) (ha : k0.alive = true)
    (hc : C.w.heap[(C.φ s).blk]? = some (.cells c e (0, 0))) (hsz : c'.size = c.size) (hk : BlkOk (setC C s (.cells c' e) k) s k) : Sim (setC C s (.cells c' e) k) := by
  intro t l hl
  rcases get_set_cases hl with ⟨h1, h2⟩ | ⟨h1, h2, _⟩
  · have h3 := sim t l h2
    by_cases hla : l.alive = true
    · refine h3.mono (set_ext hs ha hc hsz) (lt_of_get h2) (heap_set_ne fun h => h1 (wf.inj t s l k0 h2 hs hla ha h))
    · cases l <;> first | trivial | (exfalso; exact hla rfl)
  · subst h1; subst h2; exact hk

/-- The same for a block that holds no cells. -/
theorem set_ext' {C : Ctx} {s : Nat} {k k0 : Blk} {o0 o : Obj} (hs : C.L[s]? = some k0) (ha : k0.alive = true)
    (hc : C.w.heap[(C.φ s).blk]? = some o0) (hn : ∀ c e fr, o0 ≠ .cells c e fr) : Ext C (setC C s o k) where
  size := by simp [setC, setW]
  frame := fun b _ hm => heap_set_ne (fun h => hm ⟨s, k0, hs, ha, h.symm⟩)
  sub := fun b h => .inl (set_mine hs ha h)
  slot := fun _ _ => rfl
  len := by simp [setC]
  cap := fun b d e' fr h => by
    by_cases hb : b = (C.φ s).blk
    · subst hb
      rw [hc] at h
      exact absurd (Option.some.inj h) (hn _ _ _)
    · exact ⟨d, e', fr, (heap_set_ne hb).trans h, rfl⟩
  ex := rfl
  os := rfl
  tape := rfl
  output := rfl

theorem set_sim' {g0 : Nat} {C : Ctx} {s : Nat} {k k0 : Blk} {o0 o : Obj} (wf : Wf g0 C) (sim : Sim C) (hs : C.L[s]? = some k0) (ha : k0.alive = true)
    (hc : C.w.heap[(C.φ s).blk]? = some o0) (hn : ∀ c e fr, o0 ≠ .cells c e fr) (hk : BlkOk (setC C s o k) s k) : Sim (setC C s o k) := by
  intro t l hl
  rcases get_set_cases hl with ⟨h1, h2⟩ | ⟨h1, h2, _⟩
  · have h3 := sim t l h2
    by_cases hla : l.alive = true
    · refine h3.mono (set_ext' hs ha hc hn) (lt_of_get h2) (heap_set_ne fun h => h1 (wf.inj t s l k0 h2 hs hla ha h))
    · cases l <;> first | trivial | (exfalso; exact hla rfl)
  · subst h1; subst h2; exact hk

theorem run_setObj' {P : Program} {w : World} {r : Nat} {o0 : Obj} (o : Obj) (hb : w.heap[r]? = some o0) (hn : ∀ c e fr, o0 ≠ .cells c e fr) : (setObj r o).run P w = .ok () (setW w r o) := by
  unfold setObj
  cases o0 with
  | cells c e fr => exact absurd rfl (hn _ _ _)
  | _ => simp [Sem.run, hb, setW]
theorem run_getObj' {P : Program} {w : World} {r : Nat} {o0 : Obj} (hb : w.heap[r]? = some o0) (hn : ∀ c e fr, o0 ≠ .cells c e fr) : (getObj r).run P w = .ok o0 w := by
  unfold getObj
  cases o0 with
  | cells c e fr => exact absurd rfl (hn _ _ _)
  | _ => simp [Sem.run, hb]

end Go.X
