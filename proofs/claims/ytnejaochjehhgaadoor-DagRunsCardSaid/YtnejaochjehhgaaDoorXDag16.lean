/- Plain laws of a definition's graph: its order, its depth, what is ready. -/
import Derived.Test.YtnejaochjehhgaaDoorXDag15
set_option linter.unusedVariables false
set_option linter.unusedSimpArgs false
set_option linter.unusedSectionVars false
open Go Go.X Go.Proofs
set_option linter.unusedSimpArgs false
set_option linter.unusedVariables false
namespace Go.X.TrydW

def DefD.after (d : DefD) (i : Nat) : List (List UInt8) := (d.nodes.getD i default).after

/-- Each stands behind those ahead of it. -/
def Good (d : DefD) (out : List Nat) : Prop :=
  ∀ l1 i l2, out = l1 ++ i :: l2 → i ∉ l1 ∧ i < d.nodes.length ∧ ∀ s ∈ d.after i, ∃ k, d.find s = some k ∧ k ∈ l1

theorem firstI_spec {α : Type} {p : α → Bool} {df : α} : ∀ {l : List α} {i : Nat}, firstI p l = some i → p (l.getD i df) = true ∧ ∀ j, j < i → p (l.getD j df) = false
  | x :: r, i, h => by
    simp only [firstI] at h
    split at h
    · rename_i hx
      simp only [Option.some.injEq] at h; subst h
      exact ⟨by simpa using hx, fun j hj => absurd hj (Nat.not_lt_zero _)⟩
    · rename_i hx
      rw [Option.map_eq_some_iff] at h
      obtain ⟨j, hj, rfl⟩ := h
      obtain ⟨h1, h2⟩ := firstI_spec (df := df) hj
      refine ⟨by simpa using h1, fun k hk => ?_⟩
      cases k with
      | zero => simpa using hx
      | succ k => simpa using h2 k (by omega)
theorem firstI_no {α : Type} {p : α → Bool} : ∀ {l : List α}, firstI p l = none → ∀ x ∈ l, p x = false
  | x :: r, h, y, hy => by
    simp only [firstI] at h
    split at h
    · cases h
    · rename_i hx
      rw [Option.map_eq_none_iff] at h
      rcases List.mem_cons.1 hy with rfl | hy
      · simpa using hx
      · exact firstI_no h y hy

theorem getD_range {n i : Nat} (h : i < n) : (List.range n).getD i 0 = i := by simp [List.getD_eq_getElem?_getD, h]

/-- What is told so far, and the list of it. -/
def Told (d : DefD) (told : List Bool) (out : List Nat) : Prop := told.length = d.nodes.length ∧ (∀ k, told.getD k false = true ↔ k ∈ out) ∧ Good d out

theorem good_snoc {d : DefD} {out : List Nat} {i : Nat} (h : Good d out) (hi : i ∉ out) (hn : i < d.nodes.length) (ha : ∀ s ∈ d.after i, ∃ k, d.find s = some k ∧ k ∈ out) : Good d (out ++ [i]) := by
  intro l1 j l2 he
  rcases List.append_eq_append_iff.1 he with ⟨a, h1, h2⟩ | ⟨a, h1, h2⟩
  · cases a with
    | nil => simp at h1 h2; obtain ⟨rfl, rfl⟩ := h2; subst h1; exact ⟨hi, hn, ha⟩
    | cons x a => simp at h2
  · cases a with
    | nil => simp at h1 h2; obtain ⟨rfl, rfl⟩ := h2; subst h1; exact ⟨hi, hn, ha⟩
    | cons x a =>
      simp only [List.cons_append, List.cons.injEq] at h2
      obtain ⟨rfl, rfl⟩ := h2
      exact h l1 j a h1

theorem met_iff {d : DefD} {i : Nat} {p : Nat → Bool} : d.met i p = true ↔ ∀ s ∈ d.after i, ∃ k, d.find s = some k ∧ k ≠ i ∧ p k = true := by
  unfold DefD.met DefD.after
  rw [List.all_eq_true]
  refine forall_congr' fun s => forall_congr' fun _ => ?_
  unfold depOk
  cases d.find s with
  | none => simp
  | some k => simp

theorem told_step {d : DefD} {told : List Bool} {out : List Nat} {i : Nat} (h : Told d told out) (hf : firstI (d.may told) (List.range d.nodes.length) = some i) : Told d (told.set i true) (out ++ [i]) := by
  obtain ⟨h1, h2, h3⟩ := h
  have hlt : i < d.nodes.length := by simpa using firstI_lt hf
  have hp := (firstI_spec (df := 0) hf).1
  rw [getD_range hlt] at hp
  unfold DefD.may at hp
  simp only [Bool.and_eq_true, Bool.not_eq_true'] at hp
  have hni : i ∉ out := fun hm => by rw [(h2 i).2 hm] at hp; exact absurd hp.1 (by simp)
  refine ⟨by simp [h1], fun k => ?_, good_snoc h3 hni hlt fun s hs => ?_⟩
  · rw [List.getD_eq_getElem?_getD, List.getElem?_set, List.mem_append, List.mem_singleton]
    by_cases hk : i = k
    · subst hk; simp [h1, hlt]
    · rw [if_neg hk, ← List.getD_eq_getElem?_getD, h2 k]
      exact ⟨.inl, fun h => h.elim id fun h => absurd h.symm hk⟩
  · obtain ⟨k, e1, _, e3⟩ := met_iff.1 hp.2 s hs
    exact ⟨k, e1, (h2 k).1 e3⟩

theorem ordGo_good (d : DefD) : ∀ (n : Nat) (told : List Bool) (out : List Nat), Told d told out → ∃ told', Told d told' (d.ordGo n told out) ∧ (out.length + n > d.nodes.length → firstI (d.may told') (List.range d.nodes.length) = none)
  | 0, told, out, h => ⟨told, h, fun hlt => by
      exfalso
      have hnd : out.Nodup := by
        obtain ⟨_, _, hg⟩ := h
        rw [List.nodup_iff_pairwise_ne, List.pairwise_iff_forall_sublist]
        intro a b hab hne
        subst hne
        obtain ⟨l1, l2, rfl, h1, h2⟩ := List.cons_sublist_iff.1 hab |>.imp fun r h => h
        obtain ⟨m1, m2, rfl⟩ := List.append_of_mem (List.singleton_sublist.1 h2)
        exact (hg (l1 ++ m1) a m2 (by simp)).1 (List.mem_append_left _ h1)
      have hsub : ∀ x ∈ out, x ∈ List.range d.nodes.length := fun x hx => by
        obtain ⟨l1, l2, rfl⟩ := List.append_of_mem hx
        exact List.mem_range.2 (h.2.2 l1 x l2 rfl).2.1
      have := (List.nodup_range (n := d.nodes.length)).length_le_of_subset (l₂ := out)
      have h3 := hnd.length_le_of_subset hsub
      simp at h3
      omega⟩
  | n + 1, told, out, h => by
    rw [DefD.ordGo]
    split
    · rename_i hf; exact ⟨told, h, fun _ => hf⟩
    · rename_i i hf
      obtain ⟨told', h1, h2⟩ := ordGo_good d n _ _ (told_step h hf)
      exact ⟨told', h1, fun hlt => h2 (by simp; omega)⟩

theorem order_told (d : DefD) : ∃ told, Told d told d.order ∧ firstI (d.may told) (List.range d.nodes.length) = none := by
  obtain ⟨told', h1, h2⟩ := ordGo_good d (d.nodes.length + 1) (List.replicate d.nodes.length false) [] ⟨by simp, fun k => by
    rw [List.getD_eq_getElem?_getD, List.getElem?_replicate]; split <;> simp, fun l1 i l2 h => by simp at h⟩
  exact ⟨told', h1, h2 (by simp)⟩
theorem order_good (d : DefD) : Good d d.order := (order_told d).choose_spec.1.2.2

theorem good_nodup {d : DefD} {out : List Nat} (hg : Good d out) : out.Nodup := by
  rw [List.nodup_iff_pairwise_ne, List.pairwise_iff_forall_sublist]
  intro a b hab hne
  subst hne
  obtain ⟨l1, l2, rfl, h1, h2⟩ := List.cons_sublist_iff.1 hab |>.imp fun r h => h
  obtain ⟨m1, m2, rfl⟩ := List.append_of_mem (List.singleton_sublist.1 h2)
  exact (hg (l1 ++ m1) a m2 (by simp)).1 (List.mem_append_left _ h1)
theorem good_lt {d : DefD} {out : List Nat} (hg : Good d out) {i : Nat} (h : i ∈ out) : i < d.nodes.length := by
  obtain ⟨l1, l2, rfl⟩ := List.append_of_mem h
  exact (hg l1 i l2 rfl).2.1
theorem good_pred {d : DefD} {out : List Nat} (hg : Good d out) {i : Nat} (h : i ∈ out) {s : List UInt8} (hs : s ∈ d.after i) : ∃ k, d.find s = some k ∧ k ∈ out := by
  obtain ⟨l1, l2, rfl⟩ := List.append_of_mem h
  obtain ⟨k, h1, h2⟩ := (hg l1 i l2 rfl).2.2 s hs
  exact ⟨k, h1, List.mem_append_left _ h2⟩
/-- All are told: each is. -/
theorem order_all {d : DefD} (h : d.order.length = d.nodes.length) {i : Nat} (hi : i < d.nodes.length) : i ∈ d.order := by
  have hg := order_good d
  by_cases hm : i ∈ d.order
  · exact hm
  · exfalso
    have hnd : (i :: d.order).Nodup := List.nodup_cons.2 ⟨hm, good_nodup hg⟩
    have hsub : ∀ x ∈ i :: d.order, x ∈ List.range d.nodes.length := fun x hx => by
      rcases List.mem_cons.1 hx with rfl | hx
      · exact List.mem_range.2 hi
      · exact List.mem_range.2 (good_lt hg hx)
    have := hnd.length_le_of_subset hsub
    simp at this
    omega

/-- What 'deep' says of those told in l. -/
structure Lev (d : DefD) (l : List Nat) (deep : List Nat) (longest : Nat) : Prop where
  len : deep.length = d.nodes.length
  one : ∀ i ∈ l, 1 ≤ deep.getD i 0
  pre : ∀ i ∈ l, ∀ s ∈ d.after i, deep.getD (findK d s) 0 + 1 ≤ deep.getD i 0
  why : ∀ i ∈ l, deep.getD i 0 = 1 ∨ ∃ s ∈ d.after i, deep.getD (findK d s) 0 + 1 = deep.getD i 0
  top : ∀ i ∈ l, deep.getD i 0 ≤ longest
  is : longest = 0 ∨ ∃ i ∈ l, deep.getD i 0 = longest

theorem getD_set_eq {l : List Nat} {i v : Nat} (h : i < l.length) : (l.set i v).getD i 0 = v := by simp [List.getD_eq_getElem?_getD, h]
theorem getD_set_ne {l : List Nat} {i j v : Nat} (h : j ≠ i) : (l.set i v).getD j 0 = l.getD j 0 := by
  simp only [List.getD_eq_getElem?_getD, List.getElem?_set, if_neg (Ne.symm h)]

theorem foldIn (d : DefD) {i : Nat} : ∀ (a : List (List UInt8)) (deep : List Nat), i < deep.length → (∀ s ∈ a, findK d s ≠ i) →
    (∀ j, j ≠ i → (a.foldl (stepIn d i) deep).getD j 0 = deep.getD j 0) ∧ deep.getD i 0 ≤ (a.foldl (stepIn d i) deep).getD i 0 ∧
    (∀ s ∈ a, deep.getD (findK d s) 0 + 1 ≤ (a.foldl (stepIn d i) deep).getD i 0) ∧
    ((a.foldl (stepIn d i) deep).getD i 0 = deep.getD i 0 ∨ ∃ s ∈ a, deep.getD (findK d s) 0 + 1 = (a.foldl (stepIn d i) deep).getD i 0)
  | [], deep, hi, _ => ⟨fun _ _ => rfl, Nat.le_refl _, fun s hs => (by cases hs), .inl rfl⟩
  | s :: a, deep, hi, hne => by
    rw [List.foldl_cons]
    have hl : i < (stepIn d i deep s).length := by rw [stepIn_len]; exact hi
    obtain ⟨h1, h2, h3, h4⟩ := foldIn d a (stepIn d i deep s) hl (fun t ht => hne t (List.mem_cons_of_mem _ ht))
    have e1 : (stepIn d i deep s).getD i 0 = max (deep.getD i 0) (deep.getD (findK d s) 0 + 1) := getD_set_eq hi
    have e2 : ∀ j, j ≠ i → (stepIn d i deep s).getD j 0 = deep.getD j 0 := fun j hj => getD_set_ne hj
    refine ⟨fun j hj => (h1 j hj).trans (e2 j hj), by omega, fun t ht => ?_, ?_⟩
    · rcases List.mem_cons.1 ht with rfl | ht
      · omega
      · have := h3 t ht; rw [e2 _ (hne t (List.mem_cons_of_mem _ ht))] at this; exact this
    · rcases h4 with h4 | ⟨t, ht, h4⟩
      · rw [h4, e1]
        by_cases hc : deep.getD (findK d s) 0 + 1 ≤ deep.getD i 0
        · exact .inl (by omega)
        · exact .inr ⟨s, List.mem_cons_self, by omega⟩
      · rw [e2 _ (hne t (List.mem_cons_of_mem _ ht))] at h4
        exact .inr ⟨t, List.mem_cons_of_mem _ ht, h4⟩

theorem lev_step {d : DefD} {l : List Nat} {i : Nat} {st : List Nat × Nat} (h : Lev d l st.1 st.2) (hg : Good d (l ++ [i])) : Lev d (l ++ [i]) (stepD d st i).1 (stepD d st i).2 := by
  obtain ⟨hni, hlt, hpre⟩ := hg l i [] rfl
  have hk : ∀ j ∈ l ++ [i], ∀ s ∈ d.after j, ∃ k, d.find s = some k ∧ k ∈ l := fun j hj s hs => by
    rcases List.mem_append.1 hj with hj' | hj'
    · obtain ⟨l1, l2, rfl⟩ := List.append_of_mem hj'
      obtain ⟨k, h1, h2⟩ := (hg l1 j (l2 ++ [i]) (by simp)).2.2 s hs
      exact ⟨k, h1, List.mem_append_left _ h2⟩
    · rw [List.mem_singleton] at hj'; subst hj'; exact hpre s hs
  have hne : ∀ j ∈ l ++ [i], ∀ s ∈ d.after j, findK d s ∈ l ∧ findK d s ≠ i := fun j hj s hs => by
    obtain ⟨k, h1, h2⟩ := hk j hj s hs
    have : findK d s = k := by simp [findK, h1]
    rw [this]; exact ⟨h2, fun e => hni (e ▸ h2)⟩
  have hlen := h.len
  have e0 : (stepD d st i).1 = (d.after i).foldl (stepIn d i) (st.1.set i 1) := by
    show deepOf d st.1 i (d.nodes.getD i default).after.length = _
    unfold deepOf DefD.after
    rw [List.take_length]
  have hi1 : i < (st.1.set i 1).length := by rw [List.length_set, hlen]; exact hlt
  obtain ⟨f1, f2, f3, f4⟩ := foldIn d (d.after i) (st.1.set i 1) hi1 (fun s hs => (hne i (by simp) s hs).2)
  have e1 : (stepD d st i).2 = max st.2 ((stepD d st i).1.getD i 0) := rfl
  rw [← e0] at f1 f2 f3 f4
  generalize hD : (stepD d st i).1 = D at *
  generalize hLo : (stepD d st i).2 = Lo at *
  have g1 : ∀ j, j ≠ i → D.getD j 0 = st.1.getD j 0 := fun j hj => (f1 j hj).trans (getD_set_ne hj)
  have gi : (st.1.set i 1).getD i 0 = 1 := getD_set_eq (by rw [hlen]; exact hlt)
  rw [gi] at f2 f4
  have gp : ∀ j ∈ l ++ [i], ∀ s ∈ d.after j, D.getD (findK d s) 0 = st.1.getD (findK d s) 0 := fun j hj s hs => g1 _ (hne j hj s hs).2
  have gp' : ∀ s ∈ d.after i, (st.1.set i 1).getD (findK d s) 0 = D.getD (findK d s) 0 := fun s hs => by
    rw [gp i (by simp) s hs]; exact getD_set_ne (hne i (by simp) s hs).2
  have hl' : ∀ j ∈ l, j ≠ i := fun j hj e => hni (e ▸ hj)
  refine ⟨?_, fun j hj => ?_, fun j hj s hs => ?_, fun j hj => ?_, fun j hj => ?_, ?_⟩
  · rw [← hD, stepD, deepOf_len]; exact hlen
  · rcases List.mem_append.1 hj with hj' | hj'
    · rw [g1 j (hl' j hj')]; exact h.one j hj'
    · rw [List.mem_singleton] at hj'; subst hj'; exact f2
  · rw [gp j hj s hs]
    rcases List.mem_append.1 hj with hj' | hj'
    · rw [g1 j (hl' j hj')]; exact h.pre j hj' s hs
    · rw [List.mem_singleton] at hj'; subst hj'
      have := f3 s hs
      rw [gp' s hs, gp j hj s hs] at this; exact this
  · rcases List.mem_append.1 hj with hj' | hj'
    · rw [g1 j (hl' j hj')]
      rcases h.why j hj' with h1 | ⟨s, hs, h1⟩
      · exact .inl h1
      · exact .inr ⟨s, hs, by rw [gp j hj s hs]; exact h1⟩
    · rw [List.mem_singleton] at hj'; subst hj'
      rcases f4 with h1 | ⟨s, hs, h1⟩
      · exact .inl h1
      · exact .inr ⟨s, hs, by rw [← gp' s hs]; exact h1⟩
  · rcases List.mem_append.1 hj with hj' | hj'
    · rw [g1 j (hl' j hj')]; have := h.top j hj'; omega
    · rw [List.mem_singleton] at hj'; subst hj'; omega
  · by_cases hc : D.getD i 0 ≤ st.2
    · rcases h.is with h1 | ⟨j, hj, h1⟩
      · omega
      · exact .inr ⟨j, List.mem_append_left _ hj, by rw [g1 j (hl' j hj)]; omega⟩
    · exact .inr ⟨i, by simp, by omega⟩

theorem lev_fold {d : DefD} : ∀ (r l : List Nat) (st : List Nat × Nat), Good d (l ++ r) → Lev d l st.1 st.2 → Lev d (l ++ r) (r.foldl (stepD d) st).1 (r.foldl (stepD d) st).2
  | [], l, st, _, h => by simpa using h
  | i :: r, l, st, hg, h => by
    have hg' : Good d ((l ++ [i]) ++ r) := by simpa using hg
    have h1 : Good d (l ++ [i]) := fun l1 j l2 he => hg' l1 j (l2 ++ r) (by rw [he]; simp)
    have := lev_fold r (l ++ [i]) (stepD d st i) hg' (lev_step h h1)
    simpa using this

def DefD.deeps (d : DefD) : List Nat := (d.order.foldl (stepD d) (List.replicate d.nodes.length 0, 0)).1
theorem lev_all (d : DefD) : Lev d d.order d.deeps d.depth := by
  have := lev_fold (d := d) d.order [] (List.replicate d.nodes.length 0, 0) (by simpa using order_good d) ⟨by simp, by simp, by simp, by simp, by simp, .inl rfl⟩
  simpa [DefD.deeps, DefD.depth] using this

/-- What is over behind r rounds. -/
def DefD.dp (d : DefD) (i : Nat) : Nat := d.deeps.getD i 0
def DefD.overAt (d : DefD) (r : Nat) : List Bool := (List.range d.nodes.length).map fun i => decide (d.dp i ≤ r)
def DefD.lvl (d : DefD) (r : Nat) : List Nat := (List.range d.nodes.length).filter fun i => decide (d.dp i = r + 1)
def DefD.cnt (d : DefD) (r : Nat) : Nat := ((List.range d.nodes.length).filter fun i => decide (d.dp i ≤ r)).length
def setAll (l : List Nat) (o : List Bool) : List Bool := l.foldl (fun o i => o.set i true) o

theorem setAll_len (l : List Nat) : ∀ o : List Bool, (setAll l o).length = o.length := by
  induction l with
  | nil => intro o; rfl
  | cons i l ih => intro o; simp only [setAll, List.foldl_cons]; rw [show l.foldl (fun o i => o.set i true) (o.set i true) = setAll l (o.set i true) from rfl, ih]; simp
theorem setAll_get (l : List Nat) : ∀ (o : List Bool) (k : Nat), (setAll l o)[k]? = if k < o.length then some (decide (k ∈ l) || o.getD k false) else none := by
  induction l with
  | nil => intro o k; simp only [setAll, List.foldl_nil, List.not_mem_nil, decide_false, Bool.false_or]
           split
           · rename_i h; simp [List.getD_eq_getElem?_getD, h]
           · rename_i h; simp [Nat.le_of_not_lt h]
  | cons i l ih =>
    intro o k
    simp only [setAll, List.foldl_cons]
    rw [show l.foldl (fun o i => o.set i true) (o.set i true) = setAll l (o.set i true) from rfl, ih, List.length_set]
    split
    · rename_i h
      congr 1
      rw [List.getD_eq_getElem?_getD, List.getElem?_set]
      by_cases hk : i = k
      · subst hk; simp [h]
      · rw [if_neg hk, ← List.getD_eq_getElem?_getD]
        have : (k ∈ i :: l) = (k ∈ l) := by simp [Ne.symm hk]
        rw [show decide (k ∈ i :: l) = decide (k ∈ l) from by simp [Ne.symm hk]]
    · rfl
theorem overAt_len (d : DefD) (r : Nat) : (d.overAt r).length = d.nodes.length := by simp [DefD.overAt]
theorem overAt_get (d : DefD) (r : Nat) {i : Nat} (h : i < d.nodes.length) : (d.overAt r).getD i false = decide (d.dp i ≤ r) := by
  simp [DefD.overAt, List.getD_eq_getElem?_getD, h]
theorem lvl_lt {d : DefD} {r i : Nat} (h : i ∈ d.lvl r) : i < d.nodes.length ∧ d.dp i = r + 1 := by
  simpa [DefD.lvl] using h
theorem over_next (d : DefD) (r : Nat) : setAll (d.lvl r) (d.overAt r) = d.overAt (r + 1) := by
  apply List.ext_getElem?
  intro k
  rw [setAll_get, overAt_len]
  split
  · rename_i h
    rw [overAt_get d r h]
    simp only [DefD.overAt, List.getElem?_map, List.getElem?_range h, Option.map_some, Option.some.injEq]
    rw [show decide (k ∈ d.lvl r) = decide (d.dp k = r + 1) from by simp [DefD.lvl, h], ← Bool.decide_or]
    exact decide_eq_decide.2 (by omega)
  · rename_i h; simp [DefD.overAt, Nat.le_of_not_lt h]
section
variable {d : DefD} (ho : d.order.length = d.nodes.length)
include ho
theorem over_0 : List.replicate d.nodes.length false = d.overAt 0 := by
  apply List.ext_getElem (by simp [DefD.overAt])
  intro i h1 h2
  have hi : i < d.nodes.length := by simpa using h1
  have := (lev_all d).one i (order_all ho hi)
  simp only [List.getElem_replicate, DefD.overAt, List.getElem_map, List.getElem_range]
  have h3 : ¬ d.dp i ≤ 0 := by unfold DefD.dp; omega
  simp [h3]
theorem ready_at (r : Nat) : d.ready (d.overAt r) (d.overAt r) = d.lvl r := by
  unfold DefD.ready DefD.lvl
  refine List.filter_congr fun i hi => ?_
  have hi : i < d.nodes.length := List.mem_range.1 hi
  have hL := lev_all d
  have hg := order_good d
  have him := order_all ho hi
  have key : (¬ d.dp i ≤ r ∧ d.met i (atB (d.overAt r)) = true) ↔ d.dp i = r + 1 := by
    rw [met_iff]
    constructor
    · rintro ⟨h1, h2⟩
      rcases hL.why i him with h | ⟨s, hs, h⟩
      · unfold DefD.dp at h1 ⊢; omega
      · obtain ⟨k, e1, e2, e3⟩ := h2 s hs
        have hk : findK d s = k := by simp [findK, e1]
        obtain ⟨k', f1, f2⟩ := good_pred hg him hs
        have : k' = k := by rw [e1] at f1; exact (Option.some.inj f1).symm
        subst this
        rw [hk] at h
        rw [atB, overAt_get d r (good_lt hg f2)] at e3
        have e3 := of_decide_eq_true e3
        unfold DefD.dp at *; omega
    · intro h
      refine ⟨by omega, fun s hs => ?_⟩
      obtain ⟨k, f1, f2⟩ := good_pred hg him hs
      have hk : findK d s = k := by simp [findK, f1]
      have hp := hL.pre i him s hs
      rw [hk] at hp
      refine ⟨k, f1, fun e => ?_, ?_⟩
      · subst e; omega
      · rw [atB, overAt_get d r (good_lt hg f2)]
        refine decide_eq_true ?_
        unfold DefD.dp at *; omega
  unfold DefD.isReady
  rw [Bool.eq_iff_iff, Bool.and_eq_true, decide_eq_true_iff, ← key, atB, overAt_get d r hi]
  simp
theorem lvl_some : ∀ (m r : Nat), r + 1 + m = d.depth → d.lvl r ≠ []
  | 0, r, hr => by
    have hL := lev_all d
    rcases hL.is with h | ⟨i, hi, h⟩
    · omega
    · intro he
      have : i ∈ d.lvl r := by simp only [DefD.lvl, List.mem_filter, List.mem_range, decide_eq_true_eq]; exact ⟨good_lt (order_good d) hi, by unfold DefD.dp; omega⟩
      rw [he] at this; cases this
  | m + 1, r, hr => by
    have h1 := lvl_some m (r + 1) (by omega)
    obtain ⟨i, hi⟩ := List.exists_mem_of_ne_nil _ h1
    obtain ⟨hlt, h2⟩ := lvl_lt hi
    have hL := lev_all d
    have him := order_all ho hlt
    rcases hL.why i him with h | ⟨s, hs, h⟩
    · unfold DefD.dp at h2; omega
    · obtain ⟨k, f1, f2⟩ := good_pred (order_good d) him hs
      have hk : findK d s = k := by simp [findK, f1]
      rw [hk] at h
      intro he
      have : k ∈ d.lvl r := by simp only [DefD.lvl, List.mem_filter, List.mem_range, decide_eq_true_eq]; exact ⟨good_lt (order_good d) f2, by unfold DefD.dp at *; omega⟩
      rw [he] at this; cases this
theorem lvl_ne {r : Nat} (h : r < d.depth) : d.lvl r ≠ [] := lvl_some ho (d.depth - (r + 1)) r (by omega)
theorem cnt_0 : d.cnt 0 = 0 := by
  unfold DefD.cnt
  rw [List.length_eq_zero_iff, List.filter_eq_nil_iff]
  intro i hi
  have hi : i < d.nodes.length := List.mem_range.1 hi
  have := (lev_all d).one i (order_all ho hi)
  have h3 : ¬ d.dp i ≤ 0 := by unfold DefD.dp; omega
  simp [h3]
theorem cnt_all : d.cnt d.depth = d.nodes.length := by
  unfold DefD.cnt
  rw [List.filter_eq_self.2 ?_, List.length_range]
  intro i hi
  have hi : i < d.nodes.length := List.mem_range.1 hi
  exact decide_eq_true ((lev_all d).top i (order_all ho hi))
end
theorem filter_or {α : Type} (p q : α → Bool) : ∀ l : List α, (∀ x ∈ l, ¬ (p x = true ∧ q x = true)) → (l.filter fun x => p x || q x).length = (l.filter p).length + (l.filter q).length
  | [], _ => rfl
  | x :: l, h => by
    have ih := filter_or p q l fun y hy => h y (List.mem_cons_of_mem _ hy)
    have hx := h x List.mem_cons_self
    simp only [List.filter_cons]
    cases hp : p x <;> cases hq : q x <;> simp [hp, hq, ih] at hx ⊢ <;> omega
theorem cnt_next (d : DefD) (r : Nat) : d.cnt (r + 1) = d.cnt r + (d.lvl r).length := by
  unfold DefD.cnt DefD.lvl
  rw [← filter_or _ _ _ (fun i _ h => by simp at h; omega)]
  congr 1
  refine List.filter_congr fun i _ => ?_
  rw [← Bool.decide_or]
  exact decide_eq_decide.2 (by omega)
theorem cnt_le (d : DefD) (r : Nat) : d.cnt r ≤ d.nodes.length := by
  have := List.length_filter_le (fun i => decide (d.dp i ≤ r)) (List.range d.nodes.length)
  simpa [DefD.cnt] using this
theorem lvl_len (d : DefD) (r : Nat) : (d.lvl r).length ≤ d.nodes.length := by
  have := List.length_filter_le (fun i => decide (d.dp i = r + 1)) (List.range d.nodes.length)
  simpa [DefD.lvl] using this
theorem check_ok {d : DefD} (h : d.check.2 = 0) : d.order.length = d.nodes.length ∧ 0 < d.nodes.length ∧ d.nodes.length ≤ 32 ∧ d.check.1 = -1 ∧ namedS d.name false 64 = true ∧ (∀ i, i < d.nodes.length → d.nodeE i = 0 ∧ d.depE i = 0) := by
  unfold DefD.check at h ⊢
  split at h
  · cases h
  · rename_i h0
    split at h
    · cases h
    · rename_i h1
      split at h
      · rename_i i hf
        have := (firstI_spec (df := 0) hf).1
        rw [getD_range (by simpa using firstI_lt hf)] at this
        simp at this h; exact absurd h this
      · rename_i hf
        split at h
        · rename_i i hf'
          have := (firstI_spec (df := 0) hf').1
          rw [getD_range (by simpa using firstI_lt hf')] at this
          simp at this h; exact absurd h this
        · rename_i hf'
          split at h
          · rename_i h2
            rw [if_neg h0, if_neg h1]; simp only [if_pos h2]
            simp only [Bool.or_eq_true, decide_eq_true_eq, not_or] at h1
            refine ⟨h2, by omega, by omega, trivial, by simpa using h0, fun i hi => ⟨?_, ?_⟩⟩
            · simpa using firstI_no hf i (List.mem_range.2 hi)
            · simpa using firstI_no hf' i (List.mem_range.2 hi)
          · cases h
end Go.X.TrydW
