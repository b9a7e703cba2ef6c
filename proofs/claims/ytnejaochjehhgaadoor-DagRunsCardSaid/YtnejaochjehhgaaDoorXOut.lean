/- The calculus X, part 22: a list of ours that grows by append. -/
import Derived.Test.YtnejaochjehhgaaDoorXExtern
set_option linter.unusedVariables false
set_option linter.unusedSimpArgs false
set_option linter.unusedSectionVars false
namespace Go.X
open Go
/-- v is a list of ours that holds rows; behind the blocks p. -/
def OutOk (sz : Nat) (p : List Blk) (rows : List (List IV)) (v : IV) (L : List Blk) : Prop :=
  ∃ J, L = p ++ J ∧ ((rows = [] ∧ v = .nsl) ∨ ∃ s, p.length ≤ s ∧ v = .sl s 0 rows.length rows.length ∧ L[s]? = some (.cells sz rows))
section
variable {E : Env} {ρ : Rho} {L : List Blk} {KV : IV → List Blk → Prop}
theorem out_nil {sz : Nat} {p J : List Blk} : OutOk sz p [] .nsl (p ++ J) := ⟨J, rfl, .inl ⟨rfl, rfl⟩⟩

theorem out_append {sz bytes : Nat} {p : List Blk} {rows : List (List IV)} {v : IV} {row : List IV} {t : Nat} {L2 : List Blk} (h : OutOk sz p rows v L) (ht : t = L.length) (hL2 : L2 = L ++ [.cells sz [row]])
    (hr : row.length = sz ∧ row.all isCell = true) (hb : (rows.length + 1) * bytes ≤ 70368744177664) (hk : ∀ v' L', OutOk sz p (rows ++ [row]) v' L' → KV v' L') :
    xop E (.append sz bytes (.c v) (.c (.sl t 0 1 1))) cev L2 KV := by
  subst ht; subst hL2
  obtain ⟨J, rfl, h⟩ := h
  show xappend sz bytes v (.sl (p ++ J).length 0 1 1) (p ++ J ++ [Blk.cells sz [row]]) KV
  unfold xappend
  have hx : rowsOf (p ++ J ++ [Blk.cells sz [row]]) (.sl (p ++ J).length 0 1 1) = some [row] := by simp [rowsOf]
  rw [hx]
  show RowsC sz [row] ∧ _
  refine ⟨fun r hr' => by simp at hr'; subst hr'; exact hr, ?_⟩
  rcases h with ⟨rfl, rfl⟩ | ⟨s, hs, rfl, hL⟩
  · refine ⟨fun h => (by cases h), fun _ => ⟨by simpa using hb, ?_⟩⟩
    refine hk _ _ ⟨J ++ [Blk.cells sz [row]] ++ [Blk.cells sz [row]], by simp, .inr ⟨_, ?_, rfl, ?_⟩⟩
    · simp only [List.length_append]; omega
    · simp
  · have hsl : s < (p ++ J).length := (List.getElem?_eq_some_iff.1 hL).1
    have h1 : (p ++ J ++ [Blk.cells sz [row]])[s]? = some (.cells sz rows) := by rw [List.getElem?_append_left hsl]; exact hL
    simp only [h1]
    refine ⟨trivial, by omega, ?_⟩
    rw [if_neg (by simp)]
    refine ⟨by simpa using hb, hk _ _ ?_⟩
    refine ⟨(J ++ [Blk.cells sz [row]]).set (s - p.length) .dead ++ [.cells sz (rows ++ [row])], ?_, .inr ⟨(p ++ J ++ [Blk.cells sz [row]]).length, (by simp only [List.length_append]; omega), (by simp), ?_⟩⟩
    · rw [List.append_assoc, List.set_append_right _ _ hs]; simp
    · simp

/-- What the list reads as behind the function. -/
theorem out_conv {sz n : Nat} {p : List Blk} {rows : List (List IV)} {v : IV} (h : OutOk sz p rows v L) (hr : mapO (mapO (conv L n renFreeze.inner)) rows = some rows) : conv L (n + 1) renFreeze v = some (.isl rows) := by
  obtain ⟨J, rfl, h⟩ := h
  rcases h with ⟨rfl, rfl⟩ | ⟨s, hs, rfl, hL⟩
  · rfl
  · simp only [conv, renFreeze, hL, Nat.zero_add, Nat.le_refl, if_true, List.drop_zero, List.take_length]
    rw [hr]; rfl

theorem o_len_out {sz : Nat} {p L' : List Blk} {rows : List (List IV)} {v : IV} (h : OutOk sz p rows v L) : xop E (.len (.c v)) cev L' KV = KV (.int .i64 rows.length) L' := by
  obtain ⟨J, rfl, ⟨rfl, rfl⟩ | ⟨s, hs, rfl, hL⟩⟩ := h <;> rfl
theorem conv_ptr_free {n s r o sz : Nat} {m : Ren} {rows rs : List (List IV)} (hm : m s = some none) (hL : L[s]? = some (.cells sz rows)) (hr : mapO (mapO (conv L n m.inner)) rows = some rs) :
    conv L (n + 1) m (.ptr s r o) = some (.iptr rs r o) := by
  simp only [conv, hm, hL, hr]; rfl
theorem conv_sl_free {n s off len cap sz : Nat} {m : Ren} {rows rs : List (List IV)} (hm : m s = some none) (hL : L[s]? = some (.cells sz rows)) (hl : off + len ≤ rows.length) (hr : mapO (mapO (conv L n m.inner)) ((rows.drop off).take len) = some rs) :
    conv L (n + 1) m (.sl s off len cap) = some (.isl rs) := by
  simp only [conv, hm, hL, hr, if_pos hl]; rfl
theorem conv_fn {n : Nat} {m : Ren} {f : Fn} {a b a' b' : List IV} (h1 : mapO (conv L n m) a = some a') (h2 : mapO (conv L n m) b = some b') : conv L (n + 1) m (.fn f a b) = some (.fn f a' b') := by
  simp only [conv, h1, h2]
theorem conv_agg {n : Nat} {m : Ren} {a a' : List IV} (h1 : mapO (conv L n m) a = some a') : conv L (n + 1) m (.agg a) = some (.agg a') := by
  simp only [conv, h1]; rfl
theorem mapO_cons {α β : Type} {f : α → Option β} {x : α} {y : β} {r : List α} {ys : List β} (h1 : f x = some y) (h2 : mapO f r = some ys) : mapO f (x :: r) = some (y :: ys) := by
  simp only [mapO, h1, h2]
@[go_sem] theorem app_last {α : Type} {J : List α} {x : α} : (J ++ [x])[J.length]? = some x := by simp
@[go_sem] theorem app_set {α : Type} {J : List α} {x y : α} : (J ++ [x]).set J.length y = J ++ [y] := by simp
theorem mapO_same {α : Type} {f : α → Option α} : ∀ {l : List α}, (∀ x ∈ l, f x = some x) → mapO f l = some l
  | [], _ => rfl
  | x :: r, h => by simp only [mapO]; rw [h x List.mem_cons_self, mapO_same fun y hy => h y (List.mem_cons_of_mem _ hy)]

@[go_sem] theorem o_bslice1 {sz : Nat} {zero : List IV} {x : IV} (h1 : zero.length = sz) (h2 : (cellsOf x).length = sz) : xop E (.bslice sz zero 1 [(0, .c x)]) cev L KV = KV (.sl L.length 0 1 1) (L ++ [.cells sz [cellsOf x]]) := by
  simp only [xop, List.map_cons, List.map_nil, cev_c, xfillRows, List.replicate, h1, h2, List.length_cons, List.length_nil, true_and]
  simp
@[go_sem] theorem o_mkslice {zero : List IV} {bytes : Nat} {k k' : IntKind} {n m : Int} : xop E (.mkslice zero bytes (.c (.int k n)) (.c (.int k' m))) cev L KV =
    (0 ≤ n ∧ n ≤ m ∧ m ≤ 9223372036854775807 ∧ m * bytes ≤ 281474976710656 ∧ KV (.sl L.length 0 n.toNat m.toNat) (L ++ [.cells zero.length (List.replicate m.toNat zero)])) := nr rfl
def szB (b : Option Blk) : Option Nat := match b with | some (.cells sz _) => some sz | _ => none
@[go_sem] theorem szOf_def {s : Nat} : szOf L s = szB L[s]? := nr rfl
@[go_sem] theorem szB_cells {sz : Nat} {rows : List (List IV)} : szB (some (.cells sz rows)) = some sz := nr rfl
end
end Go.X
