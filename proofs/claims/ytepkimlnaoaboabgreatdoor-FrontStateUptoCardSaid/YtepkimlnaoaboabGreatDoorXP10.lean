/- Parts of the proof: XExtern, XOut, XRange, XEval, XOwn. -/
import Derived.Test.YtepkimlnaoaboabGreatDoorXP9
import Derived.Lib.Bytealg
set_option linter.unusedVariables false
set_option linter.unusedSimpArgs false
set_option linter.unusedSectionVars false
section
/- The calculus X, part 21: what the model answers by itself: bytes in a string. -/
namespace Go.X
open Go
section
variable {E : Env}

theorem ext_mk {f : FuncId} {fn : Func} {en : Array Value → Sem Value} {args : List IV} {r : IV} (hf : E.P.funcs[f]? = some fn) (hname : (fn.name == "runtime.NumGoroutine") = false)
    (hb : fn.body.isNone = true) (hn : Extern.findNext fn = none) (he : Extern.find fn = some en)
    (h : ∀ (C : Ctx) (vs : List Value), E.G C.w → args.length = vs.length → (∀ (i : Nat) (x : IV), args[i]? = some x → VR C x (vs.getD i undef)) → ∃ v, (en vs.toArray).run E.P C.w = .ok v C.w ∧ VR C r v) : XExt E f args r := by
  intro C vs hG hl hv
  obtain ⟨v, h1, h2⟩ := h C vs hG hl hv
  refine ⟨v, ?_, h2⟩
  rw [run_callFunc_extern hf hname hb hn he, h1]; rfl

theorem two {C : Ctx} {x y : IV} {vs : List Value} (hl : [x, y].length = vs.length) (hv : ∀ (i : Nat) (z : IV), [x, y][i]? = some z → VR C z (vs.getD i undef)) :
    ∃ a b, vs = [a, b] ∧ VR C x a ∧ VR C y b := by
  match vs, hl with
  | [a, b], _ => exact ⟨a, b, rfl, hv 0 x rfl, hv 1 y rfl⟩

end
end Go.X
end
section
/- The calculus X, part 22: a list of ours that grows by append. -/
namespace Go.X
open Go
/-- v is a list of ours that holds rows; behind the blocks p. -/
def OutOk (sz : Nat) (p : List Blk) (rows : List (List IV)) (v : IV) (L : List Blk) : Prop :=
  ∃ J, L = p ++ J ∧ ((rows = [] ∧ v = .nsl) ∨ ∃ s, p.length ≤ s ∧ v = .sl s 0 rows.length rows.length ∧ L[s]? = some (.cells sz rows))
section
variable {E : Env} {ρ : Rho} {L : List Blk} {KV : IV → List Blk → Prop}
theorem out_nil {sz : Nat} {p J : List Blk} : OutOk sz p [] .nsl (p ++ J) := ⟨J, rfl, .inl ⟨rfl, rfl⟩⟩

theorem out_append {sz bytes : Nat} {p : List Blk} {rows : List (List IV)} {v : IV} {row : List IV} {t : Nat} {L2 : List Blk} (h : OutOk sz p rows v L) (ht : t = L.length) (hL2 : L2 = L ++ [.cells sz [row]])
    (hr : row.length = sz ∧ row.all isCell = true) (hb : (rows.length + 1) * bytes ≤ 70368744177664) (hk : ∀ v' L', OutOk sz p (rows ++ [row]) v' L' → KV v' L') :
    xop E (.append sz bytes (.c v) (.c (.sl t 0 1 1))) cev L2 KV := by
  subst ht; subst hL2
  obtain ⟨J, rfl, h⟩ := h
  show xappend sz bytes v (.sl (p ++ J).length 0 1 1) (p ++ J ++ [Blk.cells sz [row]]) KV
  unfold xappend
  have hx : rowsOf (p ++ J ++ [Blk.cells sz [row]]) (.sl (p ++ J).length 0 1 1) = some [row] := by simp [rowsOf]
  rw [hx]
  show RowsC sz [row] ∧ _
  refine ⟨fun r hr' => by simp at hr'; subst hr'; exact hr, ?_⟩
  rcases h with ⟨rfl, rfl⟩ | ⟨s, hs, rfl, hL⟩
  · refine ⟨fun h => (by cases h), fun _ => ⟨by simpa using hb, ?_⟩⟩
    refine hk _ _ ⟨J ++ [Blk.cells sz [row]] ++ [Blk.cells sz [row]], by simp, .inr ⟨_, ?_, rfl, ?_⟩⟩
    · simp only [List.length_append]; omega
    · simp
  · have hsl : s < (p ++ J).length := (List.getElem?_eq_some_iff.1 hL).1
    have h1 : (p ++ J ++ [Blk.cells sz [row]])[s]? = some (.cells sz rows) := by rw [List.getElem?_append_left hsl]; exact hL
    simp only [h1]
    refine ⟨trivial, by omega, ?_⟩
    rw [if_neg (by simp)]
    refine ⟨by simpa using hb, hk _ _ ?_⟩
    refine ⟨(J ++ [Blk.cells sz [row]]).set (s - p.length) .dead ++ [.cells sz (rows ++ [row])], ?_, .inr ⟨(p ++ J ++ [Blk.cells sz [row]]).length, (by simp only [List.length_append]; omega), (by simp), ?_⟩⟩
    · rw [List.append_assoc, List.set_append_right _ _ hs]; simp
    · simp

/-- What the list reads as behind the function. -/
theorem out_conv {sz n : Nat} {p : List Blk} {rows : List (List IV)} {v : IV} (h : OutOk sz p rows v L) (hr : mapO (mapO (conv L n renFreeze.inner)) rows = some rows) : conv L (n + 1) renFreeze v = some (.isl rows) := by
  obtain ⟨J, rfl, h⟩ := h
  rcases h with ⟨rfl, rfl⟩ | ⟨s, hs, rfl, hL⟩
  · rfl
  · simp only [conv, renFreeze, hL, Nat.zero_add, Nat.le_refl, if_true, List.drop_zero, List.take_length]
    rw [hr]; rfl

theorem mapO_cons {α β : Type} {f : α → Option β} {x : α} {y : β} {r : List α} {ys : List β} (h1 : f x = some y) (h2 : mapO f r = some ys) : mapO f (x :: r) = some (y :: ys) := by
  simp only [mapO, h1, h2]
@[go_sem] theorem app_last {α : Type} {J : List α} {x : α} : (J ++ [x])[J.length]? = some x := by simp
@[go_sem] theorem app_set {α : Type} {J : List α} {x y : α} : (J ++ [x]).set J.length y = J ++ [y] := by simp
theorem mapO_same {α : Type} {f : α → Option α} : ∀ {l : List α}, (∀ x ∈ l, f x = some x) → mapO f l = some l
  | [], _ => rfl
  | x :: r, h => by simp only [mapO]; rw [h x List.mem_cons_self, mapO_same fun y hy => h y (List.mem_cons_of_mem _ hy)]

@[go_sem] theorem o_bslice1 {sz : Nat} {zero : List IV} {x : IV} (h1 : zero.length = sz) (h2 : (cellsOf x).length = sz) : xop E (.bslice sz zero 1 [(0, .c x)]) cev L KV = KV (.sl L.length 0 1 1) (L ++ [.cells sz [cellsOf x]]) := by
  simp only [xop, List.map_cons, List.map_nil, cev_c, xfillRows, List.replicate, h1, h2, List.length_cons, List.length_nil, true_and]
  simp
@[go_sem] theorem o_mkslice {zero : List IV} {bytes : Nat} {k k' : IntKind} {n m : Int} : xop E (.mkslice zero bytes (.c (.int k n)) (.c (.int k' m))) cev L KV =
    (0 ≤ n ∧ n ≤ m ∧ m ≤ 9223372036854775807 ∧ m * bytes ≤ 281474976710656 ∧ KV (.sl L.length 0 n.toNat m.toNat) (L ++ [.cells zero.length (List.replicate m.toNat zero)])) := nr rfl
def szB (b : Option Blk) : Option Nat := match b with | some (.cells sz _) => some sz | some (.tcells _ sz _) => some sz | _ => none
@[go_sem] theorem szOf_def {s : Nat} : szOf L s = szB L[s]? := nr rfl
@[go_sem] theorem szB_tcells {ty sz : Nat} {rows : List (List IV)} : szB (some (.tcells ty sz rows)) = some sz := nr rfl
@[go_sem] theorem szB_cells {sz : Nat} {rows : List (List IV)} : szB (some (.cells sz rows)) = some sz := nr rfl
end
end Go.X
end
section
/- The calculus X, part 23: a loop over a function: the rounds. -/
namespace Go.X
open Go

end Go.X
end
section
/- The calculus X, part 24: a run with all values known is reckoned. -/
namespace Go.X
open Go

abbrev EvCall := FuncId → List IV → List Blk → Option (IV × List Blk)

/-- Nothing of ours is named. -/
def plainD : Nat → IV → Bool
  | 0, _ => false
  | n + 1, x => match x with
    | .bool _ | .int .. | .str _ | .raw _ | .und | .isl _ | .iptr .. => true
    | .agg cs | .tup cs => cs.all (plainD n)
    | .fn _ a b => a.all (plainD n) && b.all (plainD n)
    | .iface _ v => plainD n v
    | _ => false
theorem plainD_conv {L : List Blk} {m : Ren} : ∀ {n : Nat} {x : IV}, plainD n x = true → conv L n m x = some x
  | 0, _, h => by cases h
  | n + 1, x, h => by
    have hl : ∀ {l : List IV}, l.all (plainD n) = true → mapO (conv L n m) l = some l := fun {l} hl => mapO_same fun x hx => plainD_conv (by rw [List.all_eq_true] at hl; exact hl x hx)
    cases x <;> simp only [plainD] at h <;> first
      | rfl
      | cases h
      | skip
    case agg cs => simp only [conv, hl h]; rfl
    case tup cs => simp only [conv, hl h]; rfl
    case fn f a b =>
      rw [Bool.and_eq_true] at h
      simp only [conv, hl h.1, hl h.2]
    case iface t v => simp only [conv, plainD_conv h]; rfl

def XLabs.get : XLabs → Nat → Option XC
  | .nil, _ => none
  | .cons l c r, n => if n = l then some c else r.get n
abbrev EvR := Option (XE × List IV × List Blk)

/-- What the functions are. -/
structure Tab where
  T : FuncId → Option (Nat × XFn)
  pre : FuncId → List IV → Option IV
  ext : FuncId → List IV → Option IV

structure TabOk (E : Env) (t : Tab) : Prop where
  T : ∀ f n F, t.T f = some (n, F) → ∃ fn, E.P.funcs[f]? = some fn ∧ compFn E.P fn = some F ∧ fn.name ≠ "runtime.NumGoroutine" ∧ fn.ntmps = n
  pre : ∀ f args r, t.pre f args = some r → XPure E f args r
  ext : ∀ f args r, t.ext f args = some r → XExt E f args r

/-- The functions of a program. -/
def tabT (P : Program) (f : FuncId) : Option (Nat × XFn) :=
  match P.funcs[f]? with
  | some fn => if fn.name = "runtime.NumGoroutine" then none else (compFn P fn).map fun F => (fn.ntmps, F)
  | none => none
end Go.X
end
section
/- The calculus X, part 25: functions that hand a new block to their caller; appends as a whole. -/
namespace Go.X
open Go
section
variable {E : Env} {ρ : Rho} {L : List Blk} {KV : IV → List Blk → Prop}
/-- No answer. -/
theorem xfun0 {n : Nat} {c : XC} {args : List IV} {R : IV → List Blk → Prop} (h : xrun E c (entry args) L (doneK fun ρ L' => Leave L.length (.tup []) L' R)) : xfun E ⟨n, [], c⟩ args L R := by
  refine xrun_mono _ (fun e ρ L h => ?_) h
  cases e with
  | normal => exact ⟨Or.inr rfl, h⟩
  | ret => exact ⟨Or.inl rfl, h⟩
  | exit => exact h.elim
  | goto => exact h.elim
theorem leave_none {r r' : IV} {L : List Blk} {R : IV → List Blk → Prop} (h1 : conv L fuel renFreeze r = some r') (h2 : R r' []) : Leave 0 r L R := by
  have hren : renLeave 0 [] = renFreeze := by funext s; simp [renLeave, pos, renFreeze]
  exact ⟨[], .nil, by simp, r', [], by rw [hren]; exact h1, rfl, h2⟩
/-- A call of a function that hands on new blocks; its arguments name none of ours. -/
theorem xcall_own {f : FuncId} {args args' : List IV} {K : IV → List Blk → Prop} {R : IV → List Blk → Prop} (hc : mapO (conv L fuel renNone) args = some args') (h : XT E f args' [] R)
    (hk : ∀ r L1, R r L1 → ∃ r' L1', conv L1 fuel (renShift L.length) r = some r' ∧ mapO (convB L1 fuel (renShift L.length)) L1 = some L1' ∧ K r' (L ++ L1')) : xcall E f args L K :=
  .inl ⟨false, args', hc, h.mono fun r L1 hr => ⟨(fun h => by cases h), hk r L1 hr⟩⟩
@[go_sem] theorem o_bslice0 {sz : Nat} {zero : List IV} (h1 : zero.length = sz) : xop E (.bslice sz zero 0 []) cev L KV = KV (.sl L.length 0 0 0) (L ++ [.cells sz []]) := by
  simp [xop, xfillRows, h1]
@[go_sem] theorem o_bslice2 {sz : Nat} {zero : List IV} {x y : IV} (h1 : zero.length = sz) (h2 : (cellsOf x).length = sz) (h3 : (cellsOf y).length = sz) : xop E (.bslice sz zero 2 [(0, .c x), (1, .c y)]) cev L KV = KV (.sl L.length 0 2 2) (L ++ [.cells sz [cellsOf x, cellsOf y]]) := by
  simp [xop, xfillRows, h1, h2, h3, cev_c, List.replicate]
end
end Go.X
end
