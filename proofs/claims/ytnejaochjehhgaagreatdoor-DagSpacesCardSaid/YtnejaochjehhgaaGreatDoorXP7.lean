/- Parts of the proof: XExtern, XOut, XRange, XEval, XOwn. -/
import Derived.Test.YtnejaochjehhgaaGreatDoorXP6
import Derived.Lib.Bytealg
set_option linter.unusedVariables false
set_option linter.unusedSimpArgs false
set_option linter.unusedSectionVars false
section
/- The calculus X, part 21: what the model answers by itself: bytes in a string. -/
namespace Go.X
open Go
section
variable {E : Env}

theorem run_globalAddr {P : Program} {name : String} {g : Nat} (h : P.globals.findIdx? (·.name == name) = some g) (w : World) : (globalAddr name).run P w = .ok ⟨g, 0, none⟩ w := by
  unfold globalAddr
  simp only [Sem.run_bind, run_program, Result.andThen_ok, h, Sem.run_pure]
theorem run_asInt {P : Program} {k : IntKind} {m : Int} (w : World) : (asInt (.int k m)).run P w = .ok m w := rfl

theorem ext_mk {f : FuncId} {fn : Func} {en : Array Value → Sem Value} {args : List IV} {r : IV} (hf : E.P.funcs[f]? = some fn) (hname : (fn.name == "runtime.NumGoroutine") = false)
    (hb : fn.body.isNone = true) (hn : Extern.findNext fn = none) (he : Extern.find fn = some en)
    (h : ∀ (C : Ctx) (vs : List Value), E.G C.w → args.length = vs.length → (∀ (i : Nat) (x : IV), args[i]? = some x → VR C x (vs.getD i undef)) → ∃ v, (en vs.toArray).run E.P C.w = .ok v C.w ∧ VR C r v) : XExt E f args r := by
  intro C vs hG hl hv
  obtain ⟨v, h1, h2⟩ := h C vs hG hl hv
  refine ⟨v, ?_, h2⟩
  rw [run_callFunc_extern hf hname hb hn he, h1]; rfl

theorem two {C : Ctx} {x y : IV} {vs : List Value} (hl : [x, y].length = vs.length) (hv : ∀ (i : Nat) (z : IV), [x, y][i]? = some z → VR C z (vs.getD i undef)) :
    ∃ a b, vs = [a, b] ∧ VR C x a ∧ VR C y b := by
  match vs, hl with
  | [a, b], _ => exact ⟨a, b, rfl, hv 0 x rfl, hv 1 y rfl⟩

theorem ext_indexByte {f : FuncId} {fn : Func} (hf : E.P.funcs[f]? = some fn) (hname : (fn.name == "runtime.NumGoroutine") = false)
    (hb : fn.body.isNone = true) (hn : Extern.findNext fn = none) (he : Extern.find fn = some Extern.BytealgIndexByte.indexByte) (s : List UInt8) (c : Int) :
    XExt E f [.str s, .int .u8 c] (.int .i64 (Lib.indexByte s c.toNat.toUInt8)) := by
  refine ext_mk hf hname hb hn he fun C vs _ hl hv => ?_
  obtain ⟨a, b, rfl, h1, h2⟩ := two hl hv
  cases h1; cases h2
  refine ⟨_, run_indexByte_string _ _ _, ?_⟩
  rw [Lib.firstIdx_eq]; exact .int _ _

theorem ext_countByte {f : FuncId} {fn : Func} (hf : E.P.funcs[f]? = some fn) (hname : (fn.name == "runtime.NumGoroutine") = false)
    (hb : fn.body.isNone = true) (hn : Extern.findNext fn = none) (he : Extern.find fn = some Extern.BytealgCount.count) (s : List UInt8) (c : Int) :
    XExt E f [.str s, .int .u8 c] (.int .i64 (Lib.countByte s c.toNat.toUInt8)) := by
  refine ext_mk hf hname hb hn he fun C vs _ hl hv => ?_
  obtain ⟨a, b, rfl, h1, h2⟩ := two hl hv
  cases h1; cases h2
  exact ⟨_, Lib.run_countString _ _ _, .int _ _⟩

/-- bytealg.IndexString at a text that does not hold the first byte. -/
theorem ext_indexNone {f : FuncId} {fn : Func} {m : Int} (hf : E.P.funcs[f]? = some fn) (hname : (fn.name == "runtime.NumGoroutine") = false)
    (hb : fn.body.isNone = true) (hn : Extern.findNext fn = none) (he : Extern.find fn = some Extern.BytealgIndex.index)
    (hmax : ∀ w, E.G w → Extern.BytealgIndex.maxLen.run E.P w = .ok m w) (s p : List UInt8) (h2 : 2 ≤ p.length) (hpm : (p.length : Int) ≤ m) (hs : s.length < 4294967281)
    (hno : ∀ (i : Nat), i + p.length ≤ s.length → ((s.drop i).take p.length) ≠ p) :
    XExt E f [.str s, .str p] (.int .i64 (-1)) := by
  refine ext_mk hf hname hb hn he fun C vs hG hl hv => ?_
  obtain ⟨a, b, rfl, h1, h2'⟩ := two hl hv
  cases h1; cases h2'
  refine ⟨.int .i64 (-1), ?_, .int _ _⟩
  have hmax := hmax C.w hG
  change Sem.run E.P (do
    let a ← Extern.Bytes.bytesOf (.string ⟨s.toArray⟩)
    let b ← Extern.Bytes.bytesOf (.string ⟨p.toArray⟩)
    if b.size < 2 || (b.size : Int) > (← Extern.BytealgIndex.maxLen) then
      unsupported _
    if a.size ≥ 2 ^ 32 - 15 then
      unsupported _
    match (List.range (a.size + 1 - b.size)).find? fun i => a.extract i (i + b.size) == b with
    | some i => pure (goInt i)
    | none => pure (goInt (-1))) C.w = _
  simp only [Extern.Bytes.bytesOf, Sem.run_bind, Sem.run_pure, Result.andThen_ok, hmax]
  have e1 : (ByteArray.mk p.toArray).size = p.length := by simp [ByteArray.size]
  have e2 : (ByteArray.mk s.toArray).size = s.length := by simp [ByteArray.size]
  rw [e1, e2]
  have c1 : (decide (p.length < 2) || decide ((p.length : Int) > m)) = false := by simp; omega
  have c2 : ¬ (s.length ≥ 2 ^ 32 - 15) := by omega
  simp only [c1, c2, Bool.false_eq_true, if_false, Sem.run_pure, Result.andThen_ok, Sem.run_bind]
  have hf : (List.range (s.length + 1 - p.length)).find? (fun i => (ByteArray.mk s.toArray).extract i (i + p.length) == ByteArray.mk p.toArray) = none := by
    rw [List.find?_eq_none]
    intro i hi hEq
    rw [List.mem_range] at hi
    refine hno i (by omega) ?_
    have h3 : ((ByteArray.mk s.toArray).extract i (i + p.length)).data = p.toArray := by
      have h5 : (((ByteArray.mk s.toArray).extract i (i + p.length)).data == p.toArray) = true := hEq
      simpa using h5
    have h4 := congrArg Array.toList h3
    simpa [ByteArray.data_extract] using h4
  rw [hf]
  rfl
end
end Go.X
end
section
/- The calculus X, part 22: a list of ours that grows by append. -/
namespace Go.X
open Go
/-- v is a list of ours that holds rows; behind the blocks p. -/
def OutOk (sz : Nat) (p : List Blk) (rows : List (List IV)) (v : IV) (L : List Blk) : Prop :=
  ∃ J, L = p ++ J ∧ ((rows = [] ∧ v = .nsl) ∨ ∃ s, p.length ≤ s ∧ v = .sl s 0 rows.length rows.length ∧ L[s]? = some (.cells sz rows))
section
variable {E : Env} {ρ : Rho} {L : List Blk} {KV : IV → List Blk → Prop}
theorem out_nil {sz : Nat} {p J : List Blk} : OutOk sz p [] .nsl (p ++ J) := ⟨J, rfl, .inl ⟨rfl, rfl⟩⟩

theorem out_append {sz bytes : Nat} {p : List Blk} {rows : List (List IV)} {v : IV} {row : List IV} {t : Nat} {L2 : List Blk} (h : OutOk sz p rows v L) (ht : t = L.length) (hL2 : L2 = L ++ [.cells sz [row]])
    (hr : row.length = sz ∧ row.all isCell = true) (hb : (rows.length + 1) * bytes ≤ 70368744177664) (hk : ∀ v' L', OutOk sz p (rows ++ [row]) v' L' → KV v' L') :
    xop E (.append sz bytes (.c v) (.c (.sl t 0 1 1))) cev L2 KV := by
  subst ht; subst hL2
  obtain ⟨J, rfl, h⟩ := h
  show xappend sz bytes v (.sl (p ++ J).length 0 1 1) (p ++ J ++ [Blk.cells sz [row]]) KV
  unfold xappend
  have hx : rowsOf (p ++ J ++ [Blk.cells sz [row]]) (.sl (p ++ J).length 0 1 1) = some [row] := by simp [rowsOf]
  rw [hx]
  show RowsC sz [row] ∧ _
  refine ⟨fun r hr' => by simp at hr'; subst hr'; exact hr, ?_⟩
  rcases h with ⟨rfl, rfl⟩ | ⟨s, hs, rfl, hL⟩
  · refine ⟨fun h => (by cases h), fun _ => ⟨by simpa using hb, ?_⟩⟩
    refine hk _ _ ⟨J ++ [Blk.cells sz [row]] ++ [Blk.cells sz [row]], by simp, .inr ⟨_, ?_, rfl, ?_⟩⟩
    · simp only [List.length_append]; omega
    · simp
  · have hsl : s < (p ++ J).length := (List.getElem?_eq_some_iff.1 hL).1
    have h1 : (p ++ J ++ [Blk.cells sz [row]])[s]? = some (.cells sz rows) := by rw [List.getElem?_append_left hsl]; exact hL
    simp only [h1]
    refine ⟨trivial, by omega, ?_⟩
    rw [if_neg (by simp)]
    refine ⟨by simpa using hb, hk _ _ ?_⟩
    refine ⟨(J ++ [Blk.cells sz [row]]).set (s - p.length) .dead ++ [.cells sz (rows ++ [row])], ?_, .inr ⟨(p ++ J ++ [Blk.cells sz [row]]).length, (by simp only [List.length_append]; omega), (by simp), ?_⟩⟩
    · rw [List.append_assoc, List.set_append_right _ _ hs]; simp
    · simp

/-- What the list reads as behind the function. -/
theorem out_conv {sz n : Nat} {p : List Blk} {rows : List (List IV)} {v : IV} (h : OutOk sz p rows v L) (hr : mapO (mapO (conv L n renFreeze.inner)) rows = some rows) : conv L (n + 1) renFreeze v = some (.isl rows) := by
  obtain ⟨J, rfl, h⟩ := h
  rcases h with ⟨rfl, rfl⟩ | ⟨s, hs, rfl, hL⟩
  · rfl
  · simp only [conv, renFreeze, hL, Nat.zero_add, Nat.le_refl, if_true, List.drop_zero, List.take_length]
    rw [hr]; rfl

theorem o_len_out {sz : Nat} {p L' : List Blk} {rows : List (List IV)} {v : IV} (h : OutOk sz p rows v L) : xop E (.len (.c v)) cev L' KV = KV (.int .i64 rows.length) L' := by
  obtain ⟨J, rfl, ⟨rfl, rfl⟩ | ⟨s, hs, rfl, hL⟩⟩ := h <;> rfl
theorem conv_ptr_free {n s r o sz : Nat} {m : Ren} {rows rs : List (List IV)} (hm : m s = some none) (hL : L[s]? = some (.cells sz rows)) (hr : mapO (mapO (conv L n m.inner)) rows = some rs) :
    conv L (n + 1) m (.ptr s r o) = some (.iptr rs r o) := by
  simp only [conv, hm, hL, hr]; rfl
theorem conv_sl_free {n s off len cap sz : Nat} {m : Ren} {rows rs : List (List IV)} (hm : m s = some none) (hL : L[s]? = some (.cells sz rows)) (hl : off + len ≤ rows.length) (hr : mapO (mapO (conv L n m.inner)) ((rows.drop off).take len) = some rs) :
    conv L (n + 1) m (.sl s off len cap) = some (.isl rs) := by
  simp only [conv, hm, hL, hr, if_pos hl]; rfl
theorem conv_fn {n : Nat} {m : Ren} {f : Fn} {a b a' b' : List IV} (h1 : mapO (conv L n m) a = some a') (h2 : mapO (conv L n m) b = some b') : conv L (n + 1) m (.fn f a b) = some (.fn f a' b') := by
  simp only [conv, h1, h2]
theorem conv_agg {n : Nat} {m : Ren} {a a' : List IV} (h1 : mapO (conv L n m) a = some a') : conv L (n + 1) m (.agg a) = some (.agg a') := by
  simp only [conv, h1]; rfl
theorem mapO_cons {α β : Type} {f : α → Option β} {x : α} {y : β} {r : List α} {ys : List β} (h1 : f x = some y) (h2 : mapO f r = some ys) : mapO f (x :: r) = some (y :: ys) := by
  simp only [mapO, h1, h2]
@[go_sem] theorem app_last {α : Type} {J : List α} {x : α} : (J ++ [x])[J.length]? = some x := by simp
@[go_sem] theorem app_set {α : Type} {J : List α} {x y : α} : (J ++ [x]).set J.length y = J ++ [y] := by simp
theorem mapO_same {α : Type} {f : α → Option α} : ∀ {l : List α}, (∀ x ∈ l, f x = some x) → mapO f l = some l
  | [], _ => rfl
  | x :: r, h => by simp only [mapO]; rw [h x List.mem_cons_self, mapO_same fun y hy => h y (List.mem_cons_of_mem _ hy)]

@[go_sem] theorem o_bslice1 {sz : Nat} {zero : List IV} {x : IV} (h1 : zero.length = sz) (h2 : (cellsOf x).length = sz) : xop E (.bslice sz zero 1 [(0, .c x)]) cev L KV = KV (.sl L.length 0 1 1) (L ++ [.cells sz [cellsOf x]]) := by
  simp only [xop, List.map_cons, List.map_nil, cev_c, xfillRows, List.replicate, h1, h2, List.length_cons, List.length_nil, true_and]
  simp
@[go_sem] theorem o_mkslice {zero : List IV} {bytes : Nat} {k k' : IntKind} {n m : Int} : xop E (.mkslice zero bytes (.c (.int k n)) (.c (.int k' m))) cev L KV =
    (0 ≤ n ∧ n ≤ m ∧ m ≤ 9223372036854775807 ∧ m * bytes ≤ 281474976710656 ∧ KV (.sl L.length 0 n.toNat m.toNat) (L ++ [.cells zero.length (List.replicate m.toNat zero)])) := nr rfl
def szB (b : Option Blk) : Option Nat := match b with | some (.cells sz _) => some sz | some (.tcells _ sz _) => some sz | _ => none
@[go_sem] theorem szOf_def {s : Nat} : szOf L s = szB L[s]? := nr rfl
@[go_sem] theorem szB_tcells {ty sz : Nat} {rows : List (List IV)} : szB (some (.tcells ty sz rows)) = some sz := nr rfl
@[go_sem] theorem szB_cells {sz : Nat} {rows : List (List IV)} : szB (some (.cells sz rows)) = some sz := nr rfl
end
end Go.X
end
section
/- The calculus X, part 23: a loop over a function: the rounds. -/
namespace Go.X
open Go

def rhoOf (l : List IV) : Rho := fun n => l.getD n .und
/-- The slots at a round's beginning. -/
def putPs (l : List IV) (ps : List Nat) (args : List IV) : List IV := (ps.zip args).foldl (fun t p => t.set p.1 p.2) l

def yEnd (r0 : Loop) (l : List IV) (s : Nat) (K : IV → List Blk → Prop) : XE → List Blk → Prop
  | .normal, L => K (.bool true) (L.set s (.lp r0 l))
  | .ret, L => K (.bool false) (L.set s (.lp { r0 with state := .done, pending := some .ret } l))
  | .exit i, L => K (.bool false) (L.set s (.lp { r0 with state := .done, pending := some (.exit i) } l))
  | .goto i, L => K (.bool false) (L.set s (.lp { r0 with state := .done, pending := some (.goto i) } l))

/-- A round of the loop. -/
def yOf (E : Env) (N : Nat) (ps : List Nat) (xa xb : XC) : YHand := fun s args L K =>
  ∃ r0 l, L[s]? = some (.lp r0 l) ∧ r0.state = .ready ∧ r0.pending = none ∧ LoopCode E.P N ps xa xb r0 ∧ args.length = ps.length ∧ (∀ p ∈ ps, p < N) ∧ noRng xa = true ∧ noRng xb = true ∧ l.length = N ∧
    xrun E xa (rhoOf (putPs l ps args)) L fun e1 ρ1 L1 => e1 = .normal ∧ L1[s]? = some (.lp r0 l) ∧
      xrun E xb ρ1 (L1.set s (.lp { r0 with state := .busy } l)) fun e _ L2 => L2[s]? = some (.lp { r0 with state := .busy } l) ∧ yEnd r0 l s K e L2

theorem yEnd_mono {r0 : Loop} {l : List IV} {s : Nat} {K K' : IV → List Blk → Prop} (hk : ∀ v L, K v L → K' v L) : ∀ {e : XE} {L : List Blk}, yEnd r0 l s K e L → yEnd r0 l s K' e L
  | .normal, _, h => hk _ _ h
  | .ret, _, h => hk _ _ h
  | .exit _, _, h => hk _ _ h
  | .goto _, _, h => hk _ _ h

theorem yOf_mono {E : Env} {N : Nat} {ps : List Nat} {xa xb : XC} (s : Nat) (args : List IV) (L : List Blk) (K K' : IV → List Blk → Prop) (hk : ∀ v L, K v L → K' v L) (h : yOf E N ps xa xb s args L K) : yOf E N ps xa xb s args L K' := by
  obtain ⟨r0, l, h1, h2, h3, h4, h5, h6, h7, h8, h9, h⟩ := h
  exact ⟨r0, l, h1, h2, h3, h4, h5, h6, h7, h8, h9, xrun_mono _ (fun e1 ρ1 L1 ⟨h10, h11, h12⟩ => ⟨h10, h11, xrun_mono _ (fun e _ L2 ⟨h13, h14⟩ => ⟨h13, yEnd_mono hk h14⟩) h12⟩) h⟩

theorem putPs_spec {C : Ctx} {N : Nat} : ∀ (ps : List Nat) (args : List IV) (vs : List Value) (l : List IV) (t : Array Value), args.length = ps.length → args.length = vs.length → (∀ p ∈ ps, p < N) → l.length = N → t.size = N →
    (∀ (i : Nat) (x : IV), args[i]? = some x → VR C x (vs.getD i undef)) → (∀ n, VR C (l.getD n .und) (t.getD n undef)) →
    ((ps.zip vs).foldl (fun t (p, a) => t.setIfInBounds p a) t).size = N ∧ ∀ n, VR C ((putPs l ps args).getD n .und) (((ps.zip vs).foldl (fun t (p, a) => t.setIfInBounds p a) t).getD n undef)
  | [], args, vs, l, t, h1, h2, _, _, ht, _, hl => by
    cases args with
    | nil => exact ⟨ht, hl⟩
    | cons => cases h1
  | p :: ps, args, vs, l, t, h1, h2, hp, hll, ht, hv, hl => by
    cases args with
    | nil => cases h1
    | cons x args => cases vs with
      | nil => cases h2
      | cons v vs =>
        simp only [putPs, List.zip_cons_cons, List.foldl_cons]
        refine putPs_spec ps args vs (l.set p x) (t.setIfInBounds p v) (by simpa using h1) (by simpa using h2) (fun q hq => hp q (List.mem_cons_of_mem _ hq)) (by simpa using hll) (by simpa using ht) (fun i y hi => by simpa using hv (i + 1) y (by simpa using hi)) (fun n => ?_)
        have hpN : p < N := hp p List.mem_cons_self
        rw [getD_set (by rw [ht]; exact hpN), List.getD_eq_getElem?_getD, List.getElem?_set]
        by_cases hn : n = p
        · subst hn
          rw [if_pos rfl, if_pos (by rw [hll]; exact hpN), if_pos rfl]
          exact hv 0 x rfl
        · rw [if_neg (Ne.symm hn), if_neg hn, ← List.getD_eq_getElem?_getD]
          exact hl n

theorem yOf_sound {E : Env} (hnp : ∀ x L, ¬ E.pan x L) {N : Nat} {ps : List Nat} {xa xb : XC} (C : Ctx) (s : Nat) (args : List IV) (vs : List Value) (K : IV → List Blk → Prop) (wf : Wf E.g0 C) (sim : Sim C) (hG : E.G C.w) (hl : args.length = vs.length)
    (hv : ∀ (i : Nat) (x : IV), args[i]? = some x → VR C x (vs.getD i undef)) (h : yOf E N ps xa xb s args C.L K) :
    ∃ fn tmps asg body, (Instr.yield (C.φ s).blk vs.toArray).run E.P C.w = .ok (.round (C.φ s).blk fn tmps asg body) C.w ∧
      ∀ F, FOk F → RoundIn F 0 E.P (C.φ s).blk fn tmps asg body C.w fun e w' => ∃ v, e = .returned v ∧ PostG E.g0 C K v w' := by
  obtain ⟨r0, l, hL, hst, hpe, ⟨hps, hxa, hxb, hN⟩, hal, hpN, hna, hnb, hlN, h⟩ := h
  obtain ⟨hb, hlv⟩ := sim s _ hL
  have hsz : vs.toArray.size = r0.params.size := by rw [← Array.length_toList, ← Array.length_toList, hps]; simp [← hl, hal]
  refine ⟨_, _, _, _, run_yield hb hsz, fun F hF => ?_⟩
  have hF' : FOk (F.inRound (C.φ s).blk) := by
    rcases hF with rfl | ⟨l', rfl⟩
    · exact .inr ⟨_, rfl⟩
    · exact .inr ⟨_, rfl⟩
  obtain ⟨h1, h2⟩ := putPs_spec (C := C) (N := N) ps args vs l r0.tmps hal hl hpN hlN hN hv hlv
  have hfold : (r0.params.zip vs.toArray).foldl (fun tmps (x : Nat × Value) => tmps.setIfInBounds x.1 x.2) r0.tmps = (ps.zip vs).foldl (fun t (p : Nat × Value) => t.setIfInBounds p.1 p.2) r0.tmps := by
    rw [← Array.foldl_toList, Array.toList_zip, hps]
  refine roundIn_of_wpIn (hF.fn _) ?_
  refine xrun_sound (E := E) (N := N) hF' (C0 := C) wf hG (csize r0.assign) r0.assign (Nat.le_refl _) xa hxa (.inr hna) (rhoOf (putPs l ps args)) C.L _ _ _ C.w (fun x v L' φ' a w' h => absurd h (hnp x L')) h
    ⟨by show Array.size _ = N; rw [← h1]; exact congrArg Array.size hfold, C.φ, wf, sim, Ext.refl C, fun n => by
      have := h2 n
      rw [← hfold] at this
      exact this, trivial⟩ ?_
  rintro e1 ρ1 L1 a1 w1 ⟨rfl, hL1, hrun⟩ ⟨hN1, φ1, wf1, sim1, ext1, hρ1, hd1⟩
  have hs1 : φ1 s = C.φ s := ext1.slot s ⟨_, hL, rfl⟩
  obtain ⟨hb1, hlv1⟩ := sim1 s _ hL1
  have hb1' : w1.heap[(C.φ s).blk]? = some (.loop r0) := by rw [← hs1]; exact hb1
  have hne : ∀ (r : Loop) c e fr, Obj.loop r ≠ .cells c e fr := fun _ _ _ _ h => by cases h
  let C1 : Ctx := ⟨w1, φ1, L1, C.X⟩
  let C2 : Ctx := setC C1 s (.loop { r0 with state := .busy }) (.lp { r0 with state := .busy } l)
  have e2 : Ext C1 C2 := set_ext' hL1 rfl hb1 (hne _)
  have hw2 : C2.w = w1.putObj (C.φ s).blk (.loop { r0 with state := .busy }) := by
    show setW w1 (φ1 s).blk _ = _
    rw [hs1]; rfl
  have wf2 : Wf E.g0 C2 := set_wf wf1 hL1 rfl
  have sim2 : Sim C2 := set_sim' wf1 sim1 hL1 rfl hb1 (hne _) ⟨heap_set_eq (Array.getElem?_eq_some_iff.1 hb1).1, fun n => (hlv1 n).mono e2⟩
  refine ⟨C2.w, by rw [hw2]; exact run_beginRound hb1' hst, ?_⟩
  refine xrun_sound (E := E) (N := N) hF' (C0 := C) wf hG (csize r0.body) r0.body (Nat.le_refl _) xb hxb (.inr hnb) ρ1 _ _ _ a1 C2.w (fun x v L' φ' a w' h => absurd h (hnp x L')) hrun ⟨hN1, φ1, wf2, sim2, ext1.trans e2, fun n => (hρ1 n).mono e2, hd1.mono e2⟩ ?_
  rintro e ρ2 L2 a2 w2 ⟨hL2, hend⟩ ⟨hN2, φ2, wf3, sim3, ext3, hρ3, hd3⟩
  have hs2 : φ2 s = C.φ s := ext3.slot s ⟨_, hL, rfl⟩
  obtain ⟨hb2, hlv2⟩ := sim3 s _ hL2
  have hb2' : w2.heap[(C.φ s).blk]? = some (.loop { r0 with state := .busy }) := by rw [← hs2]; exact hb2
  let C3 : Ctx := ⟨w2, φ2, L2, C.X⟩
  have fin : ∀ (jump : Option Code) (r : Loop) (b : Bool), r = { r0 with state := if jump.isNone then .ready else .done, pending := jump } → b = jump.isNone → K (.bool b) (L2.set s (.lp r l)) →
      ∃ v w', (Instr.endRound (C.φ s).blk jump).run E.P w2 = .ok v w' ∧ ∃ v', Ending.returned v = .returned v' ∧ PostG E.g0 C K v' w' := by
    rintro jump r b rfl rfl hk
    let C4 : Ctx := setC C3 s (.loop { r0 with state := if jump.isNone then .ready else .done, pending := jump }) (.lp { r0 with state := if jump.isNone then .ready else .done, pending := jump } l)
    have e4 : Ext C3 C4 := set_ext' hL2 rfl hb2 (hne _)
    have hw4 : C4.w = w2.putObj (C.φ s).blk (.loop { r0 with state := if jump.isNone then .ready else .done, pending := jump }) := by
      show setW w2 (φ2 s).blk _ = _
      rw [hs2]; rfl
    refine ⟨.bool jump.isNone, C4.w, by rw [hw4]; exact run_endRound (r := { r0 with state := .busy }) jump hb2', _, rfl, .bool jump.isNone, C4.L, φ2, hk, set_wf wf3 hL2 rfl, ?_, ext3.trans e4, .bool _⟩
    exact set_sim' wf3 sim3 hL2 rfl hb2 (hne _) ⟨heap_set_eq (Array.getElem?_eq_some_iff.1 hb2).1, fun n => (hlv2 n).mono e4⟩
  cases e with
  | normal =>
    refine fin none r0 true ?_ rfl hend
    obtain ⟨st, pe, _, _, _, _, _, _⟩ := r0
    simp only at hst hpe; subst hst; subst hpe; rfl
  | ret => exact fin (some .ret) _ false rfl rfl hend
  | exit i => exact fin (some (.exit i)) _ false rfl rfl hend
  | goto i => exact fin (some (.goto i)) _ false rfl rfl hend

/-- The iterator's environment. -/
def Env.withY (E : Env) (N : Nat) (ps : List Nat) (xa xb : XC) : Env :=
  { E with yl := yOf E.noPan N ps xa xb, pan := fun _ _ => False, hylm := yOf_mono, hyl := fun C s args vs K wf sim hG hl hv h => yOf_sound (E := E.noPan) (fun _ _ h => h) C s args vs K wf sim hG hl hv h }

/-- THE LOOP OVER A FUNCTION: the iterator's body, in place. -/
theorem s_rngF {E : Env} {ρ : Rho} {L : List Blk} {K : XE → Rho → List Blk → Prop} {g : Opd} {N : Nat} {ps : List Nat} {xa xb : XC} {gf : FuncId} {caps : List IV} {fn : Func} {F : XFn} (hg : g.ev ρ = .fn (.func gf) [] caps)
    (hf : E.P.funcs[gf]? = some fn) (hF : compFn E.P fn = some F) (hnm : fn.name ≠ "runtime.NumGoroutine") (hargs : caps.length + 1 ≤ fn.ntmps)
    (h : ∀ r0 : Loop, r0.state = .ready → r0.pending = none → LoopCode E.P N ps xa xb r0 →
      xfun (E.withY N ps xa xb) F (.yld L.length :: caps) (L ++ [.lp r0 ((List.range N).map ρ)]) fun _ L' => ∃ r1, L'[L.length]? = some (.lp r1 ((List.range N).map ρ)) ∧ r1.state ≠ .busy ∧
          match r1.pending with
          | none => K .normal ρ (L'.set L.length .dead)
          | some .ret => K .ret ρ (L'.set L.length .dead)
          | some (.exit i) => K (.exit i) ρ (L'.set L.length .dead)
          | some (.goto l) => K (.goto l) ρ (L'.set L.length .dead)
          | _ => False) : xrun E (.rngF g N ps xa xb) ρ L K := by
  simp only [xrun, hg]
  intro r0 h1 h2 h3
  exact xt_of_fun (E := E.withY N ps xa xb) hf hF hnm (by simpa using hargs) (h r0 h1 h2 h3)
end Go.X
end
section
/- The calculus X, part 24: a run with all values known is reckoned. -/
namespace Go.X
open Go

def Opd.evL (ρ : List IV) : Opd → IV
  | .t n => ρ.getD n .und
  | .c v => v
  | .g n => .raw (.pointer (some ⟨n, 0, none⟩))
  | .f n => .fn (.func n) [] []
theorem evL_eq {ρ : List IV} : Opd.evL ρ = Opd.ev (rhoOf ρ) := by funext x; cases x <;> rfl

abbrev EvCall := FuncId → List IV → List Blk → Option (IV × List Blk)

def evBin (op : BinOp) (x y : IV) : Option IV :=
  match op, x, y with
  | .shl, .int k a, .int _ b => if 0 ≤ b then some (.int k (k.wrap (a * 2 ^ min b.toNat k.bits))) else none
  | .shr, .int k a, .int _ b => if 0 ≤ b then some (.int k (a.fdiv (2 ^ min b.toNat k.bits))) else none
  | .add, .int k a, .int k' b => if k = k' then some (.int k (k.wrap (a + b))) else none
  | .sub, .int k a, .int k' b => if k = k' then some (.int k (k.wrap (a - b))) else none
  | .mul, .int k a, .int k' b => if k = k' then some (.int k (k.wrap (a * b))) else none
  | .quo, .int k a, .int k' b => if k = k' ∧ b ≠ 0 then some (.int k (k.wrap (a.tdiv b))) else none
  | .rem, .int k a, .int k' b => if k = k' ∧ b ≠ 0 then some (.int k (a.tmod b)) else none
  | .and, .int k a, .int k' b => if k = k' then some (.int k (k.wrap (BitVec.ofInt k.bits a &&& BitVec.ofInt k.bits b).toNat)) else none
  | .or, .int k a, .int k' b => if k = k' then some (.int k (k.wrap (BitVec.ofInt k.bits a ||| BitVec.ofInt k.bits b).toNat)) else none
  | .xor, .int k a, .int k' b => if k = k' then some (.int k (k.wrap (BitVec.ofInt k.bits a ^^^ BitVec.ofInt k.bits b).toNat)) else none
  | .eql, .int k a, .int k' b => if k = k' then some (.bool (decide (a = b))) else none
  | .neq, .int k a, .int k' b => if k = k' then some (.bool (!decide (a = b))) else none
  | .lss, .int k a, .int k' b => if k = k' then some (.bool (decide (a < b))) else none
  | .leq, .int k a, .int k' b => if k = k' then some (.bool (decide (a ≤ b))) else none
  | .gtr, .int k a, .int k' b => if k = k' then some (.bool (decide (b < a))) else none
  | .geq, .int k a, .int k' b => if k = k' then some (.bool (decide (b ≤ a))) else none
  | .add, .str a, .str b => if a.length + b.length ≤ 9223372036854775807 then some (.str (a ++ b)) else none
  | .eql, .str a, .str b => some (.bool (decide (a = b)))
  | .neq, .str a, .str b => some (.bool (!decide (a = b)))
  | _, _, _ => none

theorem evBin_sound {op : BinOp} {x y r : IV} {K : IV → Prop} (h : evBin op x y = some r) (hk : K r) : xbin op x y K := by
  unfold evBin at h
  split at h <;> first
    | (split at h
       · rename_i hc; cases h; first | exact ⟨hc, hk⟩ | exact ⟨hc.1, hc.2, hk⟩
       · cases h)
    | (cases h; exact hk)
    | cases h

def evB (x : Option IV) (d : Nat) : Option Nat :=
  match x with
  | none => some d
  | some (.int _ n) => if 0 ≤ n then some n.toNat else none
  | _ => none
theorem evB_sound {x : Option IV} {d n : Nat} {K : Nat → Prop} (h : evB x d = some n) (hk : K n) : bnd x d K := by
  unfold evB at h
  split at h
  · cases h; exact hk
  · split at h
    · rename_i hc; cases h; exact ⟨hc, hk⟩
    · cases h
  · cases h

def rowsB (m : Nat) (rows : List (List IV)) : Bool := rows.all fun row => row.length == m
def rowsCB (m : Nat) (rows : List (List IV)) : Bool := rows.all fun row => row.length == m && row.all isCell
theorem rowsB_sound {m : Nat} {rows : List (List IV)} (h : rowsB m rows = true) : Rows m rows := fun row hr => by
  simp only [rowsB, List.all_eq_true] at h
  simpa using h row hr
theorem rowsCB_sound {m : Nat} {rows : List (List IV)} (h : rowsCB m rows = true) : RowsC m rows := fun row hr => by
  simp only [rowsCB, List.all_eq_true, Bool.and_eq_true, beq_iff_eq] at h
  exact ⟨(h row hr).1, by rw [List.all_eq_true]; exact (h row hr).2⟩

def evAppend (sz bytes : Nat) (s x : IV) (L : List Blk) : Option (IV × List Blk) :=
  match rowsOf L x with
  | none => none
  | some rs => if rowsCB sz rs then
      match s with
      | .nsl | .esl => if rs.isEmpty then some (s, L) else if rs.length * bytes ≤ 70368744177664 then some (.sl L.length 0 rs.length rs.length, L ++ [.cells sz rs]) else none
      | .sl t off len cap => match L[t]? with
        | some (.cells sz' rows) => if sz' = sz ∧ off + cap ≤ rows.length then
            if len + rs.length ≤ cap then some (.sl t off (len + rs.length) cap, L.set t (.cells sz (splice rows (off + len) rs)))
            else if (len + rs.length) * bytes ≤ 70368744177664 then some (.sl L.length 0 (len + rs.length) (len + rs.length), L.set t .dead ++ [.cells sz ((rows.drop off).take len ++ rs)]) else none
          else none
        | _ => none
      | _ => none
    else none

theorem evAppend_sound {sz bytes : Nat} {s x : IV} {L : List Blk} {r : IV} {L' : List Blk} {K : IV → List Blk → Prop} (h : evAppend sz bytes s x L = some (r, L')) (hk : K r L') : xappend sz bytes s x L K := by
  unfold evAppend at h
  unfold xappend
  split at h
  · cases h
  · rename_i rs hrs
    simp only [hrs]
    split at h
    · rename_i hc
      refine ⟨rowsCB_sound hc, ?_⟩
      split at h
      · split at h
        · rename_i he; cases h
          have : rs = [] := by simpa using he
          exact ⟨fun _ => hk, fun hn => absurd this hn⟩
        · rename_i he
          split at h
          · rename_i hb; cases h
            exact ⟨fun hn => absurd (by simp [hn]) he, fun _ => ⟨hb, hk⟩⟩
          · cases h
      · split at h
        · rename_i he; cases h
          have : rs = [] := by simpa using he
          exact ⟨fun _ => hk, fun hn => absurd this hn⟩
        · rename_i he
          split at h
          · rename_i hb; cases h
            exact ⟨fun hn => absurd (by simp [hn]) he, fun _ => ⟨hb, hk⟩⟩
          · cases h
      · split at h
        · rename_i sz' rows hL
          simp only [hL]
          split at h
          · rename_i hs
            refine ⟨hs.1, hs.2, ?_⟩
            split at h
            · rename_i hle; cases h; rw [if_pos hle]; exact hk
            · rename_i hle
              rw [if_neg hle]
              split at h
              · rename_i hb; cases h; exact ⟨hb, hk⟩
              · cases h
          · cases h
        · cases h
      · cases h
    · cases h

def evNil (k : Nat) (x : IV) : Option Bool :=
  match k, x with
  | 0, .nsl => some true
  | 0, .isl rows => if rows.isEmpty then none else some false
  | 0, .sl _ _ _ cap => if cap = 0 then none else some false
  | 1, .iface _ _ => some false
  | 1, .raw .nilIface => some true
  | 1, .raw (.iface _ _) => some false
  | 2, .fn _ _ _ => some false
  | 2, .raw .nilFunc => some true
  | _, _ => none
theorem evNil_sound {k : Nat} {x : IV} {b : Bool} {K : Bool → Prop} (h : evNil k x = some b) (hk : K b) : xnil k x K := by
  unfold evNil at h
  split at h <;> first
    | (cases h; exact hk)
    | cases h
    | (split at h
       · cases h
       · rename_i hc; cases h; exact ⟨hk, fun hn => absurd (by simp [hn]) hc⟩)

/-- Nothing of ours is named. -/
def plainD : Nat → IV → Bool
  | 0, _ => false
  | n + 1, x => match x with
    | .bool _ | .int .. | .str _ | .raw _ | .und | .isl _ | .iptr .. => true
    | .agg cs | .tup cs => cs.all (plainD n)
    | .fn _ a b => a.all (plainD n) && b.all (plainD n)
    | .iface _ v => plainD n v
    | _ => false
theorem plainD_conv {L : List Blk} {m : Ren} : ∀ {n : Nat} {x : IV}, plainD n x = true → conv L n m x = some x
  | 0, _, h => by cases h
  | n + 1, x, h => by
    have hl : ∀ {l : List IV}, l.all (plainD n) = true → mapO (conv L n m) l = some l := fun {l} hl => mapO_same fun x hx => plainD_conv (by rw [List.all_eq_true] at hl; exact hl x hx)
    cases x <;> simp only [plainD] at h <;> first
      | rfl
      | cases h
      | skip
    case agg cs => simp only [conv, hl h]; rfl
    case tup cs => simp only [conv, hl h]; rfl
    case fn f a b =>
      rw [Bool.and_eq_true] at h
      simp only [conv, hl h.1, hl h.2]
    case iface t v => simp only [conv, plainD_conv h]; rfl

def evOp (call : EvCall) (pf : FuncId → List IV → Option IV) (gl : Nat → Option (List IV)) (o : XO) (e : Opd → IV) (L : List Blk) : Option (IV × List Blk) :=
  match o with
  | .mov x => some (e x, L)
  | .pick c a b => match e c with
    | .bool t => some (if t then e a else e b, L)
    | _ => none
  | .alloc zero => some (.ptr L.length 0 0, L ++ [.cells zero.length [zero]])
  | .box x => some (.ptr L.length 0 0, L ++ [.cells (cellsOf (e x)).length [cellsOf (e x)]])
  | .build zero parts => match xfill zero (parts.map fun p => (p.1, p.2.1, e p.2.2)) with
    | some cs => some (.agg cs, L)
    | none => none
  | .bslice sz zero len parts => if zero.length = sz then match xfillRows sz (List.replicate len zero) (parts.map fun p => (p.1, e p.2)) with
      | some rows => some (.sl L.length 0 len len, L ++ [.cells sz rows])
      | none => none
    else none
  | .load1 a => match rowsAt gl L (e a) with
    | some (rows, r, o) => if r < rows.length ∧ o < (rows.getD r []).length then some ((rows.getD r []).getD o .und, L) else none
    | none => none
  | .loadN n a => match rowsAt gl L (e a) with
    | some (rows, r, o) => if r < rows.length ∧ o + n ≤ (rows.getD r []).length then some (.agg (((rows.getD r []).drop o).take n), L) else none
    | none => none
  | .store n a x => match e a with
    | .ptr s r o => match L[s]? with
      | some (.cells sz rows) => if r < rows.length ∧ o + n ≤ (rows.getD r []).length ∧ (cellsOf (e x)).length = n ∧ (cellsOf (e x)).all isCell = true then
          some (.und, L.set s (.cells sz (rows.set r (splice (rows.getD r []) o (cellsOf (e x)))))) else none
      | _ => none
    | _ => none
  | .nilck x => match e x with
    | .ptr s r o => some (.ptr s r o, L)
    | .iptr rows r o => some (.iptr rows r o, L)
    | .fn (.func f) a b => some (.fn (.func f) a b, L)
    | _ => none
  | .bin op x y => (evBin op (e x) (e y)).map fun v => (v, L)
  | .eqB neg x y => match e x, e y with
    | .bool a, .bool b => some (.bool (if neg then !decide (a = b) else decide (a = b)), L)
    | _, _ => none
  | .un op x => match op, e x with
    | .not, .bool b => some (.bool !b, L)
    | .neg, .int k n => some (.int k (k.wrap (0 - n)), L)
    | .xor, .int k n => some (.int k (k.wrap (BitVec.ofInt k.bits (if k.signed then -1 else k.max) ^^^ BitVec.ofInt k.bits n).toNat), L)
    | _, _ => none
  | .cvInt k x => match e x with
    | .int _ n => some (.int k (k.wrap n), L)
    | _ => none
  | .cvIntStr x => match e x with
    | .int _ n => some (.str (Utf8.encode n).data.toList, L)
    | _ => none
  | .cvStr x => match e x with
    | .str s => some (.str s, L)
    | _ => none
  | .fldA off x => match e x with
    | .ptr s r o => some (.ptr s r (o + off), L)
    | .iptr rows r o => some (.iptr rows r (o + off), L)
    | _ => none
  | .fld off n agg x => match e x with
    | .agg cs => if off + n ≤ cs.length then (if agg then some (.agg ((cs.drop off).take n), L) else if off < cs.length then some (cs.getD off .und, L) else none) else none
    | _ => none
  | .idxS m x i => match e x, e i with
    | .isl rows, .int _ n => if rowsB m rows = true ∧ 0 ≤ n ∧ n < rows.length then some (.iptr rows n.toNat 0, L) else none
    | .sl s off len _, .int _ n => if szOf L s = some m ∧ 0 ≤ n ∧ n < len then some (.ptr s (off + n.toNat) 0, L) else none
    | _, _ => none
  | .idxA m sz x i => match e x, e i with
    | .ptr s r o, .int _ n => if 0 ≤ n ∧ n < m then some (.ptr s r (o + n.toNat * sz), L) else none
    | .iptr rows r o, .int _ n => if 0 ≤ n ∧ n < m then some (.iptr rows r (o + n.toNat * sz), L) else none
    | .raw (.pointer (some ⟨b, o, none⟩)), .int _ n => if 0 ≤ n ∧ n < m then some (.raw (.pointer (some ⟨b, o + n.toNat * sz, none⟩)), L) else none
    | _, _ => none
  | .idx x i => match e x, e i with
    | .str s, .int _ n => if 0 ≤ n ∧ n < s.length then some (.int .u8 (s.getD n.toNat 0).toNat, L) else none
    | _, _ => none
  | .slice m x lo hi => match e x with
    | .isl rows => if rowsB m rows then match evB (lo.map e) 0, evB (hi.map e) rows.length with
        | some l, some h => if l ≤ h ∧ h ≤ rows.length then some (.isl ((rows.take h).drop l), L) else none
        | _, _ => none
      else none
    | .sl s off len cap => if szOf L s = some m then match evB (lo.map e) 0, evB (hi.map e) len with
        | some l, some h => if l ≤ h ∧ h ≤ cap then some (.sl s (off + l) (h - l) (cap - l), L) else none
        | _, _ => none
      else none
    | _ => none
  | .sliceS x lo hi => match e x with
    | .str s => match evB (lo.map e) 0, evB (hi.map e) s.length with
      | some l, some h => if l ≤ h ∧ h ≤ s.length then some (.str ((s.take h).drop l), L) else none
      | _, _ => none
    | _ => none
  | .slice0 x => match e x with
    | .isl _ | .sl .. | .esl | .nsl => some (.esl, L)
    | _ => none
  | .mkfn f a b => some (.fn f (a.map e) (b.map e), L)
  | .mkslice zero bytes len cap => match e len, e cap with
    | .int _ n, .int _ m => if 0 ≤ n ∧ n ≤ m ∧ m ≤ 9223372036854775807 ∧ m * bytes ≤ 281474976710656 then
        some (.sl L.length 0 n.toNat m.toNat, L ++ [.cells zero.length (List.replicate m.toNat zero)]) else none
    | _, _ => none
  | .len x => (lenOf (e x)).map fun (n : Nat) => (IV.int .i64 n, L)
  | .lenS x => match e x with
    | .str s => some (.int .i64 s.length, L)
    | _ => none
  | .append sz bytes s x => evAppend sz bytes (e s) (e x) L
  | .max2 x y => match e x, e y with
    | .int k a, .int _ b => some (.int k (if b > a then b else a), L)
    | _, _ => none
  | .min2 x y => match e x, e y with
    | .int k a, .int _ b => some (.int k (if b < a then b else a), L)
    | _, _ => none
  | .call f args => match e f with
    | .fn (.func n) a b => call n (a ++ args.map e ++ b) L
    | _ => none
  | .isNil k neg x => (evNil k (e x)).map fun b => (.bool (if neg then !b else b), L)
  | .rng x => match e x with
    | .str s => some (.ptr L.length 0 0, L ++ [.siter s 0])
    | _ => none
  | .nxt t => match e t with
    | .ptr s 0 0 => match L[s]? with
      | some (.siter str pos) => if pos < str.length then some (.tup [.bool true, .int .i64 pos, .int .i32 (Utf8.decode ⟨str.toArray⟩ pos).1], L.set s (.siter str (pos + (Utf8.decode ⟨str.toArray⟩ pos).2)))
          else some (.tup [.bool false], L)
      | _ => none
    | _ => none
  | .ext t i => match e t with
    | .tup cs => if i < cs.length then some (cs.getD i .und, L) else none
    | _ => none
  | .pcall f args => match e f with
    | .fn (.func n) a b => match mapO (conv L fuel renNone) (a ++ args.map e ++ b) with
      | some args' => match pf n args' with
        | some r => if plainD fuel r then some (r, L) else none
        | none => none
      | none => none
    | _ => none
  | .ex _ _ => none

def CallOk (E : Env) (call : EvCall) : Prop := ∀ f args L r L' (K : IV → List Blk → Prop), call f args L = some (r, L') → K r L' → xcall E f args L K

theorem evOp_sound {E : Env} {call : EvCall} {pf : FuncId → List IV → Option IV} (hc : CallOk E call) (hp : ∀ f as' r, pf f as' = some r → XPure E f as' r) {o : XO} {e : Opd → IV} {L : List Blk} {r : IV} {L' : List Blk} {K : IV → List Blk → Prop} (h : evOp call pf E.gl o e L = some (r, L')) (hk : K r L') : xop E o e L K := by
  cases o <;> simp only [evOp] at h
  case bin op x y =>
    rw [Option.map_eq_some_iff] at h; obtain ⟨v, h1, h2⟩ := h; cases h2
    exact evBin_sound (K := fun v => K v L) h1 hk
  case append sz b s x => exact evAppend_sound h hk
  case isNil k neg x =>
    rw [Option.map_eq_some_iff] at h; obtain ⟨v, h1, h2⟩ := h; cases h2
    exact evNil_sound (K := fun b => K (.bool (if neg then !b else b)) L) h1 hk
  case len x =>
    rw [Option.map_eq_some_iff] at h; obtain ⟨v, h1, h2⟩ := h; cases h2
    unfold xop; simp only; rw [h1]; exact hk
  case call f as =>
    split at h
    · rename_i hx
      simp only [xop, hx]
      exact hc _ _ _ _ _ _ h hk
    · cases h
  case mov => cases h; exact hk
  case alloc => cases h; exact hk
  case ex => cases h
  case box => cases h; exact hk
  case mkfn => cases h; exact hk
  case un op x =>
    split at h
    · rename_i hx; cases h; simp only [xop, xun, hx]; exact hk
    · rename_i hx; cases h; simp only [xop, xun, hx]; exact hk
    · rename_i hx; cases h; simp only [xop, xun, hx]; exact hk
    · cases h
  case pcall f as' =>
    split at h
    · rename_i hx
      simp only [xop, hx]
      split at h
      · rename_i args' h1
        split at h
        · rename_i r0 h2
          split at h
          · rename_i h3; cases h
            exact ⟨false, args', _, h1, hp _ _ _ h2, (fun h => by cases h), fun m => plainD_conv h3, hk⟩
          · cases h
        · cases h
      · cases h
    · cases h
  case fld off n agg x =>
    split at h
    · rename_i cs hx
      simp only [xop, hx]
      split at h
      · rename_i h1
        refine ⟨h1, ?_⟩
        split at h
        · rename_i h2; cases h; rw [if_pos h2]; exact hk
        · rename_i h2; rw [if_neg h2]
          split at h
          · rename_i h3; cases h; exact ⟨h3, hk⟩
          · cases h
      · cases h
    · cases h
  case slice m x lo hi =>
    split at h
    · rename_i hx
      simp only [xop, hx]
      split at h
      · rename_i h1
        split at h
        · rename_i l hh h2 h3
          split at h
          · rename_i h4; cases h
            exact ⟨rowsB_sound h1, evB_sound h2 (evB_sound h3 ⟨h4.1, h4.2, hk⟩)⟩
          · cases h
        · cases h
      · cases h
    · rename_i hx
      simp only [xop, hx]
      split at h
      · rename_i h1
        split at h
        · rename_i l hh h2 h3
          split at h
          · rename_i h4; cases h
            exact ⟨h1, evB_sound h2 (evB_sound h3 ⟨h4.1, h4.2, hk⟩)⟩
          · cases h
        · cases h
      · cases h
    · cases h
  case sliceS x lo hi =>
    split at h
    · rename_i hx
      simp only [xop, hx]
      split at h
      · rename_i l hh h2 h3
        split at h
        · rename_i h4; cases h
          exact evB_sound h2 (evB_sound h3 ⟨h4.1, h4.2, hk⟩)
        · cases h
      · cases h
    · cases h
  case idxS m x i =>
    split at h
    · rename_i hx hi
      simp only [xop, hx, hi]
      split at h
      · rename_i h1; cases h; exact ⟨rowsB_sound h1.1, h1.2.1, h1.2.2, hk⟩
      · cases h
    · rename_i hx hi
      simp only [xop, hx, hi]
      split at h
      · rename_i h1; cases h; exact ⟨h1.1, h1.2.1, h1.2.2, hk⟩
      · cases h
    · cases h
  case nxt t =>
    split at h
    · rename_i hx
      simp only [xop, hx]
      split at h
      · rename_i hL
        simp only [hL]
        split at h
        · rename_i h1; cases h; rw [if_pos h1]; exact hk
        · rename_i h1; cases h; rw [if_neg h1]; exact hk
      · cases h
    · cases h
  case bslice sz z len ps =>
    split at h
    · rename_i h1
      simp only [xop]
      refine ⟨h1, ?_⟩
      split at h
      · rename_i hx; simp only [hx]; cases h; exact hk
      · cases h
    · cases h
  case store n a x =>
    split at h
    · rename_i hx
      simp only [xop, hx]
      split at h
      · rename_i hL
        simp only [hL]
        split at h
        · rename_i h1; cases h; exact ⟨h1.1, h1.2.1, h1.2.2.1, h1.2.2.2, hk⟩
        · cases h
      · cases h
    · cases h
  case slice0 x => split at h <;> first | (cases h; done) | (rename_i hx; simp only [xop, hx]; cases h; exact hk)
  case pick c a b => split at h <;> first | (cases h; done) | (rename_i hx; simp only [xop, hx]; cases h; exact hk)
  case build z ps => split at h <;> first | (cases h; done) | (rename_i hx; simp only [xop, hx]; cases h; exact hk)
  case nilck x => split at h <;> first | (cases h; done) | (rename_i hx; simp only [xop, hx]; cases h; exact hk)
  case eqB x => split at h <;> first | (cases h; done) | (rename_i hx hy; simp only [xop, hx, hy]; cases h; exact hk)
  case cvInt x => split at h <;> first | (cases h; done) | (rename_i hx; simp only [xop, hx]; cases h; exact hk)
  case cvIntStr x => split at h <;> first | (cases h; done) | (rename_i hx; simp only [xop, hx]; cases h; exact hk)
  case cvStr x => split at h <;> first | (cases h; done) | (rename_i hx; simp only [xop, hx]; cases h; exact hk)
  case fldA x => split at h <;> first | (cases h; done) | (rename_i hx; simp only [xop, hx]; cases h; exact hk)
  case lenS x => split at h <;> first | (cases h; done) | (rename_i hx; simp only [xop, hx]; cases h; exact hk)
  case rng x => split at h <;> first | (cases h; done) | (rename_i hx; simp only [xop, hx]; cases h; exact hk)
  case max2 x => split at h <;> first | (cases h; done) | (rename_i hx hy; simp only [xop, hx, hy]; cases h; exact hk)
  case min2 x => split at h <;> first | (cases h; done) | (rename_i hx hy; simp only [xop, hx, hy]; cases h; exact hk)
  case idx x i => split at h <;> first | (cases h; done) | (rename_i hx hy; simp only [xop, hx, hy]; split at h <;> first | (cases h; done) | (rename_i h1; cases h; exact ⟨h1.1, h1.2, hk⟩))
  case idxA x i => split at h <;> first | (cases h; done) | (rename_i hx hy; simp only [xop, hx, hy]; split at h <;> first | (cases h; done) | (rename_i h1; cases h; exact ⟨h1.1, h1.2, hk⟩))
  case load1 x => split at h <;> first | (cases h; done) | (rename_i hx; simp only [xop, hx]; split at h <;> first | (cases h; done) | (rename_i h1; cases h; exact ⟨h1.1, h1.2, hk⟩))
  case loadN x => split at h <;> first | (cases h; done) | (rename_i hx; simp only [xop, hx]; split at h <;> first | (cases h; done) | (rename_i h1; cases h; exact ⟨h1.1, h1.2, hk⟩))
  case ext x i => split at h <;> first | (cases h; done) | (rename_i hx; simp only [xop, hx]; split at h <;> first | (cases h; done) | (rename_i h1; cases h; exact ⟨h1, hk⟩))
  case mkslice z b l c => split at h <;> first | (cases h; done) | (rename_i hx hy; simp only [xop, hx, hy]; split at h <;> first | (cases h; done) | (rename_i h1; cases h; exact ⟨h1.1, h1.2.1, h1.2.2.1, h1.2.2.2, hk⟩))

theorem put_rho {ρ : List IV} {d : Option Nat} {v : IV} {ρ' : List IV} (h : (match d with | none => some ρ | some d => if d < ρ.length then some (ρ.set d v) else none) = some ρ') : put (rhoOf ρ) d v = rhoOf ρ' := by
  cases d with
  | none => cases h; rfl
  | some d =>
    simp only at h
    split at h
    · rename_i hd
      cases h
      funext n
      simp only [put, rhoOf, List.getD_eq_getElem?_getD, List.getElem?_set]
      by_cases hn : n = d
      · subst hn; rw [if_pos rfl, if_pos rfl, if_pos hd]; rfl
      · rw [if_neg hn, if_neg (Ne.symm hn)]
    · cases h

def evPut (ρ : List IV) (d : Option Nat) (v : IV) : Option (List IV) := match d with | none => some ρ | some d => if d < ρ.length then some (ρ.set d v) else none

def evOps (call : EvCall) (pf : FuncId → List IV → Option IV) (gl : Nat → Option (List IV)) : List XOper → List IV → List Blk → Option (List IV × List Blk)
  | [], ρ, L => some (ρ, L)
  | o :: r, ρ, L =>
    let go : Option (List IV × List Blk) := match evOp call pf gl o.op (Opd.evL ρ) L with
      | some (v, L') => match evPut ρ o.dst v with
        | some ρ' => evOps call pf gl r ρ' L'
        | none => none
      | none => none
    let skip : Option (List IV × List Blk) := match evPut ρ o.dst .und with
        | some ρ' => evOps call pf gl r ρ' L
        | none => none
    match o.guard with
    | none => go
    | some (t, want) => match ρ.getD t .und with
      | .bool b => if b = want then go else skip
      | .und => skip
      | _ => none

theorem evOps_sound {E : Env} {call : EvCall} {pf : FuncId → List IV → Option IV} (hc : CallOk E call) (hp : ∀ f as' r, pf f as' = some r → XPure E f as' r) : ∀ {l : List XOper} {ρ : List IV} {L : List Blk} {ρ' : List IV} {L' : List Blk} {K : Rho → List Blk → Prop}, evOps call pf E.gl l ρ L = some (ρ', L') → K (rhoOf ρ') L' → xops E l (rhoOf ρ) L K
  | [], ρ, L, ρ', L', K, h, hk => by cases h; exact hk
  | o :: r, ρ, L, ρ', L', K, h, hk => by
    rw [xops_cons]
    have hgo : (match evOp call pf E.gl o.op (Opd.evL ρ) L with
      | some (v, L') => match evPut ρ o.dst v with
        | some ρ' => evOps call pf E.gl r ρ' L'
        | none => none
      | none => none) = some (ρ', L') → xop E o.op (Opd.ev (rhoOf ρ)) L fun v L' => xops E r (put (rhoOf ρ) o.dst v) L' K := fun h => by
      split at h
      · rename_i v L1 h1
        split at h
        · rename_i ρ1 h2
          rw [← evL_eq]
          refine evOp_sound hc hp h1 ?_
          rw [put_rho h2]
          exact evOps_sound hc hp h hk
        · cases h
      · cases h
    have hskip : (match evPut ρ o.dst .und with
        | some ρ' => evOps call pf E.gl r ρ' L
        | none => none) = some (ρ', L') → xops E r (put (rhoOf ρ) o.dst .und) L K := fun h => by
      split at h
      · rename_i ρ1 h2
        rw [put_rho h2]
        exact evOps_sound hc hp h hk
      · cases h
    unfold evOps at h
    unfold stepV
    cases hg : o.guard with
    | none => rw [hg] at h; exact hgo h
    | some p =>
      obtain ⟨t, want⟩ := p
      rw [hg] at h
      simp only at h ⊢
      have ht : rhoOf ρ t = ρ.getD t .und := rfl
      rw [ht]
      split at h
      · rename_i b hb
        rw [hb]
        split at h
        · rename_i hw; exact ⟨fun _ => hgo h, fun hn => absurd hw hn⟩
        · rename_i hw; exact ⟨fun hn => absurd hn hw, fun _ => hskip h⟩
      · rename_i hb; rw [hb]; exact hskip h
      · cases h

def XLabs.get : XLabs → Nat → Option XC
  | .nil, _ => none
  | .cons l c r, n => if n = l then some c else r.get n
theorem labs_get {E : Env} : ∀ {ls : XLabs} {n : Nat}, xlabs E ls n = (ls.get n).map (xrun E)
  | .nil, _ => rfl
  | .cons l c r, n => by
    simp only [xlabs, XLabs.get]
    split
    · rfl
    · exact labs_get

abbrev EvR := Option (XE × List IV × List Blk)

def evRun (call : EvCall) (pf : FuncId → List IV → Option IV) (gl : Nat → Option (List IV)) : Nat → XC → List IV → List Blk → EvR
  | 0, _, _, _ => none
  | n + 1, c, ρ, L => match c with
    | .skip | .label _ => some (.normal, ρ, L)
    | .ops l | .drawE l => match evOps call pf gl l ρ L with
      | some (ρ', L') => some (.normal, ρ', L')
      | none => none
    | .draw l => if l.all (fun o => o.op.quiet) then match evOps call pf gl l ρ L with
        | some (ρ', L') => some (.normal, ρ', L')
        | none => none
      else none
    | .seq a b => match evRun call pf gl n a ρ L with
      | some (.normal, ρ', L') => evRun call pf gl n b ρ' L'
      | r => r
    | .cond c t e => match c.evL ρ with
      | .bool true => evRun call pf gl n t ρ L
      | .bool false => evRun call pf gl n e ρ L
      | _ => none
    | .block id b => match evRun call pf gl n b ρ L with
      | some (.exit i, ρ', L') => if i = id then some (.normal, ρ', L') else some (.exit i, ρ', L')
      | r => r
    | .loop b => match evRun call pf gl n b ρ L with
      | some (.normal, ρ', L') => evRun call pf gl n (.loop b) ρ' L'
      | r => r
    | .scope b ls => match evRun call pf gl n b ρ L with
      | some (.goto l, ρ', L') => match ls.get l with
        | some c => evRun call pf gl n (.scope c ls) ρ' L'
        | none => some (.goto l, ρ', L')
      | r => r
    | .exit id => some (.exit id, ρ, L)
    | .goto l => some (.goto l, ρ, L)
    | .ret => some (.ret, ρ, L)
    | .bad | .drawR _ => none
    | .rngF .. => none

theorem evRun_sound {E : Env} {call : EvCall} {pf : FuncId → List IV → Option IV} (hc : CallOk E call) (hp : ∀ f as' r, pf f as' = some r → XPure E f as' r) : ∀ {n : Nat} {c : XC} {ρ : List IV} {L : List Blk} {e : XE} {ρ' : List IV} {L' : List Blk} {K : XE → Rho → List Blk → Prop},
    evRun call pf E.gl n c ρ L = some (e, ρ', L') → K e (rhoOf ρ') L' → xrun E c (rhoOf ρ) L K := by
  intro n
  induction n with
  | zero => intro c ρ L e ρ' L' K h; cases h
  | succ n ih =>
    intro c ρ L e ρ' L' K h hk
    cases c <;> simp only [evRun] at h
    case skip => cases h; exact hk
    case label => cases h; exact hk
    case exit => cases h; exact hk
    case goto => cases h; exact hk
    case ret => cases h; exact hk
    case bad => cases h
    case drawR => cases h
    case rngF => cases h
    case ops l =>
      split at h
      · rename_i h1; cases h; exact evOps_sound (K := fun ρ L => K .normal ρ L) hc hp h1 hk
      · cases h
    case drawE l =>
      split at h
      · rename_i h1; cases h; exact evOps_sound (K := fun ρ L => K .normal ρ L) hc hp h1 hk
      · cases h
    case draw l =>
      split at h
      · rename_i h0
        split at h
        · rename_i h1; cases h; exact ⟨h0, evOps_sound (K := fun ρ L => K .normal ρ L) hc hp h1 hk⟩
        · cases h
      · cases h
    case seq a b =>
      simp only [xrun]
      split at h
      · rename_i ρ1 L1 h1
        exact ih h1 (ih h hk)
      · rename_i r hr
        cases e with
        | normal => exact absurd h (hr _ _)
        | exit => exact ih h hk
        | goto => exact ih h hk
        | ret => exact ih h hk
    case cond q t e' =>
      simp only [xrun]
      have hq : q.ev (rhoOf ρ) = q.evL ρ := by rw [evL_eq]
      rw [hq]
      split at h
      · rename_i hb; rw [hb]; exact ⟨fun _ => ih h hk, fun hn => by cases hn⟩
      · rename_i hb; rw [hb]; exact ⟨fun hn => (by cases hn), fun _ => ih h hk⟩
      · cases h
    case block id b =>
      simp only [xrun]
      split at h
      · rename_i i ρ1 L1 h1
        refine ih h1 ?_
        simp only [XE.inBlock]
        split at h
        · rename_i hi; cases h; rw [if_pos hi]; exact hk
        · rename_i hi; cases h; rw [if_neg hi]; exact hk
      · rename_i r hr
        refine ih h ?_
        cases e with
        | exit i => exact absurd h (hr _ _ _)
        | normal => exact hk
        | goto => exact hk
        | ret => exact hk
    case loop b =>
      simp only [xrun]
      split at h
      · rename_i ρ1 L1 h1
        have h2 := ih h hk
        simp only [xrun] at h2
        obtain ⟨m, h2⟩ := h2
        exact ⟨m + 1, ih h1 h2⟩
      · rename_i r hr
        refine ⟨1, ih h ?_⟩
        cases e with
        | normal => exact absurd h (hr _ _)
        | exit => exact hk
        | goto => exact hk
        | ret => exact hk
    case scope b ls =>
      simp only [xrun]
      split at h
      · rename_i l ρ1 L1 h1
        split at h
        · rename_i c hcl
          have h2 := ih h hk
          simp only [xrun] at h2
          obtain ⟨m, h2⟩ := h2
          refine ⟨m + 1, ih h1 ?_⟩
          unfold xgoto
          rw [labs_get, hcl]
          exact h2
        · rename_i hcl
          cases h
          refine ⟨0, ih h1 ?_⟩
          unfold xgoto
          rw [labs_get, hcl]
          exact hk
      · rename_i r hr
        refine ⟨0, ih h ?_⟩
        cases e with
        | goto l => exact absurd h (hr _ _ _)
        | normal => exact hk
        | exit => exact hk
        | ret => exact hk

/-- What the functions are. -/
structure Tab where
  T : FuncId → Option (Nat × XFn)
  pre : FuncId → List IV → Option IV
  ext : FuncId → List IV → Option IV

structure TabOk (E : Env) (t : Tab) : Prop where
  T : ∀ f n F, t.T f = some (n, F) → ∃ fn, E.P.funcs[f]? = some fn ∧ compFn E.P fn = some F ∧ fn.name ≠ "runtime.NumGoroutine" ∧ fn.ntmps = n
  pre : ∀ f args r, t.pre f args = some r → XPure E f args r
  ext : ∀ f args r, t.ext f args = some r → XExt E f args r

def evRes (gl : Nat → Option (List IV)) (ρ : List IV) (L : List Blk) : List XRes → Option (List IV)
  | [] => some []
  | .tmp t :: r => (evRes gl ρ L r).map (ρ.getD t .und :: ·)
  | .cell1 a :: r => match evOp (fun _ _ _ => none) (fun _ _ => none) gl (.load1 (.t a)) (Opd.evL ρ) L with
    | some (v, _) => (evRes gl ρ L r).map (v :: ·)
    | none => none
  | .cellN a n :: r => match evOp (fun _ _ _ => none) (fun _ _ => none) gl (.loadN n (.t a)) (Opd.evL ρ) L with
    | some (v, _) => (evRes gl ρ L r).map (v :: ·)
    | none => none

def evPass (fn : FuncId → List IV → Option IV) (f : FuncId) (args : List IV) (L : List Blk) : Option (IV × List Blk) :=
  match mapO (conv L fuel renNone) args with
  | some as => match fn f as with
    | some r => (conv [] fuel (renShift L.length) r).map fun r' => (r', L)
    | none => none
  | none => match mapO (conv L fuel renFreeze) args with
    | some as => match fn f as with
      | some r => if noTree r then (conv [] fuel (renShift L.length) r).map fun r' => (r', L) else none
      | none => none
    | none => none

theorem evPass_sound {E : Env} {fn : FuncId → List IV → Option IV} (hf : ∀ f as r, fn f as = some r → XPure E f as r) {f : FuncId} {args : List IV} {L : List Blk} {r : IV} {L' : List Blk} {K : IV → List Blk → Prop}
    (h : evPass fn f args L = some (r, L')) (hk : K r L') : xcall E f args L K := by
  unfold evPass at h
  split at h
  · rename_i as has
    split at h
    · rename_i r0 h0
      rw [Option.map_eq_some_iff] at h
      obtain ⟨r', h1, h2⟩ := h; cases h2
      refine .inl ⟨false, as, has, (hf _ _ _ h0).mono ?_⟩
      rintro _ _ ⟨rfl, rfl⟩
      exact ⟨(fun h => by cases h), _, [], h1, rfl, by simpa using hk⟩
    · cases h
  · split at h
    · rename_i as has
      split at h
      · rename_i r0 h0
        split at h
        · rename_i hn
          rw [Option.map_eq_some_iff] at h
          obtain ⟨r', h1, h2⟩ := h; cases h2
          refine .inl ⟨true, as, has, (hf _ _ _ h0).mono ?_⟩
          rintro _ _ ⟨rfl, rfl⟩
          exact ⟨fun _ => ⟨hn, rfl⟩, _, [], h1, rfl, by simpa using hk⟩
        · cases h
      · cases h
    · cases h

/-- A call: what the model answers; what is known; else its body is run ('m': rounds and depth of a body; 'n': depth of calls). -/
def evFun (t : Tab) (gl : Nat → Option (List IV)) (m : Nat) : Nat → FuncId → List IV → Option IV
  | 0, _, _ => none
  | n + 1, f, args => match t.pre f args with
    | some r => some r
    | none => match t.T f with
      | some (nt, F) => if args.length ≤ nt then
          match evRun (fun f as L => match t.ext f as with
              | some r => some (r, L)
              | none => evPass (evFun t gl m n) f as L) (evFun t gl m n) gl m F.body (args ++ List.replicate (nt - args.length) .und) [] with
          | some (e, ρ, L) => if e = .ret ∨ e = .normal then (evRes gl ρ L F.results).bind fun vs => conv L fuel renFreeze (oneOrTup vs) else none
          | none => none
        else none
      | none => none

theorem evRes_sound {E : Env} {L : List Blk} {ρ : List IV} : ∀ {rs : List XRes} {vs : List IV} {K : List IV → Prop}, evRes E.gl ρ L rs = some vs → K vs → xress E (rhoOf ρ) L rs K
  | [], vs, K, h, hk => by cases h; exact hk
  | .tmp t :: r, vs, K, h, hk => by
    simp only [evRes, Option.map_eq_some_iff] at h
    obtain ⟨ws, h1, rfl⟩ := h
    exact evRes_sound (K := fun vs => K (_ :: vs)) h1 hk
  | .cell1 a :: r, vs, K, h, hk => by
    simp only [evRes] at h
    split at h
    · rename_i v L1 h0
      rw [Option.map_eq_some_iff] at h
      obtain ⟨ws, h1, rfl⟩ := h
      have h2 : xop E (.load1 (.t a)) (Opd.ev (rhoOf ρ)) L fun v _ => xress E (rhoOf ρ) L r fun vs => K (v :: vs) := by
        rw [← evL_eq]
        exact evOp_sound (pf := fun _ _ => none) (fun _ _ _ _ _ _ h => by cases h) (fun _ _ _ h => by cases h) h0 (evRes_sound (K := fun vs => K (_ :: vs)) h1 hk)
      exact h2
    · cases h
  | .cellN a n :: r, vs, K, h, hk => by
    simp only [evRes] at h
    split at h
    · rename_i v L1 h0
      rw [Option.map_eq_some_iff] at h
      obtain ⟨ws, h1, rfl⟩ := h
      have h2 : xop E (.loadN n (.t a)) (Opd.ev (rhoOf ρ)) L fun v _ => xress E (rhoOf ρ) L r fun vs => K (v :: vs) := by
        rw [← evL_eq]
        exact evOp_sound (pf := fun _ _ => none) (fun _ _ _ _ _ _ h => by cases h) (fun _ _ _ h => by cases h) h0 (evRes_sound (K := fun vs => K (_ :: vs)) h1 hk)
      exact h2
    · cases h

theorem entry_rho {args : List IV} {k : Nat} : entry args = rhoOf (args ++ List.replicate k .und) := by
  funext n
  simp only [entry, rhoOf, List.getD_eq_getElem?_getD]
  by_cases h : n < args.length
  · rw [List.getElem?_append_left h]
  · rw [List.getElem?_append_right (by omega), List.getElem?_replicate, List.getElem?_eq_none (by omega)]
    split <;> rfl

theorem evFun_sound {E : Env} {t : Tab} (ht : TabOk E t) {m : Nat} : ∀ {n : Nat} {f : FuncId} {args : List IV} {r : IV}, evFun t E.gl m n f args = some r → XPure E f args r := by
  intro n
  induction n with
  | zero => intro f args r h; cases h
  | succ n ih =>
    intro f args r h
    simp only [evFun] at h
    split at h
    · rename_i hp; cases h; exact ht.pre _ _ _ hp
    · split at h
      · rename_i nt F hT
        obtain ⟨fn, hf, hF, hnm, hnt⟩ := ht.T _ _ _ hT
        split at h
        · rename_i hlen
          split at h
          · rename_i e ρ L hr
            split at h
            · rename_i he
              rw [Option.bind_eq_some_iff] at h
              obtain ⟨vs, h1, h2⟩ := h
              refine xpure_of_fun hf hF hnm (by omega) ?_
              rw [entry_rho (k := nt - args.length)]
              refine evRun_sound (E := E.noPan) (K := fun e ρ L' => (e = .ret ∨ e = .normal) ∧ xresults E.noPan F.results ρ L' fun r' => conv L' fuel renFreeze r' = some r) (call := _) (pf := _) ?_ (fun f as' r h => (ih h).np) hr ⟨he, evRes_sound (E := E.noPan) (K := fun vs => conv L fuel renFreeze (oneOrTup vs) = some r) h1 h2⟩
              intro f as L r L' K hcall hk
              have hcall : (match t.ext f as with | some r => some (r, L) | none => evPass (evFun t E.gl m n) f as L) = some (r, L') := hcall
              split at hcall
              · rename_i hx; cases hcall; exact xcall_ext (E := E.noPan) (ht.ext _ _ _ hx) hk
              · exact evPass_sound (E := E.noPan) (fun f as r h => (ih h).np) hcall hk
            · cases h
          · cases h
        · cases h
      · cases h

/-- The functions of a program. -/
def tabT (P : Program) (f : FuncId) : Option (Nat × XFn) :=
  match P.funcs[f]? with
  | some fn => if fn.name = "runtime.NumGoroutine" then none else (compFn P fn).map fun F => (fn.ntmps, F)
  | none => none
theorem tabT_ok {P : Program} : ∀ f n F, tabT P f = some (n, F) → ∃ fn, P.funcs[f]? = some fn ∧ compFn P fn = some F ∧ fn.name ≠ "runtime.NumGoroutine" ∧ fn.ntmps = n := by
  intro f n F h
  unfold tabT at h
  split at h
  · rename_i fn hf
    split at h
    · cases h
    · rename_i hn
      rw [Option.map_eq_some_iff] at h
      obtain ⟨F', h1, h2⟩ := h; cases h2
      exact ⟨fn, hf, h1, hn, rfl⟩
  · cases h
end Go.X
end
section
/- The calculus X, part 25: functions that hand a new block to their caller; appends as a whole. -/
namespace Go.X
open Go
section
variable {E : Env} {ρ : Rho} {L : List Blk} {KV : IV → List Blk → Prop}
/-- One answer, in slot t, and the blocks that go with it. -/
theorem xown1 {f : FuncId} {fn : Func} {t n : Nat} {c : XC} {args : List IV} {R : IV → List Blk → Prop} (hf : E.P.funcs[f]? = some fn) (hF : compFn E.P fn = some ⟨n, [.tmp t], c⟩) (hnm : fn.name ≠ "runtime.NumGoroutine")
    (hargs : args.length ≤ fn.ntmps) (h : xrun E.noPan c (entry args) [] (doneK fun ρ L' => Leave 0 (ρ t) L' R)) : XT E f args [] R := by
  refine xt_of_fun hf hF hnm hargs (xrun_mono _ (fun e ρ L h => ?_) h)
  cases e with
  | normal => exact ⟨Or.inr rfl, h⟩
  | ret => exact ⟨Or.inl rfl, h⟩
  | exit => exact h.elim
  | goto => exact h.elim
/-- No answer. -/
theorem xfun0 {n : Nat} {c : XC} {args : List IV} {R : IV → List Blk → Prop} (h : xrun E c (entry args) L (doneK fun ρ L' => Leave L.length (.tup []) L' R)) : xfun E ⟨n, [], c⟩ args L R := by
  refine xrun_mono _ (fun e ρ L h => ?_) h
  cases e with
  | normal => exact ⟨Or.inr rfl, h⟩
  | ret => exact ⟨Or.inl rfl, h⟩
  | exit => exact h.elim
  | goto => exact h.elim
theorem put_all {P : IV → Prop} {d : Option Nat} {v : IV} (hv : P v) (h : ∀ n, P (ρ n)) : ∀ n, P (put ρ d v n) := by
  intro n
  cases d with
  | none => exact h n
  | some d => simp only [put]; split
              · exact hv
              · exact h n
theorem leave_none {r r' : IV} {L : List Blk} {R : IV → List Blk → Prop} (h1 : conv L fuel renFreeze r = some r') (h2 : R r' []) : Leave 0 r L R := by
  have hren : renLeave 0 [] = renFreeze := by funext s; simp [renLeave, pos, renFreeze]
  exact ⟨[], .nil, by simp, r', [], by rw [hren]; exact h1, rfl, h2⟩
theorem leave_one {r r' : IV} {k : Blk} {s : Nat} {R : IV → List Blk → Prop} (hs : s < L.length) (h1 : conv L fuel (renLeave 0 [s]) r = some r') (h2 : convB L fuel (renLeave 0 [s]) (L.getD s .dead) = some k) (h3 : R r' [k]) : Leave 0 r L R := by
  refine ⟨[s], by simp, by simpa using hs, r', [k], h1, ?_, h3⟩
  simp only [List.take_zero, List.map_cons, List.map_nil, List.nil_append, mapO, h2]
/-- A call of a function that hands on new blocks; its arguments name none of ours. -/
theorem xcall_own {f : FuncId} {args args' : List IV} {K : IV → List Blk → Prop} {R : IV → List Blk → Prop} (hc : mapO (conv L fuel renNone) args = some args') (h : XT E f args' [] R)
    (hk : ∀ r L1, R r L1 → ∃ r' L1', conv L1 fuel (renShift L.length) r = some r' ∧ mapO (convB L1 fuel (renShift L.length)) L1 = some L1' ∧ K r' (L ++ L1')) : xcall E f args L K :=
  .inl ⟨false, args', hc, h.mono fun r L1 hr => ⟨(fun h => by cases h), hk r L1 hr⟩⟩
@[go_sem] theorem o_bslice0 {sz : Nat} {zero : List IV} (h1 : zero.length = sz) : xop E (.bslice sz zero 0 []) cev L KV = KV (.sl L.length 0 0 0) (L ++ [.cells sz []]) := by
  simp [xop, xfillRows, h1]
@[go_sem] theorem o_bslice2 {sz : Nat} {zero : List IV} {x y : IV} (h1 : zero.length = sz) (h2 : (cellsOf x).length = sz) (h3 : (cellsOf y).length = sz) : xop E (.bslice sz zero 2 [(0, .c x), (1, .c y)]) cev L KV = KV (.sl L.length 0 2 2) (L ++ [.cells sz [cellsOf x, cellsOf y]]) := by
  simp [xop, xfillRows, h1, h2, h3, cev_c, List.replicate]
/-- All of a list that is only read, behind an empty list of ours. -/
theorem append_all {sz bytes s : Nat} {rs : List (List IV)} (hL : L[s]? = some (.cells sz [])) (hr : RowsC sz rs) (hb : rs.length * bytes ≤ 70368744177664)
    (h0 : rs = [] → KV (.sl s 0 0 0) L) (h1 : rs ≠ [] → KV (.sl L.length 0 rs.length rs.length) (L.set s .dead ++ [.cells sz rs])) :
    xop E (.append sz bytes (.c (.sl s 0 0 0)) (.c (.isl rs))) cev L KV := by
  show xappend sz bytes (.sl s 0 0 0) (.isl rs) L KV
  unfold xappend
  refine ⟨hr, ?_⟩
  simp only [hL]
  refine ⟨trivial, by simp, ?_⟩
  by_cases h : rs = []
  · subst h
    rw [if_pos (by simp)]
    have : L.set s (.cells sz (splice [] (0 + 0) [])) = L := by
      have h2 : splice ([] : List (List IV)) (0 + 0) [] = [] := rfl
      rw [h2]
      apply List.ext_getElem? 
      intro i
      rw [List.getElem?_set]
      by_cases hi : s = i
      · subst hi; rw [if_pos rfl, if_pos (lt_of_get hL), hL]
      · rw [if_neg hi]
    rw [this]
    exact h0 rfl
  · have hlen : rs.length ≠ 0 := by simpa using h
    rw [if_neg (by omega)]
    refine ⟨by simpa using hb, ?_⟩
    simpa using h1 h
end
end Go.X
end
