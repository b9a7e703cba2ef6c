/- The calculus X, part 26: from a law's contract to a row. -/
import Derived.Test.YtnejaochjehhgaaDoorXOwn
import Derived.Carry
import Derived.Deep.Strs
import Derived.ChangeSame
import Derived.ChangeOld
import Derived.WideShapes
import Derived.Deep.DeepHandedRow
import Derived.Lay
set_option linter.unusedVariables false
set_option linter.unusedSimpArgs false
set_option linter.unusedSectionVars false
namespace Go.X
open Go Go.ChangeShapes Go.WideShapes Go.RowKit

/-- The environment of a call from world W: all that lies there stays. 'var0': what the variable in block 0 holds, if it is a number. -/
def envAt (P : Program) (W : World) (gl : Nat → Option (List IV))
    (hgl : ∀ (n : Nat) (cs : List IV), gl n = some cs → ∀ (j : Nat) (y : IV), cs[j]? = some y → ∃ u, W.cell? ⟨n, j, none⟩ = some u ∧ ∀ C : Ctx, VR C y u) : Env where
  P := P
  g0 := W.heap.size
  G := fun w => ∀ b, b < W.heap.size → w.heap[b]? = W.heap[b]?
  hG := fun w w' h hG b hb => (h b hb).trans (hG b hb)
  gl := gl
  hgl := fun w n cs hG hn j y hy => by
    obtain ⟨u, h1, h2⟩ := hgl n cs hn j y hy
    refine ⟨u, ?_, h2⟩
    have hb : n < W.heap.size := by
      simp only [World.cell?] at h1
      cases hb : W.heap[n]? with
      | none => rw [hb] at h1; cases h1
      | some o => exact (Array.getElem?_eq_some_iff.1 hb).1
    rw [cell_of_heap (hG n hb)]; exact h1
  yl := fun _ _ _ _ => False
  hylm := fun _ _ _ _ _ _ h => h
  hyl := fun _ _ _ _ _ _ _ _ _ _ h => h.elim

def ctx0 (W : World) : Ctx := ⟨W, fun _ => ⟨0, 0, 0⟩, [], fun _ => False⟩
theorem own0 {W : World} {b : Nat} : ¬ (ctx0 W).own b := by
  rintro (h | ⟨s, k, hk, _⟩)
  · exact h
  · simp [ctx0] at hk

/-- A LAW's CALL: it returns true; what lay there lies there. -/
theorem law_calls {P : Program} {W : World} {gl : Nat → Option (List IV)} {hgl} {f : FuncId} {args : List IV} {vs : List Value} (h : XPure (envAt P W gl hgl) f args (.bool true)) (hl : args.length = vs.length)
    (hv : ∀ (i : Nat) (x : IV), args[i]? = some x → VR (ctx0 W) x (vs.getD i undef)) : Calls P f vs.toArray W fun e W' => e = .returned (.bool true) ∧ Below W.heap.size W W' := by
  have wf : Wf (envAt P W gl hgl).g0 ⟨W, fun _ => ⟨0, 0, 0⟩, [], fun _ => False⟩ :=
    ⟨fun s t k l hk => by simp at hk, fun b h => absurd (.inr h) own0, fun b h => h.elim, fun b h => h.elim, Nat.le_refl _⟩
  have sim : Sim ⟨W, fun _ => ⟨0, 0, 0⟩, [], fun _ => False⟩ := fun s k hk => by simp at hk
  refine (h.2 W (fun _ => ⟨0, 0, 0⟩) (fun _ => False) vs wf sim (fun b _ => rfl) hl hv).mono ?_
  rintro e W' ⟨r, L', φ', v, ⟨rfl, rfl⟩, rfl, _, _, ext, hv⟩
  cases hv
  exact ⟨rfl, ⟨ext.os, ext.tape, ext.output, ext.size, fun b hb => ext.frame b hb (fun hm => own0 (.inr hm))⟩⟩

theorem keptBut_below {W W' : World} {p : MemPlace → Prop} (hb : Below W.heap.size W W') : W.keptBut W' p := by
  refine ⟨hb.os, hb.output, fun i hi => ?_⟩
  rw [hb.block i hi]
  cases W.heap[i]? with
  | none => rfl
  | some o => cases o <;> first | rfl | exact ⟨rfl, rfl, rfl, fun _ _ => rfl⟩ | exact .inr ⟨rfl, rfl⟩

theorem frozen_below {W W' : World} (hb : Below W.heap.size W W') {a : Addr} (ha : a.block < W.heap.size) : W'.frozen? a = W.frozen? a := by
  unfold World.frozen?
  rw [hb.block _ ha]

theorem trodAll_stays {H : Type} {enc : TypeId × Value → H} {P : Program} (hl : laidOutB P = true) {W W' : World} (hb : Below W.heap.size W W') (sp : Nat → Bool) :
    ∀ {ts : List TypeId} {vs : List Value} {ds : List (DataW H)} {ps : List MemPlace}, ts.all (fun t => P.readableRec t && decide (t < P.types.size)) = true → (∀ p ∈ ps, sp p.block = true) → (∀ p ∈ ps, p.block < W.heap.size) →
      DataW.TrodAll enc P W 0 (fun _ => true) true ts vs ds ps → DataW.TrodAll enc P W' 0 sp true ts vs ds ps
  | [], [], [], _, _, _, _, h => h
  | [], [], _ :: _, _, _, _, _, h => h.elim
  | [], _ :: _, _, _, _, _, _, h => (by cases ‹List (DataW H)› <;> exact h.elim)
  | _ :: _, [], _, _, _, _, _, h => (by cases ‹List (DataW H)› <;> exact h.elim)
  | _ :: _, _ :: _, [], _, _, _, _, h => h.elim
  | t :: ts, v :: vs, d :: ds, ps, ht, hs, hlt, h => by
    obtain ⟨p, q, h1, h2, rfl⟩ := h
    simp only [List.all_cons, Bool.and_eq_true, decide_eq_true_eq] at ht
    exact ⟨p, q, WideElems.Trod_stays hl ht.1.1 ht.1.2 h1 (fun x hx => hb.same (hlt x (List.mem_append_left _ hx))) (fun x hx => hs x (List.mem_append_left _ hx)),
      trodAll_stays hl hb sp ht.2 (fun x hx => hs x (List.mem_append_right _ hx)) (fun x hx => hlt x (List.mem_append_right _ hx)) h2, rfl⟩

/-- A LAW's POST: true; the arguments read as they did. -/
theorem post_true {H : Type} {enc : TypeId × Value → H} {P : Program} {f : Func} {s : ChangeSpec} {apart fresh handsOn again : Bool} {W W' : World} {args : Array Value} {ds gs : List (DataW H)} {before : List MemPlace} {t0 : TypeId}
    (hlo : laidOutB P = true) (hpar : f.params.toList.all (fun t => P.readableRec t && decide (t < P.types.size)) = true) (hsv : s.vars = []) (hrt : f.resultTypes = #[t0]) (ht : P.underlying t0 = some .bool)
    (hfn : s.fn H ds = { results := [.lit (.bool true)], args := ds }) (hW : DataW.Whole enc P f.params.toList s.vars apart W args.toList ds gs before) (hb : Below W.heap.size W W') :
    s.post enc P f apart fresh handsOn again W args (.bool true) W' := by
  have hlt : ∀ p ∈ before, p.block < W.heap.size := fun p hp => by simpa using hW.lt p hp
  obtain ⟨p, q, hA, hV, rfl, hfz, hnd⟩ := hW
  have hgs : gs = [] ∧ q = [] := by
    rw [hsv] at hV
    cases gs with
    | nil => exact ⟨rfl, hV⟩
    | cons => exact hV.elim
  obtain ⟨rfl, rfl⟩ := hgs
  have hfn' : s.fn H (ds ++ []) = { results := [.lit (.bool true)], args := ds } := by rw [List.append_nil]; exact hfn
  have hA' : ∀ sp : Nat → Bool, (∀ x ∈ p, sp x.block = true) → DataW.TrodAll enc P W' 0 sp true f.params.toList args.toList ds p := fun sp hsp =>
    trodAll_stays hlo hb sp hpar hsp (fun x hx => hlt x (by simpa using hx)) hA
  have hres : ∀ (b : Nat) (sp : Nat → Bool) (hd : Bool), DataW.TrodAll enc P W' b sp hd f.resultTypes.toList ((Value.bool true).resultList f.resultTypes.size) [.lit (.bool true)] [] := fun b sp hd => by
    rw [hrt]
    exact ⟨[], [], shut_bool ht _, rfl, rfl⟩
  have hV' : ∀ sp : Nat → Bool, DataW.TrodVars enc P W' sp s.vars ([] : List (DataW H)) [] := fun sp => by rw [hsv]; rfl
  refine ⟨ds, [], p ++ [], [], p, [], ⟨p, [], hA, hV, rfl, hfz, hnd⟩, ?_, ?_, ?_, keptBut_below hb, fun _ => ?_⟩
  · rw [hfn']; exact hres _ _ _
  · rw [hfn']; exact hA' _ (fun x hx => by simpa using hlt x (by simpa using hx))
  · rw [hfn']; exact hV' _
  · refine ⟨ok_one hrt rfl (okWide_bool_mk ht _), _, _, p ++ [], ⟨[] ++ p, [], trodAll_append (hA' _ (fun _ _ => rfl)) (hres 0 (fun _ => true) true), hV' _, by simp, ?_, ?_⟩, ?_⟩
    · intro b off hp
      rw [frozen_below hb (hlt _ hp)]
      exact hfz b off hp
    · exact hnd
    · intro x hx _; simpa using hx

theorem vr_string (C : Ctx) (b : ByteArray) : VR C (.str b.data.toList) (.string b) := by
  have := VR.str (C := C) b.data.toList
  simpa using this

theorem addr_of_cell {W : World} {a : Addr} {v : Value} (h : W.cell? a = some v) : a = ⟨a.block, a.off, none⟩ ∧ a.block < W.heap.size := by
  unfold World.cell? at h
  split at h
  · rename_i hb
    split at h
    · cases h
    · rename_i hs
      refine ⟨?_, (Array.getElem?_eq_some_iff.1 hb).1⟩
      obtain ⟨b, o, sp⟩ := a
      cases sp with
      | none => rfl
      | some s => simp at hs
  · cases h
theorem add_none {b o i : Nat} : (⟨b, o, none⟩ : Addr).add i = ⟨b, o + i, none⟩ := by unfold Addr.add; split <;> simp_all

/-- A slice that nobody writes. -/
theorem vr_slice {W : World} {a : Addr} {len cap sz : Nat} {rows : List (List IV)} {vals : Nat → Nat → Value} (hlen : rows.length = len) (hcap : len ≤ cap) (hsz0 : 0 < sz)
    (hsz : ∀ row ∈ rows, row.length = sz) (hcl : ∀ row ∈ rows, closed.closedL row = true)
    (hc : ∀ i j, i < len → j < sz → W.cell? (a.add (i * sz + j)) = some (vals i j)) (hv : ∀ (i : Nat) (row : List IV), rows[i]? = some row → ∀ (j : Nat) (x : IV), row[j]? = some x → VR (ctx0 W) x (vals i j)) :
    VR (ctx0 W) (.isl rows) (.slice (some a) len cap) := by
  subst hlen
  refine .isl rows (some a) cap sz vals hcap (fun i row hi => hsz row (List.mem_of_getElem? hi)) (fun i row hi => hcl row (List.mem_of_getElem? hi)) ?_ hv
  by_cases h0 : rows = []
  · exact .inl h0
  · have hpos : 0 < rows.length := List.length_pos_iff.2 h0
    have h1 := hc 0 0 hpos hsz0
    have ha : a.add (0 * sz + 0) = a := by simp [Addr.add]
    rw [ha] at h1
    obtain ⟨h2, h3⟩ := addr_of_cell h1
    refine .inr ⟨a.block, a.off, by rw [← h2], h3, own0, fun i row hi j x hj => ?_⟩
    have hi' := lt_of_get hi
    have hj' : j < sz := by rw [← hsz row (List.mem_of_getElem? hi)]; exact lt_of_get hj
    have h4 := hc i j hi' hj'
    rw [h2, add_none, ← Nat.add_assoc] at h4
    exact h4

/-- A list of texts that was handed in. -/
theorem vr_strs {H : Type} {enc : TypeId × Value → H} {P : Program} {W : World} {sp : Nat → Bool} {hd : Bool} {t e : TypeId} {r : Reach} {b0 : Nat} {v : Value} {d : DataW H} {ps : List MemPlace} (ht : P.underlying t = some (.slice e)) (he : P.underlying e = some .string) (hc : P.cellsOf e = 1)
    (hval : Value.okWide P W r b0 t v) (h : DataW.Trod enc P W 0 sp hd t v d ps) :
    ∃ l : List (List UInt8), VR (ctx0 W) (.isl (l.map fun s => [.str s])) v ∧ l.length ≤ 9223372036854775807 ∧ ∀ s ∈ l, s.length ≤ 9223372036854775807 := by
  obtain ⟨a, len, cap, rfl⟩ := okWide_slice ht hval
  obtain ⟨fuel, h⟩ := h
  rcases Deep.open_strs ht he hc h with ⟨h1, _⟩ | ⟨a', len', cap', m, Sx, h1, _, h2, h3, h4, _, h5⟩
  · have h1' : Value.slice a len cap = .slice none 0 0 := by simpa [Value.cells] using h1
    cases h1'
    refine ⟨[], ?_, by simp, by simp⟩
    exact .isl [] none 0 1 (fun _ _ => undef) (Nat.le_refl _) (fun i row hi => by simp at hi) (fun i row hi => by simp at hi) (.inl rfl) (fun i row hi => by simp at hi)
  · have h1' : Value.slice a len cap = .slice (some a') len' cap' := by simpa [Value.cells] using h1
    cases h1'
    have hm : len ≤ m := by rw [h4]; split <;> omega
    have hmax : maxLen = 9223372036854775807 := by decide
    refine ⟨(List.range len).map fun i => (Sx i).data.toList, ?_, by simp; omega, fun s hs => ?_⟩
    · refine vr_slice (sz := 1) (vals := fun i _ => .string (Sx i)) (by simp) h2 (by decide) (fun row hr => ?_) (fun row hr => ?_) (fun i j hi hj => ?_) (fun i row hi j x hj => ?_)
      · simp only [List.map_map, List.mem_map] at hr; obtain ⟨_, _, rfl⟩ := hr; rfl
      · simp only [List.map_map, List.mem_map] at hr; obtain ⟨_, _, rfl⟩ := hr; rfl
      · have : j = 0 := by omega
        subst this
        rw [Nat.mul_one, Nat.add_zero]
        exact (h5 i (by omega)).1
      · simp only [List.map_map, List.getElem?_map, Option.map_eq_some_iff] at hi
        obtain ⟨k, hk, rfl⟩ := hi
        rw [List.getElem?_range (by have := lt_of_get hk; simpa using this)] at hk
        cases hk
        cases j with
        | zero => simp at hj; subst hj; exact vr_string _ _
        | succ j => simp at hj
    · simp only [List.mem_map, List.mem_range] at hs
      obtain ⟨i, hi, rfl⟩ := hs
      have := (h5 i (by omega)).2
      rw [hmax] at this
      rw [Array.length_toList]
      exact this

/-- A package-level number holds some number. -/
theorem shaped_int {P : Program} {W : World} (h : W.ShapedOpen P) {g : Nat} {zero : Array Value} {t : TypeId} {k : IntKind} (hg : g < P.globals.size) (h0 : ((begin P (fun _ _ => 0) default).world.heap[g]?).bind Obj.row? = some (zero, t)) (hz : zero.size = 1)
    (hb : P.buildable t = true) (hct : P.cellTypes P.depth t = some [t]) (ht : P.underlying t = some (.int k)) : ∃ m, W.cell? ⟨g, 0, none⟩ = some (.int k m) := by
  obtain ⟨cs, h1, h2, h3⟩ := h.1 g zero t hg h0
  obtain ⟨ts, h4, _, h5⟩ := h3 hb
  rw [hct] at h4; cases h4
  have hlt : 0 < cs.size := by omega
  obtain ⟨u, h6, h7⟩ := h5 0 cs[0] (Array.getElem?_eq_getElem hlt)
  simp at h6; subst h6
  unfold Cell.ok at h7
  rw [ht] at h7
  have hc : W.cell? ⟨g, 0, none⟩ = some cs[0] := by simp [World.cell?, h1, hlt]
  generalize cs[0] = v at *
  cases v <;> simp only at h7
  rename_i k' n
  obtain ⟨rfl, _⟩ := h7
  exact ⟨n, hc⟩

/-- A world for the witness. -/
theorem witness_zip {H : Type} {enc : TypeId × Value → H} {C : Checked} {os : Os} {f : FuncId} {fn : Func} {s : OpenSpec} {conds : List PathCond} {apart : Bool} {laid : List (String × DataW Unit)} (modest : Bool) (w0 : World) (args : Array Value) (hos : w0.os = os)
    (hv : (w0.forCall (fun _ _ => 0) ⟨#[], args, []⟩).variablesZipB C.prog = true)
    (hr : ((w0.forCall (fun _ _ => 0) ⟨#[], args, []⟩).heap.toList.drop C.prog.globals.size).take ((begin C.prog (fun _ _ => 0) default).world.heap.size - C.prog.globals.size) =
      (begin C.prog (fun _ _ => 0) default).world.heap.toList.drop C.prog.globals.size)
    (hok : Input.okWideB C.prog (w0.forCall (fun _ _ => 0) ⟨#[], args, []⟩) f ⟨#[], args, []⟩ = true)
    (hrow : s.preRow enc C.prog fn conds apart laid (w0.forCall (fun _ _ => 0) ⟨#[], args, []⟩).memory args) :
    ∃ (w : World) (tape : Tape) (i : Input), w.os = os ∧ (w.forCall tape i).Shaped C.prog ∧ i.vars = [] ∧ Input.okWide C.prog (w.forCall tape i) .any w.heap.size f i ∧
      s.preRow enc C.prog fn conds apart laid (w.forCall tape i).memory i.args ∧ ({ modest := modest } : Assume).holds C.prog (lone (Frame.enter C.prog f i.args .normal) [] (w.forCall tape i)) :=
  ⟨w0, fun _ _ => 0, ⟨#[], args, []⟩, hos, World.shaped_of_ZipB hv hr, (Input.okWide_of_okWideB (base := 0) hok).1, (Input.okWide_of_okWideB hok).2, hrow, by
    simp only [Assume.holds]
    exact ⟨by simp, by simp, fun _ => Modest.zero, by simp, by simp⟩⟩
end Go.X
