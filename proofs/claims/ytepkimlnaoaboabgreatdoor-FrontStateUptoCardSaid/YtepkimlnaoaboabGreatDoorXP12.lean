/- Parts of the proof: XRow, XData, XSel. -/
import Derived.Test.YtepkimlnaoaboabGreatDoorXP11
import Derived.Carry
import Derived.Deep.Strs
import Derived.ChangeSame
import Derived.ChangeOld
import Derived.WideShapes
import Derived.Deep.DeepHandedRow
import Derived.Lay
set_option linter.unusedVariables false
set_option linter.unusedSimpArgs false
set_option linter.unusedSectionVars false
section
/- The calculus X, part 26: from a law's contract to a row. -/
namespace Go.X
open Go Go.ChangeShapes Go.WideShapes Go.RowKit

/-- The environment of a call from world W: all that lies there stays. 'var0': what the variable in block 0 holds, if it is a number. -/
def envAt (P : Program) (W : World) (gl : Nat → Option (List IV))
    (hgl : ∀ (n : Nat) (cs : List IV), gl n = some cs → ∀ (j : Nat) (y : IV), cs[j]? = some y → ∃ u, W.cell? ⟨n, j, none⟩ = some u ∧ ∀ C : Ctx, VR C y u) : Env where
  pan := fun _ _ => False
  P := P
  g0 := W.heap.size
  G := fun w => ∀ b, b < W.heap.size → w.heap[b]? = W.heap[b]?
  hG := fun w w' h hG b hb => (h b hb).trans (hG b hb)
  gl := gl
  hgl := fun w n cs hG hn j y hy => by
    obtain ⟨u, h1, h2⟩ := hgl n cs hn j y hy
    refine ⟨u, ?_, h2⟩
    have hb : n < W.heap.size := by
      simp only [World.cell?] at h1
      cases hb : W.heap[n]? with
      | none => rw [hb] at h1; cases h1
      | some o => exact (Array.getElem?_eq_some_iff.1 hb).1
    rw [cell_of_heap (hG n hb)]; exact h1
  yl := fun _ _ _ _ => False
  hylm := fun _ _ _ _ _ _ h => h
  hyl := fun _ _ _ _ _ _ _ _ _ _ h => h.elim

def ctx0 (W : World) : Ctx := ⟨W, fun _ => ⟨0, 0, 0⟩, [], fun _ => False⟩
theorem own0 {W : World} {b : Nat} : ¬ (ctx0 W).own b := by
  rintro (h | ⟨s, k, hk, _⟩)
  · exact h
  · simp [ctx0] at hk

/-- A LAW's CALL: it returns true; what lay there lies there. -/
theorem law_calls {P : Program} {W : World} {gl : Nat → Option (List IV)} {hgl} {f : FuncId} {args : List IV} {vs : List Value} (h : XPure (envAt P W gl hgl) f args (.bool true)) (hl : args.length = vs.length)
    (hv : ∀ (i : Nat) (x : IV), args[i]? = some x → VR (ctx0 W) x (vs.getD i undef)) : Calls P f vs.toArray W fun e W' => e = .returned (.bool true) ∧ Below W.heap.size W W' := by
  have wf : Wf (envAt P W gl hgl).g0 ⟨W, fun _ => ⟨0, 0, 0⟩, [], fun _ => False⟩ :=
    ⟨fun s t k l hk => by simp at hk, fun b h => absurd (.inr h) own0, fun b h => h.elim, fun b h => h.elim, Nat.le_refl _⟩
  have sim : Sim ⟨W, fun _ => ⟨0, 0, 0⟩, [], fun _ => False⟩ := fun s k hk => by simp at hk
  refine (h.2 W (fun _ => ⟨0, 0, 0⟩) (fun _ => False) vs wf sim (fun b _ => rfl) hl hv).mono ?_
  rintro e W' ⟨r, L', φ', v, ⟨rfl, rfl⟩, rfl, _, _, ext, hv⟩
  cases hv
  exact ⟨rfl, ⟨ext.os, ext.tape, ext.output, ext.size, fun b hb => ext.frame b hb (fun hm => own0 (.inr hm))⟩⟩

theorem keptBut_below {W W' : World} {p : MemPlace → Prop} (hb : Below W.heap.size W W') : W.keptBut W' p := by
  refine ⟨hb.os, hb.output, fun i hi => ?_⟩
  rw [hb.block i hi]
  cases W.heap[i]? with
  | none => rfl
  | some o => cases o <;> first | rfl | exact ⟨rfl, rfl, rfl, fun _ _ => rfl⟩ | exact .inr ⟨rfl, rfl⟩

theorem frozen_below {W W' : World} (hb : Below W.heap.size W W') {a : Addr} (ha : a.block < W.heap.size) : W'.frozen? a = W.frozen? a := by
  unfold World.frozen?
  rw [hb.block _ ha]

theorem trodAll_stays {H : Type} {enc : TypeId × Value → H} {P : Program} (hl : laidOutB P = true) {W W' : World} (hb : Below W.heap.size W W') (sp : Nat → Bool) :
    ∀ {ts : List TypeId} {vs : List Value} {ds : List (DataW H)} {ps : List MemPlace}, ts.all (fun t => P.readableRec t && decide (t < P.types.size)) = true → (∀ p ∈ ps, sp p.block = true) → (∀ p ∈ ps, p.block < W.heap.size) →
      DataW.TrodAll enc P W 0 (fun _ => true) true ts vs ds ps → DataW.TrodAll enc P W' 0 sp true ts vs ds ps
  | [], [], [], _, _, _, _, h => h
  | [], [], _ :: _, _, _, _, _, h => h.elim
  | [], _ :: _, _, _, _, _, _, h => (by cases ‹List (DataW H)› <;> exact h.elim)
  | _ :: _, [], _, _, _, _, _, h => (by cases ‹List (DataW H)› <;> exact h.elim)
  | _ :: _, _ :: _, [], _, _, _, _, h => h.elim
  | t :: ts, v :: vs, d :: ds, ps, ht, hs, hlt, h => by
    obtain ⟨p, q, h1, h2, rfl⟩ := h
    simp only [List.all_cons, Bool.and_eq_true, decide_eq_true_eq] at ht
    exact ⟨p, q, WideElems.Trod_stays hl ht.1.1 ht.1.2 h1 (fun x hx => hb.same (hlt x (List.mem_append_left _ hx))) (fun x hx => hs x (List.mem_append_left _ hx)),
      trodAll_stays hl hb sp ht.2 (fun x hx => hs x (List.mem_append_right _ hx)) (fun x hx => hlt x (List.mem_append_right _ hx)) h2, rfl⟩

/-- A LAW's POST: true; the arguments read as they did. -/
theorem post_true {H : Type} {enc : TypeId × Value → H} {P : Program} {f : Func} {s : ChangeSpec} {apart fresh handsOn again : Bool} {W W' : World} {args : Array Value} {ds gs : List (DataW H)} {before : List MemPlace} {t0 : TypeId}
    (hlo : laidOutB P = true) (hpar : f.params.toList.all (fun t => P.readableRec t && decide (t < P.types.size)) = true) (hsv : s.vars = []) (hrt : f.resultTypes = #[t0]) (ht : P.underlying t0 = some .bool)
    (hfn : s.fn H ds = { results := [.lit (.bool true)], args := ds }) (hW : DataW.Whole enc P f.params.toList s.vars apart W args.toList ds gs before) (hb : Below W.heap.size W W') :
    s.post enc P f apart fresh handsOn again W args (.bool true) W' := by
  have hlt : ∀ p ∈ before, p.block < W.heap.size := fun p hp => by simpa using hW.lt p hp
  obtain ⟨p, q, hA, hV, rfl, hfz, hnd⟩ := hW
  have hgs : gs = [] ∧ q = [] := by
    rw [hsv] at hV
    cases gs with
    | nil => exact ⟨rfl, hV⟩
    | cons => exact hV.elim
  obtain ⟨rfl, rfl⟩ := hgs
  have hfn' : s.fn H (ds ++ []) = { results := [.lit (.bool true)], args := ds } := by rw [List.append_nil]; exact hfn
  have hA' : ∀ sp : Nat → Bool, (∀ x ∈ p, sp x.block = true) → DataW.TrodAll enc P W' 0 sp true f.params.toList args.toList ds p := fun sp hsp =>
    trodAll_stays hlo hb sp hpar hsp (fun x hx => hlt x (by simpa using hx)) hA
  have hres : ∀ (b : Nat) (sp : Nat → Bool) (hd : Bool), DataW.TrodAll enc P W' b sp hd f.resultTypes.toList ((Value.bool true).resultList f.resultTypes.size) [.lit (.bool true)] [] := fun b sp hd => by
    rw [hrt]
    exact ⟨[], [], shut_bool ht _, rfl, rfl⟩
  have hV' : ∀ sp : Nat → Bool, DataW.TrodVars enc P W' sp s.vars ([] : List (DataW H)) [] := fun sp => by rw [hsv]; rfl
  refine ⟨ds, [], p ++ [], [], p, [], ⟨p, [], hA, hV, rfl, hfz, hnd⟩, ?_, ?_, ?_, keptBut_below hb, fun _ => ?_⟩
  · rw [hfn']; exact hres _ _ _
  · rw [hfn']; exact hA' _ (fun x hx => by simpa using hlt x (by simpa using hx))
  · rw [hfn']; exact hV' _
  · refine ⟨ok_one hrt rfl (okWide_bool_mk ht _), _, _, p ++ [], ⟨[] ++ p, [], trodAll_append (hA' _ (fun _ _ => rfl)) (hres 0 (fun _ => true) true), hV' _, by simp, ?_, ?_⟩, ?_⟩
    · intro b off hp
      rw [frozen_below hb (hlt _ hp)]
      exact hfz b off hp
    · exact hnd
    · intro x hx _; simpa using hx

theorem vr_string (C : Ctx) (b : ByteArray) : VR C (.str b.data.toList) (.string b) := by
  have := VR.str (C := C) b.data.toList
  simpa using this

theorem addr_of_cell {W : World} {a : Addr} {v : Value} (h : W.cell? a = some v) : a = ⟨a.block, a.off, none⟩ ∧ a.block < W.heap.size := by
  unfold World.cell? at h
  split at h
  · rename_i hb
    split at h
    · cases h
    · rename_i hs
      refine ⟨?_, (Array.getElem?_eq_some_iff.1 hb).1⟩
      obtain ⟨b, o, sp⟩ := a
      cases sp with
      | none => rfl
      | some s => simp at hs
  · cases h
theorem add_none {b o i : Nat} : (⟨b, o, none⟩ : Addr).add i = ⟨b, o + i, none⟩ := by unfold Addr.add; split <;> simp_all

/-- A slice that nobody writes. -/
theorem vr_slice {W : World} {a : Addr} {len cap sz : Nat} {rows : List (List IV)} {vals : Nat → Nat → Value} (hlen : rows.length = len) (hcap : len ≤ cap) (hsz0 : 0 < sz)
    (hsz : ∀ row ∈ rows, row.length = sz) (hcl : ∀ row ∈ rows, closed.closedL row = true)
    (hc : ∀ i j, i < len → j < sz → W.cell? (a.add (i * sz + j)) = some (vals i j)) (hv : ∀ (i : Nat) (row : List IV), rows[i]? = some row → ∀ (j : Nat) (x : IV), row[j]? = some x → VR (ctx0 W) x (vals i j)) :
    VR (ctx0 W) (.isl rows) (.slice (some a) len cap) := by
  subst hlen
  refine .isl rows (some a) cap sz vals hcap (fun i row hi => hsz row (List.mem_of_getElem? hi)) (fun i row hi => hcl row (List.mem_of_getElem? hi)) ?_ hv
  by_cases h0 : rows = []
  · exact .inl h0
  · have hpos : 0 < rows.length := List.length_pos_iff.2 h0
    have h1 := hc 0 0 hpos hsz0
    have ha : a.add (0 * sz + 0) = a := by simp [Addr.add]
    rw [ha] at h1
    obtain ⟨h2, h3⟩ := addr_of_cell h1
    refine .inr ⟨a.block, a.off, by rw [← h2], h3, own0, fun i row hi j x hj => ?_⟩
    have hi' := lt_of_get hi
    have hj' : j < sz := by rw [← hsz row (List.mem_of_getElem? hi)]; exact lt_of_get hj
    have h4 := hc i j hi' hj'
    rw [h2, add_none, ← Nat.add_assoc] at h4
    exact h4

/-- A package-level number holds some number. -/
theorem shaped_int {P : Program} {W : World} (h : W.ShapedOpen P) {g : Nat} {zero : Array Value} {t : TypeId} {k : IntKind} (hg : g < P.globals.size) (h0 : ((begin P (fun _ _ => 0) default).world.heap[g]?).bind Obj.row? = some (zero, t)) (hz : zero.size = 1)
    (hb : P.buildable t = true) (hct : P.cellTypes P.depth t = some [t]) (ht : P.underlying t = some (.int k)) : ∃ m, W.cell? ⟨g, 0, none⟩ = some (.int k m) := by
  obtain ⟨cs, h1, h2, h3⟩ := h.1 g zero t hg h0
  obtain ⟨ts, h4, _, h5⟩ := h3 hb
  rw [hct] at h4; cases h4
  have hlt : 0 < cs.size := by omega
  obtain ⟨u, h6, h7⟩ := h5 0 cs[0] (Array.getElem?_eq_getElem hlt)
  simp at h6; subst h6
  unfold Cell.ok at h7
  rw [ht] at h7
  have hc : W.cell? ⟨g, 0, none⟩ = some cs[0] := by simp [World.cell?, h1, hlt]
  generalize cs[0] = v at *
  cases v <;> simp only at h7
  rename_i k' n
  obtain ⟨rfl, _⟩ := h7
  exact ⟨n, hc⟩

/-- A world for the witness. -/
theorem witness_zip {H : Type} {enc : TypeId × Value → H} {C : Checked} {os : Os} {f : FuncId} {fn : Func} {s : OpenSpec} {conds : List PathCond} {apart : Bool} {laid : List (String × DataW Unit)} (modest : Bool) (w0 : World) (args : Array Value) (hos : w0.os = os)
    (hv : (w0.forCall (fun _ _ => 0) ⟨#[], args, []⟩).variablesZipB C.prog = true)
    (hr : ((w0.forCall (fun _ _ => 0) ⟨#[], args, []⟩).heap.toList.drop C.prog.globals.size).take ((begin C.prog (fun _ _ => 0) default).world.heap.size - C.prog.globals.size) =
      (begin C.prog (fun _ _ => 0) default).world.heap.toList.drop C.prog.globals.size)
    (hok : Input.okWideB C.prog (w0.forCall (fun _ _ => 0) ⟨#[], args, []⟩) f ⟨#[], args, []⟩ = true)
    (hrow : s.preRow enc C.prog fn conds apart laid (w0.forCall (fun _ _ => 0) ⟨#[], args, []⟩).memory args) :
    ∃ (w : World) (tape : Tape) (i : Input), w.os = os ∧ (w.forCall tape i).Shaped C.prog ∧ i.vars = [] ∧ Input.okWide C.prog (w.forCall tape i) .any w.heap.size f i ∧
      s.preRow enc C.prog fn conds apart laid (w.forCall tape i).memory i.args ∧ ({ modest := modest } : Assume).holds C.prog (lone (Frame.enter C.prog f i.args .normal) [] (w.forCall tape i)) :=
  ⟨w0, fun _ _ => 0, ⟨#[], args, []⟩, hos, World.shaped_of_ZipB hv hr, (Input.okWide_of_okWideB (base := 0) hok).1, (Input.okWide_of_okWideB hok).2, hrow, by
    simp only [Assume.holds]
    exact ⟨by simp, by simp, fun _ => Modest.zero, by simp, by simp⟩⟩
end Go.X
end
section
/- The calculus X, part 27: what a call was handed, as trees, by its type. -/
namespace Go.X
open Go Go.ChangeShapes Go.WideShapes Go.RowKit

/-- The shapes of what is handed in. -/
inductive Ty where
  | bool
  | int (k : IntKind)
  | str
  | slice (e : Ty)
  | struct (fs : List Ty)
  deriving Inhabited

mutual
/-- How many cells. -/
def Ty.size : Ty → Nat
  | .struct fs => Ty.sizes fs
  | _ => 1
def Ty.sizes : List Ty → Nat
  | [] => 0
  | t :: r => t.size + Ty.sizes r
end

mutual
/-- The program's type t has this shape. -/
def Ty.fits (P : Program) : Ty → TypeId → Bool
  | .bool, t => match P.underlying t with | some .bool => true | _ => false
  | .int k, t => match P.underlying t with | some (.int k') => decide (k' = k) | _ => false
  | .str, t => match P.underlying t with | some .string => true | _ => false
  | .slice e, t => match P.underlying t with | some (.slice u) => e.fits P u && decide (P.cellsOf u = e.size) && decide (0 < e.size) | _ => false
  | .struct fs, t => match P.underlying t with | some (.struct us) => Ty.fitsAll P fs us.toList 0 && decide (P.cellsOf t = Ty.sizes fs) | _ => false
def Ty.fitsAll (P : Program) : List Ty → List Field → Nat → Bool
  | [], [], _ => true
  | f :: fs, u :: us, o => f.fits P u.type && decide (u.offset = o) && decide (P.cellsOf u.type = f.size) && Ty.fitsAll P fs us (o + f.size)
  | _, _, _ => false
end

mutual
/-- These cells are a value of this shape. -/
def Ty.Of : Ty → List IV → Prop
  | .bool, c => ∃ b, c = [.bool b]
  | .int k, c => ∃ n, c = [.int k n] ∧ (Lit.int k n).wf = true
  | .str, c => ∃ s : List UInt8, c = [.str s] ∧ s.length ≤ 9223372036854775807
  | .slice e, c => ∃ rows : List (List IV), c = [.isl rows] ∧ rows.length ≤ 9223372036854775807 ∧ ∀ row ∈ rows, e.Of row
  | .struct fs, c => Ty.OfAll fs c
def Ty.OfAll : List Ty → List IV → Prop
  | [], c => c = []
  | f :: fs, c => ∃ a b, c = a ++ b ∧ f.Of a ∧ Ty.OfAll fs b
end

theorem closedL_append {a b : List IV} : closed.closedL (a ++ b) = (closed.closedL a && closed.closedL b) := by
  induction a with
  | nil => simp [closed.closedL]
  | cons x a ih => simp [closed.closedL, ih, Bool.and_assoc]
mutual
theorem Ty.closed : ∀ (t : Ty) (c : List IV), t.Of c → Go.X.closed.closedL c = true ∧ c.length = t.size
  | .bool, c, h => by obtain ⟨b, rfl⟩ := h; exact ⟨rfl, rfl⟩
  | .int k, c, h => by obtain ⟨b, rfl, _⟩ := h; exact ⟨rfl, rfl⟩
  | .str, c, h => by obtain ⟨b, rfl, _⟩ := h; exact ⟨rfl, rfl⟩
  | .slice e, c, h => by obtain ⟨b, rfl, _⟩ := h; exact ⟨rfl, rfl⟩
  | .struct fs, c, h => Ty.closedAll fs c h
theorem Ty.closedAll : ∀ (t : List Ty) (c : List IV), Ty.OfAll t c → Go.X.closed.closedL c = true ∧ c.length = Ty.sizes t
  | [], c, h => by cases h; exact ⟨rfl, rfl⟩
  | f :: fs, c, h => by
    obtain ⟨a, b, rfl, h1, h2⟩ := h
    obtain ⟨h3, h4⟩ := Ty.closed f a h1
    obtain ⟨h5, h6⟩ := Ty.closedAll fs b h2
    exact ⟨by rw [closedL_append, h3, h5]; rfl, by rw [List.length_append, h4, h6]; rfl⟩
end

section
variable {H : Type} {enc : TypeId × Value → H} {P : Program} {W : World} {sp : Nat → Bool} {hd : Bool}
theorem maxLen_eq : maxLen = 9223372036854775807 := by decide
/-- All cells are told. -/
def Told (W : World) (ivs : List IV) (cs : List Value) : Prop := ivs.length = cs.length ∧ ∀ (j : Nat) (x : IV), ivs[j]? = some x → VR (ctx0 W) x (cs.getD j undef)
theorem told_one {x : IV} {v : Value} (h : VR (ctx0 W) x v) : Told W [x] [v] := ⟨rfl, fun j y hj => by
  cases j with
  | zero => simp at hj; subst hj; exact h
  | succ j => simp at hj⟩

mutual
theorem trod_told : ∀ (ty : Ty) {fuel : Nat} {t : TypeId} {cs : List Value} {x : DataW H × List MemPlace}, ty.fits P t = true → DataW.trod enc P W 0 sp hd fuel t cs = some x → ∃ ivs, ty.Of ivs ∧ Told W ivs cs
  | .bool, fuel, t, cs, x, hf, h => by
    unfold Ty.fits at hf
    split at hf
    · rename_i ht
      obtain ⟨b, rfl, _⟩ := DataW.trod_bool ht h
      exact ⟨[.bool b], ⟨b, rfl⟩, told_one (.bool b)⟩
    · cases hf
  | .int k, fuel, t, cs, x, hf, h => by
    unfold Ty.fits at hf
    split at hf
    · rename_i k' ht
      obtain rfl := of_decide_eq_true hf
      obtain ⟨n, rfl, _, hw⟩ := DataW.trod_int ht h
      exact ⟨[.int k' n], ⟨n, rfl, hw⟩, told_one (.int k' n)⟩
    · cases hf
  | .str, fuel, t, cs, x, hf, h => by
    unfold Ty.fits at hf
    split at hf
    · rename_i ht
      obtain ⟨s, rfl, _, hs⟩ := DataW.trod_string ht h
      rw [maxLen_eq] at hs
      exact ⟨[.str s.data.toList], ⟨_, rfl, by rw [Array.length_toList]; exact hs⟩, told_one (vr_string _ s)⟩
    · cases hf
  | .slice e, fuel, t, cs, x, hf, h => by
    unfold Ty.fits at hf
    split at hf
    · rename_i u ht
      simp only [Bool.and_eq_true, decide_eq_true_eq] at hf
      obtain ⟨⟨hfe, hce⟩, hpos⟩ := hf
      rcases Deep.open_slice ht h with ⟨rfl, _⟩ | ⟨a, len, cap, m, n, D, Pl, rfl, _, hl, hm, hmm, _, hx⟩
      · exact ⟨[.isl []], ⟨[], rfl, by simp, by simp⟩, told_one (.isl [] none 0 1 (fun _ _ => undef) (Nat.le_refl _) (fun i row hi => by simp at hi) (fun i row hi => by simp at hi) (.inl rfl) (fun i row hi => by simp at hi))⟩
      · have hlm : len ≤ m := by rw [hmm]; split <;> omega
        rw [maxLen_eq] at hm
        have each : ∀ i, i < len → ∃ q : List IV × List Value, e.Of q.1 ∧ Told W q.1 q.2 ∧ ∀ j, j < e.size → W.cell? (a.add (i * e.size + j)) = q.2[j]? := fun i hi => by
          obtain ⟨cs', h1, h2⟩ := hx i (by omega)
          obtain ⟨_, hlen, hc⟩ := World.cells?_some h1
          obtain ⟨ivs, h3, h4⟩ := trod_told e hfe h2
          refine ⟨(ivs, cs'), h3, h4, fun j hj => ?_⟩
          rw [hce] at hc
          have := hc j hj
          rw [Addr.add_add] at this
          exact this
        obtain ⟨q, hq⟩ := Deep.choose_lt each
        refine ⟨[.isl ((List.range len).map fun i => (q i).1)], ⟨_, rfl, by simp; omega, fun row hr => ?_⟩, told_one ?_⟩
        · obtain ⟨i, hi, rfl⟩ := List.mem_map.1 hr
          exact (hq i (List.mem_range.1 hi)).1
        · refine vr_slice (sz := e.size) (vals := fun i j => (q i).2.getD j undef) (by simp) hl hpos (fun row hr => ?_) (fun row hr => ?_) (fun i j hi hj => ?_) (fun i row hi j x hj => ?_)
          · obtain ⟨i, hi, rfl⟩ := List.mem_map.1 hr
            exact (Ty.closed e _ (hq i (List.mem_range.1 hi)).1).2
          · obtain ⟨i, hi, rfl⟩ := List.mem_map.1 hr
            exact (Ty.closed e _ (hq i (List.mem_range.1 hi)).1).1
          · obtain ⟨h1, h2, h3⟩ := hq i hi
            have h4 : (q i).2.length = e.size := by rw [← h2.1]; exact (Ty.closed e _ h1).2
            rw [h3 j hj, List.getD_eq_getElem?_getD, List.getElem?_eq_getElem (by omega)]
            rfl
          · simp only [List.getElem?_map, Option.map_eq_some_iff] at hi
            obtain ⟨k, hk, rfl⟩ := hi
            have hlt : i < len := by have := lt_of_get hk; simpa using this
            rw [List.getElem?_range hlt] at hk
            cases hk
            exact (hq i hlt).2.1.2 j x hj
    · cases hf
  | .struct fs, fuel, t, cs, x, hf, h => by
    unfold Ty.fits at hf
    split at hf
    · rename_i us ht
      simp only [Bool.and_eq_true, decide_eq_true_eq] at hf
      obtain ⟨hfa, hc⟩ := hf
      obtain ⟨xs, n, _, _, hl, hlen, hx⟩ := DataW.trod_struct ht h
      rw [hc] at hl
      have h2 := trod_toldAll fs (us := us.toList) (o := 0) (cs := cs) (n := n) (by rw [hl]; omega) hfa (fun i f hi => by
        have h3 := hx i f (by simpa using hi)
        have hi' : i < xs.length := by rw [hlen]; have := lt_of_get hi; simpa using this
        rw [List.getElem?_eq_getElem hi'] at h3
        exact ⟨_, h3⟩)
      rw [List.drop_zero] at h2
      simp only [Ty.Of]
      exact h2
    · cases hf
theorem trod_toldAll : ∀ (fs : List Ty) {us : List Field} {o n : Nat} {cs : List Value}, o + Ty.sizes fs = cs.length → Ty.fitsAll P fs us o = true →
    (∀ (i : Nat) (f : Field), us[i]? = some f → ∃ y, DataW.trod enc P W 0 sp hd n f.type ((cs.drop f.offset).take (P.cellsOf f.type)) = some y) → ∃ ivs, Ty.OfAll fs ivs ∧ Told W ivs (cs.drop o)
  | [], [], o, n, cs, hl, hf, h => ⟨[], rfl, by rw [List.drop_of_length_le (by simp only [Ty.sizes] at hl; omega)]; exact ⟨rfl, fun j x hj => by simp at hj⟩⟩
  | [], _ :: _, o, n, cs, hl, hf, h => by simp [Ty.fitsAll] at hf
  | _ :: _, [], o, n, cs, hl, hf, h => by simp [Ty.fitsAll] at hf
  | f :: fs, u :: us, o, n, cs, hl, hf, h => by
    simp only [Ty.fitsAll, Bool.and_eq_true, decide_eq_true_eq] at hf
    obtain ⟨⟨⟨hfu, ho⟩, hc⟩, hfr⟩ := hf
    obtain ⟨y, hy⟩ := h 0 u rfl
    rw [ho, hc] at hy
    obtain ⟨a, ha, h1, h2⟩ := trod_told f hfu hy
    simp only [Ty.sizes] at hl
    obtain ⟨b, hb, h3, h4⟩ := trod_toldAll fs (us := us) (o := o + f.size) (n := n) (cs := cs) (by omega) hfr (fun i g hi => h (i + 1) g (by simpa using hi))
    refine ⟨a ++ b, ⟨a, b, rfl, ha, hb⟩, ?_, fun j x hj => ?_⟩
    · rw [List.length_append, h1, h3]; simp only [List.length_take, List.length_drop]; omega
    · have hal : a.length = f.size := (Ty.closed f a ha).2
      by_cases hj' : j < a.length
      · rw [List.getElem?_append_left hj'] at hj
        have := h2 j x hj
        rw [List.getD_eq_getElem?_getD, List.getElem?_take, if_pos (by omega)] at this
        rw [List.getD_eq_getElem?_getD]; exact this
      · rw [List.getElem?_append_right (by omega)] at hj
        have := h4 _ x hj
        rw [List.getD_eq_getElem?_getD, List.getElem?_drop] at this
        rw [List.getD_eq_getElem?_getD, List.getElem?_drop]
        have e : o + f.size + (j - a.length) = o + j := by omega
        rw [e] at this; exact this
end

end
end Go.X
end
section
/- The calculus X: calls that are handed blocks of ours. -/
namespace Go.X
open Go
section
variable {E : Env} {ρ : Rho} {L : List Blk} {K : IV → List Blk → Prop}

/-- A call that may write the blocks of 'sel' (it has no others in hand). -/
theorem xcall_sel {f : FuncId} {args args' : List IV} {L0 : List Blk} {R : IV → List Blk → Prop} (sel : List Nat) (hnd : sel.Nodup) (hal : ∀ s ∈ sel, aliveAt L s) (hargs : mapO (conv L fuel (renSel sel [] false)) args = some args')
    (hL0 : mapO (convB L fuel (renSel sel [] false)) (sel.map fun s => L.getD s .dead) = some L0) (h : XT E f args' L0 R)
    (hk : ∀ r L1, R r L1 → ∃ r' L1', conv L1 fuel (renBack sel L.length) r = some r' ∧ mapO (convB L1 fuel (renBack sel L.length)) L1 = some L1' ∧ K r' (putL sel L1' L ++ L1'.drop sel.length)) : xcall E f args L K :=
  .inr (.inr ⟨sel, [], false, args', L0, hnd, fun s hs => ⟨hal s hs, by simp⟩, fun _ => rfl, hargs, hL0, (xt_xtp h).mono (fun r L1 hr => ⟨(fun h => by cases h), hk r L1 hr⟩) fun _ _ h => h⟩)
/-- .. that may panic. -/
theorem xcall_selP {f : FuncId} {args args' : List IV} {L0 : List Blk} {R Q : IV → List Blk → Prop} (sel : List Nat) (hnd : sel.Nodup) (hal : ∀ s ∈ sel, aliveAt L s) (hargs : mapO (conv L fuel (renSel sel [] false)) args = some args')
    (hL0 : mapO (convB L fuel (renSel sel [] false)) (sel.map fun s => L.getD s .dead) = some L0) (h : XTP E f args' L0 R Q)
    (hk : ∀ r L1, R r L1 → ∃ r' L1', conv L1 fuel (renBack sel L.length) r = some r' ∧ mapO (convB L1 fuel (renBack sel L.length)) L1 = some L1' ∧ K r' (putL sel L1' L ++ L1'.drop sel.length))
    (hq : ∀ r L1, Q r L1 → ∃ r' L1', conv L1 fuel (renBack sel L.length) r = some r' ∧ mapO (convB L1 fuel (renBack sel L.length)) L1 = some L1' ∧ E.pan r' (putL sel L1' L ++ L1'.drop sel.length)) : xcall E f args L K :=
  .inr (.inr ⟨sel, [], false, args', L0, hnd, fun s hs => ⟨hal s hs, by simp⟩, fun _ => rfl, hargs, hL0, h.mono (fun r L1 hr => ⟨(fun h => by cases h), hk r L1 hr⟩) fun r L1 hr => ⟨(fun h => by cases h), hq r L1 hr⟩⟩)

theorem mapO_bytes (L : List Blk) (n : Nat) (m : Ren) (bs : List UInt8) : mapO (mapO (conv L (n + 1) m)) (bytesRows bs) = some (bytesRows bs) := by
  refine mapO_same fun row hr => ?_
  unfold bytesRows at hr
  obtain ⟨b, _, rfl⟩ := List.mem_map.1 hr
  rfl
theorem bytesRows_of (bs : List UInt8) : mapO byteOf (bytesRows bs) = some bs := by
  induction bs with
  | nil => rfl
  | cons b l ih =>
    show mapO byteOf ([.int .u8 b.toNat] :: bytesRows l) = _
    rw [mapO, byteOf_of, ih]
theorem bytesRows_app (a b : List UInt8) : bytesRows (a ++ b) = bytesRows a ++ bytesRows b := by simp [bytesRows]
@[go_sem] theorem bytesRows_len (bs : List UInt8) : (bytesRows bs).length = bs.length := by simp [bytesRows]
theorem bytesRows_rowsC (bs : List UInt8) : RowsC 1 (bytesRows bs) := by
  intro row hr
  unfold bytesRows at hr
  obtain ⟨b, _, rfl⟩ := List.mem_map.1 hr
  exact ⟨rfl, rfl⟩
theorem rowsOf_str (L : List Blk) (s : List UInt8) : rowsOf L (.str s) = some (bytesRows s) := rfl

@[go_sem high] theorem o_exAlloc {ty : Nat} {z : List IV} {KV : IV → List Blk → Prop} : xop E (.ex (.allocT ty z) []) cev L KV = KV (.ptr L.length 0 0) (L ++ [.tcells ty z.length [z]]) := by
  show KV _ (layAt _ _ _) = _
  rw [layAt_end]
@[go_sem high] theorem o_exStrB {ty : Nat} {s : List UInt8} {KV : IV → List Blk → Prop} : xop E (.ex (.strB ty) [.c (.str s)]) cev L KV = KV (.sl L.length 0 s.length s.length) (L ++ [.tcells ty 1 (bytesRows s)]) := by
  show KV _ (layAt _ _ _) = _
  rw [layAt_end]
theorem xfun2 {n t t' : Nat} {c : XC} {args : List IV} {R : IV → List Blk → Prop} (h : xrun E c (entry args) L (doneK fun ρ L' => Leave L.length (.tup [ρ t, ρ t']) L' R)) : xfun E ⟨n, [.tmp t, .tmp t'], c⟩ args L R := by
  refine xrun_mono _ (fun e ρ L h => ?_) h
  cases e with
  | normal => exact ⟨Or.inr rfl, h⟩
  | ret => exact ⟨Or.inl rfl, h⟩
  | exit => exact h.elim
  | goto => exact h.elim
theorem xfun1 {n t : Nat} {c : XC} {args : List IV} {R : IV → List Blk → Prop} (h : xrun E c (entry args) L (doneK fun ρ L' => Leave L.length (ρ t) L' R)) : xfun E ⟨n, [.tmp t], c⟩ args L R := by
  refine xrun_mono _ (fun e ρ L h => ?_) h
  cases e with
  | normal => exact ⟨Or.inr rfl, h⟩
  | ret => exact ⟨Or.inl rfl, h⟩
  | exit => exact h.elim
  | goto => exact h.elim
theorem leave_all {r r' : IV} {keep : List Nat} {n : Nat} {L'' : List Blk} {R : IV → List Blk → Prop} (hp : keep.Pairwise (· < ·)) (hs : ∀ s ∈ keep, n ≤ s ∧ s < L.length) (h1 : conv L fuel (renLeave n keep) r = some r')
    (h2 : mapO (convB L fuel (renLeave n keep)) (L.take n ++ keep.map fun s => L.getD s .dead) = some L'') (h3 : R r' L'') : Leave n r L R := ⟨keep, hp, hs, r', L'', h1, h2, h3⟩
end
end Go.X
end
