/- Parts of the proof: XBase, XForm. -/
import Derived.Test.YtepkimlnaoaboabGreatDoorXP1
import Derived.CallsIn
import Derived.Below
import Derived.Laws.ComplexArith
set_option linter.unusedVariables false
set_option linter.unusedSimpArgs false
set_option linter.unusedSectionVars false
section
/- The calculus X, part 1: values as trees, blocks, contexts, what a tree says of a value; that it abides. -/
namespace Go.X
open Go

/-- A value as a tree. 'isl', 'iptr': memory that nobody writes any more; 'ptr', 'sl': into a block of ours, by its number in the list. -/
inductive IV where
  | bool (b : Bool)
  | int (k : IntKind) (n : Int)
  | str (s : List UInt8)
  | raw (v : Value)
  | und
  | ptr (s row off : Nat)
  | sl (s off len cap : Nat)
  | isl (rows : List (List IV))
  | iptr (rows : List (List IV)) (row off : Nat)
  | esl
  | nsl
  | agg (cs : List IV)
  | tup (cs : List IV)
  | fn (f : Fn) (first captured : List IV)
  | iface (t : TypeId) (v : IV)
  | mp (s : Nat)
  | yld (s : Nat)
  deriving Inhabited

inductive Blk where
  | cells (sz : Nat) (rows : List (List IV))
  | siter (s : List UInt8) (pos : Nat)
  | tcells (ty sz : Nat) (rows : List (List IV))
  | map (es : List (IV × IV))
  | lp (r : Loop) (l : List IV)
  | dead
  | unborn
  deriving Inhabited

def Blk.alive : Blk → Bool
  | .dead | .unborn => false
  | _ => true
/-- It has been laid. -/
def Blk.born : Blk → Bool
  | .unborn => false
  | _ => true

structure Loc where
  blk : Nat
  base : Nat
  sz : Nat

structure Ctx where
  w : World
  φ : Nat → Loc
  L : List Blk
  X : Nat → Prop

def Ctx.mine (C : Ctx) (b : Nat) : Prop := ∃ s k, C.L[s]? = some k ∧ k.alive = true ∧ (C.φ s).blk = b
/-- The block with number s has been laid. -/
def Ctx.born (C : Ctx) (s : Nat) : Prop := ∃ k, C.L[s]? = some k ∧ k.born = true
theorem Ctx.born.lt {C : Ctx} {s : Nat} (h : C.born s) : s < C.L.length := by
  obtain ⟨k, hk, _⟩ := h
  exact (List.getElem?_eq_some_iff.1 hk).1
def Ctx.own (C : Ctx) (b : Nat) : Prop := C.X b ∨ C.mine b

/-- No block of ours is named. -/
def closed : IV → Bool
  | .ptr .. | .sl .. | .mp _ | .yld _ => false
  | .agg cs | .tup cs => closedL cs
  | .fn _ a b => closedL a && closedL b
  | .iface _ v => closed v
  | _ => true
where
  closedL : List IV → Bool
    | [] => true
    | x :: r => closed x && closedL r

/-- It may lie in one cell. -/
def isCell : IV → Bool
  | .agg _ | .tup _ | .und => false
  | .raw v => match v with | .agg _ | .tuple _ => false | _ => true
  | _ => true

def rawOk : Value → Bool
  | .agg _ => false
  | _ => true

inductive VR (C : Ctx) : IV → Value → Prop
  | bool (b : Bool) : VR C (.bool b) (.bool b)
  | int (k : IntKind) (n : Int) : VR C (.int k n) (.int k n)
  | str (s : List UInt8) : VR C (.str s) (.string ⟨s.toArray⟩)
  | raw (v : Value) (h : rawOk v = true) : VR C (.raw v) v
  | und : VR C .und undef
  | ptr (s r o : Nat) (hs : C.born s) :
      VR C (.ptr s r o) (.pointer (some ⟨(C.φ s).blk, (C.φ s).base + r * (C.φ s).sz + o, none⟩))
  | sl (s off len cap : Nat) (a : Option Addr) (cap' : Nat) (hs : C.born s) (hl : len ≤ cap) (hc : cap ≤ cap')
      (ha : cap' = 0 ∨ (a = some ⟨(C.φ s).blk, (C.φ s).base + off * (C.φ s).sz, none⟩ ∧
        ∃ c e fr, C.w.heap[(C.φ s).blk]? = some (.cells c e fr) ∧ (C.φ s).base + (off + cap') * (C.φ s).sz ≤ c.size)) :
      VR C (.sl s off len cap) (.slice a len cap')
  | isl (rows : List (List IV)) (a : Option Addr) (cap' sz : Nat) (vals : Nat → Nat → Value) (hcap : rows.length ≤ cap')
      (hsz : ∀ (i : Nat) (row : List IV), rows[i]? = some row → row.length = sz)
      (hcl : ∀ (i : Nat) (row : List IV), rows[i]? = some row → closed.closedL row = true)
      (ha : rows = [] ∨ ∃ b o, a = some ⟨b, o, none⟩ ∧ b < C.w.heap.size ∧ ¬ C.own b ∧
        ∀ (i : Nat) (row : List IV), rows[i]? = some row → ∀ (j : Nat) (x : IV), row[j]? = some x → C.w.cell? ⟨b, o + i * sz + j, none⟩ = some (vals i j))
      (hv : ∀ (i : Nat) (row : List IV), rows[i]? = some row → ∀ (j : Nat) (x : IV), row[j]? = some x → VR C x (vals i j)) :
      VR C (.isl rows) (.slice a rows.length cap')
  | iptr (rows : List (List IV)) (r o b base sz : Nat) (vals : Nat → Nat → Value)
      (hsz : ∀ (i : Nat) (row : List IV), rows[i]? = some row → row.length = sz)
      (hcl : ∀ (i : Nat) (row : List IV), rows[i]? = some row → closed.closedL row = true)
      (hb : b < C.w.heap.size) (hown : ¬ C.own b)
      (ha : ∀ (i : Nat) (row : List IV), rows[i]? = some row → ∀ (j : Nat) (x : IV), row[j]? = some x → C.w.cell? ⟨b, base + i * sz + j, none⟩ = some (vals i j))
      (hv : ∀ (i : Nat) (row : List IV), rows[i]? = some row → ∀ (j : Nat) (x : IV), row[j]? = some x → VR C x (vals i j)) :
      VR C (.iptr rows r o) (.pointer (some ⟨b, base + r * sz + o, none⟩))
  | esl (a : Option Addr) : VR C .esl (.slice a 0 0)
  | nsl : VR C .nsl (.slice none 0 0)
  | agg (cs : List IV) (vs : List Value) (hl : cs.length = vs.length) (hv : ∀ i x, cs[i]? = some x → VR C x (vs.getD i undef)) :
      VR C (.agg cs) (.agg vs.toArray)
  | tup (cs : List IV) (vs : List Value) (hl : cs.length = vs.length) (hv : ∀ i x, cs[i]? = some x → VR C x (vs.getD i undef)) :
      VR C (.tup cs) (.tuple vs.toArray)
  | fn (f : Fn) (as bs : List IV) (va vb : List Value) (ha : as.length = va.length) (hb : bs.length = vb.length)
      (hva : ∀ i x, as[i]? = some x → VR C x (va.getD i undef)) (hvb : ∀ i x, bs[i]? = some x → VR C x (vb.getD i undef)) :
      VR C (.fn f as bs) (.func f va.toArray vb.toArray)
  | iface (t : TypeId) (x : IV) (v : Value) (h : VR C x v) : VR C (.iface t x) (.iface t v)
  | mp (s : Nat) (hs : C.born s) : VR C (.mp s) (.map (some (C.φ s).blk))
  | yld (s : Nat) (hs : C.born s) : VR C (.yld s) (.func (.yield (C.φ s).blk) #[] #[])

structure Ext (C C' : Ctx) : Prop where
  size : C.w.heap.size ≤ C'.w.heap.size
  frame : ∀ b, b < C.w.heap.size → ¬ C.mine b → C'.w.heap[b]? = C.w.heap[b]?
  sub : ∀ b, C'.mine b → C.mine b ∨ C.w.heap.size ≤ b
  slot : ∀ s, C.born s → C'.φ s = C.φ s
  bo : ∀ s, C.born s → C'.born s
  len : C.L.length ≤ C'.L.length
  cap : ∀ (b : Nat) c e fr, C.w.heap[b]? = some (.cells c e fr) → ∃ c' e' fr', C'.w.heap[b]? = some (.cells c' e' fr') ∧ c'.size = c.size
  ex : C'.X = C.X
  os : C'.w.os = C.w.os
  tape : C'.w.tape = C.w.tape
  output : C'.w.output = C.w.output

theorem Ext.refl (C : Ctx) : Ext C C :=
  ⟨Nat.le_refl _, fun _ _ _ => rfl, fun _ h => .inl h, fun _ _ => rfl, fun _ h => h, Nat.le_refl _, fun _ c e fr h => ⟨c, e, fr, h, rfl⟩, rfl, rfl, rfl, rfl⟩

theorem Ext.trans {A B C : Ctx} (h : Ext A B) (k : Ext B C) : Ext A C where
  size := Nat.le_trans h.size k.size
  frame := fun b hb hm => (k.frame b (Nat.lt_of_lt_of_le hb h.size) (fun hB => (h.sub b hB).elim hm (fun hle => absurd hb (Nat.not_lt.2 hle)))).trans (h.frame b hb hm)
  sub := fun b hC => (k.sub b hC).elim (h.sub b) (fun hle => .inr (Nat.le_trans h.size hle))
  slot := fun s hs => (k.slot s (h.bo s hs)).trans (h.slot s hs)
  bo := fun s hs => k.bo s (h.bo s hs)
  len := Nat.le_trans h.len k.len
  cap := fun b c e fr hc => by
    obtain ⟨c1, e1, f1, h1, s1⟩ := h.cap b c e fr hc
    obtain ⟨c2, e2, f2, h2, s2⟩ := k.cap b c1 e1 f1 h1
    exact ⟨c2, e2, f2, h2, s2.trans s1⟩
  ex := k.ex.trans h.ex
  os := k.os.trans h.os
  tape := k.tape.trans h.tape
  output := k.output.trans h.output

theorem cell_of_heap {w w' : World} {b : Nat} (h : w'.heap[b]? = w.heap[b]?) (o : Nat) : w'.cell? ⟨b, o, none⟩ = w.cell? ⟨b, o, none⟩ := by
  simp only [World.cell?, h]

theorem Ext.own {C C' : Ctx} (h : Ext C C') {b : Nat} (hb : b < C.w.heap.size) (hn : ¬ C.own b) : ¬ C'.own b := by
  rintro (hx | hm)
  · exact hn (.inl (by rw [← h.ex]; exact hx))
  · rcases h.sub b hm with h1 | h1
    · exact hn (.inr h1)
    · omega

theorem Ext.heap {C C' : Ctx} (h : Ext C C') {b : Nat} (hb : b < C.w.heap.size) (hn : ¬ C.own b) : C'.w.heap[b]? = C.w.heap[b]? :=
  h.frame b hb (fun hm => hn (.inr hm))

/-- What a tree says of a value abides. -/
theorem VR.mono {C C' : Ctx} (h : Ext C C') {x : IV} {v : Value} (hx : VR C x v) : VR C' x v := by
  induction hx with
  | bool b => exact .bool b
  | int k n => exact .int k n
  | str s => exact .str s
  | raw v h => exact .raw v h
  | und => exact .und
  | ptr s r o hs => rw [← h.slot s hs]; exact .ptr s r o (h.bo s hs)
  | sl s off len cap a cap' hs hl hc ha =>
    refine .sl s off len cap a cap' (h.bo s hs) hl hc ?_
    rcases ha with h0 | ⟨ha, c, e, fr, hh, hle⟩
    · exact .inl h0
    · obtain ⟨c', e', fr', hh', hs'⟩ := h.cap _ c e fr hh
      rw [h.slot s hs]
      exact .inr ⟨ha, c', e', fr', hh', by omega⟩
  | isl rows a cap' sz vals hcap hsz hcl ha hv ih =>
    refine .isl rows a cap' sz vals hcap hsz hcl ?_ ih
    rcases ha with h0 | ⟨b, o, ha, hb, hn, hc⟩
    · exact .inl h0
    · exact .inr ⟨b, o, ha, Nat.lt_of_lt_of_le hb h.size, h.own hb hn, fun i row hi j x hj => by rw [cell_of_heap (h.heap hb hn)]; exact hc i row hi j x hj⟩
  | iptr rows r o b base sz vals hsz hcl hb hown ha hv ih =>
    exact .iptr rows r o b base sz vals hsz hcl (Nat.lt_of_lt_of_le hb h.size) (h.own hb hown)
      (fun i row hi j x hj => by rw [cell_of_heap (h.heap hb hown)]; exact ha i row hi j x hj) ih
  | esl a => exact .esl a
  | nsl => exact .nsl
  | agg cs vs hl hv ih => exact .agg cs vs hl ih
  | tup cs vs hl hv ih => exact .tup cs vs hl ih
  | fn f as bs va vb ha hb hva hvb iha ihb => exact .fn f as bs va vb ha hb iha ihb
  | iface t x v hv ih => exact .iface t x v ih
  | mp s hs => rw [← h.slot s hs]; exact .mp s (h.bo s hs)
  | yld s hs => rw [← h.slot s hs]; exact .yld s (h.bo s hs)

/-- No cell may not be written. -/
def frOk (n : Nat) (fr : Nat × Nat) : Prop := fr = (0, 0) ∨ n ≤ fr.1
theorem frOk_zero (n : Nat) : frOk n (0, 0) := .inl rfl
theorem frOk_not {n : Nat} {fr : Nat × Nat} (h : frOk n fr) {i : Nat} (hi : i < n) : ¬ (fr.1 ≤ i ∧ i < fr.2) := by
  rcases h with rfl | h
  · simp
  · omega
def CellsOk (C : Ctx) (s sz : Nat) (rows : List (List IV)) : Prop := (C.φ s).sz = sz ∧ ∃ c e fr, C.w.heap[(C.φ s).blk]? = some (.cells c e fr) ∧ frOk c.size fr ∧
      (C.φ s).base + rows.length * sz ≤ c.size ∧
      ∀ (i : Nat) (row : List IV), rows[i]? = some row → row.length = sz ∧ ∀ j x, row[j]? = some x → ∃ v, c[(C.φ s).base + i * sz + j]? = some v ∧ VR C x v
def TyOk (C : Ctx) (s ty : Nat) : Prop := (C.φ s).base = 0 ∧ ∃ c fr, C.w.heap[(C.φ s).blk]? = some (.cells c ty fr)
/-- What the list says of a block of ours. -/
def BlkOk (C : Ctx) (s : Nat) : Blk → Prop
  | .cells sz rows => CellsOk C s sz rows
  | .tcells ty sz rows => CellsOk C s sz rows ∧ TyOk C s ty
  | .siter t pos => (C.φ s).base = 0 ∧ C.w.heap[(C.φ s).blk]? = some (.stringIter ⟨t.toArray⟩ pos)
  | .map _ => False
  | .lp r l => C.w.heap[(C.φ s).blk]? = some (.loop r) ∧ ∀ n, VR C (l.getD n .und) (r.tmps.getD n undef)
  | .dead => True
  | .unborn => True

def Sim (C : Ctx) : Prop := ∀ s k, C.L[s]? = some k → BlkOk C s k

structure Wf (g0 : Nat) (C : Ctx) : Prop where
  inj : ∀ s t k l, C.L[s]? = some k → C.L[t]? = some l → k.alive = true → l.alive = true → (C.φ s).blk = (C.φ t).blk → s = t
  lo : ∀ b, C.mine b → g0 ≤ b
  apart : ∀ b, C.X b → ¬ C.mine b
  exlo : ∀ b, C.X b → b < C.w.heap.size
  g : g0 ≤ C.w.heap.size

theorem mine_lt {C : Ctx} (hs : Sim C) {b : Nat} (h : C.mine b) : b < C.w.heap.size := by
  obtain ⟨s, k, hk, ha, rfl⟩ := h
  have := hs s k hk
  cases k with
  | cells sz rows => obtain ⟨_, c, e, fr, hh, _⟩ := this; exact (Array.getElem?_eq_some_iff.1 hh).1
  | siter t pos => exact (Array.getElem?_eq_some_iff.1 this.2).1
  | tcells ty sz rows => obtain ⟨_, _, c, fr, hh⟩ := this; exact (Array.getElem?_eq_some_iff.1 hh).1
  | map es => exact this.elim
  | lp r l => exact (Array.getElem?_eq_some_iff.1 this.1).1
  | dead => cases ha
  | unborn => cases ha

def cellsOf : IV → List IV
  | .agg cs => cs
  | x => [x]

theorem VR.cells {C : Ctx} {x : IV} {v : Value} (h : VR C x v) :
    (cellsOf x).length = v.cells.size ∧ ∀ (i : Nat) (y : IV), (cellsOf x)[i]? = some y → ∃ u, v.cells[i]? = some u ∧ VR C y u := by
  have one : ∀ {x : IV} {v : Value}, VR C x v → v.cells = #[v] → cellsOf x = [x] →
      (cellsOf x).length = v.cells.size ∧ ∀ (i : Nat) (y : IV), (cellsOf x)[i]? = some y → ∃ u, v.cells[i]? = some u ∧ VR C y u := by
    intro x v h hv hx
    rw [hv, hx]
    refine ⟨rfl, fun i y hi => ?_⟩
    cases i with
    | zero => simp at hi; subst hi; exact ⟨v, rfl, h⟩
    | succ i => simp at hi
  cases h with
  | agg cs vs hl hv =>
    refine ⟨by simpa [cellsOf, Value.cells] using hl, fun i y hi => ?_⟩
    have := hv i y hi
    have hlt : i < vs.length := by rw [← hl]; exact (List.getElem?_eq_some_iff.1 hi).1
    refine ⟨vs.getD i undef, ?_, this⟩
    simp [Value.cells, List.getD, hlt]
  | raw v h =>
    refine one (.raw v h) ?_ rfl
    cases v <;> first | rfl | cases h
  | bool b => exact one (.bool b) rfl rfl
  | int k n => exact one (.int k n) rfl rfl
  | str s => exact one (.str s) rfl rfl
  | und => exact one .und rfl rfl
  | ptr s r o hs => exact one (.ptr s r o hs) rfl rfl
  | sl s off len cap a cap' hs hl hc ha => exact one (.sl s off len cap a cap' hs hl hc ha) rfl rfl
  | isl rows a cap' sz vals hcap hsz hcl ha hv => exact one (.isl rows a cap' sz vals hcap hsz hcl ha hv) rfl rfl
  | iptr rows r o b base sz vals hsz hcl hb hown ha hv => exact one (.iptr rows r o b base sz vals hsz hcl hb hown ha hv) rfl rfl
  | esl a => exact one (.esl a) rfl rfl
  | nsl => exact one .nsl rfl rfl
  | tup cs vs hl hv => exact one (.tup cs vs hl hv) rfl rfl
  | fn f as bs va vb ha hb hva hvb => exact one (.fn f as bs va vb ha hb hva hvb) rfl rfl
  | iface t x v hv => exact one (.iface t x v hv) rfl rfl
  | mp s hs => exact one (.mp s hs) rfl rfl
  | yld s hs => exact one (.yld s hs) rfl rfl

end Go.X
end
section
/- The calculus X, part 2a: the code in a short form. -/
namespace Go.X
open Go

/-- One of: real, imag, to a whole number. -/
inductive RU where
  | re
  | im
  | toInt (k : IntKind)
  deriving Inhabited
def rawUn : RU → Value → Option IV
  | .re, .complex k a _ => some (.raw (.float k a))
  | .im, .complex k _ b => some (.raw (.float k b))
  | .toInt k, .float s b => (floatToIntVal s b k).map (.int k)
  | _, _ => none
/-- A sum of two complexes. -/
def rawAdd : Value → Value → Option Value
  | .complex k a b, .complex k' c d => if k = k' then (cSumBits .add k a b c d).map fun r => .complex k r.1 r.2 else none
  | _, _ => none

inductive Opd where
  | t (n : Nat)
  | c (v : IV)
  | g (n : Nat)
  | f (n : Nat)
  deriving Inhabited

/-- Further kinds of operations. -/
inductive XX where
  | panic
  | mkif (t : Nat)
  | strB (ty : Nat)
  | bStr
  | rStr
  | slId
  | eqA (neg : Bool) (ks : List Nat)
  | eqP (neg : Bool)
  | allocT (ty : Nat) (zero : List IV)
  | appT (ty bytes : Nat)
  | sdata
  | ustr (ty : Nat)
  | toU (ty n : Nat)
  | ofU (ty n : Nat)
  | tas (t : Nat)
  | ru (op : RU)
  deriving Inhabited

inductive XO where
  | mov (x : Opd)
  | pick (c a b : Opd)
  | alloc (zero : List IV)
  | box (x : Opd)
  | build (zero : List IV) (parts : List (Nat × Nat × Opd))
  | bslice (sz : Nat) (zero : List IV) (len : Nat) (parts : List (Nat × Opd))
  | load1 (a : Opd)
  | loadN (n : Nat) (a : Opd)
  | store (n : Nat) (a x : Opd)
  | nilck (x : Opd)
  | bin (op : BinOp) (x y : Opd)
  | eqB (neg : Bool) (x y : Opd)
  | un (op : UnOp) (x : Opd)
  | cvInt (k : IntKind) (x : Opd)
  | cvIntStr (x : Opd)
  | cvStr (x : Opd)
  | fldA (off : Nat) (x : Opd)
  | fld (off n : Nat) (agg : Bool) (x : Opd)
  | idxS (n : Nat) (x i : Opd)
  | idxA (n sz : Nat) (x i : Opd)
  | idx (x i : Opd)
  | slice (n : Nat) (x : Opd) (lo hi : Option Opd)
  | sliceS (x : Opd) (lo hi : Option Opd)
  | slice0 (x : Opd)
  | mkfn (f : Fn) (first cap : List Opd)
  | mkslice (zero : List IV) (bytes : Nat) (len cap : Opd)
  | len (x : Opd)
  | lenS (x : Opd)
  | append (sz bytes : Nat) (s x : Opd)
  | max2 (x y : Opd)
  | min2 (x y : Opd)
  | call (f : Opd) (args : List Opd)
  | pcall (f : Opd) (args : List Opd)
  | isNil (kd : Nat) (neg : Bool) (x : Opd)
  | rng (x : Opd)
  | nxt (t : Opd)
  | ext (t : Opd) (i : Nat)
  | ex (k : XX) (xs : List Opd)
  deriving Inhabited

structure XOper where
  dst : Option Nat
  op : XO
  guard : Option (Nat × Bool)
  deriving Inhabited

mutual
inductive XC where
  | skip
  | ops (l : List XOper)
  | draw (l : List XOper)
  | drawE (l : List XOper)
  | drawR (l : List (XOper × List Nat × Bool))
  | bad
  | rngF (g : Opd) (n : Nat) (ps : List Nat) (asg body : XC)
  | seq (a b : XC)
  | cond (c : Opd) (t e : XC)
  | block (id : Nat) (b : XC)
  | loop (b : XC)
  | exit (id : Nat)
  | scope (b : XC) (ls : XLabs)
  | label (l : Nat)
  | goto (l : Nat)
  | ret
inductive XLabs where
  | nil
  | cons (l : Nat) (c : XC) (r : XLabs)
end
instance : Inhabited XC := ⟨.skip⟩

inductive XE where
  | normal
  | exit (id : Nat)
  | goto (l : Nat)
  | ret
  deriving DecidableEq

def mapO {α β : Type} (f : α → Option β) : List α → Option (List β)
  | [] => some []
  | x :: r => match f x with
    | some y => match mapO f r with
      | some ys => some (y :: ys)
      | none => none
    | none => none


end Go.X
end
