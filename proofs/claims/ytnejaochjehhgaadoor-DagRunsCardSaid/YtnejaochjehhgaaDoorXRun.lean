/- The calculus X, part 2: the code in a short form, and what is to be shown of a run of it. -/
import Derived.Test.YtnejaochjehhgaaDoorXComp
set_option linter.unusedVariables false
set_option linter.unusedSimpArgs false
set_option linter.unusedSectionVars false
namespace Go.X
open Go

/-- The fences: none, or that of a round. -/
def FOk (F : Fence) : Prop := F = Fence.wide ∨ ∃ l, F = Fence.wide.inRound l

/-- Behind an operation. -/
def PostG (g0 : Nat) (C : Ctx) (K : IV → List Blk → Prop) (v : Value) (w' : World) : Prop :=
  ∃ r L' φ', K r L' ∧ Wf g0 ⟨w', φ', L', C.X⟩ ∧ Sim ⟨w', φ', L', C.X⟩ ∧ Ext C ⟨w', φ', L', C.X⟩ ∧ VR ⟨w', φ', L', C.X⟩ r v

/-- What a round does: number of the loop's block, what is handed to it, the blocks. -/
abbrev YHand := Nat → List IV → List Blk → (IV → List Blk → Prop) → Prop

structure Env where
  P : Program
  g0 : Nat
  G : World → Prop
  hG : ∀ w w' : World, (∀ b, b < g0 → w'.heap[b]? = w.heap[b]?) → G w → G w'
  /-- What a package-level variable holds, as far as it is known: plain cells. -/
  gl : Nat → Option (List IV)
  hgl : ∀ (w : World) (n : Nat) (cs : List IV), G w → gl n = some cs → ∀ (j : Nat) (y : IV), cs[j]? = some y → ∃ u, w.cell? ⟨n, j, none⟩ = some u ∧ ∀ C : Ctx, VR C y u
  yl : YHand
  hylm : ∀ (s : Nat) (args : List IV) (L : List Blk) (K K' : IV → List Blk → Prop), (∀ v L', K v L' → K' v L') → yl s args L K → yl s args L K'
  hyl : ∀ (C : Ctx) (s : Nat) (args : List IV) (vs : List Value) (K : IV → List Blk → Prop), Wf g0 C → Sim C → G C.w → args.length = vs.length →
    (∀ (i : Nat) (x : IV), args[i]? = some x → VR C x (vs.getD i undef)) → yl s args C.L K →
    ∃ fn tmps asg body, (Instr.yield (C.φ s).blk vs.toArray).run P C.w = .ok (.round (C.φ s).blk fn tmps asg body) C.w ∧
      ∀ F, FOk F → RoundIn F 0 P (C.φ s).blk fn tmps asg body C.w fun e w' => ∃ v, e = .returned v ∧ PostG g0 C K v w'

/-- What becomes of a block's number: none: it may not be named · some none: what it holds is now read only · some (some t): it is number t. -/
abbrev Ren := Nat → Option (Option Nat)
def Ren.inner (m : Ren) : Ren := fun s => match m s with | some none => some none | _ => none

def conv (L : List Blk) : Nat → Ren → IV → Option IV
  | 0, _, _ => none
  | n + 1, m, .ptr s r o => match m s with
    | some (some t) => some (.ptr t r o)
    | some none => match L[s]? with
      | some (.cells _ rows) => (mapO (mapO (conv L n m.inner)) rows).map fun rs => .iptr rs r o
      | _ => none
    | none => none
  | n + 1, m, .sl s off len cap => match m s with
    | some (some t) => some (.sl t off len cap)
    | some none => match L[s]? with
      | some (.cells _ rows) => if off + len ≤ rows.length then (mapO (mapO (conv L n m.inner)) ((rows.drop off).take len)).map .isl else none
      | _ => none
    | none => none
  | _ + 1, m, .mp s => match m s with
    | some (some t) => some (.mp t)
    | _ => none
  | _ + 1, m, .yld s => match m s with
    | some (some t) => some (.yld t)
    | _ => none
  | _ + 1, _, .nsl => some (.isl [])
  | _ + 1, _, .esl => some (.isl [])
  | n + 1, m, .agg cs => (mapO (conv L n m) cs).map .agg
  | n + 1, m, .tup cs => (mapO (conv L n m) cs).map .tup
  | n + 1, m, .fn f a b => match mapO (conv L n m) a, mapO (conv L n m) b with
    | some a', some b' => some (.fn f a' b')
    | _, _ => none
  | n + 1, m, .iface t v => (conv L n m v).map (.iface t)
  | _ + 1, _, x => some x

def convB (L : List Blk) (n : Nat) (m : Ren) : Blk → Option Blk
  | .cells sz rows => (mapO (mapO (conv L n m)) rows).map (.cells sz)
  | .siter s p => some (.siter s p)
  | .dead => some .dead
  | .map _ => none
  | .lp r l => (mapO (conv L n m) l).map (.lp r)

/-- No memory that is only read is named. -/
def noTree : IV → Bool
  | .isl _ | .iptr .. => false
  | .agg cs | .tup cs => noTreeL cs
  | .fn _ a b => noTreeL a && noTreeL b
  | .iface _ v => noTree v
  | _ => true
where
  noTreeL : List IV → Bool
    | [] => true
    | x :: r => noTree x && noTreeL r

def noTreeB : Blk → Bool
  | .cells _ rows => rows.all noTree.noTreeL
  | .map _ => false
  | .lp .. => false
  | _ => true

/-- A function with a body. -/
def Bodied (P : Program) (f : FuncId) : Prop := ∃ fn, P.funcs[f]? = some fn ∧ fn.name ≠ "runtime.NumGoroutine" ∧ fn.body.isNone = false

/-- The contract of a function: arguments, the blocks that it may write (their numbers are those of the list), the answer and the blocks behind the call. -/
def XT (E : Env) (f : FuncId) (args : List IV) (L : List Blk) (R : IV → List Blk → Prop) : Prop :=
  Bodied E.P f ∧ ∀ (w : World) (φ : Nat → Loc) (X : Nat → Prop) (vs : List Value), Wf E.g0 ⟨w, φ, L, X⟩ → Sim ⟨w, φ, L, X⟩ → E.G w → args.length = vs.length →
    (∀ (i : Nat) (x : IV), args[i]? = some x → VR ⟨w, φ, L, X⟩ x (vs.getD i undef)) →
    Calls E.P f vs.toArray w fun e w' => ∃ r L' φ' v, R r L' ∧ e = .returned v ∧ Wf E.g0 ⟨w', φ', L', X⟩ ∧ Sim ⟨w', φ', L', X⟩ ∧
      Ext ⟨w, φ, L, X⟩ ⟨w', φ', L', X⟩ ∧ VR ⟨w', φ', L', X⟩ r v

/-- The code of a loop over a function. -/
def LoopCode (P : Program) (N : Nat) (ps : List Nat) (asg body : XC) (r : Loop) : Prop :=
  r.params.toList = ps ∧ comp P N r.assign = some asg ∧ comp P N r.body = some body ∧ r.tmps.size = N

def XPure (E : Env) (f : FuncId) (args : List IV) (r : IV) : Prop := XT E f args [] fun r' L' => r' = r ∧ L' = []

def fuel : Nat := 12
def renNone : Ren := fun _ => none
def renFreeze : Ren := fun _ => some none
def renShift (n : Nat) : Ren := fun s => some (some (s + n))

/-- A call of function f: without blocks of ours in its hands ('b': it may read what is ours, and its answer names no memory that is only read). -/
def xcallB (E : Env) (f : FuncId) (args : List IV) (L : List Blk) (K : IV → List Blk → Prop) : Prop :=
  ∃ b args', mapO (conv L fuel (if b then renFreeze else renNone)) args = some args' ∧
    XT E f args' [] fun r L1 => (b = true → noTree r = true ∧ L1.all noTreeB = true) ∧
      ∃ r' L1', conv L1 fuel (renShift L.length) r = some r' ∧ mapO (convB L1 fuel (renShift L.length)) L1 = some L1' ∧ K r' (L ++ L1')

/-- A function that the model answers by itself. -/
def XExt (E : Env) (f : FuncId) (args : List IV) (r : IV) : Prop :=
  ∀ (C : Ctx) (vs : List Value), E.G C.w → args.length = vs.length → (∀ (i : Nat) (x : IV), args[i]? = some x → VR C x (vs.getD i undef)) →
    ∃ v, (callFunc f vs.toArray).run E.P C.w = .ok (.value v) C.w ∧ VR C r v

def xcall (E : Env) (f : FuncId) (args : List IV) (L : List Blk) (K : IV → List Blk → Prop) : Prop :=
  xcallB E f args L K ∨ ∃ r, XExt E f args r ∧ K r L

abbrev Rho := Nat → IV
def put (ρ : Rho) (d : Option Nat) (v : IV) : Rho :=
  match d with
  | none => ρ
  | some d => fun n => if n = d then v else ρ n

def Opd.ev (ρ : Rho) : Opd → IV
  | .t n => ρ n
  | .c v => v
  | .g n => .raw (.pointer (some ⟨n, 0, none⟩))
  | .f n => .fn (.func n) [] []

def splice {α : Type} (l : List α) (i : Nat) (xs : List α) : List α := l.take i ++ xs ++ l.drop (i + xs.length)

def xfill : List IV → List (Nat × Nat × IV) → Option (List IV)
  | cs, [] => some cs
  | cs, (off, n, v) :: r => if (cellsOf v).length = n ∧ off + n ≤ cs.length then xfill (splice cs off (cellsOf v)) r else none

def xfillRows (sz : Nat) : List (List IV) → List (Nat × IV) → Option (List (List IV))
  | rows, [] => some rows
  | rows, (i, v) :: r => if (cellsOf v).length = sz ∧ i < rows.length then xfillRows sz (rows.set i (cellsOf v)) r else none

/-- The rows that a pointer leads to; the row, the cell in it. -/
def rowsAt (gl : Nat → Option (List IV)) (L : List Blk) : IV → Option (List (List IV) × Nat × Nat)
  | .raw (.pointer (some ⟨n, o, none⟩)) => match gl n with
    | some cs => some ([cs], 0, o)
    | none => none
  | .ptr s r o => match L[s]? with
    | some (.cells _ rows) => some (rows, r, o)
    | _ => none
  | .iptr rows r o => some (rows, r, o)
  | _ => none

def lenOf : IV → Option Nat
  | .isl rows => some rows.length
  | .sl _ _ len _ => some len
  | .esl => some 0
  | .nsl => some 0
  | _ => none

/-- The rows of a slice, or of a string's bytes. -/
def rowsOf (L : List Blk) : IV → Option (List (List IV))
  | .str s => some (s.map fun b => [.int .u8 b.toNat])
  | .isl rows => some rows
  | .sl s off len _ => match L[s]? with
    | some (.cells _ rows) => if off + len ≤ rows.length then some ((rows.drop off).take len) else none
    | _ => none
  | .esl => some []
  | .nsl => some []
  | _ => none

def xbin (op : BinOp) (x y : IV) (K : IV → Prop) : Prop :=
  match op, x, y with
  | .shl, .int k a, .int _ b => 0 ≤ b ∧ K (.int k (k.wrap (a * 2 ^ min b.toNat k.bits)))
  | .shr, .int k a, .int _ b => 0 ≤ b ∧ K (.int k (a.fdiv (2 ^ min b.toNat k.bits)))
  | .add, .int k a, .int k' b => k = k' ∧ K (.int k (k.wrap (a + b)))
  | .sub, .int k a, .int k' b => k = k' ∧ K (.int k (k.wrap (a - b)))
  | .mul, .int k a, .int k' b => k = k' ∧ K (.int k (k.wrap (a * b)))
  | .quo, .int k a, .int k' b => k = k' ∧ b ≠ 0 ∧ K (.int k (k.wrap (a.tdiv b)))
  | .rem, .int k a, .int k' b => k = k' ∧ b ≠ 0 ∧ K (.int k (a.tmod b))
  | .and, .int k a, .int k' b => k = k' ∧ K (.int k (k.wrap (BitVec.ofInt k.bits a &&& BitVec.ofInt k.bits b).toNat))
  | .or, .int k a, .int k' b => k = k' ∧ K (.int k (k.wrap (BitVec.ofInt k.bits a ||| BitVec.ofInt k.bits b).toNat))
  | .xor, .int k a, .int k' b => k = k' ∧ K (.int k (k.wrap (BitVec.ofInt k.bits a ^^^ BitVec.ofInt k.bits b).toNat))
  | .eql, .int k a, .int k' b => k = k' ∧ K (.bool (decide (a = b)))
  | .neq, .int k a, .int k' b => k = k' ∧ K (.bool (!decide (a = b)))
  | .lss, .int k a, .int k' b => k = k' ∧ K (.bool (decide (a < b)))
  | .leq, .int k a, .int k' b => k = k' ∧ K (.bool (decide (a ≤ b)))
  | .gtr, .int k a, .int k' b => k = k' ∧ K (.bool (decide (b < a)))
  | .geq, .int k a, .int k' b => k = k' ∧ K (.bool (decide (b ≤ a)))
  | .add, .str a, .str b => a.length + b.length ≤ 9223372036854775807 ∧ K (.str (a ++ b))
  | .eql, .str a, .str b => K (.bool (decide (a = b)))
  | .neq, .str a, .str b => K (.bool (!decide (a = b)))
  | .lss, .str a, .str b => K (.bool (Op.bytesLess a b))
  | .geq, .str a, .str b => K (.bool (!Op.bytesLess a b))
  | .gtr, .str a, .str b => K (.bool (!(Op.bytesLess a b || decide (a = b))))
  | .leq, .str a, .str b => K (.bool (Op.bytesLess a b || decide (a = b)))
  | _, _, _ => False

def xun (op : UnOp) (x : IV) (K : IV → Prop) : Prop :=
  match op, x with
  | .not, .bool b => K (.bool !b)
  | .neg, .int k n => K (.int k (k.wrap (0 - n)))
  | .xor, .int k n => K (.int k (k.wrap (BitVec.ofInt k.bits (if k.signed then -1 else k.max) ^^^ BitVec.ofInt k.bits n).toNat))
  | _, _ => False

def Rows (n : Nat) (rows : List (List IV)) : Prop := ∀ row ∈ rows, row.length = n
def RowsC (n : Nat) (rows : List (List IV)) : Prop := ∀ row ∈ rows, row.length = n ∧ row.all isCell = true
def szOf (L : List Blk) (s : Nat) : Option Nat :=
  match L[s]? with
  | some (.cells sz _) => some sz
  | _ => none

def xappend (sz bytes : Nat) (s x : IV) (L : List Blk) (K : IV → List Blk → Prop) : Prop :=
  match rowsOf L x with
  | none => False
  | some rs => RowsC sz rs ∧
    match s with
    | .nsl | .esl => (rs = [] → K s L) ∧ (rs ≠ [] → rs.length * bytes ≤ 70368744177664 ∧ K (.sl L.length 0 rs.length rs.length) (L ++ [.cells sz rs]))
    | .sl t off len cap => match L[t]? with
      | some (.cells sz' rows) => sz' = sz ∧ off + cap ≤ rows.length ∧
        if len + rs.length ≤ cap then K (.sl t off (len + rs.length) cap) (L.set t (.cells sz (splice rows (off + len) rs)))
        else (len + rs.length) * bytes ≤ 70368744177664 ∧
          K (.sl L.length 0 (len + rs.length) (len + rs.length)) (L.set t .dead ++ [.cells sz ((rows.drop off).take len ++ rs)])
      | _ => False
    | _ => False

/-- Is it nil? -/
def xnil (k : Nat) (x : IV) (K : Bool → Prop) : Prop :=
  match k, x with
  | 0, .nsl => K true
  | 0, .esl => K true ∧ K false
  | 0, .isl rows => K false ∧ (rows = [] → K true)
  | 0, .sl _ _ _ cap => K false ∧ (cap = 0 → K true)
  | 1, .iface _ _ => K false
  | 1, .raw .nilIface => K true
  | 1, .raw (.iface _ _) => K false
  | 2, .fn _ _ _ => K false
  | 2, .raw .nilFunc => K true
  | _, _ => False

def ofInt : IV → Option Int
  | .int _ n => some n
  | _ => none

def bnd (x : Option IV) (d : Nat) (K : Nat → Prop) : Prop :=
  match x with
  | none => K d
  | some (.int _ n) => 0 ≤ n ∧ K n.toNat
  | _ => False

def xop (E : Env) (o : XO) (e : Opd → IV) (L : List Blk) (K : IV → List Blk → Prop) : Prop :=
  match o with
  | .mov x => K (e x) L
  | .pick c a b => match e c with
    | .bool t => K (if t then e a else e b) L
    | _ => False
  | .alloc zero => K (.ptr L.length 0 0) (L ++ [.cells zero.length [zero]])
  | .box x => K (.ptr L.length 0 0) (L ++ [.cells (cellsOf (e x)).length [cellsOf (e x)]])
  | .build zero parts => match xfill zero (parts.map fun p => (p.1, p.2.1, e p.2.2)) with
    | some cs => K (.agg cs) L
    | none => False
  | .bslice sz zero len parts => zero.length = sz ∧ match xfillRows sz (List.replicate len zero) (parts.map fun p => (p.1, e p.2)) with
    | some rows => K (.sl L.length 0 len len) (L ++ [.cells sz rows])
    | none => False
  | .load1 a => match rowsAt E.gl L (e a) with
    | some (rows, r, o) => r < rows.length ∧ o < (rows.getD r []).length ∧ K ((rows.getD r []).getD o .und) L
    | none => False
  | .loadN n a => match rowsAt E.gl L (e a) with
    | some (rows, r, o) => r < rows.length ∧ o + n ≤ (rows.getD r []).length ∧ K (.agg (((rows.getD r []).drop o).take n)) L
    | none => False
  | .store n a x => match e a with
    | .ptr s r o => match L[s]? with
      | some (.cells sz rows) => r < rows.length ∧ o + n ≤ (rows.getD r []).length ∧ (cellsOf (e x)).length = n ∧ (cellsOf (e x)).all isCell = true ∧
        K .und (L.set s (.cells sz (rows.set r (splice (rows.getD r []) o (cellsOf (e x))))))
      | _ => False
    | _ => False
  | .nilck x => match e x with
    | .ptr s r o => K (.ptr s r o) L
    | .iptr rows r o => K (.iptr rows r o) L
    | .fn (.func f) a b => K (.fn (.func f) a b) L
    | .raw (.pointer (some ⟨n, o, none⟩)) => K (.raw (.pointer (some ⟨n, o, none⟩))) L
    | _ => False
  | .bin op x y => xbin op (e x) (e y) fun v => K v L
  | .eqB neg x y => match e x, e y with
    | .bool a, .bool b => K (.bool (if neg then !decide (a = b) else decide (a = b))) L
    | _, _ => False
  | .un op x => xun op (e x) fun v => K v L
  | .cvInt k x => match e x with
    | .int _ n => K (.int k (k.wrap n)) L
    | _ => False
  | .cvIntStr x => match e x with
    | .int _ n => K (.str (Utf8.encode n).data.toList) L
    | _ => False
  | .cvStr x => match e x with
    | .str s => K (.str s) L
    | _ => False
  | .fldA off x => match e x with
    | .ptr s r o => K (.ptr s r (o + off)) L
    | .iptr rows r o => K (.iptr rows r (o + off)) L
    | .raw (.pointer (some ⟨n, o, none⟩)) => K (.raw (.pointer (some ⟨n, o + off, none⟩))) L
    | _ => False
  | .fld off n agg x => match e x with
    | .agg cs => off + n ≤ cs.length ∧ if agg then K (.agg ((cs.drop off).take n)) L else off < cs.length ∧ K (cs.getD off .und) L
    | _ => False
  | .idxS m x i => match e x, e i with
    | .isl rows, .int _ n => Rows m rows ∧ 0 ≤ n ∧ n < rows.length ∧ K (.iptr rows n.toNat 0) L
    | .sl s off len _, .int _ n => szOf L s = some m ∧ 0 ≤ n ∧ n < len ∧ K (.ptr s (off + n.toNat) 0) L
    | _, _ => False
  | .idxA m sz x i => match e x, e i with
    | .ptr s r o, .int _ n => 0 ≤ n ∧ n < m ∧ K (.ptr s r (o + n.toNat * sz)) L
    | .iptr rows r o, .int _ n => 0 ≤ n ∧ n < m ∧ K (.iptr rows r (o + n.toNat * sz)) L
    | .raw (.pointer (some ⟨b, o, none⟩)), .int _ n => 0 ≤ n ∧ n < m ∧ K (.raw (.pointer (some ⟨b, o + n.toNat * sz, none⟩))) L
    | _, _ => False
  | .idx x i => match e x, e i with
    | .str s, .int _ n => 0 ≤ n ∧ n < s.length ∧ K (.int .u8 (s.getD n.toNat 0).toNat) L
    | _, _ => False
  | .slice m x lo hi => match e x with
    | .isl rows => Rows m rows ∧ bnd (lo.map e) 0 fun l => bnd (hi.map e) rows.length fun h => l ≤ h ∧ h ≤ rows.length ∧ K (.isl ((rows.take h).drop l)) L
    | .sl s off len cap => szOf L s = some m ∧ bnd (lo.map e) 0 fun l => bnd (hi.map e) len fun h => l ≤ h ∧ h ≤ cap ∧ K (.sl s (off + l) (h - l) (cap - l)) L
    | .esl => bnd (lo.map e) 0 fun l => bnd (hi.map e) 0 fun h => l = 0 ∧ h = 0 ∧ K .esl L
    | .nsl => bnd (lo.map e) 0 fun l => bnd (hi.map e) 0 fun h => l = 0 ∧ h = 0 ∧ K .nsl L
    | _ => False
  | .sliceS x lo hi => match e x with
    | .str s => bnd (lo.map e) 0 fun l => bnd (hi.map e) s.length fun h => l ≤ h ∧ h ≤ s.length ∧ K (.str ((s.take h).drop l)) L
    | _ => False
  | .slice0 x => match e x with
    | .isl _ | .sl .. | .esl | .nsl => K .esl L
    | _ => False
  | .mkfn f a b => K (.fn f (a.map e) (b.map e)) L
  | .mkslice zero bytes len cap => match e len, e cap with
    | .int _ n, .int _ m => 0 ≤ n ∧ n ≤ m ∧ m ≤ 9223372036854775807 ∧ m * bytes ≤ 281474976710656 ∧
      K (.sl L.length 0 n.toNat m.toNat) (L ++ [.cells zero.length (List.replicate m.toNat zero)])
    | _, _ => False
  | .len x => match lenOf (e x) with
    | some n => K (.int .i64 n) L
    | none => False
  | .lenS x => match e x with
    | .str s => K (.int .i64 s.length) L
    | _ => False
  | .append sz bytes s x => xappend sz bytes (e s) (e x) L K
  | .max2 x y => match e x, e y with
    | .int k a, .int _ b => K (.int k (if b > a then b else a)) L
    | _, _ => False
  | .min2 x y => match e x, e y with
    | .int k a, .int _ b => K (.int k (if b < a then b else a)) L
    | _, _ => False
  | .call f args => match e f with
    | .fn (.func n) a b => xcall E n (a ++ args.map e ++ b) L K
    | .yld s => E.yl s (args.map e) L K
    | _ => False
  | .pcall f args => match e f with
    | .fn (.func n) a b => ∃ args' r, mapO (conv L fuel renNone) (a ++ args.map e ++ b) = some args' ∧ XPure E n args' r ∧ (∀ m, conv [] fuel (renShift m) r = some r) ∧ K r L
    | _ => False
  | .isNil k neg x => xnil k (e x) fun b => K (.bool (if neg then !b else b)) L
  | .rng x => match e x with
    | .str s => K (.ptr L.length 0 0) (L ++ [.siter s 0])
    | _ => False
  | .nxt t => match e t with
    | .ptr s 0 0 => match L[s]? with
      | some (.siter str pos) => if pos < str.length then K (.tup [.bool true, .int .i64 pos, .int .i32 (Utf8.decode ⟨str.toArray⟩ pos).1]) (L.set s (.siter str (pos + (Utf8.decode ⟨str.toArray⟩ pos).2)))
          else K (.tup [.bool false]) L
      | _ => False
    | _ => False
  | .ext t i => match e t with
    | .tup cs => i < cs.length ∧ K (cs.getD i .und) L
    | _ => False

def xops (E : Env) : List XOper → Rho → List Blk → (Rho → List Blk → Prop) → Prop
  | [], ρ, L, K => K ρ L
  | o :: r, ρ, L, K => match o.guard with
    | none => xop E o.op (Opd.ev ρ) L fun v L' => xops E r (put ρ o.dst v) L' K
    | some (t, want) => match ρ t with
      | .bool b => (b = want → xop E o.op (Opd.ev ρ) L fun v L' => xops E r (put ρ o.dst v) L' K) ∧ (b ≠ want → xops E r (put ρ o.dst .und) L K)
      | .und => xops E r (put ρ o.dst .und) L K
      | _ => False

abbrev Run := Rho → List Blk → (XE → Rho → List Blk → Prop) → Prop

def xgoto (g : Nat → Option Run) : Nat → XE → Rho → List Blk → (XE → Rho → List Blk → Prop) → Prop
  | n, .goto l, ρ, L, K => match g l with
    | none => K (.goto l) ρ L
    | some f => match n with
      | 0 => False
      | n + 1 => f ρ L fun e ρ' L' => xgoto g n e ρ' L' K
  | _, e, ρ, L, K => K e ρ L

def xloop (f : Rho → List Blk → (XE → Rho → List Blk → Prop) → Prop) : Nat → Rho → List Blk → (XE → Rho → List Blk → Prop) → Prop
  | 0, _, _, _ => False
  | n + 1, ρ, L, K => f ρ L fun e ρ' L' => match e with
    | .normal => xloop f n ρ' L' K
    | e => K e ρ' L'

def XE.inBlock (id : Nat) (K : XE → Rho → List Blk → Prop) : XE → Rho → List Blk → Prop
  | .exit i, ρ, L => if i = id then K .normal ρ L else K (.exit i) ρ L
  | e, ρ, L => K e ρ L

mutual
def xrun (E : Env) : XC → Rho → List Blk → (XE → Rho → List Blk → Prop) → Prop
  | .skip, ρ, L, K => K .normal ρ L
  | .ops l, ρ, L, K => xops E l ρ L fun ρ' L' => K .normal ρ' L'
  | .draw l, ρ, L, K => l.all (fun o => o.op.quiet) = true ∧ xops E l ρ L fun ρ' L' => K .normal ρ' L'
  | .seq a b, ρ, L, K => xrun E a ρ L fun e ρ' L' => match e with
    | .normal => xrun E b ρ' L' K
    | e => K e ρ' L'
  | .cond c t e, ρ, L, K => match c.ev ρ with
    | .bool b => (b = true → xrun E t ρ L K) ∧ (b = false → xrun E e ρ L K)
    | _ => False
  | .block id b, ρ, L, K => xrun E b ρ L (XE.inBlock id K)
  | .loop b, ρ, L, K => ∃ n, xloop (xrun E b) n ρ L K
  | .exit id, ρ, L, K => K (.exit id) ρ L
  | .scope b ls, ρ, L, K => ∃ n, xrun E b ρ L fun e ρ' L' => xgoto (xlabs E ls) n e ρ' L' K
  | .label _, ρ, L, K => K .normal ρ L
  | .goto l, ρ, L, K => K (.goto l) ρ L
  | .ret, ρ, L, K => K .ret ρ L
  | .drawE l, ρ, L, K => xops E l ρ L fun ρ' L' => K .normal ρ' L'
  | .bad, _, _, _ => False
  | .rngF g N ps asg body, ρ, L, K => match g.ev ρ with
    | .fn (.func gf) [] caps => ∀ r0 : Loop, r0.state = .ready → r0.pending = none → LoopCode E.P N ps asg body r0 →
        XT E gf (.yld L.length :: caps) (L ++ [.lp r0 ((List.range N).map ρ)]) fun _ L' => ∃ r1, L'[L.length]? = some (.lp r1 ((List.range N).map ρ)) ∧ r1.state ≠ .busy ∧
          match r1.pending with
          | none => K .normal ρ (L'.set L.length .dead)
          | some .ret => K .ret ρ (L'.set L.length .dead)
          | some (.exit i) => K (.exit i) ρ (L'.set L.length .dead)
          | some (.goto l) => K (.goto l) ρ (L'.set L.length .dead)
          | _ => False
    | _ => False
def xlabs (E : Env) : XLabs → Nat → Option Run
  | .nil, _ => none
  | .cons l c r, n => if n = l then some (xrun E c) else xlabs E r n
end

end Go.X
