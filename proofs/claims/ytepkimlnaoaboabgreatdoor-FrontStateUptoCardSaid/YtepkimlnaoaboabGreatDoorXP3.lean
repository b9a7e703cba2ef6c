/- Parts of the proof: Xfplain, XComp, XRun, XCtx, XConv, XCall. -/
import Derived.Test.YtepkimlnaoaboabGreatDoorXP2
import Derived.Lib.MapLaws
import Derived.Lib.Itoa
import Derived.Still
import Derived.Laws.Build
import Derived.Laws.StructEq
set_option linter.unusedVariables false
set_option linter.unusedSimpArgs false
set_option linter.unusedSectionVars false
section
/- How package front reads a body, as plain functions over bytes (no program in sight). -/
namespace Go.X.Fr
open Go
abbrev Bytes := List UInt8
/-- A place and a reason. -/
abbrev Bad := Nat × Int
def form : Int := 2
def isAt (s : Bytes) (i : Nat) (b : UInt8) : Bool := decide (i < s.length) && decide (s.getD i 0 = b)
def must (s : Bytes) (i : Nat) (b : UInt8) : Except Bad Nat := if isAt s i b then .ok (i + 1) else .error (i, form)
def blankB (b : UInt8) : Bool := decide (b = 32) || decide (b = 9) || decide (b = 10) || decide (b = 13)
def blanksGo (s : Bytes) : Nat → Nat → Nat
  | 0, i => i
  | f + 1, i => if decide (i < s.length) && blankB (s.getD i 0) then blanksGo s f (i + 1) else i
def blanks (s : Bytes) (i : Nat) : Nat := blanksGo s (s.length - i) i
def hexD : Bytes := [48, 49, 50, 51, 52, 53, 54, 55, 56, 57, 97, 98, 99, 100, 101, 102]
def escL : Bytes := [34, 92, 47, 98, 102, 110, 114, 116]
def escR : Bytes := [34, 92, 47, 8, 12, 10, 13, 9]
/-- The place of a byte; none: nowhere. -/
def place (l : Bytes) (b : UInt8) : Option Nat := l.findIdx? fun c => decide (c = b)
def hex4 (s : Bytes) (o : Nat) : Nat → Nat → Nat → Except Bad (Nat × Nat)
  | 0, i, c => .ok (c, i)
  | f + 1, i, c =>
    if i = s.length then .error (i, form)
    else match place hexD (s.getD i 0 ||| 32) with
      | none => .error (o, form)
      | some k => if s.getD i 0 < 48 then .error (o, form) else hex4 s o f (i + 1) (c * 16 + k)
/-- An escape, from its backslash on: the character, the place behind. -/
def escape (s : Bytes) (o : Nat) : Except Bad (Nat × Nat) :=
  if o + 1 = s.length then .error (o + 1, form)
  else match place escL (s.getD (o + 1) 0) with
    | some k => .ok ((escR.getD k 0).toNat, o + 2)
    | none => if s.getD (o + 1) 0 = 117 then
        (match hex4 s o 4 (o + 2) 0 with
        | .error e => .error e
        | .ok (c, i) => if 55296 ≤ c ∧ c ≤ 57343 then .error (o, form) else .ok (c, i))
      else .error (o, form)
def textGo (s : Bytes) : Nat → Nat → Bytes → Except Bad (Bytes × Nat)
  | 0, i, _ => .error (i, form)
  | f + 1, i, out =>
    if isAt s i 34 then .ok (out, i + 1)
    else if i = s.length then .error (i, form)
    else if s.getD i 0 < 32 then .error (i, form)
    else if isAt s i 92 then (match escape s i with
      | .error e => .error e
      | .ok (c, j) => textGo s f j (out ++ Lib.encodeRune (c : Int)))
    else if (Lib.decodeL (s.drop i)).1 = 65533 ∧ (Lib.decodeL (s.drop i)).2 = 1 then .error (i, form)
    else textGo s f (i + (Lib.decodeL (s.drop i)).2) (out ++ Lib.encodeRune ((Lib.decodeL (s.drop i)).1 : Int))
def text (s : Bytes) (i : Nat) : Except Bad (Bytes × Nat) :=
  match must s i 34 with
  | .error e => .error e
  | .ok i => textGo s (s.length + 1 - i) i []
def digB (b : UInt8) : Bool := decide (48 ≤ b.toNat) && decide (b.toNat ≤ 57)
def numGo (s : Bytes) (o fst : Nat) : Nat → Nat → Nat
  | 0, i => i
  | f + 1, i =>
    if decide (i < s.length) && digB (s.getD i 0) && decide (i < fst + 15) then
      (if decide (s.getD fst 0 = 48) && (decide (fst < i) || decide (o < fst)) then i else numGo s o fst f (i + 1))
    else i
def number (s : Bytes) (o : Nat) : Except Bad (Bytes × Nat) :=
  let fst := if isAt s o 45 then o + 1 else o
  let i := numGo s o fst (s.length - fst) fst
  if i = fst then .error (i, form) else .ok ((s.take i).drop o, i)
structure Pair where
  key : Bytes
  val : Bytes
  deriving DecidableEq, Inhabited
def Pair.row (p : Pair) : List Bytes := [p.key, p.val]
def twice : Int := 16
def many : Int := 10
/-- One field behind those of l. -/
def field (s : Bytes) (l : List Pair) (i : Nat) : Except Bad (Pair × Nat) :=
  match text s i with
  | .error e => .error e
  | .ok (k, j) =>
    if l.any fun p => decide (p.key = k) then .error (i, twice)
    else if l.length = 16 then .error (i, many)
    else match must s (blanks s j) 58 with
      | .error e => .error e
      | .ok j =>
        if isAt s (blanks s j) 34 then (match text s (blanks s j) with
          | .error e => .error e
          | .ok (v, m) => .ok (⟨k, 34 :: v⟩, m))
        else (match number s (blanks s j) with
          | .error e => .error e
          | .ok (v, m) => .ok (⟨k, v⟩, m))
def fields (s : Bytes) : Nat → List Pair → Nat → Except Bad (List Pair × Nat)
  | 0, l, i => .ok (l, i)
  | f + 1, l, i => match field s l i with
    | .error e => .error e
    | .ok (p, j) => if isAt s (blanks s j) 44 then fields s f (l ++ [p]) (blanks s (blanks s j + 1)) else .ok (l ++ [p], blanks s j)
/-- A whole body. -/
def body (s : Bytes) : Except Bad (List Pair) :=
  match must s (blanks s 0) 123 with
  | .error e => .error e
  | .ok i =>
    match (if isAt s (blanks s i) 125 then .ok ([], blanks s i) else fields s 18 [] (blanks s i) : Except Bad (List Pair × Nat)) with
    | .error e => .error e
    | .ok (l, i) => match must s i 125 with
      | .error e => .error e
      | .ok i => if blanks s i < s.length then .error (blanks s i, form) else .ok l
end Go.X.Fr
end
section
/- The calculus X, part 3: from the model's code to the short form. -/
namespace Go.X
open Go

def ofVal : Value → Option IV
  | .bool b => some (.bool b)
  | .int k n => some (.int k n)
  | .string s => some (.str s.data.toList)
  | .slice none 0 0 => some .nsl
  | .tuple vs => if vs.size = 0 then some .und else none
  | .agg _ => none
  | v => some (.raw v)

def opd : Operand → Option Opd
  | .tmp t => some (.t t)
  | .const v => (ofVal v).map .c
  | .global g => some (.g g)
  | .func f => some (.f f)

def zeroCells (P : Program) (t : TypeId) : Option (List IV) := (P.info? t).bind fun i => i.zero.bind fun z => mapO ofVal z.cells.toList

def isAggT (P : Program) (t : TypeId) : Option Bool :=
  match P.underlying t with
  | some (.struct _) => some true
  | some (.array _ _) => some true
  | some _ => some false
  | none => none

def sizeT (P : Program) (t : TypeId) : Option Nat := (P.info? t).map (·.size)
def bytesT (P : Program) (t : TypeId) : Option Nat := (P.info? t).map (·.bytes)

def opdO : Option Operand → Option (Option Opd)
  | none => some none
  | some x => (opd x).map some

def isU8 (P : Program) (t : TypeId) : Bool := match P.underlying t with
  | some (.int .u8) => true
  | _ => false
def isI32 (P : Program) (t : TypeId) : Bool := match P.underlying t with
  | some (.int .i32) => true
  | _ => false
/-- Plain fields, one cell each: their kinds. -/
def plainK (P : Program) : List Field → Nat → Option (List Nat)
  | [], _ => some []
  | f :: fs, k => if f.name != "_" && f.offset == k then
      (match P.underlying f.type with
      | some (.int _) => (plainK P fs (k + 1)).map (0 :: ·)
      | some .string => (plainK P fs (k + 1)).map (1 :: ·)
      | some .bool => (plainK P fs (k + 1)).map (2 :: ·)
      | _ => none) else none
def plainS (P : Program) (t : TypeId) : Option (List Nat) := if P.stoodInHeld t = false ∧ P.eqGuardType P.depth t = false then plainK P (P.fieldsOf t).toList 0 else none
/-- strings.Builder: its blocks bear their type. -/
def isBuilderT (P : Program) (t : TypeId) : Bool := match P.underlying t with
  | some (.struct fs) => fs.toList.map (·.name) == ["addr", "buf"]
  | _ => false

def rawNil : IV → IV
  | .nsl => .raw (.slice none 0 0)
  | x => x
def compCall (P : Program) (c : Call) : Option XO :=
  match c.callee with
  | .value f => (opd f).bind fun f' => (mapO opd c.args.toList).map fun as => .call f' as
  | .builtin .len => match c.args.toList, (c.argTypes[0]?).bind P.underlying with
    | [x], some .string => (opd x).map .lenS
    | [x], some (.slice _) => (opd x).map .len
    | _, _ => none
  | .builtin .append => match c.args.toList, (c.argTypes[0]?).bind P.underlying, (c.argTypes[1]?).bind P.underlying with
    | [s, x], some (.slice e), some (.slice _) => (opd s).bind fun s' => (opd x).bind fun x' => (sizeT P e).bind fun n => (bytesT P e).bind fun m => (zeroCells P e).bind fun z => if 0 < m ∧ 0 < n ∧ z.length = n then (if isU8 P e then (if n = 1 then some (.ex (.appT e m) [s', x']) else none) else some (.append n m s' x')) else none
    | [s, x], some (.slice e), some .string => (opd s).bind fun s' => (opd x).bind fun x' => (sizeT P e).bind fun n => (bytesT P e).bind fun m => (zeroCells P e).bind fun z => if 0 < m ∧ 0 < n ∧ z.length = n then (if isU8 P e then (if n = 1 then some (.ex (.appT e m) [s', x']) else none) else some (.append n m s' x')) else none
    | _, _, _ => none
  | .builtin .unsafeSliceData => match c.args.toList with
    | [x] => (opd x).map fun x' => .ex .sdata [x']
    | _ => none
  | .builtin .unsafeString => match c.args.toList, c.argTypes.toList with
    | [x, y], [pt, _] => match P.underlying pt with
      | some (.pointer e) => (opd x).bind fun x' => (opd y).bind fun y' => if P.cellsOf e = 1 then some (.ex (.ustr e) [x', y']) else none
      | _ => none
    | _, _ => none
  | .builtin .real => match c.args.toList with
    | [x] => (opd x).map fun x' => .ex (.ru .re) [x']
    | _ => none
  | .builtin .imag => match c.args.toList with
    | [x] => (opd x).map fun x' => .ex (.ru .im) [x']
    | _ => none
  | .builtin .max => match c.args.toList with
    | [x, y] => (opd x).bind fun x' => (opd y).map fun y' => .max2 x' y'
    | _ => none
  | .builtin .min => match c.args.toList with
    | [x, y] => (opd x).bind fun x' => (opd y).map fun y' => .min2 x' y'
    | _ => none
  | _ => none

def eqType (P : Program) (op : BinOp) (t : TypeId) : Bool :=
  match op with
  | .eql | .neq => match P.underlying t with
    | some (.int _) | some .string => true
    | _ => false
  | _ => true

/-- 'nil' of its type. -/
def isNilC (P : Program) (t : TypeId) (y : Operand) : Option Nat :=
  match P.underlying t, y with
  | some (.slice _), .const (.slice none 0 0) => some 0
  | some (.interface _), .const .nilIface => some 1
  | some (.func ..), .const .nilFunc => some 2
  | _, _ => none

def isNought : Option Operand → Bool
  | some (.const (.int _ 0)) => true
  | _ => false

def compSlice (P : Program) (t : TypeId) (x : Operand) (lo hi mx : Option Operand) : Option XO :=
  match mx with
  | none => match P.underlying t with
    | some .string => (opd x).bind fun x' => (opdO lo).bind fun l => (opdO hi).map fun h => .sliceS x' l h
    | some (.slice e) => (sizeT P e).bind fun n => if n = 0 then none else (opd x).bind fun x' => (opdO lo).bind fun l => (opdO hi).map fun h => .slice n x' l h
    | _ => none
  | some m => match P.underlying t with
    | some (.slice e) => (sizeT P e).bind fun _ => if isNought (some m) && isNought hi && lo.isNone then (opd x).map .slice0 else none
    | _ => none

def compOp (P : Program) : Op → Option XO
  | .move x => (opd x).map .mov
  | .assign x => (opd x).map .mov
  | .pick c a b => (opd c).bind fun c' => (opd a).bind fun a' => (opd b).map fun b' => .pick c' a' b'
  | .alloc t => (zeroCells P t).map fun z => if isBuilderT P t then .ex (.allocT t (z.map rawNil)) [] else .alloc z
  | .box _ x => (opd x).map .box
  | .build t ps => match P.underlying t with
    | some (.struct fs) => (zeroCells P t).bind fun z => (mapO (fun (p : Nat × Operand) => (fs[p.1]?).bind fun f => (sizeT P f.type).bind fun n => (opd p.2).map fun x => (f.offset, n, x)) ps.toList).bind fun qs =>
        if fs.toList.all (fun f => (P.info? f.type).isSome) then some (.build z qs) else none
    | some (.array _ e) => (zeroCells P t).bind fun z => (sizeT P e).bind fun n => (mapO (fun (p : Nat × Operand) => (opd p.2).map fun x => (p.1 * n, n, x)) ps.toList).map fun qs => .build z qs
    | _ => none
  | .buildSlice t len ps => match P.underlying t with
    | some (.slice e) => (sizeT P e).bind fun n => (zeroCells P e).bind fun z => (mapO (fun (p : Nat × Operand) => (opd p.2).map fun x => (p.1, x)) ps.toList).bind fun qs =>
        if len * n ≤ 2 ^ 24 ∧ 0 < n ∧ z.length = n then some (.bslice n z len qs) else none
    | _ => none
  | .load t a => (isAggT P t).bind fun g => (sizeT P t).bind fun n => (opd a).map fun a' => if g then .loadN n a' else .load1 a'
  | .store t a x => (isAggT P t).bind fun _ => (sizeT P t).bind fun n => (opd a).bind fun a' => (opd x).map fun x' => .store n a' x'
  | .nilCheck x => (opd x).map .nilck
  | .binOp op t x y _ => if eqType P op t then (opd x).bind fun x' => (opd y).map fun y' => .bin op x' y' else
    match op, P.underlying t with
    | .eql, some .bool => (opd x).bind fun x' => (opd y).map fun y' => .eqB false x' y'
    | .neq, some .bool => (opd x).bind fun x' => (opd y).map fun y' => .eqB true x' y'
    | .eql, some (.pointer e) => (sizeT P e).bind fun n => if n = 0 then none else (opd x).bind fun x' => (opd y).map fun y' => .ex (.eqP false) [x', y']
    | .neq, some (.pointer e) => (sizeT P e).bind fun n => if n = 0 then none else (opd x).bind fun x' => (opd y).map fun y' => .ex (.eqP true) [x', y']
    | .eql, some (.struct _) => (plainS P t).bind fun ks => (opd x).bind fun x' => (opd y).map fun y' => .ex (.eqA false ks) [x', y']
    | .neq, some (.struct _) => (plainS P t).bind fun ks => (opd x).bind fun x' => (opd y).map fun y' => .ex (.eqA true ks) [x', y']
    | .eql, _ => (isNilC P t y).bind fun k => (opd x).map (.isNil k false)
    | .neq, _ => (isNilC P t y).bind fun k => (opd x).map (.isNil k true)
    | _, _ => none
  | .unOp op _ x => (opd x).map fun x' => .un op x'
  | .convert s d x => match P.underlying s, P.underlying d with
    | some (.int _), some (.int k) => (opd x).map (.cvInt k)
    | some (.int _), some .string => (opd x).map .cvIntStr
    | some (.float _), some (.int k) => (opd x).map fun x' => .ex (.ru (.toInt k)) [x']
    | some .string, some .string => (opd x).map .cvStr
    | some (.slice e), some .string => if isU8 P e then (opd x).map fun x' => .ex .bStr [x'] else if isI32 P e then (opd x).map fun x' => .ex .rStr [x'] else none
    | some .string, some (.slice e) => if isU8 P e then (opd x).map fun x' => .ex (.strB e) [x'] else none
    | some (.slice e), some (.slice _) => if s = d ∧ isU8 P e = true then (opd x).map fun x' => .ex .slId [x'] else none
    | some (.pointer t), some .unsafePointer => (sizeT P t).bind fun n => if n = 0 then none else (opd x).map fun x' => .ex (.toU t 1) [x']
    | some .unsafePointer, some (.pointer u) => (sizeT P u).bind fun n => if n = 0 ∨ P.cellsOf u ≠ n then none else (opd x).map fun x' => .ex (.ofU u n) [x']
    | _, _ => none
  | .fieldAddr s x f => match P.underlying s with
    | some (.struct fs) => (fs[f]?).bind fun g => (sizeT P g.type).bind fun n => if n = 0 then none else (opd x).map (.fldA g.offset)
    | _ => none
  | .field s x f => match P.underlying s with
    | some (.struct fs) => (fs[f]?).bind fun g => (sizeT P g.type).bind fun n => (isAggT P g.type).bind fun b => (opd x).map fun x' => .fld g.offset n b x'
    | _ => none
  | .indexAddr t x i => match P.underlying t with
    | some (.slice e) => (sizeT P e).bind fun n => if n = 0 then none else (opd x).bind fun x' => (opd i).map fun i' => .idxS n x' i'
    | some (.array m e) => (sizeT P e).bind fun n => (opd x).bind fun x' => (opd i).map fun i' => .idxA m n x' i'
    | _ => none
  | .index t x i => match P.underlying t with
    | some .string => (opd x).bind fun x' => (opd i).map fun i' => .idx x' i'
    | _ => none
  | .slice t x lo hi mx => compSlice P t x lo hi mx
  | .makeFunc f a b => (mapO opd a.toList).bind fun a' => (mapO opd b.toList).map fun b' => .mkfn f a' b'
  | .makeSlice t l c => match P.underlying t with
    | some (.slice e) => (sizeT P e).bind fun n => (zeroCells P e).bind fun z => (bytesT P e).bind fun m => (opd l).bind fun l' => (opd c).bind fun c' =>
        if 0 < n ∧ z.length = n then some (.mkslice z m l' c') else none
    | _ => none
  | .extract t i => (opd t).map fun t' => .ext t' i
  | .makeInterface t x => if P.concrete t then (opd x).map fun x' => .ex (.mkif t) [x'] else none
  | .panic x => (opd x).map fun x' => .ex .panic [x']
  | .typeAssert x _ t ok => match P.underlying t with
    | some (.interface _) => none
    | some _ => if ok then (opd x).map fun x' => .ex (.tas t) [x'] else none
    | none => none
  | .call c => compCall P c
  | .range t x => match P.underlying t with
    | some .string => (opd x).map .rng
    | _ => none
  | .next t s => if s then (opd t).map .nxt else none
  | _ => none

def dstOk (N : Nat) : Option Tmp → Bool
  | none => true
  | some d => decide (d < N)

def compOper (P : Program) (N : Nat) (ops : List Oper) (o : Oper) : Option XOper :=
  (compOp P o.op).bind fun x =>
    if dstOk N o.dst then
      match o.guard with
      | none => some ⟨o.dst, x, none⟩
      | some (j, b) => ((ops[j]?).bind (·.dst)).map fun t => ⟨o.dst, x, some (t, b)⟩
    else none

def Opd.us : Opd → List Nat
  | .t n => [n]
  | _ => []
def usL (l : List Opd) : List Nat := l.flatMap Opd.us
def usO : Option Opd → List Nat
  | none => []
  | some x => x.us
/-- The slots that an operation reads. -/
def XO.us : XO → List Nat
  | .mov x | .box x | .load1 x | .loadN _ x | .nilck x | .un _ x | .cvInt _ x | .cvIntStr x | .cvStr x | .fldA _ x | .fld _ _ _ x | .slice0 x | .len x | .lenS x | .isNil _ _ x | .rng x | .nxt x | .ext x _ => x.us
  | .pick c x y => c.us ++ x.us ++ y.us
  | .alloc _ => []
  | .build _ ps => ps.flatMap fun p => p.2.2.us
  | .bslice _ _ _ ps => ps.flatMap fun p => p.2.us
  | .store _ x y | .bin _ x y | .eqB _ x y | .idxS _ x y | .idxA _ _ x y | .idx x y | .mkslice _ _ x y | .append _ _ x y | .max2 x y | .min2 x y => x.us ++ y.us
  | .slice _ x lo hi | .sliceS x lo hi => x.us ++ usO lo ++ usO hi
  | .mkfn _ a b => usL a ++ usL b
  | .call f as | .pcall f as => f.us ++ usL as
  | .ex _ xs => usL xs
def XX.kd : XX → Nat
  | .mkif _ | .eqA .. | .eqP _ | .sdata | .ru _ => 0
  | .bStr => 1
  | .ustr _ => 3
  | _ => 4
/-- 0: slots alone · 1: reads our blocks · 2: lays one · 3: writes one · 4: all else. -/
def XO.kd : XO → Nat
  | .mov _ | .pick .. | .build .. | .bin .. | .eqB .. | .un .. | .cvInt .. | .cvIntStr _ | .cvStr _ | .fldA .. | .fld .. | .idxA .. | .idx ..
  | .sliceS .. | .slice0 .. | .mkfn .. | .nilck _ | .len _ | .lenS _ | .max2 .. | .min2 .. | .ext .. => 0
  | .load1 _ | .loadN .. | .idxS .. | .slice .. | .pcall .. => 1
  | .alloc _ | .box _ => 2
  | .store .. => 3
  | .ex k _ => k.kd
  | .isNil k _ _ => if k = 1 then 0 else 4
  | _ => 4
def XOper.rds (o : XOper) : List Nat := o.op.us ++ match o.guard with | none => [] | some (t, _) => [t]
def ninO (d : Option Nat) (l : List Nat) : Bool := match d with | none => true | some d => !l.contains d
def neO (d d' : Option Nat) : Bool := match d, d' with | some d, some d' => !(d == d') | _, _ => true
/-- An operation of kind 4 may change places with one that comes ahead of it and touches slots alone. -/
def kdOk (a b : Nat) : Bool := a == 0 || (a < 4 && b < 4 && (b == 0 || (a == 1 && b < 3)))
/-- It makes no difference which of the two is first ('o' is the first in the text). -/
def xap (o p : XOper) : Bool := ninO o.dst p.rds && ninO p.dst o.rds && neO o.dst p.dst && kdOk o.op.kd p.op.kd

/-- Those that wait for number i. -/
def xwaits (ops : Array Oper) (i : Nat) : List Nat :=
  (List.range ops.size).foldl (fun acc j => if ((ops[j]?).map fun o => o.after.any fun e => Region.binds .any e && acc.contains e.on).getD false then j :: acc else acc) [i]
def xfree (ops : Array Oper) (xs : List XOper) (listed : Array Bool) (k : Nat) : Bool :=
  let W := xwaits ops k
  W.all (fun j => !(listed.getD j true)) && (List.range ops.size).all fun j => j == k || listed.getD j true || W.contains j || (match xs[k]?, xs[j]? with | some o, some p => xap o p | _, _ => false)
def xlexF (ops : Array Oper) (xs : List XOper) : Nat → Nat → Array Bool → Bool
  | 0, _, listed => (Region.ready .any ops listed).isEmpty
  | f + 1, k, listed => (Region.ready .any ops listed).contains k && (xfree ops xs listed k && xlexF ops xs f (k + 1) (listed.setIfInBounds k true))
def xlexB (ops : Array Oper) (xs : List XOper) : Bool := xs.all (fun o => o.op.kd < 4) && xlexF ops xs ops.size 0 (Array.replicate ops.size false)
/-- As 'xlexB'; operations of kind 4 where all that is left hangs on them. -/
def xlexC (ops : Array Oper) (xs : List XOper) : Bool := xlexF ops xs ops.size 0 (Array.replicate ops.size false)
/-- A call of a function that is handed a pointer first (a method that may write). -/
def ptrCall (P : Program) : XO → Bool
  | .call (.f n) _ => match P.funcs[n]? with
    | some fn => match fn.params[0]? with
      | some t => match P.underlying t with
        | some (.pointer _) => true
        | _ => false
      | none => false
    | none => false
  | _ => false
def XO.toP : XO → XO
  | .call f as => .pcall f as
  | o => o
def XOper.toP (o : XOper) : XOper := { o with op := o.op.toP }
/-- An operation that reads alone. -/
def XO.quiet : XO → Bool
  | .mov _ | .pick .. | .build .. | .load1 _ | .loadN .. | .bin .. | .eqB .. | .un .. | .cvInt .. | .cvIntStr _ | .cvStr _ | .fldA .. | .fld .. | .idxS .. | .idxA .. | .idx ..
  | .slice .. | .sliceS .. | .slice0 .. | .mkfn .. | .nilck _ | .len _ | .lenS _ | .max2 .. | .min2 .. | .ext .. => true
  | _ => false
/-! ### Regions with several effects -/
def XO.rk : XO → Nat
  | .bslice .. | .mkslice .. => 2
  | .append .. => 3
  | .ex (.ustr _) _ => 4
  | o => o.kd
/-- One of the two may write what the other reads or writes. -/
def racy (o p : XOper) : Bool := !(o.op.rk == 0) && !(p.op.rk == 0) && !(o.op.rk == 1 && p.op.rk == 1)
/-- The pairs that may come up in another order, and touch memory. -/
def racePairs (ops : Array Oper) (xs : List XOper) : List (Nat × Nat) :=
  (List.range ops.size).flatMap fun i => let W := xwaits ops i
    (List.range ops.size).filterMap fun j => if decide (i < j) && !W.contains j && (match xs[i]?, xs[j]? with | some o, some p => racy o p | _, _ => true) then some (i, j) else none
def mkRace (ops : Array Oper) (xs : List XOper) : List (XOper × List Nat × Bool) :=
  let ps := racePairs ops xs
  xs.zipIdx.map fun p => (p.1, ps.filterMap (fun q => if q.2 == p.2 then some q.1 else none), ps.any fun q => q.1 == p.2)
def xresB (ops : Array Oper) (xs : List (XOper × List Nat × Bool)) : Bool :=
  xs.all (fun x => decide (x.1.op.rk < 4)) && (xs.length == ops.size) &&
  ((List.range ops.size).all (fun j => match ops[j]? with | some o => o.after.all fun e => !(Region.binds .any e) || decide (e.on < j) | none => true)) &&
  (List.range ops.size).all fun i => let W := xwaits ops i
    (List.range ops.size).all fun j => !decide (i < j) || W.contains j || (match xs[i]?, xs[j]? with
      | some (o, _, keep), some (p, chk, _) => ninO o.dst p.rds && ninO p.dst o.rds && neO o.dst p.dst && (!racy o p || (keep && chk.contains i))
      | _, _ => false)
def compDraw (P : Program) (N : Nat) (ops : Array Oper) : XC :=
  if P.follows .mixedOrders then
    match mapO (compOper P N ops.toList) ops.toList with
    | some xs => if xs.all (fun o => o.op.quiet) && xlexB ops xs then .draw xs
      else if xs.any (fun o => ptrCall P o.op) && xlexC ops xs then .drawE xs
      else if xlexB ops (xs.map XOper.toP) then .drawE (xs.map XOper.toP)
      else if xresB ops (mkRace ops (xs.map XOper.toP)) then .drawR (mkRace ops (xs.map XOper.toP))
      else if xlexC ops xs then .drawE xs
      else if xlexC ops (xs.map XOper.toP) then .drawE (xs.map XOper.toP) else .bad
    | none => .bad
  else .bad

def labels : Code → List Nat
  | .seq a b => labels a ++ labels b
  | .label l => [l]
  | _ => []

def XC.find : XC → Nat → Option XC
  | .seq a b, l => match a.find l with
    | some r => some (.seq r b)
    | none => b.find l
  | .label l', l => if l' == l then some .skip else none
  | _, _ => none

def mkLabs (b : XC) : List Nat → XLabs
  | [] => .nil
  | l :: r => match b.find l with
    | some c => .cons l c (mkLabs b r)
    | none => mkLabs b r

def comp (P : Program) (N : Nat) : Code → Option XC
  | .skip => some .skip
  | .region _ ops false => match mapO (compOper P N ops.toList) ops.toList with
    | some xs => some (.ops xs)
    | none => some .bad
  | .region _ ops true => some (compDraw P N ops)
  | .seq a b => (comp P N a).bind fun a' => (comp P N b).map fun b' => .seq a' b'
  | .cond c t e => (opd c).bind fun c' => (comp P N t).bind fun t' => (comp P N e).map fun e' => .cond c' t' e'
  | .block id b => (comp P N b).map (.block id)
  | .loop b => (comp P N b).map .loop
  | .exit id => some (.exit id)
  | .scope b => (comp P N b).map fun b' => .scope b' (mkLabs b' (labels b))
  | .label l => some (.label l)
  | .goto l => some (.goto l)
  | .ret => some .ret
  | .rangeFunc g ps a b => match opd g, comp P N a, comp P N b with
    | some g', some a', some b' => some (.rngF g' N ps.toList a' b')
    | _, _, _ => some .bad
  | .refuse _ => some .bad

end Go.X
end
section
/- The calculus X, part 2: the code in a short form, and what is to be shown of a run of it. -/
namespace Go.X
open Go

/-- The fences: none, or that of a round. -/
def FOk (F : Fence) : Prop := F = Fence.wide ∨ ∃ l, F = Fence.wide.inRound l

/-- Behind an operation. -/
def PostG (g0 : Nat) (C : Ctx) (K : IV → List Blk → Prop) (v : Value) (w' : World) : Prop :=
  ∃ r L' φ', K r L' ∧ Wf g0 ⟨w', φ', L', C.X⟩ ∧ Sim ⟨w', φ', L', C.X⟩ ∧ Ext C ⟨w', φ', L', C.X⟩ ∧ VR ⟨w', φ', L', C.X⟩ r v

/-- What a round does: number of the loop's block, what is handed to it, the blocks. -/
abbrev YHand := Nat → List IV → List Blk → (IV → List Blk → Prop) → Prop

structure Env where
  /-- Slots below that are not written; what they hold; what has been deferred ('none': nothing but the marks of loops over functions). -/
  lo : Nat := 0
  kept : Nat → Value := fun _ => undef
  base : Option (List Deferred) := none
  /-- What is to hold where the function panics. -/
  pan : IV → List Blk → Prop
  P : Program
  g0 : Nat
  G : World → Prop
  hG : ∀ w w' : World, (∀ b, b < g0 → w'.heap[b]? = w.heap[b]?) → G w → G w'
  /-- What a package-level variable holds, as far as it is known: plain cells. -/
  gl : Nat → Option (List IV)
  hgl : ∀ (w : World) (n : Nat) (cs : List IV), G w → gl n = some cs → ∀ (j : Nat) (y : IV), cs[j]? = some y → ∃ u, w.cell? ⟨n, j, none⟩ = some u ∧ ∀ C : Ctx, VR C y u
  yl : YHand
  hylm : ∀ (s : Nat) (args : List IV) (L : List Blk) (K K' : IV → List Blk → Prop), (∀ v L', K v L' → K' v L') → yl s args L K → yl s args L K'
  hyl : ∀ (C : Ctx) (s : Nat) (args : List IV) (vs : List Value) (K : IV → List Blk → Prop), Wf g0 C → Sim C → G C.w → args.length = vs.length →
    (∀ (i : Nat) (x : IV), args[i]? = some x → VR C x (vs.getD i undef)) → yl s args C.L K →
    ∃ fn tmps asg body, (Instr.yield (C.φ s).blk vs.toArray).run P C.w = .ok (.round (C.φ s).blk fn tmps asg body) C.w ∧
      ∀ F, FOk F → RoundIn F 0 P (C.φ s).blk fn tmps asg body C.w fun e w' => ∃ v, e = .returned v ∧ PostG g0 C K v w'

/-- What becomes of a block's number: none: it may not be named · some none: what it holds is now read only · some (some t): it is number t. -/
abbrev Ren := Nat → Option (Option Nat)
def Ren.inner (m : Ren) : Ren := fun s => match m s with | some none => some none | _ => none

def conv (L : List Blk) : Nat → Ren → IV → Option IV
  | 0, _, _ => none
  | n + 1, m, .ptr s r o => match m s with
    | some (some t) => some (.ptr t r o)
    | some none => match L[s]? with
      | some (.cells _ rows) => (mapO (mapO (conv L n m.inner)) rows).map fun rs => .iptr rs r o
      | some (.tcells _ _ rows) => (mapO (mapO (conv L n m.inner)) rows).map fun rs => .iptr rs r o
      | _ => none
    | none => none
  | n + 1, m, .sl s off len cap => match m s with
    | some (some t) => some (.sl t off len cap)
    | some none => match L[s]? with
      | some (.cells _ rows) => if off + len ≤ rows.length then (mapO (mapO (conv L n m.inner)) ((rows.drop off).take len)).map .isl else none
      | some (.tcells _ _ rows) => if off + len ≤ rows.length then (mapO (mapO (conv L n m.inner)) ((rows.drop off).take len)).map .isl else none
      | _ => none
    | none => none
  | _ + 1, m, .mp s => match m s with
    | some (some t) => some (.mp t)
    | _ => none
  | _ + 1, m, .yld s => match m s with
    | some (some t) => some (.yld t)
    | _ => none
  | _ + 1, _, .nsl => some (.isl [])
  | _ + 1, _, .esl => some (.isl [])
  | n + 1, m, .agg cs => (mapO (conv L n m) cs).map .agg
  | n + 1, m, .tup cs => (mapO (conv L n m) cs).map .tup
  | n + 1, m, .fn f a b => match mapO (conv L n m) a, mapO (conv L n m) b with
    | some a', some b' => some (.fn f a' b')
    | _, _ => none
  | n + 1, m, .iface t v => (conv L n m v).map (.iface t)
  | _ + 1, _, x => some x

def convB (L : List Blk) (n : Nat) (m : Ren) : Blk → Option Blk
  | .cells sz rows => (mapO (mapO (conv L n m)) rows).map (.cells sz)
  | .siter s p => some (.siter s p)
  | .tcells ty sz rows => (mapO (mapO (conv L n m)) rows).map (.tcells ty sz)
  | .dead => some .dead
  | .unborn => some .unborn
  | .map _ => none
  | .lp r l => (mapO (conv L n m) l).map (.lp r)

/-- No memory that is only read is named. -/
def noTree : IV → Bool
  | .isl rows => rows.isEmpty
  | .iptr .. => false
  | .agg cs | .tup cs => noTreeL cs
  | .fn _ a b => noTreeL a && noTreeL b
  | .iface _ v => noTree v
  | _ => true
where
  noTreeL : List IV → Bool
    | [] => true
    | x :: r => noTree x && noTreeL r

def noTreeB : Blk → Bool
  | .cells _ rows => rows.all noTree.noTreeL
  | .tcells _ _ rows => rows.all noTree.noTreeL
  | .map _ => false
  | .lp .. => false
  | _ => true

/-- A function with a body. -/
def Bodied (P : Program) (f : FuncId) : Prop := ∃ fn, P.funcs[f]? = some fn ∧ fn.name ≠ "runtime.NumGoroutine" ∧ fn.body.isNone = false

/-- The contract of a function: arguments, the blocks that it may write (their numbers are those of the list), the answer and the blocks behind the call. -/
def XT (E : Env) (f : FuncId) (args : List IV) (L : List Blk) (R : IV → List Blk → Prop) : Prop :=
  Bodied E.P f ∧ ∀ (w : World) (φ : Nat → Loc) (X : Nat → Prop) (vs : List Value), Wf E.g0 ⟨w, φ, L, X⟩ → Sim ⟨w, φ, L, X⟩ → E.G w → args.length = vs.length →
    (∀ (i : Nat) (x : IV), args[i]? = some x → VR ⟨w, φ, L, X⟩ x (vs.getD i undef)) →
    Calls E.P f vs.toArray w fun e w' => ∃ r L' φ' v, R r L' ∧ e = .returned v ∧ Wf E.g0 ⟨w', φ', L', X⟩ ∧ Sim ⟨w', φ', L', X⟩ ∧
      Ext ⟨w, φ, L, X⟩ ⟨w', φ', L', X⟩ ∧ VR ⟨w', φ', L', X⟩ r v

/-- The code of a loop over a function. -/
def LoopCode (P : Program) (N : Nat) (ps : List Nat) (asg body : XC) (r : Loop) : Prop :=
  r.params.toList = ps ∧ comp P N r.assign = some asg ∧ comp P N r.body = some body ∧ r.tmps.size = N

/-- .. that may panic: then the value and the blocks are as Q says. -/
def XTP (E : Env) (f : FuncId) (args : List IV) (L : List Blk) (R Q : IV → List Blk → Prop) : Prop :=
  Bodied E.P f ∧ ∀ (w : World) (φ : Nat → Loc) (X : Nat → Prop) (vs : List Value), Wf E.g0 ⟨w, φ, L, X⟩ → Sim ⟨w, φ, L, X⟩ → E.G w → args.length = vs.length →
    (∀ (i : Nat) (x : IV), args[i]? = some x → VR ⟨w, φ, L, X⟩ x (vs.getD i undef)) →
    Calls E.P f vs.toArray w fun e w' => ∃ r L' φ' v, Wf E.g0 ⟨w', φ', L', X⟩ ∧ Sim ⟨w', φ', L', X⟩ ∧ Ext ⟨w, φ, L, X⟩ ⟨w', φ', L', X⟩ ∧ VR ⟨w', φ', L', X⟩ r v ∧
      ((R r L' ∧ e = .returned v) ∨ (Q r L' ∧ e = .panicked [{ v, recovered := false }]))

def XPure (E : Env) (f : FuncId) (args : List IV) (r : IV) : Prop := XT E f args [] fun r' L' => r' = r ∧ L' = []

def fuel : Nat := 12
def renNone : Ren := fun _ => none
def renFreeze : Ren := fun _ => some none
def renShift (n : Nat) : Ren := fun s => some (some (s + n))

/-- A call of function f: without blocks of ours in its hands ('b': it may read what is ours, and its answer names no memory that is only read). -/
def xcallB (E : Env) (f : FuncId) (args : List IV) (L : List Blk) (K : IV → List Blk → Prop) : Prop :=
  ∃ b args', mapO (conv L fuel (if b then renFreeze else renNone)) args = some args' ∧
    XT E f args' [] fun r L1 => (b = true → noTree r = true ∧ L1.all noTreeB = true) ∧
      ∃ r' L1', conv L1 fuel (renShift L.length) r = some r' ∧ mapO (convB L1 fuel (renShift L.length)) L1 = some L1' ∧ K r' (L ++ L1')

/-- A function that the model answers by itself. -/
def XExt (E : Env) (f : FuncId) (args : List IV) (r : IV) : Prop :=
  ∀ (C : Ctx) (vs : List Value), E.G C.w → args.length = vs.length → (∀ (i : Nat) (x : IV), args[i]? = some x → VR C x (vs.getD i undef)) →
    ∃ v, (callFunc f vs.toArray).run E.P C.w = .ok (.value v) C.w ∧ VR C r v

/-- Where a number stands in a list. -/
def pos : List Nat → Nat → Nat → Option Nat
  | [], _, _ => none
  | k :: r, s, i => if s = k then some i else pos r s (i + 1)

theorem pos_some : ∀ {l : List Nat} {s i j : Nat}, pos l s i = some j → ∃ d, j = i + d ∧ l[d]? = some s
  | [], _, _, _, h => by cases h
  | k :: r, s, i, j, h => by
    simp only [pos] at h
    split at h
    · rename_i hk; subst hk; simp only [Option.some.injEq] at h; subst h; exact ⟨0, rfl, rfl⟩
    · obtain ⟨d, h1, h2⟩ := pos_some h
      exact ⟨d + 1, by omega, by simpa using h2⟩
theorem pos_none : ∀ {l : List Nat} {s i : Nat}, pos l s i = none → s ∉ l
  | [], _, _, _ => by simp
  | k :: r, s, i, h => by
    simp only [pos] at h
    split at h
    · cases h
    · rename_i hk
      have := pos_none h
      simp [hk, this]

/-! A call of a function that is handed blocks of ours: 'sel': it may write them (they are its first blocks, in this order); 'dl': given away for good; with 'b' all else is lent, to be read. -/
def renSel (sel dl : List Nat) (b : Bool) : Ren := fun s => match pos sel s 0 with
  | some i => some (some i)
  | none => if b || dl.contains s then some none else none
def renBack (sel : List Nat) (n : Nat) : Ren := fun i => some (some (if i < sel.length then sel.getD i 0 else n + (i - sel.length)))
def putL : List Nat → List Blk → List Blk → List Blk
  | s :: ss, k :: ks, L => putL ss ks (L.set s k)
  | _, _, L => L
def killL : List Nat → List Blk → List Blk
  | [], L => L
  | s :: ss, L => killL ss (L.set s .dead)
def aliveAt (L : List Blk) (s : Nat) : Prop := ∃ k, L[s]? = some k ∧ k.alive = true
def Back (sel dl : List Nat) (b : Bool) (L : List Blk) (K : IV → List Blk → Prop) (r : IV) (L1 : List Blk) : Prop :=
  (b = true → noTree r = true ∧ L1.all noTreeB = true) ∧
    ∃ r' L1', conv L1 fuel (renBack sel L.length) r = some r' ∧ mapO (convB L1 fuel (renBack sel L.length)) L1 = some L1' ∧ K r' (killL dl (putL sel L1' L) ++ L1'.drop sel.length)
def xcallS (E : Env) (f : FuncId) (args : List IV) (L : List Blk) (K : IV → List Blk → Prop) : Prop :=
  ∃ sel dl b args' L0, sel.Nodup ∧ (∀ s ∈ sel, aliveAt L s ∧ s ∉ dl) ∧ (b = true → dl = []) ∧ mapO (conv L fuel (renSel sel dl b)) args = some args' ∧
    mapO (convB L fuel (renSel sel dl b)) (sel.map fun s => L.getD s .dead) = some L0 ∧ XTP E f args' L0 (Back sel dl b L K) (Back sel dl b L E.pan)

def xcall (E : Env) (f : FuncId) (args : List IV) (L : List Blk) (K : IV → List Blk → Prop) : Prop :=
  xcallB E f args L K ∨ (∃ r, XExt E f args r ∧ K r L) ∨ xcallS E f args L K

abbrev Rho := Nat → IV
def put (ρ : Rho) (d : Option Nat) (v : IV) : Rho :=
  match d with
  | none => ρ
  | some d => fun n => if n = d then v else ρ n

def Opd.ev (ρ : Rho) : Opd → IV
  | .t n => ρ n
  | .c v => v
  | .g n => .raw (.pointer (some ⟨n, 0, none⟩))
  | .f n => .fn (.func n) [] []

def splice {α : Type} (l : List α) (i : Nat) (xs : List α) : List α := l.take i ++ xs ++ l.drop (i + xs.length)

def xfill : List IV → List (Nat × Nat × IV) → Option (List IV)
  | cs, [] => some cs
  | cs, (off, n, v) :: r => if (cellsOf v).length = n ∧ off + n ≤ cs.length then xfill (splice cs off (cellsOf v)) r else none

def xfillRows (sz : Nat) : List (List IV) → List (Nat × IV) → Option (List (List IV))
  | rows, [] => some rows
  | rows, (i, v) :: r => if (cellsOf v).length = sz ∧ i < rows.length then xfillRows sz (rows.set i (cellsOf v)) r else none

/-- The rows that a pointer leads to; the row, the cell in it. -/
def rowsAt (gl : Nat → Option (List IV)) (L : List Blk) : IV → Option (List (List IV) × Nat × Nat)
  | .raw (.pointer (some ⟨n, o, none⟩)) => match gl n with
    | some cs => some ([cs], 0, o)
    | none => none
  | .ptr s r o => match L[s]? with
    | some (.cells _ rows) => some (rows, r, o)
    | some (.tcells _ _ rows) => some (rows, r, o)
    | _ => none
  | .iptr rows r o => some (rows, r, o)
  | _ => none

def lenOf : IV → Option Nat
  | .isl rows => some rows.length
  | .sl _ _ len _ => some len
  | .esl => some 0
  | .nsl => some 0
  | .raw (.slice none 0 0) => some 0
  | _ => none

/-- The rows of a slice, or of a string's bytes. -/
def rowsOf (L : List Blk) : IV → Option (List (List IV))
  | .str s => some (s.map fun b => [.int .u8 b.toNat])
  | .isl rows => some rows
  | .sl s off len _ => match L[s]? with
    | some (.cells _ rows) => if off + len ≤ rows.length then some ((rows.drop off).take len) else none
    | some (.tcells _ _ rows) => if off + len ≤ rows.length then some ((rows.drop off).take len) else none
    | _ => none
  | .esl => some []
  | .nsl => some []
  | _ => none

def xbin (op : BinOp) (x y : IV) (K : IV → Prop) : Prop :=
  match op, x, y with
  | .shl, .int k a, .int _ b => 0 ≤ b ∧ K (.int k (k.wrap (a * 2 ^ min b.toNat k.bits)))
  | .shr, .int k a, .int _ b => 0 ≤ b ∧ K (.int k (a.fdiv (2 ^ min b.toNat k.bits)))
  | .add, .int k a, .int k' b => k = k' ∧ K (.int k (k.wrap (a + b)))
  | .sub, .int k a, .int k' b => k = k' ∧ K (.int k (k.wrap (a - b)))
  | .mul, .int k a, .int k' b => k = k' ∧ K (.int k (k.wrap (a * b)))
  | .quo, .int k a, .int k' b => k = k' ∧ b ≠ 0 ∧ K (.int k (k.wrap (a.tdiv b)))
  | .rem, .int k a, .int k' b => k = k' ∧ b ≠ 0 ∧ K (.int k (a.tmod b))
  | .and, .int k a, .int k' b => k = k' ∧ K (.int k (k.wrap (BitVec.ofInt k.bits a &&& BitVec.ofInt k.bits b).toNat))
  | .or, .int k a, .int k' b => k = k' ∧ K (.int k (k.wrap (BitVec.ofInt k.bits a ||| BitVec.ofInt k.bits b).toNat))
  | .xor, .int k a, .int k' b => k = k' ∧ K (.int k (k.wrap (BitVec.ofInt k.bits a ^^^ BitVec.ofInt k.bits b).toNat))
  | .eql, .int k a, .int k' b => k = k' ∧ K (.bool (decide (a = b)))
  | .neq, .int k a, .int k' b => k = k' ∧ K (.bool (!decide (a = b)))
  | .lss, .int k a, .int k' b => k = k' ∧ K (.bool (decide (a < b)))
  | .leq, .int k a, .int k' b => k = k' ∧ K (.bool (decide (a ≤ b)))
  | .gtr, .int k a, .int k' b => k = k' ∧ K (.bool (decide (b < a)))
  | .geq, .int k a, .int k' b => k = k' ∧ K (.bool (decide (b ≤ a)))
  | .add, .str a, .str b => a.length + b.length ≤ 9223372036854775807 ∧ K (.str (a ++ b))
  | .eql, .str a, .str b => K (.bool (decide (a = b)))
  | .neq, .str a, .str b => K (.bool (!decide (a = b)))
  | .lss, .str a, .str b => K (.bool (Op.bytesLess a b))
  | .geq, .str a, .str b => K (.bool (!Op.bytesLess a b))
  | .gtr, .str a, .str b => K (.bool (!(Op.bytesLess a b || decide (a = b))))
  | .leq, .str a, .str b => K (.bool (Op.bytesLess a b || decide (a = b)))
  | .add, .raw u, .raw v => ∃ r, rawAdd u v = some r ∧ K (.raw r)
  | _, _, _ => False

def xun (op : UnOp) (x : IV) (K : IV → Prop) : Prop :=
  match op, x with
  | .not, .bool b => K (.bool !b)
  | .neg, .int k n => K (.int k (k.wrap (0 - n)))
  | .xor, .int k n => K (.int k (k.wrap (BitVec.ofInt k.bits (if k.signed then -1 else k.max) ^^^ BitVec.ofInt k.bits n).toNat))
  | _, _ => False

def Rows (n : Nat) (rows : List (List IV)) : Prop := ∀ row ∈ rows, row.length = n
def RowsC (n : Nat) (rows : List (List IV)) : Prop := ∀ row ∈ rows, row.length = n ∧ row.all isCell = true
def szOf (L : List Blk) (s : Nat) : Option Nat :=
  match L[s]? with
  | some (.cells sz _) => some sz
  | some (.tcells _ sz _) => some sz
  | _ => none

def xappend (sz bytes : Nat) (s x : IV) (L : List Blk) (K : IV → List Blk → Prop) : Prop :=
  match rowsOf L x with
  | none => False
  | some rs => RowsC sz rs ∧
    match s with
    | .nsl | .esl => (rs = [] → K s L) ∧ (rs ≠ [] → rs.length * bytes ≤ 70368744177664 ∧ K (.sl L.length 0 rs.length rs.length) (L ++ [.cells sz rs]))
    | .sl t off len cap => match L[t]? with
      | some (.cells sz' rows) => sz' = sz ∧ off + cap ≤ rows.length ∧
        if len + rs.length ≤ cap then K (.sl t off (len + rs.length) cap) (L.set t (.cells sz (splice rows (off + len) rs)))
        else (len + rs.length) * bytes ≤ 70368744177664 ∧
          K (.sl L.length 0 (len + rs.length) (len + rs.length)) (L.set t .dead ++ [.cells sz ((rows.drop off).take len ++ rs)])
      | _ => False
    | _ => False

/-- The same, the new block under the number g. -/
def xappendR (sz bytes : Nat) (s x : IV) (g : Nat) (lay : List Blk → Blk → List Blk) (L : List Blk) (K : IV → List Blk → Prop) : Prop :=
  match rowsOf L x with
  | none => False
  | some rs => RowsC sz rs ∧
    match s with
    | .nsl | .esl => (rs = [] → K s L) ∧ (rs ≠ [] → rs.length * bytes ≤ 70368744177664 ∧ K (.sl g 0 rs.length rs.length) (lay L (.cells sz rs)))
    | .sl t off len cap => match L[t]? with
      | some (.cells sz' rows) => sz' = sz ∧ off + cap ≤ rows.length ∧
        if len + rs.length ≤ cap then K (.sl t off (len + rs.length) cap) (L.set t (.cells sz (splice rows (off + len) rs)))
        else (len + rs.length) * bytes ≤ 70368744177664 ∧
          K (.sl g 0 (len + rs.length) (len + rs.length)) (lay (L.set t .dead) (.cells sz ((rows.drop off).take len ++ rs)))
      | _ => False
    | _ => False

/-- Is it nil? -/
def xnil (k : Nat) (x : IV) (K : Bool → Prop) : Prop :=
  match k, x with
  | 0, .nsl => K true
  | 0, .esl => K true ∧ K false
  | 0, .isl rows => K false ∧ (rows = [] → K true)
  | 0, .sl _ _ _ cap => K false ∧ (cap = 0 → K true)
  | 1, .iface _ _ => K false
  | 1, .raw .nilIface => K true
  | 1, .raw (.iface _ _) => K false
  | 2, .fn _ _ _ => K false
  | 2, .raw .nilFunc => K true
  | _, _ => False

def ofInt : IV → Option Int
  | .int _ n => some n
  | _ => none

def bnd (x : Option IV) (d : Nat) (K : Nat → Prop) : Prop :=
  match x with
  | none => K d
  | some (.int _ n) => 0 ≤ n ∧ K n.toNat
  | _ => False

/-- Bytes as rows. -/
def bytesRows (s : List UInt8) : List (List IV) := s.map fun b => [.int .u8 b.toNat]
def byteOf : List IV → Option UInt8
  | [.int .u8 n] => if n = ((UInt8.ofNat n.toNat).toNat : Int) then some (UInt8.ofNat n.toNat) else none
  | _ => none
def runeOf : List IV → Option Int
  | [.int .i32 n] => some n
  | _ => none
def runesL (ns : List Int) : List UInt8 := ns.flatMap fun n => (Utf8.encode n).data.toList
def rowsSl (L : List Blk) : IV → Option (List (List IV))
  | .str _ => none
  | x => rowsOf L x
/-- == of plain cells. -/
def eqCells : List Nat → List IV → List IV → Option Bool
  | [], [], [] => some true
  | 0 :: ks, .int k a :: r, .int k' b :: r' => if k = k' then (eqCells ks r r').map (decide (a = b) && ·) else none
  | 1 :: ks, .str a :: r, .str b :: r' => (eqCells ks r r').map (decide (a = b) && ·)
  | 2 :: ks, .bool a :: r, .bool b :: r' => (eqCells ks r r').map (decide (a = b) && ·)
  | _, _, _ => none
def eqPtr : IV → IV → Option Bool
  | .ptr s r o, .ptr s' r' o' => if s = s' ∧ r = r' ∧ o = o' then some true else none
  | .ptr .., .raw (.pointer none) => some false
  | .raw (.pointer none), .ptr .. => some false
  | .iptr .., .raw (.pointer none) => some false
  | .raw (.pointer none), .raw (.pointer none) => some true
  | _, _ => none
/-- A block under the number g: a new one, or one that was kept for it. -/
def layAt (L : List Blk) (g : Nat) (k : Blk) : List Blk := if g = L.length then L ++ [k] else L.set g k
/-- Bytes behind a list of ours whose type is known. -/
def xappT (ty bytes : Nat) (s x : IV) (g : Nat) (L : List Blk) (K : IV → List Blk → Prop) : Prop :=
  match rowsOf L x with
  | none => False
  | some rs => RowsC 1 rs ∧
    match s with
    | .nsl => (rs = [] → K s L) ∧ (rs ≠ [] → rs.length * bytes ≤ 70368744177664 ∧ K (.sl g 0 rs.length rs.length) (layAt L g (.tcells ty 1 rs)))
    | .raw (.slice none 0 0) => (rs = [] → K s L) ∧ (rs ≠ [] → rs.length * bytes ≤ 70368744177664 ∧ K (.sl g 0 rs.length rs.length) (layAt L g (.tcells ty 1 rs)))
    | .sl t off len cap => off = 0 ∧ len = cap ∧ match L[t]? with
      | some (.tcells ty' sz' rows) => ty' = ty ∧ sz' = 1 ∧ rows.length = len ∧ (rs = [] → K s L) ∧
          (rs ≠ [] → (len + rs.length) * bytes ≤ 70368744177664 ∧ K (.sl g 0 (len + rs.length) (len + rs.length)) (layAt (L.set t .dead) g (.tcells ty 1 (rows ++ rs))))
      | some (.cells _ _) => xappendR 1 bytes s x g (fun L' k => layAt L' g k) L K
      | _ => False
    | _ => False
def xusU (ty : Nat) (s r o : Nat) (n : Int) (L : List Blk) (K : IV → List Blk → Prop) : Prop := r = 0 ∧ o = 0 ∧ match L[s]? with
  | some (.tcells ty' sz rows) => ty' = ty ∧ sz = 1 ∧ n = rows.length ∧ n ≠ 0 ∧ n ≤ 9223372036854775807 ∧ match mapO byteOf rows with
    | some bs => K (.str bs) (L.set s .dead)
    | none => False
  | _ => False
def xptrU (ty n : Nat) (s r o : Nat) (L : List Blk) (K : IV → List Blk → Prop) : Prop := r = 0 ∧ o = 0 ∧ match L[s]? with
  | some (.tcells ty' sz [_]) => ty' = ty ∧ n ≤ sz ∧ 0 < sz ∧ K (.ptr s 0 0) L
  | _ => False
def slIdX (s off len cap : Nat) (L : List Blk) (K : IV → List Blk → Prop) : Prop := 0 < cap ∧ match L[s]? with
  | some (.cells _ _) => K (.sl s off len cap) L
  | some (.tcells _ _ _) => K (.sl s off len cap) L
  | _ => False
def xex (E : Env) (k : XX) (vs : List IV) (g : Nat) (L : List Blk) (K : IV → List Blk → Prop) : Prop :=
  match k with
  | .panic => match vs with
    | [.iface t v] => E.pan (.iface t v) L
    | _ => False
  | .mkif t => match vs with
    | [v] => K (.iface t v) L
    | _ => False
  | .strB ty => match vs with
    | [.str s] => K (.sl g 0 s.length s.length) (layAt L g (.tcells ty 1 (bytesRows s)))
    | _ => False
  | .bStr => match vs with
    | [v] => match (rowsSl L v).bind (mapO byteOf) with
      | some s => K (.str s) L
      | none => False
    | _ => False
  | .rStr => match vs with
    | [v] => match (rowsSl L v).bind (mapO runeOf) with
      | some ns => K (.str (runesL ns)) L
      | none => False
    | _ => False
  | .tas t => match vs with
    | [.iface t' v] => if t' = t then K (.tup [v, .bool true]) L else False
    | _ => False
  | .ru op => match vs with
    | [.raw v] => ∃ r, rawUn op v = some r ∧ K r L
    | _ => False
  | .slId => match vs with
    | [.sl s off len cap] => slIdX s off len cap L K
    | _ => False
  | .eqA neg ks => match vs with
    | [.agg a, .agg b] => match eqCells ks a b with
      | some t => K (.bool (if neg then !t else t)) L
      | none => False
    | _ => False
  | .eqP neg => match vs with
    | [x, y] => match eqPtr x y with
      | some t => K (.bool (if neg then !t else t)) L
      | none => False
    | _ => False
  | .allocT ty zero => K (.ptr g 0 0) (layAt L g (.tcells ty zero.length [zero]))
  | .appT ty bytes => match vs with
    | [s, x] => xappT ty bytes s x g L K
    | _ => False
  | .sdata => match vs with
    | [.nsl] => K (.raw (.pointer none)) L
    | [.raw (.slice none 0 0)] => K (.raw (.pointer none)) L
    | [.sl s off _ cap] => 0 < cap ∧ K (.ptr s off 0) L
    | _ => False
  | .ustr ty => match vs with
    | [.raw (.pointer none), .int .i64 n] => n = 0 ∧ K (.str []) L
    | [.ptr s r o, .int .i64 n] => xusU ty s r o n L K
    | _ => False
  | .toU ty n | .ofU ty n => match vs with
    | [.ptr s r o] => xptrU ty n s r o L K
    | _ => False

def xop (E : Env) (o : XO) (e : Opd → IV) (L : List Blk) (K : IV → List Blk → Prop) : Prop :=
  match o with
  | .mov x => K (e x) L
  | .pick c a b => match e c with
    | .bool t => K (if t then e a else e b) L
    | _ => False
  | .alloc zero => K (.ptr L.length 0 0) (L ++ [.cells zero.length [zero]])
  | .box x => K (.ptr L.length 0 0) (L ++ [.cells (cellsOf (e x)).length [cellsOf (e x)]])
  | .build zero parts => match xfill zero (parts.map fun p => (p.1, p.2.1, e p.2.2)) with
    | some cs => K (.agg cs) L
    | none => False
  | .bslice sz zero len parts => zero.length = sz ∧ match xfillRows sz (List.replicate len zero) (parts.map fun p => (p.1, e p.2)) with
    | some rows => K (.sl L.length 0 len len) (L ++ [.cells sz rows])
    | none => False
  | .load1 a => match rowsAt E.gl L (e a) with
    | some (rows, r, o) => r < rows.length ∧ o < (rows.getD r []).length ∧ K ((rows.getD r []).getD o .und) L
    | none => False
  | .loadN n a => match rowsAt E.gl L (e a) with
    | some (rows, r, o) => r < rows.length ∧ o + n ≤ (rows.getD r []).length ∧ K (.agg (((rows.getD r []).drop o).take n)) L
    | none => False
  | .store n a x => match e a with
    | .ptr s r o => match L[s]? with
      | some (.cells sz rows) => r < rows.length ∧ o + n ≤ (rows.getD r []).length ∧ (cellsOf (e x)).length = n ∧ (cellsOf (e x)).all isCell = true ∧
        K .und (L.set s (.cells sz (rows.set r (splice (rows.getD r []) o (cellsOf (e x))))))
      | some (.tcells ty sz rows) => r < rows.length ∧ o + n ≤ (rows.getD r []).length ∧ (cellsOf (e x)).length = n ∧ (cellsOf (e x)).all isCell = true ∧
        K .und (L.set s (.tcells ty sz (rows.set r (splice (rows.getD r []) o (cellsOf (e x))))))
      | _ => False
    | _ => False
  | .nilck x => match e x with
    | .ptr s r o => K (.ptr s r o) L
    | .iptr rows r o => K (.iptr rows r o) L
    | .fn (.func f) a b => K (.fn (.func f) a b) L
    | .raw (.pointer (some ⟨n, o, none⟩)) => K (.raw (.pointer (some ⟨n, o, none⟩))) L
    | _ => False
  | .bin op x y => xbin op (e x) (e y) fun v => K v L
  | .eqB neg x y => match e x, e y with
    | .bool a, .bool b => K (.bool (if neg then !decide (a = b) else decide (a = b))) L
    | _, _ => False
  | .un op x => xun op (e x) fun v => K v L
  | .cvInt k x => match e x with
    | .int _ n => K (.int k (k.wrap n)) L
    | _ => False
  | .cvIntStr x => match e x with
    | .int _ n => K (.str (Utf8.encode n).data.toList) L
    | _ => False
  | .cvStr x => match e x with
    | .str s => K (.str s) L
    | _ => False
  | .fldA off x => match e x with
    | .ptr s r o => K (.ptr s r (o + off)) L
    | .iptr rows r o => K (.iptr rows r (o + off)) L
    | .raw (.pointer (some ⟨n, o, none⟩)) => K (.raw (.pointer (some ⟨n, o + off, none⟩))) L
    | _ => False
  | .fld off n agg x => match e x with
    | .agg cs => off + n ≤ cs.length ∧ if agg then K (.agg ((cs.drop off).take n)) L else off < cs.length ∧ K (cs.getD off .und) L
    | _ => False
  | .idxS m x i => match e x, e i with
    | .isl rows, .int _ n => Rows m rows ∧ 0 ≤ n ∧ n < rows.length ∧ K (.iptr rows n.toNat 0) L
    | .sl s off len _, .int _ n => szOf L s = some m ∧ 0 ≤ n ∧ n < len ∧ K (.ptr s (off + n.toNat) 0) L
    | _, _ => False
  | .idxA m sz x i => match e x, e i with
    | .ptr s r o, .int _ n => 0 ≤ n ∧ n < m ∧ K (.ptr s r (o + n.toNat * sz)) L
    | .iptr rows r o, .int _ n => 0 ≤ n ∧ n < m ∧ K (.iptr rows r (o + n.toNat * sz)) L
    | .raw (.pointer (some ⟨b, o, none⟩)), .int _ n => 0 ≤ n ∧ n < m ∧ K (.raw (.pointer (some ⟨b, o + n.toNat * sz, none⟩))) L
    | _, _ => False
  | .idx x i => match e x, e i with
    | .str s, .int _ n => 0 ≤ n ∧ n < s.length ∧ K (.int .u8 (s.getD n.toNat 0).toNat) L
    | _, _ => False
  | .slice m x lo hi => match e x with
    | .isl rows => Rows m rows ∧ bnd (lo.map e) 0 fun l => bnd (hi.map e) rows.length fun h => l ≤ h ∧ h ≤ rows.length ∧ K (.isl ((rows.take h).drop l)) L
    | .sl s off len cap => szOf L s = some m ∧ bnd (lo.map e) 0 fun l => bnd (hi.map e) len fun h => l ≤ h ∧ h ≤ cap ∧ K (.sl s (off + l) (h - l) (cap - l)) L
    | .esl => bnd (lo.map e) 0 fun l => bnd (hi.map e) 0 fun h => l = 0 ∧ h = 0 ∧ K .esl L
    | .nsl => bnd (lo.map e) 0 fun l => bnd (hi.map e) 0 fun h => l = 0 ∧ h = 0 ∧ K .nsl L
    | _ => False
  | .sliceS x lo hi => match e x with
    | .str s => bnd (lo.map e) 0 fun l => bnd (hi.map e) s.length fun h => l ≤ h ∧ h ≤ s.length ∧ K (.str ((s.take h).drop l)) L
    | _ => False
  | .slice0 x => match e x with
    | .isl _ | .sl .. | .esl | .nsl => K .esl L
    | _ => False
  | .mkfn f a b => K (.fn f (a.map e) (b.map e)) L
  | .mkslice zero bytes len cap => match e len, e cap with
    | .int _ n, .int _ m => 0 ≤ n ∧ n ≤ m ∧ m ≤ 9223372036854775807 ∧ m * bytes ≤ 281474976710656 ∧
      K (.sl L.length 0 n.toNat m.toNat) (L ++ [.cells zero.length (List.replicate m.toNat zero)])
    | _, _ => False
  | .len x => match lenOf (e x) with
    | some n => K (.int .i64 n) L
    | none => False
  | .lenS x => match e x with
    | .str s => K (.int .i64 s.length) L
    | _ => False
  | .append sz bytes s x => xappend sz bytes (e s) (e x) L K
  | .max2 x y => match e x, e y with
    | .int k a, .int _ b => K (.int k (if b > a then b else a)) L
    | _, _ => False
  | .min2 x y => match e x, e y with
    | .int k a, .int _ b => K (.int k (if b < a then b else a)) L
    | _, _ => False
  | .call f args => match e f with
    | .fn (.func n) a b => xcall E n (a ++ args.map e ++ b) L K
    | .yld s => E.yl s (args.map e) L K
    | _ => False
  | .pcall f args => match e f with
    | .fn (.func n) a b => ∃ fz args' r, mapO (conv L fuel (if fz then renFreeze else renNone)) (a ++ args.map e ++ b) = some args' ∧ XPure E n args' r ∧ (fz = true → noTree r = true) ∧ (∀ m, conv [] fuel (renShift m) r = some r) ∧ K r L
    | _ => False
  | .isNil k neg x => xnil k (e x) fun b => K (.bool (if neg then !b else b)) L
  | .rng x => match e x with
    | .str s => K (.ptr L.length 0 0) (L ++ [.siter s 0])
    | _ => False
  | .nxt t => match e t with
    | .ptr s 0 0 => match L[s]? with
      | some (.siter str pos) => if pos < str.length then K (.tup [.bool true, .int .i64 pos, .int .i32 (Utf8.decode ⟨str.toArray⟩ pos).1]) (L.set s (.siter str (pos + (Utf8.decode ⟨str.toArray⟩ pos).2)))
          else K (.tup [.bool false]) L
      | _ => False
    | _ => False
  | .ext t i => match e t with
    | .tup cs => i < cs.length ∧ K (cs.getD i .und) L
    | _ => False
  | .ex k xs => xex E k (xs.map e) L.length L K

def Free (L : List Blk) (g : Nat) : Prop := g = L.length ∨ L[g]? = some .unborn
theorem layAt_end (L : List Blk) (k : Blk) : layAt L L.length k = L ++ [k] := if_pos rfl
/-- The same, a new block under the number g. -/
def xopT (E : Env) (o : XO) (e : Opd → IV) (g : Nat) (L : List Blk) (K : IV → List Blk → Prop) : Prop :=
  match o with
  | .alloc zero => K (.ptr g 0 0) (layAt L g (.cells zero.length [zero]))
  | .box x => K (.ptr g 0 0) (layAt L g (.cells (cellsOf (e x)).length [cellsOf (e x)]))
  | .bslice sz zero len parts => zero.length = sz ∧ match xfillRows sz (List.replicate len zero) (parts.map fun p => (p.1, e p.2)) with
    | some rows => K (.sl g 0 len len) (layAt L g (.cells sz rows))
    | none => False
  | .mkslice zero bytes len cap => match e len, e cap with
    | .int _ n, .int _ m => 0 ≤ n ∧ n ≤ m ∧ m ≤ 9223372036854775807 ∧ m * bytes ≤ 281474976710656 ∧
      K (.sl g 0 n.toNat m.toNat) (layAt L g (.cells zero.length (List.replicate m.toNat zero)))
    | _, _ => False
  | .append sz bytes s x => xappendR sz bytes (e s) (e x) g (fun L k => layAt L g k) L K
  | .ex k xs => xex E k (xs.map e) g L K
  | o => xop E o e L K

theorem xappend_R {n m : Nat} {s x : IV} {L : List Blk} {K : IV → List Blk → Prop} (h : xappend n m s x L K) : xappendR n m s x L.length (fun L' k => layAt L' L.length k) L K := by
  have e : ∀ (t : Nat) (k k' : Blk), layAt (L.set t k) L.length k' = L.set t k ++ [k'] := fun t k k' => by unfold layAt; rw [if_pos (by rw [List.length_set])]
  unfold xappend at h
  unfold xappendR
  simp only [layAt_end, e]
  exact h
theorem xop_T {E : Env} {o : XO} {e : Opd → IV} {L : List Blk} {K : IV → List Blk → Prop} (h : xop E o e L K) : xopT E o e L.length L K := by
  cases o with
  | append sz b s x => exact xappend_R h
  | alloc z => simp only [xopT, layAt_end]; exact h
  | box x => simp only [xopT, layAt_end]; exact h
  | bslice => simp only [xopT, layAt_end]; exact h
  | mkslice => simp only [xopT, layAt_end]; exact h
  | _ => exact h

def xops (E : Env) : List XOper → Rho → List Blk → (Rho → List Blk → Prop) → Prop
  | [], ρ, L, K => K ρ L
  | o :: r, ρ, L, K => match o.guard with
    | none => xop E o.op (Opd.ev ρ) L fun v L' => xops E r (put ρ o.dst v) L' K
    | some (t, want) => match ρ t with
      | .bool b => (b = want → xop E o.op (Opd.ev ρ) L fun v L' => xops E r (put ρ o.dst v) L' K) ∧ (b ≠ want → xops E r (put ρ o.dst .und) L K)
      | .und => xops E r (put ρ o.dst .und) L K
      | _ => False

/-! ### Regions with several effects -/
def slP : IV → List Nat
  | .ptr s _ _ => [s]
  | _ => []
def slS : IV → List Nat
  | .sl s _ _ _ => [s]
  | _ => []
/-- What it reads of ours. -/
def XO.rd (o : XO) (e : Opd → IV) (L : List Blk) : List Nat :=
  match o with
  | .pcall f as => match e f with
    | .fn _ a b => match mapO (conv L fuel renNone) (a ++ as.map e ++ b) with
      | some _ => []
      | none => List.range L.length
    | _ => []
  | .load1 a | .loadN _ a => slP (e a)
  | .idxS _ x _ | .slice _ x _ _ => slS (e x)
  | .store _ a _ => slP (e a)
  | .append _ _ s x => slS (e s) ++ slS (e x)
  | .ex .bStr xs => xs.flatMap fun x => slS (e x)
  | _ => []
/-- What it writes of ours, but for a new block. -/
def XO.wr (o : XO) (e : Opd → IV) : List Nat :=
  match o with
  | .store _ a _ => slP (e a)
  | .append _ _ s _ => slS (e s)
  | _ => []
/-- The new block's number. -/
def newS (o : XO) (L L' : List Blk) : List Nat :=
  match o with
  | .alloc _ | .box _ | .bslice .. | .mkslice .. => [L.length]
  | .append .. => if L'.length = L.length then [] else [L.length]
  | _ => []
/-- Nothing of the one is written by the other. -/
def Ap (r1 w1 r2 w2 : List Nat) : Prop := (∀ i ∈ w1, i ∉ r2 ∧ i ∉ w2) ∧ ∀ i ∈ w2, i ∉ r1 ∧ i ∉ w1
/-- Those that are listed in 'chk' are apart from this. -/
def chkL (chk : List Nat) (r w : List Nat) : List (Nat × List Nat × List Nat) → Prop
  | [] => True
  | (i, r1, w1) :: lg => (i ∈ chk → Ap r1 w1 r w) ∧ chkL chk r w lg

/-- A run in the text's order; those that may come up in another order are apart. -/
def xopsD (E : Env) : Nat → List (Nat × List Nat × List Nat) → List (XOper × List Nat × Bool) → Rho → List Blk → (Rho → List Blk → Prop) → Prop
  | _, _, [], ρ, L, K => K ρ L
  | i, lg, (o, chk, keep) :: r, ρ, L, K =>
    match o.guard with
    | none => xop E o.op (Opd.ev ρ) L fun v L' => chkL chk (o.op.rd (Opd.ev ρ) L ++ newS o.op L L') (o.op.wr (Opd.ev ρ) ++ newS o.op L L') lg ∧
        xopsD E (i + 1) (if keep then (i, o.op.rd (Opd.ev ρ) L ++ newS o.op L L', o.op.wr (Opd.ev ρ) ++ newS o.op L L') :: lg else lg) r (put ρ o.dst v) L' K
    | some (t, want) => match ρ t with
      | .bool b => (b = want → xop E o.op (Opd.ev ρ) L fun v L' => chkL chk (o.op.rd (Opd.ev ρ) L ++ newS o.op L L') (o.op.wr (Opd.ev ρ) ++ newS o.op L L') lg ∧
          xopsD E (i + 1) (if keep then (i, o.op.rd (Opd.ev ρ) L ++ newS o.op L L', o.op.wr (Opd.ev ρ) ++ newS o.op L L') :: lg else lg) r (put ρ o.dst v) L' K) ∧
        (b ≠ want → xopsD E (i + 1) lg r (put ρ o.dst .und) L K)
      | .und => xopsD E (i + 1) lg r (put ρ o.dst .und) L K
      | _ => False

abbrev Run := Rho → List Blk → (XE → Rho → List Blk → Prop) → Prop

def xgoto (g : Nat → Option Run) : Nat → XE → Rho → List Blk → (XE → Rho → List Blk → Prop) → Prop
  | n, .goto l, ρ, L, K => match g l with
    | none => K (.goto l) ρ L
    | some f => match n with
      | 0 => False
      | n + 1 => f ρ L fun e ρ' L' => xgoto g n e ρ' L' K
  | _, e, ρ, L, K => K e ρ L

def xloop (f : Rho → List Blk → (XE → Rho → List Blk → Prop) → Prop) : Nat → Rho → List Blk → (XE → Rho → List Blk → Prop) → Prop
  | 0, _, _, _ => False
  | n + 1, ρ, L, K => f ρ L fun e ρ' L' => match e with
    | .normal => xloop f n ρ' L' K
    | e => K e ρ' L'

def XE.inBlock (id : Nat) (K : XE → Rho → List Blk → Prop) : XE → Rho → List Blk → Prop
  | .exit i, ρ, L => if i = id then K .normal ρ L else K (.exit i) ρ L
  | e, ρ, L => K e ρ L

mutual
def xrun (E : Env) : XC → Rho → List Blk → (XE → Rho → List Blk → Prop) → Prop
  | .skip, ρ, L, K => K .normal ρ L
  | .ops l, ρ, L, K => xops E l ρ L fun ρ' L' => K .normal ρ' L'
  | .draw l, ρ, L, K => l.all (fun o => o.op.quiet) = true ∧ xops E l ρ L fun ρ' L' => K .normal ρ' L'
  | .seq a b, ρ, L, K => xrun E a ρ L fun e ρ' L' => match e with
    | .normal => xrun E b ρ' L' K
    | e => K e ρ' L'
  | .cond c t e, ρ, L, K => match c.ev ρ with
    | .bool b => (b = true → xrun E t ρ L K) ∧ (b = false → xrun E e ρ L K)
    | _ => False
  | .block id b, ρ, L, K => xrun E b ρ L (XE.inBlock id K)
  | .loop b, ρ, L, K => ∃ n, xloop (xrun E b) n ρ L K
  | .exit id, ρ, L, K => K (.exit id) ρ L
  | .scope b ls, ρ, L, K => ∃ n, xrun E b ρ L fun e ρ' L' => xgoto (xlabs E ls) n e ρ' L' K
  | .label _, ρ, L, K => K .normal ρ L
  | .goto l, ρ, L, K => K (.goto l) ρ L
  | .ret, ρ, L, K => K .ret ρ L
  | .drawE l, ρ, L, K => xops E l ρ L fun ρ' L' => K .normal ρ' L'
  | .drawR l, ρ, L, K => xopsD E 0 [] l ρ L fun ρ' L' => K .normal ρ' L'
  | .bad, _, _, _ => False
  | .rngF g N ps asg body, ρ, L, K => match g.ev ρ with
    | .fn (.func gf) [] caps => ∀ r0 : Loop, r0.state = .ready → r0.pending = none → LoopCode E.P N ps asg body r0 →
        XT E gf (.yld L.length :: caps) (L ++ [.lp r0 ((List.range N).map ρ)]) fun _ L' => ∃ r1, L'[L.length]? = some (.lp r1 ((List.range N).map ρ)) ∧ r1.state ≠ .busy ∧
          match r1.pending with
          | none => K .normal ρ (L'.set L.length .dead)
          | some .ret => K .ret ρ (L'.set L.length .dead)
          | some (.exit i) => K (.exit i) ρ (L'.set L.length .dead)
          | some (.goto l) => K (.goto l) ρ (L'.set L.length .dead)
          | _ => False
    | _ => False
def xlabs (E : Env) : XLabs → Nat → Option Run
  | .nil, _ => none
  | .cons l c r, n => if n = l then some (xrun E c) else xlabs E r n
end

end Go.X
end
section
/- The calculus X, part 4: what becomes of a context when a block is laid, written, or let go. -/
namespace Go.X
open Go

/-- The same world, the same blocks. -/
abbrev Post (E : Env) (C : Ctx) (K : IV → List Blk → Prop) (v : Value) (w' : World) : Prop := PostG E.g0 C K v w'

theorem post_same {E : Env} {C : Ctx} {K : IV → List Blk → Prop} {r : IV} {v : Value} (wf : Wf E.g0 C) (sim : Sim C) (hv : VR C r v) (h : K r C.L) : Post E C K v C.w :=
  ⟨r, C.L, C.φ, h, wf, sim, Ext.refl C, hv⟩

def pushW (w : World) (o : Obj) : World := { w with heap := w.heap.push o }
def newφ (C : Ctx) (g sz : Nat) : Nat → Loc := fun s => if s = g then ⟨C.w.heap.size, 0, sz⟩ else C.φ s
def newC (C : Ctx) (g : Nat) (o : Obj) (k : Blk) (sz : Nat) : Ctx := ⟨pushW C.w o, newφ C g sz, layAt C.L g k, C.X⟩

theorem heap_push_lt {w : World} {o : Obj} {b : Nat} (h : b < w.heap.size) : (pushW w o).heap[b]? = w.heap[b]? := by
  show (w.heap.push o)[b]? = _
  rw [Array.getElem?_push, if_neg (Nat.ne_of_lt h)]
theorem heap_push_eq {w : World} {o : Obj} : (pushW w o).heap[w.heap.size]? = some o := by
  show (w.heap.push o)[w.heap.size]? = _
  rw [Array.getElem?_push, if_pos rfl]

theorem get_append_lt {α : Type} {l : List α} {x : α} {s : Nat} (h : s < l.length) : (l ++ [x])[s]? = l[s]? := by
  rw [List.getElem?_append_left h]
theorem get_append_cases {α : Type} {l : List α} {x y : α} {s : Nat} (h : (l ++ [x])[s]? = some y) : (s < l.length ∧ l[s]? = some y) ∨ (s = l.length ∧ y = x) := by
  rcases Nat.lt_trichotomy s l.length with h1 | h1 | h1
  · rw [get_append_lt h1] at h; exact .inl ⟨h1, h⟩
  · subst h1; simp at h; exact .inr ⟨rfl, h.symm⟩
  · rw [List.getElem?_eq_none (by simp; omega)] at h; cases h
theorem lt_of_get {α : Type} {l : List α} {s : Nat} {x : α} (h : l[s]? = some x) : s < l.length := (List.getElem?_eq_some_iff.1 h).1

theorem layAt_cases {L : List Blk} {g s : Nat} {k y : Blk} (hg : Free L g) (h : (layAt L g k)[s]? = some y) : (s ≠ g ∧ L[s]? = some y) ∨ (s = g ∧ y = k) := by
  unfold layAt at h
  split at h
  · rename_i he; subst he
    rcases get_append_cases h with ⟨h1, h2⟩ | ⟨h1, h2⟩
    · exact .inl ⟨by omega, h2⟩
    · exact .inr ⟨h1, h2⟩
  · rename_i he
    have hlt := lt_of_get (hg.resolve_left he)
    by_cases hs : s = g
    · subst hs; rw [List.getElem?_set_self hlt] at h; exact .inr ⟨rfl, (Option.some.inj h).symm⟩
    · rw [List.getElem?_set_ne (Ne.symm hs)] at h; exact .inl ⟨hs, h⟩
theorem layAt_get {L : List Blk} {g : Nat} {k : Blk} (hg : Free L g) : (layAt L g k)[g]? = some k := by
  unfold layAt
  split
  · rename_i he; subst he; simp
  · rename_i he; exact List.getElem?_set_self (lt_of_get (hg.resolve_left he))
theorem layAt_ne {L : List Blk} {g s : Nat} {k y : Blk} (hs : s ≠ g) (h : L[s]? = some y) : (layAt L g k)[s]? = some y := by
  unfold layAt
  split
  · rw [List.getElem?_append_left (lt_of_get h)]; exact h
  · rw [List.getElem?_set_ne (Ne.symm hs)]; exact h
theorem free_born {C : Ctx} {g s : Nat} (hg : Free C.L g) (h : C.born s) : s ≠ g := by
  rintro rfl
  rcases hg with hg | hg
  · have := h.lt; omega
  · obtain ⟨k, h1, h2⟩ := h
    rw [hg] at h1; cases h1; cases h2
theorem layAt_len {L : List Blk} {g : Nat} {k : Blk} : L.length ≤ (layAt L g k).length := by
  unfold layAt; split <;> simp
theorem free_set {L : List Blk} {g t : Nat} {k k0 : Blk} (hg : Free L g) (ht : L[t]? = some k0) (hk : k0.born = true) : Free (L.set t k) g := by
  rcases hg with hg | hg
  · exact .inl (by rw [List.length_set]; exact hg)
  · refine .inr ?_
    rw [List.getElem?_set_ne]; exact hg
    rintro rfl; rw [hg] at ht; cases ht; cases hk
theorem layAt_born {C : Ctx} {g s : Nat} {k : Blk} {w : World} {φ : Nat → Loc} {X : Nat → Prop} (hg : Free C.L g) (h : C.born s) : (⟨w, φ, layAt C.L g k, X⟩ : Ctx).born s := by
  have hne := free_born hg h
  obtain ⟨k', h1, h2⟩ := h
  exact ⟨k', layAt_ne hne h1, h2⟩

theorem new_mine {C : Ctx} {g : Nat} {o : Obj} {k : Blk} {sz b : Nat} (hg : Free C.L g) (h : (newC C g o k sz).mine b) : C.mine b ∨ b = C.w.heap.size := by
  obtain ⟨s, l, hl, ha, rfl⟩ := h
  rcases layAt_cases hg hl with ⟨h1, h2⟩ | ⟨h1, h2⟩
  · left; exact ⟨s, l, h2, ha, by simp [newC, newφ, h1]⟩
  · right; simp [newC, newφ, h1]

theorem new_ext {C : Ctx} {g : Nat} (hg : Free C.L g) (o : Obj) (k : Blk) (sz : Nat) : Ext C (newC C g o k sz) where
  size := by simp [newC, pushW]
  frame := fun b hb _ => heap_push_lt hb
  sub := fun b h => (new_mine hg h).imp id (fun h => by omega)
  slot := fun s hs => by simp [newC, newφ, free_born hg hs]
  bo := fun s hs => layAt_born hg hs
  len := layAt_len
  cap := fun b c e fr h => ⟨c, e, fr, (heap_push_lt (Array.getElem?_eq_some_iff.1 h).1).trans h, rfl⟩
  ex := rfl
  os := rfl
  tape := rfl
  output := rfl

theorem CellsOk.mono {C C' : Ctx} (h : Ext C C') {s sz : Nat} {rows : List (List IV)} (hs : C.born s) (hk : CellsOk C s sz rows)
    (hh : C'.w.heap[(C.φ s).blk]? = C.w.heap[(C.φ s).blk]?) : CellsOk C' s sz rows := by
  obtain ⟨h1, c, e, fr, h2, hfr, h3, h4⟩ := hk
  refine ⟨by rw [h.slot s hs]; exact h1, c, e, fr, by rw [h.slot s hs, hh]; exact h2, hfr, by rw [h.slot s hs]; exact h3, fun i row hi => ?_⟩
  obtain ⟨h5, h6⟩ := h4 i row hi
  refine ⟨h5, fun j x hj => ?_⟩
  obtain ⟨v, h7, h8⟩ := h6 j x hj
  exact ⟨v, by rw [h.slot s hs]; exact h7, h8.mono h⟩
theorem BlkOk.mono {C C' : Ctx} (h : Ext C C') {s : Nat} {k : Blk} (hs0 : C.L[s]? = some k) (hk : BlkOk C s k)
    (hh : C'.w.heap[(C.φ s).blk]? = C.w.heap[(C.φ s).blk]?) : BlkOk C' s k := by
  cases k with
  | cells sz rows =>
    have hs : C.born s := ⟨_, hs0, rfl⟩
    exact CellsOk.mono h hs hk hh
  | tcells ty sz rows =>
    have hs : C.born s := ⟨_, hs0, rfl⟩
    refine ⟨CellsOk.mono h hs hk.1 hh, ?_⟩
    obtain ⟨_, h1, c, fr, h2⟩ := hk
    exact ⟨by rw [h.slot s hs]; exact h1, c, fr, by rw [h.slot s hs, hh]; exact h2⟩
  | siter t pos =>
    have hs : C.born s := ⟨_, hs0, rfl⟩
    exact ⟨by rw [h.slot s hs]; exact hk.1, by rw [h.slot s hs, hh]; exact hk.2⟩
  | lp r l =>
    have hs : C.born s := ⟨_, hs0, rfl⟩
    exact ⟨by rw [h.slot s hs, hh]; exact hk.1, fun n => (hk.2 n).mono h⟩
  | map es => exact hk
  | dead => trivial
  | unborn => trivial

theorem new_wf {g0 g : Nat} {C : Ctx} {o : Obj} {k : Blk} {sz : Nat} (hg : Free C.L g) (wf : Wf g0 C) (sim : Sim C) : Wf g0 (newC C g o k sz) where
  inj := fun s t ks kt hs ht as at_ heq => by
    rcases layAt_cases hg hs with ⟨h1, h2⟩ | ⟨h1, h2⟩ <;> rcases layAt_cases hg ht with ⟨h3, h4⟩ | ⟨h3, h4⟩
    · simp only [newC, newφ, h1, h3, if_false] at heq
      exact wf.inj s t ks kt h2 h4 as at_ heq
    · subst h3
      simp only [newC, newφ, h1, if_false, if_true] at heq
      have := mine_lt sim ⟨s, ks, h2, as, rfl⟩
      omega
    · subst h1
      simp only [newC, newφ, h3, if_false, if_true] at heq
      have := mine_lt sim ⟨t, kt, h4, at_, rfl⟩
      omega
    · omega
  lo := fun b h => (new_mine hg h).elim (wf.lo b) (fun h => by rw [h]; exact wf.g)
  apart := fun b hx h => (new_mine hg h).elim (wf.apart b hx) (fun h => by have := wf.exlo b hx; omega)
  exlo := fun b hx => by have := wf.exlo b hx; simp [newC, pushW]; omega
  g := by have := wf.g; simp [newC, pushW]; omega

theorem new_sim {C : Ctx} {g : Nat} {o : Obj} {k : Blk} {sz : Nat} (hg : Free C.L g) (sim : Sim C) (hk : BlkOk (newC C g o k sz) g k) : Sim (newC C g o k sz) := by
  intro s l hl
  rcases layAt_cases hg hl with ⟨h1, h2⟩ | ⟨h1, h2⟩
  · have h3 := sim s l h2
    by_cases ha : l.alive = true
    · exact h3.mono (new_ext hg o k sz) h2 (heap_push_lt (mine_lt sim ⟨s, l, h2, ha, rfl⟩))
    · cases l <;> first | trivial | (exfalso; exact ha rfl)
  · subst h1; subst h2; exact hk

/-- Cells for rows: what the rows say, laid flat. -/
def Flat (C : Ctx) (c : Array Value) (base sz : Nat) (rows : List (List IV)) : Prop :=
  base + rows.length * sz ≤ c.size ∧ ∀ (i : Nat) (row : List IV), rows[i]? = some row → row.length = sz ∧
    ∀ (j : Nat) (x : IV), row[j]? = some x → ∃ v, c[base + i * sz + j]? = some v ∧ VR C x v

theorem Flat.mono {C C' : Ctx} (h : Ext C C') {c : Array Value} {base sz : Nat} {rows : List (List IV)} (hf : Flat C c base sz rows) : Flat C' c base sz rows :=
  ⟨hf.1, fun i row hi => ⟨(hf.2 i row hi).1, fun j x hj => let ⟨v, h1, h2⟩ := (hf.2 i row hi).2 j x hj; ⟨v, h1, h2.mono h⟩⟩⟩

theorem new_postF {E : Env} {C : Ctx} {g : Nat} (hg : Free C.L g) {K : IV → List Blk → Prop} {c : Array Value} {e : TypeId} {fr : Nat × Nat} {sz : Nat} {rows : List (List IV)} {r : IV} {v : Value} (wf : Wf E.g0 C) (sim : Sim C) (hfr : frOk c.size fr)
    (hf : Flat C c 0 sz rows) (hv : VR (newC C g (.cells c e fr) (.cells sz rows) sz) r v) (h : K r (layAt C.L g (.cells sz rows))) :
    Post E C K v (pushW C.w (.cells c e fr)) := by
  refine ⟨r, layAt C.L g (Blk.cells sz rows), newφ C g sz, h, new_wf (o := .cells c e fr) hg wf sim, new_sim (o := .cells c e fr) hg sim ?_, new_ext hg (.cells c e fr) (.cells sz rows) sz, hv⟩
  have hf' := hf.mono (new_ext hg (.cells c e fr) (.cells sz rows) sz)
  refine ⟨by simp [newC, newφ], c, e, fr, by simp only [newC, newφ, if_true]; exact heap_push_eq, hfr, ?_, ?_⟩
  · simpa [newC, newφ] using hf'.1
  · intro i row hi
    refine ⟨(hf'.2 i row hi).1, fun j x hj => ?_⟩
    obtain ⟨u, h1, h2⟩ := (hf'.2 i row hi).2 j x hj
    exact ⟨u, by simpa [newC, newφ] using h1, h2⟩

theorem new_post {E : Env} {C : Ctx} {g : Nat} (hg : Free C.L g) {K : IV → List Blk → Prop} {c : Array Value} {e : TypeId} {sz : Nat} {rows : List (List IV)} {r : IV} {v : Value} (wf : Wf E.g0 C) (sim : Sim C)
    (hf : Flat C c 0 sz rows) (hv : VR (newC C g (.cells c e) (.cells sz rows) sz) r v) (h : K r (layAt C.L g (.cells sz rows))) :
    Post E C K v (pushW C.w (.cells c e)) := new_postF hg wf sim (frOk_zero _) hf hv h

theorem vr_new_ptr {C : Ctx} {g : Nat} (hg : Free C.L g) {o : Obj} {k : Blk} {sz : Nat} (hkb : k.born = true := by rfl) : VR (newC C g o k sz) (.ptr g 0 0) (.pointer (some ⟨C.w.heap.size, 0, none⟩)) := by
  have := VR.ptr (C := newC C g o k sz) g 0 0 ⟨k, layAt_get hg, hkb⟩
  simpa [newC, newφ] using this

theorem vr_new_slF {C : Ctx} {g : Nat} (hg : Free C.L g) {c : Array Value} {e : TypeId} {fr : Nat × Nat} {k : Blk} {sz len cap cap' : Nat} (hl : len ≤ cap) (hc : cap ≤ cap') (hs : cap' * sz ≤ c.size) (hkb : k.born = true := by rfl) :
    VR (newC C g (.cells c e fr) k sz) (.sl g 0 len cap) (.slice (some ⟨C.w.heap.size, 0, none⟩) len cap') := by
  refine VR.sl (C := newC C g (.cells c e fr) k sz) g 0 len cap _ cap' ⟨k, layAt_get hg, hkb⟩ hl hc (.inr ⟨by simp [newC, newφ], c, e, fr, ?_, ?_⟩)
  · simp only [newC, newφ, if_true]; exact heap_push_eq
  · simpa [newC, newφ] using hs
theorem vr_new_sl {C : Ctx} {g : Nat} (hg : Free C.L g) {c : Array Value} {e : TypeId} {k : Blk} {sz len cap cap' : Nat} (hl : len ≤ cap) (hc : cap ≤ cap') (hs : cap' * sz ≤ c.size) (hkb : k.born = true := by rfl) :
    VR (newC C g (.cells c e) k sz) (.sl g 0 len cap) (.slice (some ⟨C.w.heap.size, 0, none⟩) len cap') := vr_new_slF hg hl hc hs hkb


theorem flat_one {C : Ctx} {x : IV} {v : Value} (h : VR C x v) : Flat C v.cells 0 (cellsOf x).length [cellsOf x] := by
  obtain ⟨h1, h2⟩ := h.cells
  refine ⟨by simp [h1], fun i row hi => ?_⟩
  cases i with
  | zero =>
    simp at hi; subst hi
    exact ⟨rfl, fun j y hj => by simpa using h2 j y hj⟩
  | succ i => simp at hi

/-! ### A block of ours is written -/
def setW (w : World) (b : Nat) (o : Obj) : World := { w with heap := w.heap.setIfInBounds b o }

theorem heap_set_ne {w : World} {o : Obj} {b b' : Nat} (h : b' ≠ b) : (setW w b o).heap[b']? = w.heap[b']? := by
  show (w.heap.setIfInBounds b o)[b']? = _
  rw [Array.getElem?_setIfInBounds, if_neg (Ne.symm h)]
theorem heap_set_eq {w : World} {o : Obj} {b : Nat} (h : b < w.heap.size) : (setW w b o).heap[b]? = some o := by
  show (w.heap.setIfInBounds b o)[b]? = _
  rw [Array.getElem?_setIfInBounds, if_pos rfl, if_pos h]

def setC (C : Ctx) (s : Nat) (o : Obj) (k : Blk) : Ctx := ⟨setW C.w (C.φ s).blk o, C.φ, C.L.set s k, C.X⟩

theorem get_set_cases {α : Type} {l : List α} {x y : α} {s t : Nat} (h : (l.set s x)[t]? = some y) : (t ≠ s ∧ l[t]? = some y) ∨ (t = s ∧ y = x ∧ s < l.length) := by
  by_cases ht : t = s
  · subst ht
    have := lt_of_get h
    simp at this
    rw [List.getElem?_set_self this] at h
    exact .inr ⟨rfl, (Option.some.inj h).symm, this⟩
  · rw [List.getElem?_set_ne (Ne.symm ht)] at h
    exact .inl ⟨ht, h⟩

theorem set_mine {C : Ctx} {s b : Nat} {o : Obj} {k k0 : Blk} (hs : C.L[s]? = some k0) (ha : k0.alive = true) (h : (setC C s o k).mine b) : C.mine b := by
  obtain ⟨t, l, hl, hla, rfl⟩ := h
  rcases get_set_cases hl with ⟨_, h2⟩ | ⟨h1, _, _⟩
  · exact ⟨t, l, h2, hla, rfl⟩
  · subst h1; exact ⟨t, k0, hs, ha, rfl⟩

theorem set_born {C : Ctx} {s t : Nat} {o : Obj} {k : Blk} (hkb : k.born = true) (h : C.born t) : (setC C s o k).born t := by
  obtain ⟨l, h1, h2⟩ := h
  by_cases ht : t = s
  · subst ht; exact ⟨k, List.getElem?_set_self (lt_of_get h1), hkb⟩
  · exact ⟨l, (List.getElem?_set_ne (Ne.symm ht)).trans h1, h2⟩

theorem set_ext {C : Ctx} {s : Nat} {k k0 : Blk} {c c' : Array Value} {e : TypeId} {fr0 : Nat × Nat} (hs : C.L[s]? = some k0) (ha : k0.alive = true)
    (hc : C.w.heap[(C.φ s).blk]? = some (.cells c e fr0)) (hsz : c'.size = c.size) (hkb : k.born = true := by rfl) : Ext C (setC C s (.cells c' e fr0) k) where
  size := by simp [setC, setW]
  frame := fun b _ hm => heap_set_ne (fun h => hm ⟨s, k0, hs, ha, h.symm⟩)
  sub := fun b h => .inl (set_mine hs ha h)
  slot := fun _ _ => rfl
  bo := fun t ht => set_born hkb ht
  len := by simp [setC]
  cap := fun b d e' fr h => by
    by_cases hb : b = (C.φ s).blk
    · subst hb
      rw [hc] at h
      obtain ⟨rfl, rfl, rfl⟩ := by simpa using h
      exact ⟨c', e, fr0, heap_set_eq (Array.getElem?_eq_some_iff.1 hc).1, hsz⟩
    · exact ⟨d, e', fr, (heap_set_ne hb).trans h, rfl⟩
  ex := rfl
  os := rfl
  tape := rfl
  output := rfl

theorem set_wf {g0 : Nat} {C : Ctx} {s : Nat} {k k0 : Blk} {o : Obj} (wf : Wf g0 C) (hs : C.L[s]? = some k0) (ha : k0.alive = true) : Wf g0 (setC C s o k) where
  inj := fun t u kt ku ht hu at_ au heq => by
    have f : ∀ {t : Nat} {kt : Blk}, (C.L.set s k)[t]? = some kt → kt.alive = true → ∃ l : Blk, C.L[t]? = some l ∧ l.alive = true := fun {t kt} h ha' => by
      rcases get_set_cases h with ⟨_, h2⟩ | ⟨h1, _, _⟩
      · exact ⟨kt, h2, ha'⟩
      · subst h1; exact ⟨k0, hs, ha⟩
    obtain ⟨l, h1, h2⟩ := f ht at_
    obtain ⟨l', h3, h4⟩ := f hu au
    exact wf.inj t u l l' h1 h3 h2 h4 heq
  lo := fun b h => wf.lo b (set_mine hs ha h)
  apart := fun b hx h => wf.apart b hx (set_mine hs ha h)
  exlo := fun b hx => by have := wf.exlo b hx; simpa [setC, setW] using this
  g := by have := wf.g; simpa [setC, setW] using this

theorem set_sim {g0 : Nat} {C : Ctx} {s : Nat} {k k0 : Blk} {c c' : Array Value} {e : TypeId} {fr0 : Nat × Nat} (wf : Wf g0 C) (sim : Sim C) (hs : C.L[s]? = some k0) (ha : k0.alive = true)
    (hc : C.w.heap[(C.φ s).blk]? = some (.cells c e fr0)) (hsz : c'.size = c.size) (hk : BlkOk (setC C s (.cells c' e fr0) k) s k) (hkb : k.born = true := by rfl) : Sim (setC C s (.cells c' e fr0) k) := by
  intro t l hl
  rcases get_set_cases hl with ⟨h1, h2⟩ | ⟨h1, h2, _⟩
  · have h3 := sim t l h2
    by_cases hla : l.alive = true
    · refine h3.mono (set_ext hs ha hc hsz hkb) h2 (heap_set_ne fun h => h1 (wf.inj t s l k0 h2 hs hla ha h))
    · cases l <;> first | trivial | (exfalso; exact hla rfl)
  · subst h1; subst h2; exact hk

/-- The same for a block that holds no cells. -/
theorem set_ext' {C : Ctx} {s : Nat} {k k0 : Blk} {o0 o : Obj} (hs : C.L[s]? = some k0) (ha : k0.alive = true)
    (hc : C.w.heap[(C.φ s).blk]? = some o0) (hn : ∀ c e fr, o0 ≠ .cells c e fr) (hkb : k.born = true := by rfl) : Ext C (setC C s o k) where
  size := by simp [setC, setW]
  frame := fun b _ hm => heap_set_ne (fun h => hm ⟨s, k0, hs, ha, h.symm⟩)
  sub := fun b h => .inl (set_mine hs ha h)
  slot := fun _ _ => rfl
  bo := fun t ht => set_born hkb ht
  len := by simp [setC]
  cap := fun b d e' fr h => by
    by_cases hb : b = (C.φ s).blk
    · subst hb
      rw [hc] at h
      exact absurd (Option.some.inj h) (hn _ _ _)
    · exact ⟨d, e', fr, (heap_set_ne hb).trans h, rfl⟩
  ex := rfl
  os := rfl
  tape := rfl
  output := rfl

theorem set_sim' {g0 : Nat} {C : Ctx} {s : Nat} {k k0 : Blk} {o0 o : Obj} (wf : Wf g0 C) (sim : Sim C) (hs : C.L[s]? = some k0) (ha : k0.alive = true)
    (hc : C.w.heap[(C.φ s).blk]? = some o0) (hn : ∀ c e fr, o0 ≠ .cells c e fr) (hk : BlkOk (setC C s o k) s k) (hkb : k.born = true := by rfl) : Sim (setC C s o k) := by
  intro t l hl
  rcases get_set_cases hl with ⟨h1, h2⟩ | ⟨h1, h2, _⟩
  · have h3 := sim t l h2
    by_cases hla : l.alive = true
    · refine h3.mono (set_ext' hs ha hc hn hkb) h2 (heap_set_ne fun h => h1 (wf.inj t s l k0 h2 hs hla ha h))
    · cases l <;> first | trivial | (exfalso; exact hla rfl)
  · subst h1; subst h2; exact hk

theorem run_setObj' {P : Program} {w : World} {r : Nat} {o0 : Obj} (o : Obj) (hb : w.heap[r]? = some o0) (hn : ∀ c e fr, o0 ≠ .cells c e fr) : (setObj r o).run P w = .ok () (setW w r o) := by
  unfold setObj
  cases o0 with
  | cells c e fr => exact absurd rfl (hn _ _ _)
  | _ => simp [Sem.run, hb, setW]
theorem run_getObj' {P : Program} {w : World} {r : Nat} {o0 : Obj} (hb : w.heap[r]? = some o0) (hn : ∀ c e fr, o0 ≠ .cells c e fr) : (getObj r).run P w = .ok o0 w := by
  unfold getObj
  cases o0 with
  | cells c e fr => exact absurd rfl (hn _ _ _)
  | _ => simp [Sem.run, hb]

end Go.X
end
section
/- The calculus X, part 5: what is handed to a call, and what comes back. -/
namespace Go.X
open Go

theorem mapO_len {α β : Type} {f : α → Option β} : ∀ {l : List α} {l' : List β}, mapO f l = some l' → l'.length = l.length
  | [], l', h => by simp only [mapO, Option.some.injEq] at h; subst h; rfl
  | x :: r, l', h => by
    simp only [mapO] at h
    split at h
    · split at h
      · rename_i y hy ys hys
        simp only [Option.some.injEq] at h; subst h
        simp [mapO_len hys]
      · cases h
    · cases h

theorem mapO_get {α β : Type} {f : α → Option β} : ∀ {l : List α} {l' : List β}, mapO f l = some l' → ∀ (i : Nat) (y : β), l'[i]? = some y → ∃ x, l[i]? = some x ∧ f x = some y
  | [], l', h, i, y, hy => by simp only [mapO, Option.some.injEq] at h; subst h; simp at hy
  | x :: r, l', h, i, y, hy => by
    simp only [mapO] at h
    split at h
    · split at h
      · rename_i y0 hy0 _ ys hys
        simp only [Option.some.injEq] at h; subst h
        cases i with
        | zero => simp at hy; subst hy; exact ⟨x, rfl, hy0⟩
        | succ i => simp at hy; exact mapO_get hys i y hy
      · cases h
    · cases h

theorem mapO_get' {α β : Type} {f : α → Option β} : ∀ {l : List α} {l' : List β}, mapO f l = some l' → ∀ (i : Nat) (x : α), l[i]? = some x → ∃ y, l'[i]? = some y ∧ f x = some y
  | [], l', h, i, y, hy => by simp at hy
  | x :: r, l', h, i, y, hy => by
    simp only [mapO] at h
    split at h
    · split at h
      · rename_i y0 hy0 _ ys hys
        simp only [Option.some.injEq] at h; subst h
        cases i with
        | zero => simp at hy; subst hy; exact ⟨y0, rfl, hy0⟩
        | succ i => simp at hy; exact mapO_get' hys i y hy
      · cases h
    · cases h

theorem closedL_iff {l : List IV} : closed.closedL l = true ↔ ∀ (i : Nat) (x : IV), l[i]? = some x → closed x = true := by
  induction l with
  | nil => simp [closed.closedL]
  | cons a r ih =>
    simp only [closed.closedL, Bool.and_eq_true, ih]
    constructor
    · rintro ⟨h1, h2⟩ i x hx
      cases i with
      | zero => simp at hx; subst hx; exact h1
      | succ i => exact h2 i x (by simpa using hx)
    · intro h
      exact ⟨h 0 a rfl, fun i x hx => h (i + 1) x (by simpa using hx)⟩

theorem noTreeL_iff {l : List IV} : noTree.noTreeL l = true ↔ ∀ (i : Nat) (x : IV), l[i]? = some x → noTree x = true := by
  induction l with
  | nil => simp [noTree.noTreeL]
  | cons a r ih =>
    simp only [noTree.noTreeL, Bool.and_eq_true, ih]
    constructor
    · rintro ⟨h1, h2⟩ i x hx
      cases i with
      | zero => simp at hx; subst hx; exact h1
      | succ i => exact h2 i x (by simpa using hx)
    · intro h
      exact ⟨h 0 a rfl, fun i x hx => h (i + 1) x (by simpa using hx)⟩

/-- A tree that names no block of ours: it says the same where no more is owned. -/
theorem VR.weaken {C C' : Ctx} (hw : C'.w = C.w) (hown : ∀ b, C'.own b → C.own b) {x : IV} {v : Value} (h : VR C x v) : closed x = true → VR C' x v := by
  induction h with
  | bool b => exact fun _ => .bool b
  | int k n => exact fun _ => .int k n
  | str s => exact fun _ => .str s
  | raw v h => exact fun _ => .raw v h
  | und => exact fun _ => .und
  | ptr s r o hs => intro h; cases h
  | sl s off len cap a cap' hs hl hc ha => intro h; cases h
  | isl rows a cap' sz vals hcap hsz hcl ha hv ih =>
    intro _
    refine .isl rows a cap' sz vals hcap hsz hcl ?_ (fun i row hi j x hj => ih i row hi j x hj (closedL_iff.1 (hcl i row hi) j x hj))
    rcases ha with h0 | ⟨b, o, ha, hb, hn, hc⟩
    · exact .inl h0
    · exact .inr ⟨b, o, ha, by rw [hw]; exact hb, fun h => hn (hown b h), fun i row hi j x hj => by rw [hw]; exact hc i row hi j x hj⟩
  | iptr rows r o b base sz vals hsz hcl hb hn ha hv ih =>
    intro _
    exact .iptr rows r o b base sz vals hsz hcl (by rw [hw]; exact hb) (fun h => hn (hown b h)) (fun i row hi j x hj => by rw [hw]; exact ha i row hi j x hj)
      (fun i row hi j x hj => ih i row hi j x hj (closedL_iff.1 (hcl i row hi) j x hj))
  | esl a => exact fun _ => .esl a
  | nsl => exact fun _ => .nsl
  | agg cs vs hl hv ih => intro h; exact .agg cs vs hl fun i x hi => ih i x hi (closedL_iff.1 h i x hi)
  | tup cs vs hl hv ih => intro h; exact .tup cs vs hl fun i x hi => ih i x hi (closedL_iff.1 h i x hi)
  | fn f as bs va vb ha hb hva hvb iha ihb =>
    intro h
    simp only [closed, Bool.and_eq_true] at h
    exact .fn f as bs va vb ha hb (fun i x hi => iha i x hi (closedL_iff.1 h.1 i x hi)) (fun i x hi => ihb i x hi (closedL_iff.1 h.2 i x hi))
  | iface t x v hv ih => intro h; exact .iface t x v (ih h)
  | mp s hs => intro h; cases h
  | yld s hs => intro h; cases h

theorem conv_closed {L : List Blk} : ∀ (n : Nat) (m : Ren) (x y : IV), (∀ s t, m s ≠ some (some t)) → conv L n m x = some y → closed y = true
  | 0, m, x, y, hm, h => by cases h
  | n + 1, m, x, y, hm, h => by
    have L1 : ∀ {l l' : List IV}, mapO (conv L n m) l = some l' → closed.closedL l' = true := fun {l l'} hl => closedL_iff.2 fun i x' hi => by
      obtain ⟨z, _, hz⟩ := mapO_get hl i x' hi
      exact conv_closed n m z x' hm hz
    cases x with
    | ptr s r o =>
      simp only [conv] at h
      split at h
      · rename_i t ht; exact absurd ht (hm s t)
      · split at h
        · rw [Option.map_eq_some_iff] at h; obtain ⟨rs, _, rfl⟩ := h; rfl
        · rw [Option.map_eq_some_iff] at h; obtain ⟨rs, _, rfl⟩ := h; rfl
        · cases h
      · cases h
    | sl s off len cap =>
      simp only [conv] at h
      split at h
      · rename_i t ht; exact absurd ht (hm s t)
      · split at h
        · split at h
          · rw [Option.map_eq_some_iff] at h; obtain ⟨rs, _, rfl⟩ := h; rfl
          · cases h
        · split at h
          · rw [Option.map_eq_some_iff] at h; obtain ⟨rs, _, rfl⟩ := h; rfl
          · cases h
        · cases h
      · cases h
    | mp s =>
      simp only [conv] at h
      split at h
      · rename_i t ht; exact absurd ht (hm s t)
      · cases h
    | yld s =>
      simp only [conv] at h
      split at h
      · rename_i t ht; exact absurd ht (hm s t)
      · cases h
    | agg cs => simp only [conv, Option.map_eq_some_iff] at h; obtain ⟨l, hl, rfl⟩ := h; exact L1 hl
    | tup cs => simp only [conv, Option.map_eq_some_iff] at h; obtain ⟨l, hl, rfl⟩ := h; exact L1 hl
    | fn f a b =>
      simp only [conv] at h
      split at h
      · rename_i a' b' ha hb
        simp only [Option.some.injEq] at h; subst h
        simp only [closed, L1 ha, L1 hb, Bool.and_self]
      · cases h
    | iface t v => simp only [conv, Option.map_eq_some_iff] at h; obtain ⟨z, hz, rfl⟩ := h; exact conv_closed n m v z hm hz
    | bool b => simp only [conv, Option.some.injEq] at h; subst h; rfl
    | int k i => simp only [conv, Option.some.injEq] at h; subst h; rfl
    | str s => simp only [conv, Option.some.injEq] at h; subst h; rfl
    | raw v => simp only [conv, Option.some.injEq] at h; subst h; rfl
    | und => simp only [conv, Option.some.injEq] at h; subst h; rfl
    | isl rows => simp only [conv, Option.some.injEq] at h; subst h; rfl
    | iptr rows r o => simp only [conv, Option.some.injEq] at h; subst h; rfl
    | esl => simp only [conv, Option.some.injEq] at h; subst h; rfl
    | nsl => simp only [conv, Option.some.injEq] at h; subst h; rfl

theorem inner_no (m : Ren) (s t : Nat) : m.inner s ≠ some (some t) := by
  unfold Ren.inner
  split
  · intro h; cases h
  · intro h; cases h

/-- What 'm' says of the blocks of C fits C'. -/
def RenOk (C C' : Ctx) (m : Ren) : Prop := ∀ s k, C.L[s]? = some k →
  (m s = some none → k.alive = true → ¬ C'.own (C.φ s).blk) ∧ (∀ t, m s = some (some t) → (k.born = true → C'.born t) ∧ C'.φ t = C.φ s)

theorem RenOk.inner {C C' : Ctx} {m : Ren} (h : RenOk C C' m) : RenOk C C' m.inner := fun s k hk =>
  ⟨fun hm ha => (h s k hk).1 (by unfold Ren.inner at hm; split at hm <;> first | assumption | cases hm) ha, fun t ht => absurd ht (inner_no m s t)⟩

theorem getD_of_get {α : Type} {c : Array α} {i : Nat} {v d : α} (h : c[i]? = some v) : c.getD i d = v := by
  rw [Array.getD_eq_getD_getElem?, h]; rfl

theorem conv_sound {C C' : Ctx} (hw : C'.w = C.w) (sim : Sim C) (hown : ∀ b, C'.own b → C.own b) :
    ∀ (n : Nat) (m : Ren) (x x' : IV) (v : Value), RenOk C C' m → conv C.L n m x = some x' → VR C x v → VR C' x' v
  | 0, m, x, x', v, hm, h, hx => by cases h
  | n + 1, m, x, x', v, hm, h, hx => by
    have Lc : ∀ {cs l : List IV} {vs : List Value}, mapO (conv C.L n m) cs = some l → (∀ (i : Nat) (x : IV), cs[i]? = some x → VR C x (vs.getD i undef)) →
        ∀ (i : Nat) (x : IV), l[i]? = some x → VR C' x (vs.getD i undef) := fun hl hv i y hi => by
      obtain ⟨z, h1, h2⟩ := mapO_get hl i y hi
      exact conv_sound hw sim hown n m z y _ hm h2 (hv i z h1)
    -- what is frozen
    have Fz : ∀ {s : Nat} {sz : Nat} {k : Blk} {rows rows0 rs : List (List IV)} (off : Nat), C.L[s]? = some k → k.alive = true → CellsOk C s sz rows →
        (∀ (i : Nat) (row : List IV), rows0[i]? = some row → rows[off + i]? = some row) → mapO (mapO (conv C.L n m.inner)) rows0 = some rs → m s = some none →
        ∃ (c : Array Value) (e : TypeId) (fr : Nat × Nat), C.w.heap[(C.φ s).blk]? = some (.cells c e fr) ∧ (C.φ s).sz = sz ∧ rs.length = rows0.length ∧
          (∀ (i : Nat) (row : List IV), rs[i]? = some row → row.length = sz ∧ closed.closedL row = true ∧ ∀ (j : Nat) (x : IV), row[j]? = some x →
            C'.w.cell? ⟨(C.φ s).blk, (C.φ s).base + (off + i) * sz + j, none⟩ = some (c.getD ((C.φ s).base + (off + i) * sz + j) undef) ∧
            VR C' x (c.getD ((C.φ s).base + (off + i) * sz + j) undef)) ∧ (C.φ s).blk < C'.w.heap.size ∧ ¬ C'.own (C.φ s).blk := by
      intro s sz k rows rows0 rs off hs hka hok hsub hrs hms
      obtain ⟨h1, c, e, fr, h2, _, h3, h4⟩ := hok
      refine ⟨c, e, fr, h2, h1, mapO_len hrs, fun i row hi => ?_, by rw [hw]; exact (Array.getElem?_eq_some_iff.1 h2).1, (hm s _ hs).1 hms hka⟩
      obtain ⟨row0, h5, h6⟩ := mapO_get hrs i row hi
      obtain ⟨h7, h8⟩ := h4 _ row0 (hsub i row0 h5)
      refine ⟨(mapO_len h6).trans h7, closedL_iff.2 fun j y hj => ?_, fun j y hj => ?_⟩
      · obtain ⟨z, _, hz⟩ := mapO_get h6 j y hj
        exact conv_closed n _ z y (inner_no m) hz
      · obtain ⟨z, hz1, hz⟩ := mapO_get h6 j y hj
        obtain ⟨u, h9, h10⟩ := h8 j z hz1
        rw [getD_of_get h9]
        refine ⟨?_, conv_sound hw sim hown n _ z y u hm.inner hz h10⟩
        rw [hw]
        simp only [World.cell?, h2]
        simpa using h9
    cases x with
    | ptr s r o =>
      cases hx with
      | ptr _ _ _ hs =>
      simp only [conv] at h
      split at h
      · rename_i t ht
        simp only [Option.some.injEq] at h; subst h
        obtain ⟨ks, hk1, hk2⟩ := hs
        obtain ⟨h1, h2⟩ := (hm s _ hk1).2 t ht
        replace h1 := h1 hk2
        rw [← h2]; exact .ptr t r o h1
      · rename_i hms
        split at h
        · rename_i sz rows hL
          rw [Option.map_eq_some_iff] at h; obtain ⟨rs, hrs, rfl⟩ := h
          obtain ⟨c, e, fr, h2, hsz, _, h4, h5, h6⟩ := Fz 0 hL rfl (sim _ _ hL) (fun i row hi => by simpa using hi) hrs hms
          rw [hsz]
          refine .iptr rs r o _ _ sz (fun i j => c.getD ((C.φ s).base + (0 + i) * sz + j) undef) (fun i row hi => (h4 i row hi).1) (fun i row hi => (h4 i row hi).2.1) h5 h6 ?_ ?_
          · intro i row hi j x hj; simpa using ((h4 i row hi).2.2 j x hj).1
          · intro i row hi j x hj; exact ((h4 i row hi).2.2 j x hj).2
        · rename_i ty sz rows hL
          rw [Option.map_eq_some_iff] at h; obtain ⟨rs, hrs, rfl⟩ := h
          obtain ⟨c, e, fr, h2, hsz, _, h4, h5, h6⟩ := Fz 0 hL rfl (sim _ _ hL).1 (fun i row hi => by simpa using hi) hrs hms
          rw [hsz]
          refine .iptr rs r o _ _ sz (fun i j => c.getD ((C.φ s).base + (0 + i) * sz + j) undef) (fun i row hi => (h4 i row hi).1) (fun i row hi => (h4 i row hi).2.1) h5 h6 ?_ ?_
          · intro i row hi j x hj; simpa using ((h4 i row hi).2.2 j x hj).1
          · intro i row hi j x hj; exact ((h4 i row hi).2.2 j x hj).2
        · cases h
      · cases h
    | sl s off len cap =>
      cases hx with
      | sl _ _ _ _ a cap' hs hl hc ha =>
      simp only [conv] at h
      split at h
      · rename_i t ht
        simp only [Option.some.injEq] at h; subst h
        obtain ⟨ks, hk1, hk2⟩ := hs
        obtain ⟨h1, h2⟩ := (hm s _ hk1).2 t ht
        replace h1 := h1 hk2
        exact .sl t off len cap a cap' h1 hl hc (by rw [h2, hw]; exact ha)
      · rename_i hms
        split at h
        · rename_i sz rows hL
          split at h
          · rename_i hle
            rw [Option.map_eq_some_iff] at h; obtain ⟨rs, hrs, rfl⟩ := h
            obtain ⟨c, e, fr, h2, hsz, h3, h4, h5, h6⟩ := Fz off hL rfl (sim _ _ hL) (fun i row hi => by
              rw [List.getElem?_take] at hi
              split at hi
              · rw [List.getElem?_drop] at hi; exact hi
              · cases hi) hrs hms
            have hlen : rs.length = len := by rw [h3, List.length_take, List.length_drop]; omega
            subst hlen
            refine .isl rs a cap' sz (fun i j => c.getD ((C.φ s).base + (off + i) * sz + j) undef) (by omega) (fun i row hi => (h4 i row hi).1) (fun i row hi => (h4 i row hi).2.1) ?_ ?_
            · rcases ha with h0 | ⟨ha, _⟩
              · left; exact List.eq_nil_of_length_eq_zero (by omega)
              · refine .inr ⟨_, _, ha, h5, h6, fun i row hi j x hj => ?_⟩
                have := ((h4 i row hi).2.2 j x hj).1
                rw [hsz]
                rw [show (C.φ s).base + off * sz + i * sz + j = (C.φ s).base + (off + i) * sz + j by rw [Nat.add_mul]; omega]
                exact this
            · intro i row hi j x hj; exact ((h4 i row hi).2.2 j x hj).2
          · cases h
        · rename_i ty sz rows hL
          split at h
          · rename_i hle
            rw [Option.map_eq_some_iff] at h; obtain ⟨rs, hrs, rfl⟩ := h
            obtain ⟨c, e, fr, h2, hsz, h3, h4, h5, h6⟩ := Fz off hL rfl (sim _ _ hL).1 (fun i row hi => by
              rw [List.getElem?_take] at hi
              split at hi
              · rw [List.getElem?_drop] at hi; exact hi
              · cases hi) hrs hms
            have hlen : rs.length = len := by rw [h3, List.length_take, List.length_drop]; omega
            subst hlen
            refine .isl rs a cap' sz (fun i j => c.getD ((C.φ s).base + (off + i) * sz + j) undef) (by omega) (fun i row hi => (h4 i row hi).1) (fun i row hi => (h4 i row hi).2.1) ?_ ?_
            · rcases ha with h0 | ⟨ha, _⟩
              · left; exact List.eq_nil_of_length_eq_zero (by omega)
              · refine .inr ⟨_, _, ha, h5, h6, fun i row hi j x hj => ?_⟩
                have := ((h4 i row hi).2.2 j x hj).1
                rw [hsz]
                rw [show (C.φ s).base + off * sz + i * sz + j = (C.φ s).base + (off + i) * sz + j by rw [Nat.add_mul]; omega]
                exact this
            · intro i row hi j x hj; exact ((h4 i row hi).2.2 j x hj).2
          · cases h
        · cases h
      · cases h
    | mp s =>
      cases hx with
      | mp _ hs =>
      simp only [conv] at h
      split at h
      · rename_i t ht
        simp only [Option.some.injEq] at h; subst h
        obtain ⟨ks, hk1, hk2⟩ := hs
        obtain ⟨h1, h2⟩ := (hm s _ hk1).2 t ht
        replace h1 := h1 hk2
        rw [← h2]; exact .mp t h1
      · cases h
    | yld s =>
      cases hx with
      | yld _ hs =>
      simp only [conv] at h
      split at h
      · rename_i t ht
        simp only [Option.some.injEq] at h; subst h
        obtain ⟨ks, hk1, hk2⟩ := hs
        obtain ⟨h1, h2⟩ := (hm s _ hk1).2 t ht
        replace h1 := h1 hk2
        rw [← h2]; exact .yld t h1
      · cases h
    | agg cs => simp only [conv, Option.map_eq_some_iff] at h; obtain ⟨l, hl, rfl⟩ := h; cases hx with | agg _ vs hle hv => exact .agg l vs ((mapO_len hl).trans hle) (Lc hl hv)
    | tup cs => simp only [conv, Option.map_eq_some_iff] at h; obtain ⟨l, hl, rfl⟩ := h; cases hx with | tup _ vs hle hv => exact .tup l vs ((mapO_len hl).trans hle) (Lc hl hv)
    | fn f a b =>
      simp only [conv] at h
      split at h
      · rename_i a' b' ha' hb'
        simp only [Option.some.injEq] at h; subst h
        cases hx with
        | fn _ _ _ va vb ha hb hva hvb => exact .fn f a' b' va vb ((mapO_len ha').trans ha) ((mapO_len hb').trans hb) (Lc ha' hva) (Lc hb' hvb)
      · cases h
    | iface t y => simp only [conv, Option.map_eq_some_iff] at h; obtain ⟨z, hz, rfl⟩ := h; cases hx with | iface _ _ u hu => exact .iface t z u (conv_sound hw sim hown n m y z u hm hz hu)
    | bool b => simp only [conv, Option.some.injEq] at h; subst h; exact hx.weaken hw hown rfl
    | int k i => simp only [conv, Option.some.injEq] at h; subst h; exact hx.weaken hw hown rfl
    | str s => simp only [conv, Option.some.injEq] at h; subst h; exact hx.weaken hw hown rfl
    | raw v => simp only [conv, Option.some.injEq] at h; subst h; exact hx.weaken hw hown rfl
    | und => simp only [conv, Option.some.injEq] at h; subst h; exact hx.weaken hw hown rfl
    | isl rows => simp only [conv, Option.some.injEq] at h; subst h; exact hx.weaken hw hown rfl
    | iptr rows r o => simp only [conv, Option.some.injEq] at h; subst h; exact hx.weaken hw hown rfl
    | esl =>
      simp only [conv, Option.some.injEq] at h; subst h
      cases hx with
      | esl a => exact .isl [] a 0 0 (fun _ _ => undef) (Nat.le_refl _) (fun i row hi => by simp at hi) (fun i row hi => by simp at hi) (.inl rfl) (fun i row hi => by simp at hi)
    | nsl =>
      simp only [conv, Option.some.injEq] at h; subst h
      cases hx with
      | nsl => exact .isl [] none 0 0 (fun _ _ => undef) (Nat.le_refl _) (fun i row hi => by simp at hi) (fun i row hi => by simp at hi) (.inl rfl) (fun i row hi => by simp at hi)

theorem conv_ren {C C' : Ctx} (hw : C'.w = C.w) :
    ∀ (n : Nat) (m : Ren) (x x' : IV) (v : Value), (∀ s, C.born s → ∃ t, m s = some (some t) ∧ C'.born t ∧ C'.φ t = C.φ s) → noTree x = true →
      conv C.L n m x = some x' → VR C x v → VR C' x' v
  | 0, m, x, x', v, hm, hn, h, hx => by cases h
  | n + 1, m, x, x', v, hm, hn, h, hx => by
    have Lc : ∀ {cs l : List IV} {vs : List Value}, noTree.noTreeL cs = true → mapO (conv C.L n m) cs = some l → (∀ (i : Nat) (x : IV), cs[i]? = some x → VR C x (vs.getD i undef)) →
        ∀ (i : Nat) (x : IV), l[i]? = some x → VR C' x (vs.getD i undef) := fun hn hl hv i y hi => by
      obtain ⟨z, h1, h2⟩ := mapO_get hl i y hi
      exact conv_ren hw n m z y _ hm (noTreeL_iff.1 hn i z h1) h2 (hv i z h1)
    cases x with
    | ptr s r o =>
      cases hx with
      | ptr _ _ _ hs =>
      obtain ⟨t, h0, h1, h2⟩ := hm s hs
      simp only [conv, h0, Option.some.injEq] at h; subst h
      rw [← h2]; exact .ptr t r o h1
    | sl s off len cap =>
      cases hx with
      | sl _ _ _ _ a cap' hs hl hc ha =>
      obtain ⟨t, h0, h1, h2⟩ := hm s hs
      simp only [conv, h0, Option.some.injEq] at h; subst h
      exact .sl t off len cap a cap' h1 hl hc (by rw [h2, hw]; exact ha)
    | mp s =>
      cases hx with
      | mp _ hs =>
      obtain ⟨t, h0, h1, h2⟩ := hm s hs
      simp only [conv, h0, Option.some.injEq] at h; subst h
      rw [← h2]; exact .mp t h1
    | yld s =>
      cases hx with
      | yld _ hs =>
      obtain ⟨t, h0, h1, h2⟩ := hm s hs
      simp only [conv, h0, Option.some.injEq] at h; subst h
      rw [← h2]; exact .yld t h1
    | agg cs => simp only [conv, Option.map_eq_some_iff] at h; obtain ⟨l, hl, rfl⟩ := h; cases hx with | agg _ vs hle hv => exact .agg l vs ((mapO_len hl).trans hle) (Lc hn hl hv)
    | tup cs => simp only [conv, Option.map_eq_some_iff] at h; obtain ⟨l, hl, rfl⟩ := h; cases hx with | tup _ vs hle hv => exact .tup l vs ((mapO_len hl).trans hle) (Lc hn hl hv)
    | fn f a b =>
      simp only [conv] at h
      simp only [noTree, Bool.and_eq_true] at hn
      split at h
      · rename_i a' b' ha' hb'
        simp only [Option.some.injEq] at h; subst h
        cases hx with
        | fn _ _ _ va vb ha hb hva hvb => exact .fn f a' b' va vb ((mapO_len ha').trans ha) ((mapO_len hb').trans hb) (Lc hn.1 ha' hva) (Lc hn.2 hb' hvb)
      · cases h
    | iface t y => simp only [conv, Option.map_eq_some_iff] at h; obtain ⟨z, hz, rfl⟩ := h; cases hx with | iface _ _ u hu => exact .iface t z u (conv_ren hw n m y z u hm hn hz hu)
    | bool b => simp only [conv, Option.some.injEq] at h; subst h; cases hx; exact .bool b
    | int k i => simp only [conv, Option.some.injEq] at h; subst h; cases hx; exact .int k i
    | str s => simp only [conv, Option.some.injEq] at h; subst h; cases hx; exact .str s
    | raw v => simp only [conv, Option.some.injEq] at h; subst h; cases hx with | raw _ hr => exact .raw _ hr
    | und => simp only [conv, Option.some.injEq] at h; subst h; cases hx; exact .und
    | isl rows =>
      simp only [noTree, List.isEmpty_iff] at hn
      subst hn
      simp only [conv, Option.some.injEq] at h; subst h
      cases hx with
      | isl _ a cap' sz vals hcap hsz hcl ha hv => exact .isl [] a cap' sz vals hcap hsz hcl (.inl rfl) (fun i row hi => by simp at hi)
    | iptr rows r o => cases hn
    | esl =>
      simp only [conv, Option.some.injEq] at h; subst h
      cases hx with
      | esl a => exact .isl [] a 0 0 (fun _ _ => undef) (Nat.le_refl _) (fun i row hi => by simp at hi) (fun i row hi => by simp at hi) (.inl rfl) (fun i row hi => by simp at hi)
    | nsl =>
      simp only [conv, Option.some.injEq] at h; subst h
      cases hx with
      | nsl => exact .isl [] none 0 0 (fun _ _ => undef) (Nat.le_refl _) (fun i row hi => by simp at hi) (fun i row hi => by simp at hi) (.inl rfl) (fun i row hi => by simp at hi)

end Go.X
end
section
/- The calculus X, part 6: a call out of its contract. -/
namespace Go.X
open Go

def shiftφ (C : Ctx) (φ1 : Nat → Loc) : Nat → Loc := fun s => if s < C.L.length then C.φ s else φ1 (s - C.L.length)

theorem shiftφ_lt {C : Ctx} {φ1 : Nat → Loc} {s : Nat} (h : s < C.L.length) : shiftφ C φ1 s = C.φ s := by simp only [shiftφ, h, if_true]
theorem shiftφ_ge {C : Ctx} {φ1 : Nat → Loc} {t : Nat} : shiftφ C φ1 (C.L.length + t) = φ1 t := by
  have h : ¬ C.L.length + t < C.L.length := by omega
  simp only [shiftφ, h, if_false, Nat.add_sub_cancel_left]

theorem convB_alive {L : List Blk} {n : Nat} {m : Ren} {k k' : Blk} (h : convB L n m k = some k') : k'.alive = k.alive := by
  cases k with
  | cells sz rows => simp only [convB, Option.map_eq_some_iff] at h; obtain ⟨l, _, rfl⟩ := h; rfl
  | siter t p => simp only [convB, Option.some.injEq] at h; subst h; rfl
  | tcells ty sz rows => simp only [convB, Option.map_eq_some_iff] at h; obtain ⟨l, _, rfl⟩ := h; rfl
  | map es => cases h
  | lp r l => simp only [convB, Option.map_eq_some_iff] at h; obtain ⟨l, _, rfl⟩ := h; rfl
  | dead => simp only [convB, Option.some.injEq] at h; subst h; rfl
  | unborn => simp only [convB, Option.some.injEq] at h; subst h; rfl
theorem convB_born {L : List Blk} {n : Nat} {m : Ren} {k k' : Blk} (h : convB L n m k = some k') : k'.born = k.born := by
  cases k with
  | cells sz rows => simp only [convB, Option.map_eq_some_iff] at h; obtain ⟨l, _, rfl⟩ := h; rfl
  | siter t p => simp only [convB, Option.some.injEq] at h; subst h; rfl
  | tcells ty sz rows => simp only [convB, Option.map_eq_some_iff] at h; obtain ⟨l, _, rfl⟩ := h; rfl
  | map es => cases h
  | lp r l => simp only [convB, Option.map_eq_some_iff] at h; obtain ⟨l, _, rfl⟩ := h; rfl
  | dead => simp only [convB, Option.some.injEq] at h; subst h; rfl
  | unborn => simp only [convB, Option.some.injEq] at h; subst h; rfl

/-- What a block holds. -/
def InBlk (k : Blk) (x : IV) : Prop := (∃ sz rows, (k = .cells sz rows ∨ ∃ ty, k = .tcells ty sz rows) ∧ ∃ (i j : Nat) (row : List IV), rows[i]? = some row ∧ row[j]? = some x) ∨ ∃ (r : Loop) (l : List IV) (n : Nat), k = .lp r l ∧ l[n]? = some x

theorem cells_conv {C C' : Ctx} {n : Nat} {m : Ren} {s s' sz : Nat} {rows rs : List (List IV)} (hw : C'.w = C.w) (hφ : C'.φ s' = C.φ s)
    (hc : ∀ (x x' : IV) (v : Value) (i j : Nat) (row : List IV), rows[i]? = some row → row[j]? = some x → conv C.L n m x = some x' → VR C x v → VR C' x' v)
    (hrs : mapO (mapO (conv C.L n m)) rows = some rs) (hk : CellsOk C s sz rows) : CellsOk C' s' sz rs := by
  obtain ⟨h1, c, e, fr, h2, hfr, h3, h4⟩ := hk
  refine ⟨by rw [hφ]; exact h1, c, e, fr, by rw [hφ, hw]; exact h2, hfr, by rw [hφ, mapO_len hrs]; exact h3, fun i row hi => ?_⟩
  obtain ⟨row0, h5, h6⟩ := mapO_get hrs i row hi
  obtain ⟨h7, h8⟩ := h4 i row0 h5
  refine ⟨(mapO_len h6).trans h7, fun j y hj => ?_⟩
  obtain ⟨z, h9, h10⟩ := mapO_get h6 j y hj
  obtain ⟨u, h11, h12⟩ := h8 j z h9
  exact ⟨u, by rw [hφ]; exact h11, hc z y u i j row0 h5 h9 h10 h12⟩
/-- A block under other names. -/
theorem convB_ok {C C' : Ctx} {n : Nat} {m : Ren} {s s' : Nat} {k k' : Blk} (hw : C'.w = C.w) (hφ : C'.φ s' = C.φ s)
    (hc : ∀ x x' v, InBlk k x → conv C.L n m x = some x' → VR C x v → VR C' x' v)
    (h : convB C.L n m k = some k') (hk : BlkOk C s k) : BlkOk C' s' k' := by
  cases k with
  | cells sz rows =>
    simp only [convB, Option.map_eq_some_iff] at h; obtain ⟨rs, hrs, rfl⟩ := h
    exact cells_conv hw hφ (fun x x' v i j row h5 h9 => hc x x' v (.inl ⟨sz, rows, .inl rfl, i, j, row, h5, h9⟩)) hrs hk
  | tcells ty sz rows =>
    simp only [convB, Option.map_eq_some_iff] at h; obtain ⟨rs, hrs, rfl⟩ := h
    refine ⟨cells_conv hw hφ (fun x x' v i j row h5 h9 => hc x x' v (.inl ⟨sz, rows, .inr ⟨ty, rfl⟩, i, j, row, h5, h9⟩)) hrs hk.1, ?_⟩
    obtain ⟨_, h1, c, fr, h2⟩ := hk
    exact ⟨by rw [hφ]; exact h1, c, fr, by rw [hφ, hw]; exact h2⟩
  | siter t p => simp only [convB, Option.some.injEq] at h; subst h; exact ⟨by rw [hφ]; exact hk.1, by rw [hφ, hw]; exact hk.2⟩
  | map es => cases h
  | lp r l =>
    simp only [convB, Option.map_eq_some_iff] at h; obtain ⟨l', hl', rfl⟩ := h
    refine ⟨by rw [hφ, hw]; exact hk.1, fun i => ?_⟩
    have h0 := hk.2 i
    rw [List.getD_eq_getElem?_getD] at h0 ⊢
    cases hy : l'[i]? with
    | none =>
      have : l[i]? = none := by rw [List.getElem?_eq_none_iff] at hy ⊢; rw [← mapO_len hl']; exact hy
      rw [this] at h0
      simp only [Option.getD_none] at h0 ⊢
      generalize r.tmps.getD i undef = u at h0 ⊢
      cases h0; exact .und
    | some y =>
      obtain ⟨x, hx, hxy⟩ := mapO_get hl' i y hy
      rw [hx] at h0
      exact hc x y _ (.inr ⟨r, l, i, rfl, hx⟩) hxy h0
  | dead => simp only [convB, Option.some.injEq] at h; subst h; trivial
  | unborn => simp only [convB, Option.some.injEq] at h; subst h; trivial

theorem xcall_sound {E : Env} {C : Ctx} {f : FuncId} {args : List IV} {vs : List Value} {K : IV → List Blk → Prop} (wf : Wf E.g0 C) (sim : Sim C) (hG : E.G C.w)
    (hl : args.length = vs.length) (hargs : ∀ (i : Nat) (x : IV), args[i]? = some x → VR C x (vs.getD i undef)) (h : xcallB E f args C.L K) :
    Bodied E.P f ∧ Calls E.P f vs.toArray C.w fun e w' => ∃ v, e = .returned v ∧ Post E C K v w' := by
  obtain ⟨b, args', hconv, hXT⟩ := h
  obtain ⟨X0, hXt, hXf⟩ : ∃ X0 : Nat → Prop, (b = true → X0 = C.X) ∧ (b = false → X0 = C.own) := by
    cases b
    · exact ⟨C.own, by simp, fun _ => rfl⟩
    · exact ⟨C.X, fun _ => rfl, by simp⟩
  have hX0 : ∀ x, X0 x → C.own x := fun x hx => by
    cases b
    · rw [hXf rfl] at hx; exact hx
    · rw [hXt rfl] at hx; exact .inl hx
  have nomine : ∀ x, ¬ (⟨C.w, C.φ, [], X0⟩ : Ctx).mine x := fun x => by
    rintro ⟨s, k, hk, _⟩; simp at hk
  have wf0 : Wf E.g0 ⟨C.w, C.φ, [], X0⟩ :=
    ⟨fun s t k l hs _ _ _ _ => by simp at hs, fun x h => absurd h (nomine x), fun x _ => nomine x,
      fun x hx => (hX0 x hx).elim (wf.exlo x) (fun hm => mine_lt sim hm), wf.g⟩
  have hargs' : ∀ (i : Nat) (x : IV), args'[i]? = some x → VR ⟨C.w, C.φ, [], X0⟩ x (vs.getD i undef) := fun i y hi => by
    obtain ⟨x, h1, h2⟩ := mapO_get hconv i y hi
    refine conv_sound (C := C) (C' := ⟨C.w, C.φ, [], X0⟩) rfl sim (fun x hx => hx.elim (hX0 x) (fun h => absurd h (nomine x))) fuel _ x y _ ?_ h2 (hargs i x h1)
    intro s k hk
    cases b
    · refine ⟨fun hm => ?_, fun t hm => ?_⟩
      · simp [renNone] at hm
      · simp [renNone] at hm
    · refine ⟨fun _ ha hown => ?_, fun t hm => ?_⟩
      · rcases hown with hx | hx
        · rw [hXt rfl] at hx
          exact wf.apart _ hx ⟨s, k, hk, ha, rfl⟩
        · exact nomine _ hx
      · simp [renFreeze] at hm
  refine ⟨hXT.1, (hXT.2 C.w C.φ _ vs wf0 (fun s k hk => by simp at hk) hG ((mapO_len hconv).trans hl) hargs').mono ?_⟩
  rintro e w' ⟨r, L1, φ1, v, ⟨hnt, r', L1', hr', hL1', hK⟩, rfl, wf1, sim1, ext, hv⟩
  refine ⟨v, rfl, r', C.L ++ L1', shiftφ C φ1, hK, ?_⟩
  have hlen1 := mapO_len hL1'
  -- mine
  have hfresh : ∀ x, (⟨w', φ1, L1, X0⟩ : Ctx).mine x → C.w.heap.size ≤ x := fun x hx =>
    (ext.sub x hx).elim (fun h => absurd h (nomine x)) id
  have getL : ∀ s k, (C.L ++ L1')[s]? = some k → (s < C.L.length ∧ C.L[s]? = some k) ∨ (∃ t k0, s = C.L.length + t ∧ L1[t]? = some k0 ∧ convB L1 fuel (renShift C.L.length) k0 = some k) := fun s k hs => by
    rcases Nat.lt_or_ge s C.L.length with h1 | h1
    · rw [List.getElem?_append_left h1] at hs; exact .inl ⟨h1, hs⟩
    · rw [List.getElem?_append_right h1] at hs
      obtain ⟨k0, h2, h3⟩ := mapO_get hL1' _ k hs
      exact .inr ⟨s - C.L.length, k0, by omega, h2, h3⟩
  have hmine : ∀ x, (⟨w', shiftφ C φ1, C.L ++ L1', C.X⟩ : Ctx).mine x → C.mine x ∨ (⟨w', φ1, L1, X0⟩ : Ctx).mine x := by
    rintro x ⟨s, k, hk, ha, rfl⟩
    rcases getL s k hk with ⟨h1, h2⟩ | ⟨t, k0, rfl, h2, h3⟩
    · left; exact ⟨s, k, h2, ha, congrArg Loc.blk (shiftφ_lt h1).symm⟩
    · right; exact ⟨t, k0, h2, by rw [← convB_alive h3]; exact ha, congrArg Loc.blk (shiftφ_ge (C := C) (φ1 := φ1) (t := t)).symm⟩
  have hext : Ext C ⟨w', shiftφ C φ1, C.L ++ L1', C.X⟩ :=
    ⟨ext.size, fun x hx hm => ext.frame x hx (nomine x), fun x hx => (hmine x hx).imp id (hfresh x), fun s hs => shiftφ_lt hs.lt, fun s hs => by
      obtain ⟨k, h1, h2⟩ := hs
      exact ⟨k, (List.getElem?_append_left (lt_of_get h1)).trans h1, h2⟩, by simp, ext.cap, rfl, ext.os, ext.tape, ext.output⟩
  have hown1 : b = false → ∀ x, (⟨w', shiftφ C φ1, C.L ++ L1', C.X⟩ : Ctx).own x → (⟨w', φ1, L1, X0⟩ : Ctx).own x := by
    rintro rfl x (hx | hx)
    · exact .inl (by rw [hXf rfl]; exact .inl hx)
    · rcases hmine x hx with h1 | h1
      · exact .inl (by rw [hXf rfl]; exact .inr h1)
      · exact .inr h1
  have hren : ∀ s, (⟨w', φ1, L1, X0⟩ : Ctx).born s → ∃ t, renShift C.L.length s = some (some t) ∧ (⟨w', shiftφ C φ1, C.L ++ L1', C.X⟩ : Ctx).born t ∧ shiftφ C φ1 t = φ1 s := fun s hs => by
    obtain ⟨k, h1, h2⟩ := hs
    obtain ⟨k', h3, h4⟩ := mapO_get' hL1' s k h1
    exact ⟨s + C.L.length, rfl, ⟨k', by
      show (C.L ++ L1')[s + C.L.length]? = _
      rw [List.getElem?_append_right (by omega), Nat.add_sub_cancel]; exact h3, by rw [convB_born h4]; exact h2⟩, by rw [Nat.add_comm]; exact shiftφ_ge⟩
  have hvr : ∀ x x' u, (b = true → noTree x = true) → conv L1 fuel (renShift C.L.length) x = some x' → VR ⟨w', φ1, L1, X0⟩ x u →
      VR ⟨w', shiftφ C φ1, C.L ++ L1', C.X⟩ x' u := fun x x' u hx hc hu => by
    cases b
    · refine conv_sound (C := ⟨w', φ1, L1, X0⟩) (C' := ⟨w', shiftφ C φ1, C.L ++ L1', C.X⟩) rfl sim1 (hown1 rfl) fuel _ x x' u ?_ hc hu
      intro s k hk
      refine ⟨fun hm => by simp [renShift] at hm, fun t hm => ⟨fun hb => ?_, ?_⟩⟩
      · obtain ⟨t', h1, h2, h3⟩ := hren s ⟨k, hk, hb⟩
        rw [h1] at hm
        obtain rfl : t' = t := by simpa using hm
        exact h2
      · have h1 : s + C.L.length = t := by simpa [renShift] using hm
        subst h1
        rw [Nat.add_comm]; exact shiftφ_ge
    · exact conv_ren (C := ⟨w', φ1, L1, X0⟩) (C' := ⟨w', shiftφ C φ1, C.L ++ L1', C.X⟩) rfl fuel _ x x' u hren (hx rfl) hc hu
  refine ⟨⟨?_, ?_, ?_, ?_, ?_⟩, ?_, hext, hvr r r' v (fun hb => (hnt hb).1) hr' hv⟩
  · -- inj
    intro s t ks kt hs ht as at_ heq
    rcases getL s ks hs with ⟨h1, h2⟩ | ⟨s0, k0, rfl, h2, h3⟩ <;> rcases getL t kt ht with ⟨h4, h5⟩ | ⟨t0, l0, rfl, h5, h6⟩
    · simp only [shiftφ_lt h1, shiftφ_lt h4] at heq
      exact wf.inj s t ks kt h2 h5 as at_ heq
    · have hlt := mine_lt sim ⟨s, ks, h2, as, rfl⟩
      have hge := hfresh _ ⟨t0, l0, h5, by rw [← convB_alive h6]; exact at_, rfl⟩
      simp only [shiftφ_lt h1, shiftφ_ge] at heq
      rw [heq] at hlt; exact absurd hlt (Nat.not_lt.2 hge)
    · have hlt := mine_lt sim ⟨t, kt, h5, at_, rfl⟩
      have hge := hfresh _ ⟨s0, k0, h2, by rw [← convB_alive h3]; exact as, rfl⟩
      simp only [shiftφ_lt h4, shiftφ_ge] at heq
      rw [← heq] at hlt; exact absurd hlt (Nat.not_lt.2 hge)
    · have := wf1.inj s0 t0 k0 l0 h2 h5 (by rw [← convB_alive h3]; exact as) (by rw [← convB_alive h6]; exact at_) (by simpa only [shiftφ_ge] using heq)
      omega
  · exact fun x hx => (hmine x hx).elim (wf.lo x) (fun h => Nat.le_trans wf.g (hfresh x h))
  · exact fun x hx hm => (hmine x hm).elim (wf.apart x hx) (fun h => by have h1 := wf.exlo x hx; have h2 := hfresh x h; omega)
  · exact fun x hx => Nat.lt_of_lt_of_le (wf.exlo x hx) ext.size
  · exact Nat.le_trans wf.g ext.size
  · -- sim
    intro s k hk
    rcases getL s k hk with ⟨h1, h2⟩ | ⟨t, k0, rfl, h2, h3⟩
    · have h4 := sim s k h2
      by_cases ha : k.alive = true
      · exact h4.mono hext h2 (ext.frame _ (mine_lt sim ⟨s, k, h2, ha, rfl⟩) (nomine _))
      · cases k <;> first | trivial | (exfalso; exact ha rfl)
    · refine convB_ok (C := ⟨w', φ1, L1, X0⟩) (s := t) rfl shiftφ_ge ?_ h3 (sim1 t k0 h2)
      intro x x' u hx hc hu
      refine hvr x x' u (fun hb => ?_) hc hu
      have h5 := (hnt hb).2
      rw [List.all_eq_true] at h5
      have h6 := h5 k0 (List.mem_of_getElem? h2)
      rcases hx with ⟨sz, rows, rfl | ⟨ty, rfl⟩, i, j, row, h7, h8⟩ | ⟨_, _, _, rfl, _⟩
      · simp only [noTreeB, List.all_eq_true] at h6
        exact noTreeL_iff.1 (h6 row (List.mem_of_getElem? h7)) j x h8
      · simp only [noTreeB, List.all_eq_true] at h6
        exact noTreeL_iff.1 (h6 row (List.mem_of_getElem? h7)) j x h8
      · cases h6

theorem putL_get : ∀ (sel : List Nat) (ks L : List Blk) (s : Nat), sel.Nodup → sel.length ≤ ks.length → (∀ t ∈ sel, t < L.length) →
    (putL sel ks L)[s]? = match pos sel s 0 with | some i => ks[i]? | none => L[s]?
  | [], _, _, _, _, _, _ => by simp [putL, pos]
  | t :: sel, [], _, _, _, h, _ => by simp at h
  | t :: sel, k :: ks, L, s, hnd, hl, hlt => by
    obtain ⟨h1, h2⟩ := List.nodup_cons.1 hnd
    have hps : ∀ (l : List Nat) (i : Nat), pos l s (i + 1) = (pos l s i).map (· + 1) := by
      intro l
      induction l with
      | nil => intro i; rfl
      | cons a l ih => intro i; simp only [pos]; split <;> simp [ih]
    rw [putL, putL_get sel ks (L.set t k) s h2 (by simpa using hl) (fun u hu => by rw [List.length_set]; exact hlt u (List.mem_cons_of_mem _ hu))]
    simp only [pos]
    by_cases hs : s = t
    · subst hs
      have hp : pos sel s 0 = none := by
        cases hp : pos sel s 0 with
        | none => rfl
        | some i =>
          obtain ⟨d, _, hd⟩ := pos_some hp
          exact absurd (List.mem_of_getElem? hd) h1
      rw [if_pos rfl, hp]
      simp only
      rw [List.getElem?_set_self (hlt s List.mem_cons_self)]; rfl
    · rw [if_neg hs, hps]
      cases hp : pos sel s 0 with
      | none => simp only [Option.map_none]; rw [List.getElem?_set_ne (Ne.symm hs)]
      | some i => simp
theorem putL_len : ∀ (sel : List Nat) (ks L : List Blk), (putL sel ks L).length = L.length
  | [], ks, L => by cases ks <;> rfl
  | t :: sel, [], L => rfl
  | t :: sel, k :: ks, L => by rw [putL, putL_len]; simp
theorem killL_get : ∀ (dl : List Nat) (L : List Blk) (s : Nat), (killL dl L)[s]? = if s ∈ dl ∧ s < L.length then some .dead else L[s]?
  | [], L, s => by simp [killL]
  | t :: dl, L, s => by
    rw [killL, killL_get dl]
    simp only [List.length_set, List.mem_cons, List.getElem?_set]
    by_cases h1 : s ∈ dl
    · by_cases h2 : s < L.length
      · simp [h1, h2]
      · simp only [h1, h2, and_false, if_false]
        by_cases h3 : t = s
        · subst h3; simp [h2]
        · rw [if_neg h3]
    · by_cases h3 : t = s
      · subst h3
        by_cases h2 : t < L.length
        · simp [h1, h2]
        · simp [h1, h2]
      · simp [h1, h3, Ne.symm h3]
theorem killL_len : ∀ (dl : List Nat) (L : List Blk), (killL dl L).length = L.length
  | [], _ => rfl
  | t :: dl, L => by rw [killL, killL_len]; simp
theorem pos_mem {l : List Nat} {s : Nat} (h : s ∈ l) : ∃ i, pos l s 0 = some i ∧ l[i]? = some s := by
  cases hp : pos l s 0 with
  | none => exact absurd h (pos_none hp)
  | some i => obtain ⟨d, h1, h2⟩ := pos_some hp; exact ⟨i, rfl, by simpa [h1] using h2⟩
theorem pos_get {l : List Nat} (hnd : l.Nodup) {s i : Nat} (h : l[i]? = some s) : pos l s 0 = some i := by
  obtain ⟨j, h1, h2⟩ := pos_mem (List.mem_of_getElem? h)
  have hi := lt_of_get h
  have hj := lt_of_get h2
  rw [List.getElem?_eq_getElem hi] at h
  rw [List.getElem?_eq_getElem hj] at h2
  have heq : l[j] = l[i] := (Option.some.inj h2).trans (Option.some.inj h).symm
  have : j = i := by
    rcases Nat.lt_trichotomy j i with h3 | h3 | h3
    · exact absurd heq (List.pairwise_iff_getElem.1 hnd j i hj hi h3)
    · exact h3
    · exact absurd heq.symm (List.pairwise_iff_getElem.1 hnd i j hi hj h3)
  rw [h1, this]

def backφ (C : Ctx) (k : Nat) (φ1 : Nat → Loc) : Nat → Loc := fun s => if s < C.L.length then C.φ s else φ1 (s - C.L.length + k)

theorem xcallS_sound {E : Env} {C : Ctx} {f : FuncId} {args : List IV} {vs : List Value} {K : IV → List Blk → Prop} (wf : Wf E.g0 C) (sim : Sim C) (hG : E.G C.w)
    (hl : args.length = vs.length) (hargs : ∀ (i : Nat) (x : IV), args[i]? = some x → VR C x (vs.getD i undef)) (h : xcallS E f args C.L K) :
    Bodied E.P f ∧ Calls E.P f vs.toArray C.w fun e w' => ∃ v, (e = .returned v ∧ Post E C K v w') ∨ (e = .panicked [{ v, recovered := false }] ∧ Post E C E.pan v w') := by
  obtain ⟨sel, dl, b, args', L0, hnd, hsel, hbd, hconv, hL0, hXT⟩ := h
  have hk0 : L0.length = sel.length := by rw [mapO_len hL0]; simp
  have hselt : ∀ s ∈ sel, s < C.L.length := fun s hs => by obtain ⟨⟨k, h1, _⟩, _⟩ := hsel s hs; exact lt_of_get h1
  let φ0 : Nat → Loc := fun i => C.φ (sel.getD i 0)
  let bs : Nat → Prop := fun x => ∃ s ∈ sel, (C.φ s).blk = x
  let bd : Nat → Prop := fun x => ∃ s ∈ dl, ∃ k, C.L[s]? = some k ∧ k.alive = true ∧ (C.φ s).blk = x
  let X0 : Nat → Prop := fun x => C.X x ∨ (b = false ∧ C.mine x ∧ ¬ bs x ∧ ¬ bd x)
  let C0 : Ctx := ⟨C.w, φ0, L0, X0⟩
  -- a block that is handed
  have get0 : ∀ i k, L0[i]? = some k → ∃ s k0, sel[i]? = some s ∧ C.L[s]? = some k0 ∧ k0.alive = true ∧ convB C.L fuel (renSel sel dl b) k0 = some k ∧ φ0 i = C.φ s := fun i k hi => by
    obtain ⟨k0, h1, h2⟩ := mapO_get hL0 i k hi
    rw [List.getElem?_map, Option.map_eq_some_iff] at h1
    obtain ⟨s, hs, rfl⟩ := h1
    obtain ⟨⟨k1, h3, h4⟩, _⟩ := hsel s (List.mem_of_getElem? hs)
    have e1 : C.L.getD s .dead = k1 := by rw [List.getD_eq_getElem?_getD, h3]; rfl
    rw [e1] at h2
    exact ⟨s, k1, hs, h3, h4, h2, by show C.φ (sel.getD i 0) = _; rw [List.getD_eq_getElem?_getD, hs]; rfl⟩
  have mine0 : ∀ x, C0.mine x → C.mine x ∧ bs x := by
    rintro x ⟨i, k, hk, ha, rfl⟩
    obtain ⟨s, k0, h1, h2, h3, h4, h5⟩ := get0 i k hk
    have hb : (C0.φ i).blk = (C.φ s).blk := congrArg Loc.blk h5
    exact ⟨⟨s, k0, h2, h3, hb.symm⟩, s, List.mem_of_getElem? h1, hb.symm⟩
  have bs_mine : ∀ x, bs x → C.mine x := by
    rintro x ⟨s, hs, rfl⟩
    obtain ⟨⟨k, h1, h2⟩, _⟩ := hsel s hs
    exact ⟨s, k, h1, h2, rfl⟩
  have own0 : ∀ x, C0.own x → C.own x := fun x hx => hx.elim (fun h => h.elim .inl (fun h => .inr h.2.1)) (fun h => .inr (mine0 x h).1)
  have wf0 : Wf E.g0 C0 := by
    refine ⟨fun i j k l hi hj ha hb heq => ?_, fun x hx => wf.lo x (mine0 x hx).1, fun x hx hm => ?_, fun x hx => ?_, wf.g⟩
    · obtain ⟨s, k0, h1, h2, h3, h4, h5⟩ := get0 i k hi
      obtain ⟨t, l0, h6, h7, h8, h9, h10⟩ := get0 j l hj
      have hst : s = t := wf.inj s t k0 l0 h2 h7 h3 h8 (by rw [← h5, ← h10]; exact heq)
      subst hst
      have := (pos_get hnd h1).symm.trans (pos_get hnd h6)
      exact Option.some.inj this
    · rcases hx with hx | ⟨_, _, hx, _⟩
      · exact wf.apart x hx (mine0 x hm).1
      · exact hx (mine0 x hm).2
    · rcases hx with hx | ⟨_, hx, _⟩
      · exact wf.exlo x hx
      · exact mine_lt sim hx
  have ren0 : RenOk C C0 (renSel sel dl b) := by
    intro s k hk
    refine ⟨fun hm ha hown => ?_, fun t hm => ?_⟩
    · have hns : s ∉ sel := by
        intro hs
        obtain ⟨i, h1, _⟩ := pos_mem hs
        unfold renSel at hm
        rw [h1] at hm; cases hm
      rcases hown with (hx | ⟨hb, _, _, hx⟩) | hm0
      · exact wf.apart _ hx ⟨s, k, hk, ha, rfl⟩
      · refine hx ⟨s, ?_, k, hk, ha, rfl⟩
        unfold renSel at hm
        split at hm
        · cases hm
        · subst hb
          simp only [Bool.false_or] at hm
          split at hm
          · rename_i hc; simpa using hc
          · cases hm
      · obtain ⟨_, t, ht, heq⟩ := mine0 _ hm0
        obtain ⟨⟨k1, h1, h2⟩, _⟩ := hsel t ht
        exact hns (wf.inj t s k1 k h1 hk h2 ha heq ▸ ht)
    · unfold renSel at hm
      split at hm
      · rename_i i hp
        simp only [Option.some.injEq] at hm; subst hm
        obtain ⟨d, h1, h2⟩ := pos_some hp
        have h2' : sel[i]? = some s := by rw [h1]; simpa using h2
        have hget : (sel.map fun s => C.L.getD s .dead)[i]? = some k := by
          rw [List.getElem?_map, h2']
          show some (C.L.getD s .dead) = _
          rw [List.getD_eq_getElem?_getD, hk]; rfl
        obtain ⟨k', h3, h4⟩ := mapO_get' hL0 i k hget
        refine ⟨fun hb => ⟨k', h3, by rw [convB_born h4]; exact hb⟩, ?_⟩
        show C.φ (sel.getD i 0) = _
        rw [List.getD_eq_getElem?_getD, h2']; rfl
      · split at hm <;> cases hm
  have sim0 : Sim C0 := fun i k hi => by
    obtain ⟨s, k0, h1, h2, h3, h4, h5⟩ := get0 i k hi
    exact convB_ok (C := C) (C' := C0) (s := s) (s' := i) rfl h5 (fun x x' u _ hc hu => conv_sound (C := C) (C' := C0) rfl sim own0 fuel _ x x' u ren0 hc hu) h4 (sim s k0 h2)
  have hargs' : ∀ (i : Nat) (x : IV), args'[i]? = some x → VR C0 x (vs.getD i undef) := fun i y hi => by
    obtain ⟨x, h1, h2⟩ := mapO_get hconv i y hi
    exact conv_sound (C := C) (C' := C0) rfl sim own0 fuel _ x y _ ren0 h2 (hargs i x h1)
  refine ⟨hXT.1, (hXT.2 C.w φ0 X0 vs wf0 sim0 hG ((mapO_len hconv).trans hl) hargs').mono ?_⟩
  rintro e w' ⟨r, L1, φ1, v, wf1, sim1, ext, hv, hR⟩
  have main : ∀ K' : IV → List Blk → Prop, Back sel dl b C.L K' r L1 → Post E C K' v w' := by
    rintro K' ⟨hnt, r', L1', hr', hL1', hK⟩
    let C1 : Ctx := ⟨w', φ1, L1, X0⟩
    let nL := killL dl (putL sel L1' C.L) ++ L1'.drop sel.length
    let C' : Ctx := ⟨w', backφ C sel.length φ1, nL, C.X⟩
    have hlen1 : L1'.length = L1.length := mapO_len hL1'
    have hle : sel.length ≤ L1'.length := by rw [hlen1, ← hk0]; exact ext.len
    have φlt : ∀ s, s < C.L.length → C'.φ s = C.φ s := fun s hs => by show (if s < C.L.length then _ else _) = _; rw [if_pos hs]
    have φge : ∀ t, C'.φ (C.L.length + t) = φ1 (sel.length + t) := fun t => by
      show (if C.L.length + t < C.L.length then _ else _) = _
      rw [if_neg (by omega)]; congr 1; omega
    have φsel : ∀ i s, sel[i]? = some s → φ1 i = C.φ s := fun i s hs => by
      obtain ⟨⟨k1, h3, h4⟩, _⟩ := hsel s (List.mem_of_getElem? hs)
      have hget : (sel.map fun s => C.L.getD s .dead)[i]? = some k1 := by
        rw [List.getElem?_map, hs]
        show some (C.L.getD s .dead) = _
        rw [List.getD_eq_getElem?_getD, h3]; rfl
      obtain ⟨k', h5, h6⟩ := mapO_get' hL0 i k1 hget
      have hb : C0.born i := ⟨k', h5, by
        have h7 : k'.alive = true := by rw [convB_alive h6]; exact h4
        cases k' <;> first | rfl | cases h7⟩
      rw [show φ1 i = C0.φ i from ext.slot i hb]
      show C.φ (sel.getD i 0) = _
      rw [List.getD_eq_getElem?_getD, hs]; rfl
    have hkl : (killL dl (putL sel L1' C.L)).length = C.L.length := by rw [killL_len, putL_len]
    -- where a block of the new list comes from
    have getL : ∀ s k, nL[s]? = some k → (s < C.L.length ∧ s ∉ sel ∧ s ∉ dl ∧ C.L[s]? = some k) ∨ (k = .dead) ∨
        (∃ i k0, L1[i]? = some k0 ∧ convB L1 fuel (renBack sel C.L.length) k0 = some k ∧ C'.φ s = φ1 i ∧ ((s < C.L.length ∧ sel[i]? = some s) ∨ (sel.length ≤ i ∧ s = C.L.length + (i - sel.length)))) := fun s k hs => by
      rcases Nat.lt_or_ge s C.L.length with h1 | h1
      · rw [List.getElem?_append_left (by rw [hkl]; exact h1), killL_get] at hs
        split at hs
        · exact .inr (.inl (Option.some.inj hs).symm)
        · rename_i hd
          rw [putL_len] at hd
          rw [putL_get sel L1' C.L s hnd hle hselt] at hs
          cases hp : pos sel s 0 with
          | none =>
            rw [hp] at hs
            exact .inl ⟨h1, pos_none hp, fun h => hd ⟨h, h1⟩, hs⟩
          | some i =>
            rw [hp] at hs
            obtain ⟨d, h2, h3⟩ := pos_some hp
            have h3' : sel[i]? = some s := by rw [h2]; simpa using h3
            obtain ⟨k0, h4, h5⟩ := mapO_get hL1' i k hs
            exact .inr (.inr ⟨i, k0, h4, h5, by rw [φlt s h1, φsel i s h3'], .inl ⟨h1, h3'⟩⟩)
      · rw [List.getElem?_append_right (by rw [hkl]; exact h1), hkl, List.getElem?_drop] at hs
        obtain ⟨k0, h4, h5⟩ := mapO_get hL1' _ k hs
        refine .inr (.inr ⟨_, k0, h4, h5, ?_, .inr ⟨by omega, by omega⟩⟩)
        have e1 : s = C.L.length + (s - C.L.length) := by omega
        rw [e1, φge]; congr 1; omega
    -- mine
    have fresh1 : ∀ x, C1.mine x → (C.mine x ∧ bs x) ∨ C.w.heap.size ≤ x := fun x hx => (ext.sub x hx).imp (mine0 x) id
    have hmine : ∀ x, C'.mine x → (C.mine x ∧ ¬ bs x ∧ ¬ bd x) ∨ C1.mine x := by
      rintro x ⟨s, k, hk, ha, rfl⟩
      rcases getL s k hk with ⟨h1, h2, h3, h4⟩ | h1 | ⟨i, k0, h1, h2, h3, _⟩
      · left
        rw [φlt s h1]
        refine ⟨⟨s, k, h4, ha, rfl⟩, ?_, ?_⟩
        · rintro ⟨t, ht, heq⟩
          obtain ⟨⟨k1, h5, h6⟩, _⟩ := hsel t ht
          exact h2 (wf.inj t s k1 k h5 h4 h6 ha heq ▸ ht)
        · rintro ⟨t, ht, k1, h5, h6, heq⟩
          exact h3 (wf.inj t s k1 k h5 h4 h6 ha heq ▸ ht)
      · subst h1; cases ha
      · right; exact ⟨i, k0, h1, by rw [← convB_alive h2]; exact ha, congrArg Loc.blk h3.symm⟩
    have hext : Ext C C' := by
      refine ⟨ext.size, fun x hx hm => ext.frame x hx (fun h => hm (mine0 x h).1), fun x hx => ?_, fun s hs => φlt s hs.lt, fun s hs => ?_, ?_, ext.cap, rfl, ext.os, ext.tape, ext.output⟩
      · rcases hmine x hx with h1 | h1
        · exact .inl h1.1
        · exact (fresh1 x h1).imp And.left id
      · have hlt := hs.lt
        obtain ⟨k, h1, h2⟩ := hs
        show ∃ k', nL[s]? = some k' ∧ k'.born = true
        rw [List.getElem?_append_left (by rw [hkl]; exact hlt), killL_get, putL_len]
        split
        · exact ⟨_, rfl, rfl⟩
        · rw [putL_get sel L1' C.L s hnd hle hselt]
          cases hp : pos sel s 0 with
          | none => exact ⟨k, h1, h2⟩
          | some i =>
            obtain ⟨d, h3, h4⟩ := pos_some hp
            have h4' : sel[i]? = some s := by rw [h3]; simpa using h4
            obtain ⟨⟨k1, h5, h6⟩, _⟩ := hsel s (List.mem_of_getElem? h4')
            have hget : (sel.map fun s => C.L.getD s .dead)[i]? = some k1 := by
              rw [List.getElem?_map, h4']
              show some (C.L.getD s .dead) = _
              rw [List.getD_eq_getElem?_getD, h5]; rfl
            obtain ⟨k', h7, h8⟩ := mapO_get' hL0 i k1 hget
            obtain ⟨k2, h9, h10⟩ := ext.bo i ⟨k', h7, by
              have h11 : k'.alive = true := by rw [convB_alive h8]; exact h6
              cases k' <;> first | rfl | cases h11⟩
            obtain ⟨k3, h12, h13⟩ := mapO_get' hL1' i k2 h9
            exact ⟨k3, h12, by rw [convB_born h13]; exact h10⟩
      · show C.L.length ≤ nL.length
        simp only [nL, List.length_append, hkl]; omega
    have own1 : b = false → ∀ x, C'.own x → C1.own x := by
      rintro hb x (hx | hx)
      · exact .inl (.inl hx)
      · rcases hmine x hx with ⟨h1, h2, h3⟩ | h1
        · exact .inl (.inr ⟨hb, h1, h2, h3⟩)
        · exact .inr h1
    have hren : ∀ i, C1.born i → ∃ t, renBack sel C.L.length i = some (some t) ∧ C'.born t ∧ C'.φ t = φ1 i := fun i hi => by
      obtain ⟨k, h1, h2⟩ := hi
      obtain ⟨k', h3, h4⟩ := mapO_get' hL1' i k h1
      by_cases hik : i < sel.length
      · obtain ⟨s, hs⟩ : ∃ s, sel[i]? = some s := ⟨_, List.getElem?_eq_getElem hik⟩
        have hslt := hselt s (List.mem_of_getElem? hs)
        refine ⟨s, ?_, ⟨k', ?_, by rw [convB_born h4]; exact h2⟩, by rw [φlt s hslt, φsel i s hs]⟩
        · show some (some (if i < sel.length then sel.getD i 0 else _)) = _
          rw [if_pos hik, List.getD_eq_getElem?_getD, hs]; rfl
        · show nL[s]? = _
          rw [List.getElem?_append_left (by rw [hkl]; exact hslt), killL_get, if_neg (fun h => (hsel s (List.mem_of_getElem? hs)).2 h.1), putL_get sel L1' C.L s hnd hle hselt, pos_get hnd hs]
          exact h3
      · refine ⟨C.L.length + (i - sel.length), ?_, ⟨k', ?_, by rw [convB_born h4]; exact h2⟩, by rw [φge]; congr 1; omega⟩
        · show some (some (if i < sel.length then _ else _)) = _
          rw [if_neg hik]
        · show nL[_]? = _
          rw [List.getElem?_append_right (by rw [hkl]; omega), hkl, List.getElem?_drop]
          have e1 : sel.length + (C.L.length + (i - sel.length) - C.L.length) = i := by omega
          rw [e1]; exact h3
    have hvr : ∀ x x' u, (b = true → noTree x = true) → conv L1 fuel (renBack sel C.L.length) x = some x' → VR C1 x u → VR C' x' u := fun x x' u hx hc hu => by
      cases hb : b with
      | false =>
        refine conv_sound (C := C1) (C' := C') rfl sim1 (own1 hb) fuel _ x x' u ?_ hc hu
        intro s k hk
        refine ⟨fun hm => by simp [renBack] at hm, fun t hm => ⟨fun hbn => ?_, ?_⟩⟩
        · obtain ⟨t', h1, h2, h3⟩ := hren s ⟨k, hk, hbn⟩
          rw [h1] at hm
          obtain rfl : t' = t := by simpa using hm
          exact h2
        · have ht : t = if s < sel.length then sel.getD s 0 else C.L.length + (s - sel.length) := by
            have : renBack sel C.L.length s = some (some (if s < sel.length then sel.getD s 0 else C.L.length + (s - sel.length))) := rfl
            rw [this] at hm
            simpa using hm.symm
          by_cases hik : s < sel.length
          · rw [if_pos hik] at ht
            obtain ⟨q, hq⟩ : ∃ q, sel[s]? = some q := ⟨_, List.getElem?_eq_getElem hik⟩
            have : sel.getD s 0 = q := by rw [List.getD_eq_getElem?_getD, hq]; rfl
            rw [this] at ht; subst ht
            rw [φlt t (hselt t (List.mem_of_getElem? hq)), ← φsel s t hq]
          · rw [if_neg hik] at ht; subst ht
            rw [φge]; show φ1 _ = φ1 s; congr 1; omega
      | true => exact conv_ren (C := C1) (C' := C') rfl fuel _ x x' u hren (hx hb) hc hu
    refine ⟨r', nL, backφ C sel.length φ1, hK, ⟨?_, ?_, ?_, ?_, ?_⟩, ?_, hext, hvr r r' v (fun hb => (hnt hb).1) hr' hv⟩
    · -- inj
      intro s t ks kt hs ht as at_ heq
      have heq' : (C'.φ s).blk = (C'.φ t).blk := heq
      rcases getL s ks hs with ⟨h1, h2, h3, h4⟩ | h1 | ⟨i, k0, h1, h2, h3, h4⟩ <;> rcases getL t kt ht with ⟨g1, g2, g3, g4⟩ | g1 | ⟨j, l0, g1, g2, g3, g4⟩
      · rw [φlt s h1, φlt t g1] at heq'
        exact wf.inj s t ks kt h4 g4 as at_ heq'
      · subst g1; cases at_
      · exfalso
        rw [φlt s h1, g3] at heq'
        have hm1 : C1.mine (φ1 j).blk := ⟨j, l0, g1, by rw [← convB_alive g2]; exact at_, rfl⟩
        rcases fresh1 _ hm1 with ⟨_, u, hu, hue⟩ | hf
        · obtain ⟨⟨k1, h5, h6⟩, _⟩ := hsel u hu
          exact h2 (wf.inj u s k1 ks h5 h4 h6 as (hue.trans heq'.symm) ▸ hu)
        · have := mine_lt sim ⟨s, ks, h4, as, rfl⟩
          rw [heq'] at this; omega
      · subst h1; cases as
      · subst h1; cases as
      · subst h1; cases as
      · exfalso
        rw [φlt t g1, h3] at heq'
        have hm1 : C1.mine (φ1 i).blk := ⟨i, k0, h1, by rw [← convB_alive h2]; exact as, rfl⟩
        rcases fresh1 _ hm1 with ⟨_, u, hu, hue⟩ | hf
        · obtain ⟨⟨k1, h5, h6⟩, _⟩ := hsel u hu
          exact g2 (wf.inj u t k1 kt h5 g4 h6 at_ (hue.trans heq') ▸ hu)
        · have := mine_lt sim ⟨t, kt, g4, at_, rfl⟩
          rw [← heq'] at this; omega
      · subst g1; cases at_
      · rw [h3, g3] at heq'
        have hij := wf1.inj i j k0 l0 h1 g1 (by rw [← convB_alive h2]; exact as) (by rw [← convB_alive g2]; exact at_) heq'
        subst hij
        rcases h4 with ⟨h5, h6⟩ | ⟨h5, h6⟩ <;> rcases g4 with ⟨g5, g6⟩ | ⟨g5, g6⟩
        · rw [h6] at g6; exact Option.some.inj g6
        · have := lt_of_get h6; omega
        · have := lt_of_get g6; omega
        · omega
    · exact fun x hx => (hmine x hx).elim (fun h => wf.lo x h.1) (fun h => wf1.lo x h)
    · intro x hx hm
      rcases hmine x hm with h1 | h1
      · exact wf.apart x hx h1.1
      · rcases fresh1 x h1 with h2 | h2
        · exact wf.apart x hx h2.1
        · have := wf.exlo x hx; omega
    · exact fun x hx => Nat.lt_of_lt_of_le (wf.exlo x hx) ext.size
    · exact Nat.le_trans wf.g ext.size
    · -- sim
      intro s k hk
      rcases getL s k hk with ⟨h1, h2, h3, h4⟩ | h1 | ⟨i, k0, h1, h2, h3, h4⟩
      · have h5 := sim s k h4
        by_cases ha : k.alive = true
        · refine h5.mono hext h4 (ext.frame _ (mine_lt sim ⟨s, k, h4, ha, rfl⟩) (fun hm => ?_))
          obtain ⟨_, u, hu, hue⟩ := mine0 _ hm
          obtain ⟨⟨k1, h6, h7⟩, _⟩ := hsel u hu
          exact h2 (wf.inj u s k1 k h6 h4 h7 ha hue ▸ hu)
        · cases k <;> first | trivial | (exfalso; exact ha rfl)
      · subst h1; trivial
      · refine convB_ok (C := C1) (C' := C') (s := i) (s' := s) rfl h3 ?_ h2 (sim1 i k0 h1)
        intro x x' u hx hc hu
        refine hvr x x' u (fun hb => ?_) hc hu
        have h5 := (hnt hb).2
        rw [List.all_eq_true] at h5
        have h6 := h5 k0 (List.mem_of_getElem? h1)
        rcases hx with ⟨sz, rows, rfl | ⟨ty, rfl⟩, i', j, row, h7, h8⟩ | ⟨_, _, _, rfl, _⟩
        · simp only [noTreeB, List.all_eq_true] at h6
          exact noTreeL_iff.1 (h6 row (List.mem_of_getElem? h7)) j x h8
        · simp only [noTreeB, List.all_eq_true] at h6
          exact noTreeL_iff.1 (h6 row (List.mem_of_getElem? h7)) j x h8
        · cases h6
  rcases hR with ⟨hR, he⟩ | ⟨hR, he⟩
  · exact ⟨v, .inl ⟨he, main K hR⟩⟩
  · exact ⟨v, .inr ⟨he, main E.pan hR⟩⟩

end Go.X
end
