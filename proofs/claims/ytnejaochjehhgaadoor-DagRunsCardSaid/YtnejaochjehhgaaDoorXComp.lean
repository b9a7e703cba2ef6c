/- The calculus X, part 3: from the model's code to the short form. -/
import Derived.Test.YtnejaochjehhgaaDoorXForm
import Derived.Still
set_option linter.unusedVariables false
set_option linter.unusedSimpArgs false
set_option linter.unusedSectionVars false
namespace Go.X
open Go

def ofVal : Value → Option IV
  | .bool b => some (.bool b)
  | .int k n => some (.int k n)
  | .string s => some (.str s.data.toList)
  | .slice none 0 0 => some .nsl
  | .tuple vs => if vs.size = 0 then some .und else none
  | .agg _ => none
  | v => some (.raw v)

def opd : Operand → Option Opd
  | .tmp t => some (.t t)
  | .const v => (ofVal v).map .c
  | .global g => some (.g g)
  | .func f => some (.f f)

def zeroCells (P : Program) (t : TypeId) : Option (List IV) := (P.info? t).bind fun i => i.zero.bind fun z => mapO ofVal z.cells.toList

def isAggT (P : Program) (t : TypeId) : Option Bool :=
  match P.underlying t with
  | some (.struct _) => some true
  | some (.array _ _) => some true
  | some _ => some false
  | none => none

def sizeT (P : Program) (t : TypeId) : Option Nat := (P.info? t).map (·.size)
def bytesT (P : Program) (t : TypeId) : Option Nat := (P.info? t).map (·.bytes)

def opdO : Option Operand → Option (Option Opd)
  | none => some none
  | some x => (opd x).map some

def compCall (P : Program) (c : Call) : Option XO :=
  match c.callee with
  | .value f => (opd f).bind fun f' => (mapO opd c.args.toList).map fun as => .call f' as
  | .builtin .len => match c.args.toList, (c.argTypes[0]?).bind P.underlying with
    | [x], some .string => (opd x).map .lenS
    | [x], some (.slice _) => (opd x).map .len
    | _, _ => none
  | .builtin .append => match c.args.toList, (c.argTypes[0]?).bind P.underlying, (c.argTypes[1]?).bind P.underlying with
    | [s, x], some (.slice e), some (.slice _) => (opd s).bind fun s' => (opd x).bind fun x' => (sizeT P e).bind fun n => (bytesT P e).bind fun m => (zeroCells P e).bind fun z => if 0 < m ∧ 0 < n ∧ z.length = n then some (.append n m s' x') else none
    | [s, x], some (.slice e), some .string => (opd s).bind fun s' => (opd x).bind fun x' => (sizeT P e).bind fun n => (bytesT P e).bind fun m => (zeroCells P e).bind fun z => if 0 < m ∧ 0 < n ∧ z.length = n then some (.append n m s' x') else none
    | _, _, _ => none
  | .builtin .max => match c.args.toList with
    | [x, y] => (opd x).bind fun x' => (opd y).map fun y' => .max2 x' y'
    | _ => none
  | .builtin .min => match c.args.toList with
    | [x, y] => (opd x).bind fun x' => (opd y).map fun y' => .min2 x' y'
    | _ => none
  | _ => none

def eqType (P : Program) (op : BinOp) (t : TypeId) : Bool :=
  match op with
  | .eql | .neq => match P.underlying t with
    | some (.int _) | some .string => true
    | _ => false
  | _ => true

/-- 'nil' of its type. -/
def isNilC (P : Program) (t : TypeId) (y : Operand) : Option Nat :=
  match P.underlying t, y with
  | some (.slice _), .const (.slice none 0 0) => some 0
  | some (.interface _), .const .nilIface => some 1
  | some (.func ..), .const .nilFunc => some 2
  | _, _ => none

def isNought : Option Operand → Bool
  | some (.const (.int _ 0)) => true
  | _ => false

def compSlice (P : Program) (t : TypeId) (x : Operand) (lo hi mx : Option Operand) : Option XO :=
  match mx with
  | none => match P.underlying t with
    | some .string => (opd x).bind fun x' => (opdO lo).bind fun l => (opdO hi).map fun h => .sliceS x' l h
    | some (.slice e) => (sizeT P e).bind fun n => if n = 0 then none else (opd x).bind fun x' => (opdO lo).bind fun l => (opdO hi).map fun h => .slice n x' l h
    | _ => none
  | some m => match P.underlying t with
    | some (.slice e) => (sizeT P e).bind fun _ => if isNought (some m) && isNought hi && lo.isNone then (opd x).map .slice0 else none
    | _ => none

def compOp (P : Program) : Op → Option XO
  | .move x => (opd x).map .mov
  | .assign x => (opd x).map .mov
  | .pick c a b => (opd c).bind fun c' => (opd a).bind fun a' => (opd b).map fun b' => .pick c' a' b'
  | .alloc t => (zeroCells P t).map .alloc
  | .box _ x => (opd x).map .box
  | .build t ps => match P.underlying t with
    | some (.struct fs) => (zeroCells P t).bind fun z => (mapO (fun (p : Nat × Operand) => (fs[p.1]?).bind fun f => (sizeT P f.type).bind fun n => (opd p.2).map fun x => (f.offset, n, x)) ps.toList).bind fun qs =>
        if fs.toList.all (fun f => (P.info? f.type).isSome) then some (.build z qs) else none
    | some (.array _ e) => (zeroCells P t).bind fun z => (sizeT P e).bind fun n => (mapO (fun (p : Nat × Operand) => (opd p.2).map fun x => (p.1 * n, n, x)) ps.toList).map fun qs => .build z qs
    | _ => none
  | .buildSlice t len ps => match P.underlying t with
    | some (.slice e) => (sizeT P e).bind fun n => (zeroCells P e).bind fun z => (mapO (fun (p : Nat × Operand) => (opd p.2).map fun x => (p.1, x)) ps.toList).bind fun qs =>
        if len * n ≤ 2 ^ 24 ∧ 0 < n ∧ z.length = n then some (.bslice n z len qs) else none
    | _ => none
  | .load t a => (isAggT P t).bind fun g => (sizeT P t).bind fun n => (opd a).map fun a' => if g then .loadN n a' else .load1 a'
  | .store t a x => (isAggT P t).bind fun _ => (sizeT P t).bind fun n => (opd a).bind fun a' => (opd x).map fun x' => .store n a' x'
  | .nilCheck x => (opd x).map .nilck
  | .binOp op t x y _ => if eqType P op t then (opd x).bind fun x' => (opd y).map fun y' => .bin op x' y' else
    match op, P.underlying t with
    | .eql, some .bool => (opd x).bind fun x' => (opd y).map fun y' => .eqB false x' y'
    | .neq, some .bool => (opd x).bind fun x' => (opd y).map fun y' => .eqB true x' y'
    | .eql, _ => (isNilC P t y).bind fun k => (opd x).map (.isNil k false)
    | .neq, _ => (isNilC P t y).bind fun k => (opd x).map (.isNil k true)
    | _, _ => none
  | .unOp op _ x => (opd x).map fun x' => .un op x'
  | .convert s d x => match P.underlying s, P.underlying d with
    | some (.int _), some (.int k) => (opd x).map (.cvInt k)
    | some (.int _), some .string => (opd x).map .cvIntStr
    | some .string, some .string => (opd x).map .cvStr
    | _, _ => none
  | .fieldAddr s x f => match P.underlying s with
    | some (.struct fs) => (fs[f]?).bind fun g => (sizeT P g.type).bind fun n => if n = 0 then none else (opd x).map (.fldA g.offset)
    | _ => none
  | .field s x f => match P.underlying s with
    | some (.struct fs) => (fs[f]?).bind fun g => (sizeT P g.type).bind fun n => (isAggT P g.type).bind fun b => (opd x).map fun x' => .fld g.offset n b x'
    | _ => none
  | .indexAddr t x i => match P.underlying t with
    | some (.slice e) => (sizeT P e).bind fun n => if n = 0 then none else (opd x).bind fun x' => (opd i).map fun i' => .idxS n x' i'
    | some (.array m e) => (sizeT P e).bind fun n => (opd x).bind fun x' => (opd i).map fun i' => .idxA m n x' i'
    | _ => none
  | .index t x i => match P.underlying t with
    | some .string => (opd x).bind fun x' => (opd i).map fun i' => .idx x' i'
    | _ => none
  | .slice t x lo hi mx => compSlice P t x lo hi mx
  | .makeFunc f a b => (mapO opd a.toList).bind fun a' => (mapO opd b.toList).map fun b' => .mkfn f a' b'
  | .makeSlice t l c => match P.underlying t with
    | some (.slice e) => (sizeT P e).bind fun n => (zeroCells P e).bind fun z => (bytesT P e).bind fun m => (opd l).bind fun l' => (opd c).bind fun c' =>
        if 0 < n ∧ z.length = n then some (.mkslice z m l' c') else none
    | _ => none
  | .extract t i => (opd t).map fun t' => .ext t' i
  | .call c => compCall P c
  | .range t x => match P.underlying t with
    | some .string => (opd x).map .rng
    | _ => none
  | .next t s => if s then (opd t).map .nxt else none
  | _ => none

def dstOk (N : Nat) : Option Tmp → Bool
  | none => true
  | some d => decide (d < N)

def compOper (P : Program) (N : Nat) (ops : List Oper) (o : Oper) : Option XOper :=
  (compOp P o.op).bind fun x =>
    if dstOk N o.dst then
      match o.guard with
      | none => some ⟨o.dst, x, none⟩
      | some (j, b) => ((ops[j]?).bind (·.dst)).map fun t => ⟨o.dst, x, some (t, b)⟩
    else none

def Opd.us : Opd → List Nat
  | .t n => [n]
  | _ => []
def usL (l : List Opd) : List Nat := l.flatMap Opd.us
def usO : Option Opd → List Nat
  | none => []
  | some x => x.us
/-- The slots that an operation reads. -/
def XO.us : XO → List Nat
  | .mov x | .box x | .load1 x | .loadN _ x | .nilck x | .un _ x | .cvInt _ x | .cvIntStr x | .cvStr x | .fldA _ x | .fld _ _ _ x | .slice0 x | .len x | .lenS x | .isNil _ _ x | .rng x | .nxt x | .ext x _ => x.us
  | .pick c x y => c.us ++ x.us ++ y.us
  | .alloc _ => []
  | .build _ ps => ps.flatMap fun p => p.2.2.us
  | .bslice _ _ _ ps => ps.flatMap fun p => p.2.us
  | .store _ x y | .bin _ x y | .eqB _ x y | .idxS _ x y | .idxA _ _ x y | .idx x y | .mkslice _ _ x y | .append _ _ x y | .max2 x y | .min2 x y => x.us ++ y.us
  | .slice _ x lo hi | .sliceS x lo hi => x.us ++ usO lo ++ usO hi
  | .mkfn _ a b => usL a ++ usL b
  | .call f as | .pcall f as => f.us ++ usL as
/-- 0: slots alone · 1: reads our blocks · 2: lays one · 3: writes one · 4: all else. -/
def XO.kd : XO → Nat
  | .mov _ | .pick .. | .build .. | .bin .. | .eqB .. | .un .. | .cvInt .. | .cvIntStr _ | .cvStr _ | .fldA .. | .fld .. | .idxA .. | .idx ..
  | .sliceS .. | .slice0 .. | .mkfn .. | .nilck _ | .len _ | .lenS _ | .max2 .. | .min2 .. | .ext .. => 0
  | .load1 _ | .loadN .. | .idxS .. | .slice .. | .pcall .. => 1
  | .alloc _ | .box _ => 2
  | .store .. => 3
  | _ => 4
def XOper.rds (o : XOper) : List Nat := o.op.us ++ match o.guard with | none => [] | some (t, _) => [t]
def ninO (d : Option Nat) (l : List Nat) : Bool := match d with | none => true | some d => !l.contains d
def neO (d d' : Option Nat) : Bool := match d, d' with | some d, some d' => !(d == d') | _, _ => true
def kdOk (a b : Nat) : Bool := a < 4 && b < 4 && (a == 0 || b == 0 || (a == 1 && b < 3))
/-- It makes no difference which of the two is first ('o' is the first in the text). -/
def xap (o p : XOper) : Bool := ninO o.dst p.rds && ninO p.dst o.rds && neO o.dst p.dst && kdOk o.op.kd p.op.kd

/-- Those that wait for number i. -/
def xwaits (ops : Array Oper) (i : Nat) : List Nat :=
  (List.range ops.size).foldl (fun acc j => if ((ops[j]?).map fun o => o.after.any fun e => Region.binds .any e && acc.contains e.on).getD false then j :: acc else acc) [i]
def xfree (ops : Array Oper) (xs : List XOper) (listed : Array Bool) (k : Nat) : Bool :=
  let W := xwaits ops k
  W.all (fun j => !(listed.getD j true)) && (List.range ops.size).all fun j => j == k || listed.getD j true || W.contains j || (match xs[k]?, xs[j]? with | some o, some p => xap o p | _, _ => false)
def xlexF (ops : Array Oper) (xs : List XOper) : Nat → Nat → Array Bool → Bool
  | 0, _, listed => (Region.ready .any ops listed).isEmpty
  | f + 1, k, listed => (Region.ready .any ops listed).contains k && (xfree ops xs listed k && xlexF ops xs f (k + 1) (listed.setIfInBounds k true))
def xlexB (ops : Array Oper) (xs : List XOper) : Bool := xs.all (fun o => o.op.kd < 4) && xlexF ops xs ops.size 0 (Array.replicate ops.size false)
def XO.toP : XO → XO
  | .call f as => .pcall f as
  | o => o
def XOper.toP (o : XOper) : XOper := { o with op := o.op.toP }
/-- An operation that reads alone. -/
def XO.quiet : XO → Bool
  | .mov _ | .pick .. | .build .. | .load1 _ | .loadN .. | .bin .. | .eqB .. | .un .. | .cvInt .. | .cvIntStr _ | .cvStr _ | .fldA .. | .fld .. | .idxS .. | .idxA .. | .idx ..
  | .slice .. | .sliceS .. | .slice0 .. | .mkfn .. | .nilck _ | .len _ | .lenS _ | .max2 .. | .min2 .. | .ext .. => true
  | _ => false
def compDraw (P : Program) (N : Nat) (ops : Array Oper) : XC :=
  if P.follows .mixedOrders then
    match mapO (compOper P N ops.toList) ops.toList with
    | some xs => if xs.all (fun o => o.op.quiet) && xlexB ops xs then .draw xs else if xlexB ops (xs.map XOper.toP) then .drawE (xs.map XOper.toP) else .bad
    | none => .bad
  else .bad

def labels : Code → List Nat
  | .seq a b => labels a ++ labels b
  | .label l => [l]
  | _ => []

def XC.find : XC → Nat → Option XC
  | .seq a b, l => match a.find l with
    | some r => some (.seq r b)
    | none => b.find l
  | .label l', l => if l' == l then some .skip else none
  | _, _ => none

def mkLabs (b : XC) : List Nat → XLabs
  | [] => .nil
  | l :: r => match b.find l with
    | some c => .cons l c (mkLabs b r)
    | none => mkLabs b r

def comp (P : Program) (N : Nat) : Code → Option XC
  | .skip => some .skip
  | .region _ ops false => match mapO (compOper P N ops.toList) ops.toList with
    | some xs => some (.ops xs)
    | none => some .bad
  | .region _ ops true => some (compDraw P N ops)
  | .seq a b => (comp P N a).bind fun a' => (comp P N b).map fun b' => .seq a' b'
  | .cond c t e => (opd c).bind fun c' => (comp P N t).bind fun t' => (comp P N e).map fun e' => .cond c' t' e'
  | .block id b => (comp P N b).map (.block id)
  | .loop b => (comp P N b).map .loop
  | .exit id => some (.exit id)
  | .scope b => (comp P N b).map fun b' => .scope b' (mkLabs b' (labels b))
  | .label l => some (.label l)
  | .goto l => some (.goto l)
  | .ret => some .ret
  | .rangeFunc g ps a b => match opd g, comp P N a, comp P N b with
    | some g', some a', some b' => some (.rngF g' N ps.toList a' b')
    | _, _, _ => some .bad
  | _ => none

end Go.X
