/- The calculus X, part 2a: the code in a short form. -/
import Derived.Test.YtnejaochjehhgaaDoorXBase
set_option linter.unusedVariables false
set_option linter.unusedSimpArgs false
set_option linter.unusedSectionVars false
namespace Go.X
open Go

inductive Opd where
  | t (n : Nat)
  | c (v : IV)
  | g (n : Nat)
  | f (n : Nat)
  deriving Inhabited

inductive XO where
  | mov (x : Opd)
  | pick (c a b : Opd)
  | alloc (zero : List IV)
  | box (x : Opd)
  | build (zero : List IV) (parts : List (Nat × Nat × Opd))
  | bslice (sz : Nat) (zero : List IV) (len : Nat) (parts : List (Nat × Opd))
  | load1 (a : Opd)
  | loadN (n : Nat) (a : Opd)
  | store (n : Nat) (a x : Opd)
  | nilck (x : Opd)
  | bin (op : BinOp) (x y : Opd)
  | eqB (neg : Bool) (x y : Opd)
  | un (op : UnOp) (x : Opd)
  | cvInt (k : IntKind) (x : Opd)
  | cvIntStr (x : Opd)
  | cvStr (x : Opd)
  | fldA (off : Nat) (x : Opd)
  | fld (off n : Nat) (agg : Bool) (x : Opd)
  | idxS (n : Nat) (x i : Opd)
  | idxA (n sz : Nat) (x i : Opd)
  | idx (x i : Opd)
  | slice (n : Nat) (x : Opd) (lo hi : Option Opd)
  | sliceS (x : Opd) (lo hi : Option Opd)
  | slice0 (x : Opd)
  | mkfn (f : Fn) (first cap : List Opd)
  | mkslice (zero : List IV) (bytes : Nat) (len cap : Opd)
  | len (x : Opd)
  | lenS (x : Opd)
  | append (sz bytes : Nat) (s x : Opd)
  | max2 (x y : Opd)
  | min2 (x y : Opd)
  | call (f : Opd) (args : List Opd)
  | pcall (f : Opd) (args : List Opd)
  | isNil (kd : Nat) (neg : Bool) (x : Opd)
  | rng (x : Opd)
  | nxt (t : Opd)
  | ext (t : Opd) (i : Nat)
  deriving Inhabited

structure XOper where
  dst : Option Nat
  op : XO
  guard : Option (Nat × Bool)
  deriving Inhabited

mutual
inductive XC where
  | skip
  | ops (l : List XOper)
  | draw (l : List XOper)
  | drawE (l : List XOper)
  | bad
  | rngF (g : Opd) (n : Nat) (ps : List Nat) (asg body : XC)
  | seq (a b : XC)
  | cond (c : Opd) (t e : XC)
  | block (id : Nat) (b : XC)
  | loop (b : XC)
  | exit (id : Nat)
  | scope (b : XC) (ls : XLabs)
  | label (l : Nat)
  | goto (l : Nat)
  | ret
inductive XLabs where
  | nil
  | cons (l : Nat) (c : XC) (r : XLabs)
end
instance : Inhabited XC := ⟨.skip⟩

inductive XE where
  | normal
  | exit (id : Nat)
  | goto (l : Nat)
  | ret
  deriving DecidableEq

def mapO {α β : Type} (f : α → Option β) : List α → Option (List β)
  | [] => some []
  | x :: r => match f x with
    | some y => match mapO f r with
      | some ys => some (y :: ys)
      | none => none
    | none => none


end Go.X
