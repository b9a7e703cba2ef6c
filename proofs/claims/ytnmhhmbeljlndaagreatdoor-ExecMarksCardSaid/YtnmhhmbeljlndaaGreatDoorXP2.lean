/- Parts of the proof: XBase, XForm, XComp, XRun, XCtx, XConv, XCall, XOps, XOps2, XOps3, XOps4, XOps5, XOps6, XNil. -/
import Derived.Test.YtnmhhmbeljlndaaGreatDoorXP1
import Derived.CallsIn
import Derived.Below
import Derived.Laws.ComplexArith
import Derived.Still
import Derived.Laws.Build
import Derived.Laws.StructEq
import Derived.Laws.AppendOwn
import Derived.Laws.Strings
import Derived.Laws.Concat
import Derived.Laws.Cover1
import Derived.WalkSpells
set_option linter.unusedVariables false
set_option linter.unusedSimpArgs false
set_option linter.unusedSectionVars false
section
namespace Go.X
open Go
theorem oms {α β} {f:α→β} {o:Option α} {b:β}:o.map f=some b↔∃a,o=some a∧f a=b:=Option.map_eq_some_iff
theorem obs {α β} {b:β} {o:Option α} {f:α→Option β}:o.bind f=some b↔∃a,o=some a∧f a=some b:=Option.bind_eq_some_iff
theorem lla {α} {a b:List α}:(a++b).length=a.length+b.length:=List.length_append
theorem lls {α} {l:List α} {i:Nat} {a:α}:(l.set i a).length=l.length:=List.length_set
theorem llc {α} {l:List α} {a:α}:(a::l).length=l.length+1:=List.length_cons
theorem lln {α}:([]:List α).length=0:=List.length_nil
theorem sij {α} {a b:α}:(some a=some b)=(a=b):=Option.some.injEq a b

inductive IV where
 | bool (b:Bool)
 | int (k:IntKind) (n:Int)
 | str (s:List UInt8)
 | raw (v:Value)
 | und
 | ptr (s row off:Nat)
 | sl (s off len cap:Nat)
 | isl (rows:List (List IV))
 | iptr (rows:List (List IV)) (row off:Nat)
 | esl
 | nsl
 | agg (cs:List IV)
 | tup (cs:List IV)
 | fn (f:Fn) (first captured:List IV)
 | iface (t:TypeId) (v:IV)
 | mp (s:Nat)
 | yld (s:Nat)
 deriving Inhabited
inductive Blk where
 | cells (sz:Nat) (rows:List (List IV))
 | siter (s:List UInt8) (pos:Nat)
 | tcells (ty sz:Nat) (rows:List (List IV))
 | map (es:List (IV × IV × Nat)) (clock:Nat)
 | mit (m:Nat)
 | lp (r:Loop) (l:List IV)
 | dead
 | unborn
 deriving Inhabited
def Blk.alive:Blk->Bool
 | .dead | .unborn=>false
 | _=>true
def Blk.born:Blk->Bool
 | .unborn=>false
 | _=>true
structure Loc where
 blk:Nat
 base:Nat
 sz:Nat
structure Ctx where
 w:World
 φ:Nat->Loc
 L:List Blk
 X:Nat->Prop
def Ctx.mine (C:Ctx) (b:Nat):Prop:=∃s k,C.L[s]?=some k/\k.alive=true/\(C.φ s).blk=b
def Ctx.born (C:Ctx) (s:Nat):Prop:=∃k,C.L[s]?=some k/\k.born=true
theorem Ctx.born.lt {C:Ctx} {s:Nat} (h:C.born s):s<C.L.length:=by
 obtain ⟨k,hk,_⟩:=h
 exact (List.getElem?_eq_some_iff.1 hk).1
def Ctx.own (C:Ctx) (b:Nat):Prop:=C.X b\/C.mine b
def closed:IV->Bool
 | .ptr .. | .sl .. | .mp _ | .yld _=>false
 | .agg cs | .tup cs=>closedL cs
 | .fn _ a b=>closedL a&&closedL b
 | .iface _ v=>closed v
 | _=>true
 where
 closedL:List IV->Bool
  | []=>true
  | x::r=>closed x&&closedL r
def zJ:IV->Bool
 | .agg _ | .tup _ | .und=>false
 | .raw v=>match v with | .agg _ | .tuple _=>false | _=>true
 | _=>true
def zdK:Value->Bool
 | .agg _=>false
 | _=>true
inductive VR (C:Ctx):IV->Value->Prop
 | bool (b:Bool):VR C (.bool b) (.bool b)
 | int (k:IntKind) (n:Int):VR C (.int k n) (.int k n)
 | str (s:List UInt8):VR C (.str s) (.string ⟨s.toArray⟩)
 | raw (v:Value) (h:zdK v=true):VR C (.raw v) v
 | und:VR C .und undef
 | ptr (s r o:Nat) (hs:C.born s) :
   VR C (.ptr s r o) (.pointer (some ⟨(C.φ s).blk,(C.φ s).base+r*(C.φ s).sz+o,none⟩))
 | sl (s off len cap:Nat) (a:Option Addr) (cap':Nat) (hs:C.born s) (hl:len<=cap) (hc:cap<=cap')
   (ha:cap'=0\/(a=some ⟨(C.φ s).blk,(C.φ s).base+off*(C.φ s).sz,none⟩/\
    ∃c e fr,C.w.heap[(C.φ s).blk]?=some (.cells c e fr)/\(C.φ s).base+(off+cap')*(C.φ s).sz<=c.size)) (hm:cap'<=9223372036854775807) :
   VR C (.sl s off len cap) (.slice a len cap')
 | isl (rows:List (List IV)) (a:Option Addr) (cap' sz:Nat) (vals:Nat->Nat->Value) (hcap:rows.length<=cap')
   (hsz:∀(i:Nat) (row:List IV),rows[i]?=some row->row.length=sz)
   (hcl:∀(i:Nat) (row:List IV),rows[i]?=some row->closed.closedL row=true)
   (ha:rows=[]\/∃b o,a=some ⟨b,o,none⟩/\b<C.w.heap.size/\¬C.own b/\
    ∀(i:Nat) (row:List IV),rows[i]?=some row->∀(j:Nat) (x:IV),row[j]?=some x->C.w.cell? ⟨b,o+i*sz+j,none⟩=some (vals i j))
   (hv:∀(i:Nat) (row:List IV),rows[i]?=some row->∀(j:Nat) (x:IV),row[j]?=some x->VR C x (vals i j)) :
   VR C (.isl rows) (.slice a rows.length cap')
 | iptr (rows:List (List IV)) (r o b base sz:Nat) (vals:Nat->Nat->Value)
   (hsz:∀(i:Nat) (row:List IV),rows[i]?=some row->row.length=sz)
   (hcl:∀(i:Nat) (row:List IV),rows[i]?=some row->closed.closedL row=true)
   (hb:b<C.w.heap.size) (hown:¬C.own b)
   (ha:∀(i:Nat) (row:List IV),rows[i]?=some row->∀(j:Nat) (x:IV),row[j]?=some x->C.w.cell? ⟨b,base+i*sz+j,none⟩=some (vals i j))
   (hv:∀(i:Nat) (row:List IV),rows[i]?=some row->∀(j:Nat) (x:IV),row[j]?=some x->VR C x (vals i j)) :
   VR C (.iptr rows r o) (.pointer (some ⟨b,base+r*sz+o,none⟩))
 | esl (a:Option Addr):VR C .esl (.slice a 0 0)
 | nsl:VR C .nsl (.slice none 0 0)
 | agg (cs:List IV) (vs:List Value) (hl:cs.length=vs.length) (hv:∀i x,cs[i]?=some x->VR C x (vs.getD i undef)) :
   VR C (.agg cs) (.agg vs.toArray)
 | tup (cs:List IV) (vs:List Value) (hl:cs.length=vs.length) (hv:∀i x,cs[i]?=some x->VR C x (vs.getD i undef)) :
   VR C (.tup cs) (.tuple vs.toArray)
 | fn (f:Fn) (as bs:List IV) (va vb:List Value) (ha:as.length=va.length) (hb:bs.length=vb.length)
   (hva:∀i x,as[i]?=some x->VR C x (va.getD i undef)) (hvb:∀i x,bs[i]?=some x->VR C x (vb.getD i undef)) :
   VR C (.fn f as bs) (.func f va.toArray vb.toArray)
 | iface (t:TypeId) (x:IV) (v:Value) (h:VR C x v):VR C (.iface t x) (.iface t v)
 | mp (s:Nat) (hs:C.born s):VR C (.mp s) (.map (some (C.φ s).blk))
 | yld (s:Nat) (hs:C.born s):VR C (.yld s) (.func (.yield (C.φ s).blk) #[] #[])
structure Ext (C C':Ctx):Prop where
 size:C.w.heap.size<=C'.w.heap.size
 frame:∀b,b<C.w.heap.size->¬C.mine b->C'.w.heap[b]?=C.w.heap[b]?
 sub:∀b,C'.mine b->C.mine b\/C.w.heap.size<=b
 slot:∀s,C.born s->C'.φ s=C.φ s
 bo:∀s,C.born s->C'.born s
 len:C.L.length<=C'.L.length
 cap:∀(b:Nat) c e fr,C.w.heap[b]?=some (.cells c e fr)->∃c' e' fr',C'.w.heap[b]?=some (.cells c' e' fr')/\c'.size=c.size
 ex:C'.X=C.X
 os:C'.w.os=C.w.os
 tape:C'.w.tape=C.w.tape
 output:C'.w.output=C.w.output
theorem Ext.refl (C:Ctx):Ext C C:=
 ⟨Nat.le_refl _,fun _ _ _=>rfl,fun _ h=>.inl h,fun _ _=>rfl,fun _ h=>h,Nat.le_refl _,fun _ c e fr h=>⟨c,e,fr,h,rfl⟩,rfl,rfl,rfl,rfl⟩
theorem Ext.trans {A B C:Ctx} (h:Ext A B) (k:Ext B C):Ext A C where
 size:=Nat.le_trans h.size k.size
 frame:=fun b hb hm=>(k.frame b (Nat.lt_of_lt_of_le hb h.size) (fun hB=>(h.sub b hB).elim hm (fun hle=>absurd hb (Nat.not_lt.2 hle)))).trans (h.frame b hb hm)
 sub:=fun b hC=>(k.sub b hC).elim (h.sub b) (fun hle=>.inr (Nat.le_trans h.size hle))
 slot:=fun s hs=>(k.slot s (h.bo s hs)).trans (h.slot s hs)
 bo:=fun s hs=>k.bo s (h.bo s hs)
 len:=Nat.le_trans h.len k.len
 cap:=fun b c e fr hc=>by
  obtain ⟨c1,e1,f1,h1,s1⟩:=h.cap b c e fr hc
  obtain ⟨c2,e2,f2,h2,s2⟩:=k.cap b c1 e1 f1 h1
  exact ⟨c2,e2,f2,h2,s2.trans s1⟩
 ex:=k.ex.trans h.ex
 os:=k.os.trans h.os
 tape:=k.tape.trans h.tape
 output:=k.output.trans h.output
theorem cell_of_heap {w w':World} {b:Nat} (h:w'.heap[b]?=w.heap[b]?) (o:Nat):w'.cell? ⟨b,o,none⟩=w.cell? ⟨b,o,none⟩:=by
 simp only [World.cell?,h]
theorem Ext.own {C C':Ctx} (h:Ext C C') {b:Nat} (hb:b<C.w.heap.size) (hn:¬C.own b):¬C'.own b:=by
 rintro (hx | hm)
 ·exact hn (.inl (by rw [<-h.ex];exact hx))
 ·rcases h.sub b hm with h1 | h1
  ·exact hn (.inr h1)
  ·omega
theorem Ext.heap {C C':Ctx} (h:Ext C C') {b:Nat} (hb:b<C.w.heap.size) (hn:¬C.own b):C'.w.heap[b]?=C.w.heap[b]?:=
 h.frame b hb (fun hm=>hn (.inr hm))
theorem VR.mono {C C':Ctx} (h:Ext C C') {x:IV} {v:Value} (hx:VR C x v):VR C' x v:=by
 induction hx with
 | bool b=>exact .bool b
 | int k n=>exact .int k n
 | str s=>exact .str s
 | raw v h=>exact .raw v h
 | und=>exact .und
 | ptr s r o hs=>rw [<-h.slot s hs];exact .ptr s r o (h.bo s hs)
 | sl s off len cap a cap' hs hl hc ha hm=>
  refine .sl s off len cap a cap' (h.bo s hs) hl hc ?_ hm
  rcases ha with h0 | ⟨ha,c,e,fr,hh,hle⟩
  ·exact .inl h0
  ·obtain ⟨c',e',fr',hh',hs'⟩:=h.cap _ c e fr hh
   rw [h.slot s hs]
   exact .inr ⟨ha,c',e',fr',hh',by omega⟩
 | isl rows a cap' sz vals hcap hsz hcl ha hv ih=>
  refine .isl rows a cap' sz vals hcap hsz hcl ?_ ih
  rcases ha with h0 | ⟨b,o,ha,hb,hn,hc⟩
  ·exact .inl h0
  ·exact .inr ⟨b,o,ha,Nat.lt_of_lt_of_le hb h.size,h.own hb hn,fun i row hi j x hj=>by rw [cell_of_heap (h.heap hb hn)];exact hc i row hi j x hj⟩
 | iptr rows r o b base sz vals hsz hcl hb hown ha hv ih=>
  exact .iptr rows r o b base sz vals hsz hcl (Nat.lt_of_lt_of_le hb h.size) (h.own hb hown)
   (fun i row hi j x hj=>by rw [cell_of_heap (h.heap hb hown)];exact ha i row hi j x hj) ih
 | esl a=>exact .esl a
 | nsl=>exact .nsl
 | agg cs vs hl hv ih=>exact .agg cs vs hl ih
 | tup cs vs hl hv ih=>exact .tup cs vs hl ih
 | fn f as bs va vb ha hb hva hvb iha ihb=>exact .fn f as bs va vb ha hb iha ihb
 | iface t x v hv ih=>exact .iface t x v ih
 | mp s hs=>rw [<-h.slot s hs];exact .mp s (h.bo s hs)
 | yld s hs=>rw [<-h.slot s hs];exact .yld s (h.bo s hs)
def frOk (tc:Bool) (n:Nat) (fr:Nat × Nat):Prop:=fr=(0,0)\/(tc=true/\n<=fr.1)
theorem z0f (tc:Bool) (n:Nat):frOk tc n (0,0):=.inl rfl
theorem z9R {tc:Bool} {n:Nat} {fr:Nat × Nat} (h:frOk tc n fr) {i:Nat} (hi:i<n):¬(fr.1<=i/\i<fr.2):=by
 rcases h with rfl | ⟨_,h⟩
 ·simp
 ·omega
def ZX (tc:Bool) (C:Ctx) (s sz:Nat) (rows:List (List IV)):Prop:=(C.φ s).sz=sz/\∃c e fr,C.w.heap[(C.φ s).blk]?=some (.cells c e fr)/\frOk tc c.size fr/\
   (C.φ s).base+rows.length*sz<=c.size/\
   ∀(i:Nat) (row:List IV),rows[i]?=some row->row.length=sz/\∀j x,row[j]?=some x->∃v,c[(C.φ s).base+i*sz+j]?=some v/\VR C x v
def TyOk (C:Ctx) (s ty:Nat):Prop:=(C.φ s).base=0/\∃c fr,C.w.heap[(C.φ s).blk]?=some (.cells c ty fr)
def keyV:IV->Option Value
 | .int k n=>some (.int k n)
 | .str s=>some (.string ⟨s.toArray⟩)
 | _=>none
def zhx (C:Ctx) (s:Nat) (es:List (IV × IV × Nat)) (clock:Nat):Prop:=∃ms:Array MapEntry,C.w.heap[(C.φ s).blk]?=some (.map ms clock)/\ms.size=es.length/\
 ∀(i:Nat) (e:IV × IV × Nat),es[i]?=some e->∃m,ms[i]?=some m/\keyV e.1=some m.key/\VR C e.2.1 m.val/\m.born=e.2.2
def wH (C:Ctx) (s:Nat):Blk->Prop
 | .cells sz rows=>ZX false C s sz rows
 | .tcells ty sz rows=>ZX true C s sz rows/\TyOk C s ty
 | .siter t pos=>(C.φ s).base=0/\C.w.heap[(C.φ s).blk]?=some (.stringIter ⟨t.toArray⟩ pos)
 | .map es c=>zhx C s es c
 | .mit m=>(C.φ s).base=0/\C.born m/\∃since last,C.w.heap[(C.φ s).blk]?=some (.mapIter (some (C.φ m).blk) since #[] last)
 | .lp r l=>C.w.heap[(C.φ s).blk]?=some (.loop r)/\∀n,VR C (l.getD n .und) (r.tmps.getD n undef)
 | .dead=>True
 | .unborn=>True
def Sim (C:Ctx):Prop:=∀s k,C.L[s]?=some k->wH C s k
structure Wf (g0:Nat) (C:Ctx):Prop where
 inj:∀s t k l,C.L[s]?=some k->C.L[t]?=some l->k.alive=true->l.alive=true->(C.φ s).blk=(C.φ t).blk->s=t
 lo:∀b,C.mine b->g0<=b
 apart:∀b,C.X b->¬C.mine b
 exlo:∀b,C.X b->b<C.w.heap.size
 g:g0<=C.w.heap.size
theorem yP {C:Ctx} (hs:Sim C) {b:Nat} (h:C.mine b):b<C.w.heap.size:=by
 obtain ⟨s,k,hk,ha,rfl⟩:=h
 have:=hs s k hk
 cases k with
 | cells sz rows=>obtain ⟨_,c,e,fr,hh,_⟩:=this;exact (Array.getElem?_eq_some_iff.1 hh).1
 | siter t pos=>exact (Array.getElem?_eq_some_iff.1 this.2).1
 | tcells ty sz rows=>obtain ⟨_,_,c,fr,hh⟩:=this;exact (Array.getElem?_eq_some_iff.1 hh).1
 | map es c=>obtain ⟨ms,hh,_⟩:=this;exact (Array.getElem?_eq_some_iff.1 hh).1
 | mit m=>obtain ⟨_,_,s1,l1,hh⟩:=this;exact (Array.getElem?_eq_some_iff.1 hh).1
 | lp r l=>exact (Array.getElem?_eq_some_iff.1 this.1).1
 | dead=>cases ha
 | unborn=>cases ha
def cellsOf:IV->List IV
 | .agg cs=>cs
 | x=>[x]
theorem VR.cells {C:Ctx} {x:IV} {v:Value} (h:VR C x v) :
  (cellsOf x).length=v.cells.size/\∀(i:Nat) (y:IV),(cellsOf x)[i]?=some y->∃u,v.cells[i]?=some u/\VR C y u:=by
 have one:∀{x:IV} {v:Value},VR C x v->v.cells=#[v]->cellsOf x=[x]->
   (cellsOf x).length=v.cells.size/\∀(i:Nat) (y:IV),(cellsOf x)[i]?=some y->∃u,v.cells[i]?=some u/\VR C y u:=by
  intro x v h hv hx
  rw [hv,hx]
  refine ⟨rfl,fun i y hi=>?_⟩
  cases i with
  | zero=>simp at hi;subst hi;exact ⟨v,rfl,h⟩
  | succ i=>simp at hi
 cases h with
 | agg cs vs hl hv=>
  refine ⟨by simpa [cellsOf,Value.cells] using hl,fun i y hi=>?_⟩
  have:=hv i y hi
  have hlt:i<vs.length:=by rw [<-hl];exact (List.getElem?_eq_some_iff.1 hi).1
  refine ⟨vs.getD i undef,?_,this⟩
  simp [Value.cells,List.getD,hlt]
 | raw v h=>
  refine one (.raw v h) ?_ rfl
  cases v<;>first | rfl | cases h
 | bool b=>exact one (.bool b) rfl rfl
 | int k n=>exact one (.int k n) rfl rfl
 | str s=>exact one (.str s) rfl rfl
 | und=>exact one .und rfl rfl
 | ptr s r o hs=>exact one (.ptr s r o hs) rfl rfl
 | sl s off len cap a cap' hs hl hc ha hm=>exact one (.sl s off len cap a cap' hs hl hc ha hm) rfl rfl
 | isl rows a cap' sz vals hcap hsz hcl ha hv=>exact one (.isl rows a cap' sz vals hcap hsz hcl ha hv) rfl rfl
 | iptr rows r o b base sz vals hsz hcl hb hown ha hv=>exact one (.iptr rows r o b base sz vals hsz hcl hb hown ha hv) rfl rfl
 | esl a=>exact one (.esl a) rfl rfl
 | nsl=>exact one .nsl rfl rfl
 | tup cs vs hl hv=>exact one (.tup cs vs hl hv) rfl rfl
 | fn f as bs va vb ha hb hva hvb=>exact one (.fn f as bs va vb ha hb hva hvb) rfl rfl
 | iface t x v hv=>exact one (.iface t x v hv) rfl rfl
 | mp s hs=>exact one (.mp s hs) rfl rfl
 | yld s hs=>exact one (.yld s hs) rfl rfl
end Go.X
end
section
namespace Go.X
open Go

inductive RU where
 | re
 | im
 | toInt (k:IntKind)
 deriving Inhabited
def z3W:RU->Value->Option IV
 | .re,.complex k a _=>some (.raw (.float k a))
 | .im,.complex k _ b=>some (.raw (.float k b))
 | .toInt k,.float s b=>(floatToIntVal s b k).map (.int k)
 | _,_=>none
def WO (op : BinOp) : Value -> Value -> Option IV
  | .float k a, .float k' b => if k = k' then match op with
      | .add => (floatBits .add k a b).map fun r => .raw (.float k r)
      | .sub => (floatBits .sub k a b).map fun r => .raw (.float k r)
      | .mul => (floatBits .mul k a b).map fun r => .raw (.float k r)
      | .quo => (floatBits .quo k a b).map fun r => .raw (.float k r)
      | .eql => some (.bool (k.format.order a b == some .eq))
      | .neq => some (.bool (k.format.order a b != some .eq))
      | .lss => some (.bool (k.format.order a b == some .lt))
      | .leq => some (.bool (k.format.order a b == some .lt || k.format.order a b == some .eq))
      | .gtr => some (.bool (k.format.order a b == some .gt))
      | .geq => some (.bool (k.format.order a b == some .gt || k.format.order a b == some .eq))
      | _ => none
    else none
  | .complex k a b, .complex k' c d => if k = k' then match op with
      | .add => (cSumBits .add k a b c d).map fun r => .raw (.complex k r.1 r.2)
      | .mul => if k = .f64 then (cMulBits a b c d).map fun r => .raw (.complex .f64 r.1 r.2) else none
      | .eql => some (.bool ((k.format.order a c == some .eq) && (k.format.order b d == some .eq)))
      | _ => none
    else none
  | _, _ => none
def z7s:Value->Option Value
 | .float k b=>some (.float k (Op.negFloat k b))
 | _=>none
inductive Opd where
 | t (n:Nat)
 | c (v:IV)
 | g (n:Nat)
 | f (n:Nat)
 deriving Inhabited
inductive XX where
 | panic
 | mkif (t:Nat)
 | strB (ty:Nat)
 | bStr
 | rStr
 | slId
 | eqA (neg:Bool) (ks:List Nat)
 | eqP (neg:Bool)
 | allocT (ty:Nat) (zero:List IV)
 | appT (ty bytes:Nat)
 | sdata
 | ustr (ty:Nat)
 | toU (ty n:Nat)
 | ofU (ty n:Nat)
 | tas (t:Nat)
 | ru (op:RU)
 | itof (f:FloatKind)
 | cpx
 | mmake
 | mlook (st:Bool) (zero:IV) (ok:Bool)
 | mset (st:Bool)
 | mdel (st:Bool)
 | ment (st:Bool) (zero:IV)
 | msto
 | copy (sz:Nat)
 | sl3 (sz:Nat)
 | sla (n:Nat)
 | mrng
 | mnxt
 deriving Inhabited
inductive XO where
 | mov (x:Opd)
 | pick (c a b:Opd)
 | alloc (zero:List IV)
 | box (x:Opd)
 | build (zero:List IV) (parts:List (Nat × Nat × Opd))
 | bslice (sz:Nat) (zero:List IV) (len:Nat) (parts:List (Nat × Opd))
 | load1 (a:Opd)
 | loadN (n:Nat) (a:Opd)
 | store (n:Nat) (a x:Opd)
 | nilck (x:Opd)
 | bin (op:BinOp) (x y:Opd)
 | eqB (neg:Bool) (x y:Opd)
 | un (op:UnOp) (x:Opd)
 | cvInt (k:IntKind) (x:Opd)
 | cvIntStr (x:Opd)
 | cvStr (x:Opd)
 | fldA (off:Nat) (x:Opd)
 | fld (off n:Nat) (agg:Bool) (x:Opd)
 | idxS (n:Nat) (x i:Opd)
 | idxA (n sz:Nat) (x i:Opd)
 | idx (x i:Opd)
 | slice (n:Nat) (x:Opd) (lo hi:Option Opd)
 | sliceS (x:Opd) (lo hi:Option Opd)
 | slice0 (x:Opd)
 | mkfn (f:Fn) (first cap:List Opd)
 | mkslice (zero:List IV) (bytes:Nat) (len cap:Opd)
 | len (x:Opd)
 | lenS (x:Opd)
 | append (sz bytes:Nat) (s x:Opd)
 | max2 (x y:Opd)
 | min2 (x y:Opd)
 | call (f:Opd) (args:List Opd)
 | pcall (f:Opd) (args:List Opd)
 | isNil (kd:Nat) (neg:Bool) (x:Opd)
 | rng (x:Opd)
 | nxt (t:Opd)
 | ext (t:Opd) (i:Nat)
 | ex (k:XX) (xs:List Opd)
 deriving Inhabited
structure zk where
 dst:Option Nat
 op:XO
 guard:Option (Nat × Bool)
 deriving Inhabited
mutual
inductive XC where
 | skip
 | ops (l:List zk)
 | draw (l:List zk)
 | drawE (l:List zk)
 | drawR (l:List (zk × List Nat × Bool))
 | bad
 | rngF (g:Opd) (n:Nat) (ps:List Nat) (asg body:XC)
 | seq (a b:XC)
 | cond (c:Opd) (t e:XC)
 | block (id:Nat) (b:XC)
 | loop (b:XC)
 | exit (id:Nat)
 | scope (b:XC) (ls:z1k)
 | label (l:Nat)
 | goto (l:Nat)
 | ret
inductive z1k where
 | nil
 | cons (l:Nat) (c:XC) (r:z1k)
end
instance : Inhabited XC:=⟨.skip⟩
inductive XE where
 | normal
 | exit (id:Nat)
 | goto (l:Nat)
 | ret
 deriving DecidableEq
def mapO {α β:Type} (f:α->Option β):List α->Option (List β)
 | []=>some []
 | x::r=>match f x with
  | some y=>match mapO f r with
   | some ys=>some (y::ys)
   | none=>none
  | none=>none
end Go.X
end
section
namespace Go.X
open Go

def z9I:Value->Option IV
 | .bool b=>some (.bool b)
 | .int k n=>some (.int k n)
 | .string s=>some (.str s.data.toList)
 | .slice none 0 0=>some .nsl
 | .tuple vs=>if vs.size=0 then some .und else none
 | .agg _=>none
 | v=>some (.raw v)
def opd:Operand->Option Opd
 | .tmp t=>some (.t t)
 | .const v=>(z9I v).map .c
 | .global g=>some (.g g)
 | .func f=>some (.f f)
def zeroCells (P:Program) (t:TypeId):Option (List IV):=(P.info? t).bind fun i=>i.zero.bind fun z=>mapO z9I z.cells.toList
def vZ (P:Program) (t:TypeId):Option Bool:=
 match P.underlying t with
 | some (.struct _)=>some true
 | some (.array _ _)=>some true
 | some _=>some false
 | none=>none
def Z4 (P:Program) (t:TypeId):Option Nat:=(P.info? t).map (·.size)
def vY (P:Program) (t:TypeId):Option Nat:=(P.info? t).map (·.bytes)
def opdO:Option Operand->Option (Option Opd)
 | none=>some none
 | some x=>(opd x).map some
def isU8 (P:Program) (t:TypeId):Bool:=match P.underlying t with
 | some (.int .u8)=>true
 | _=>false
def zbY (P:Program) (t:TypeId):Bool:=match P.underlying t with
 | some (.int .i32)=>true
 | _=>false
def jO (P:Program):List Field→Nat→Option (List Nat)
 | [],_=>some []
 | f :: fs, k => if f.name != "_" && f.offset == k then
   (match P.underlying f.type with
   | some (.int _)=>(jO P fs (k+1)).map (0::·)
   | some .string=>(jO P fs (k+1)).map (1::·)
   | some .bool=>(jO P fs (k+1)).map (2::·)
   | _=>none) else none
def z5K (P:Program) (t:TypeId):Option (List Nat):=if P.stoodInHeld t=false/\P.eqGuardType P.depth t=false then jO P (P.fieldsOf t).toList 0 else none
def z6G (P:Program) (t:TypeId):Bool:=match P.underlying t with
 | some (.struct fs) => fs.toList.map (·.name) == ["addr", "buf"]
 | _=>false
def keyT (P:Program) (t:TypeId):Option Bool:=match P.underlying t with
 | some (.int _)=>some false
 | some .string=>some true
 | _=>none
def z6v (P:Program) (t:TypeId):Option IV:=(P.info? t).bind fun i=>i.zero.bind fun z=>match z with
 | .agg _=>none
 | z=>z9I z
def z2y:IV->IV
 | .nsl=>.raw (.slice none 0 0)
 | x=>x
def z1Y (P:Program) (c:Call):Option XO:=
 match c.callee with
 | .value f=>(opd f).bind fun f'=>(mapO opd c.args.toList).map fun as=>.call f' as
 | .builtin .len=>match c.args.toList,(c.argTypes[0]?).bind P.underlying with
  | [x],some .string=>(opd x).map .lenS
  | [x],some (.slice _)=>(opd x).map .len
  | _,_=>none
 | .builtin .append=>match c.args.toList,(c.argTypes[0]?).bind P.underlying,(c.argTypes[1]?).bind P.underlying with
  | [s,x],some (.slice e),some (.slice _)=>(opd s).bind fun s'=>(opd x).bind fun x'=>(Z4 P e).bind fun n=>(vY P e).bind fun m=>(zeroCells P e).bind fun z=>if 0<m/\0<n/\z.length=n then (if isU8 P e then (if n=1 then some (.ex (.appT e m) [s',x']) else none) else some (.append n m s' x')) else none
  | [s,x],some (.slice e),some .string=>(opd s).bind fun s'=>(opd x).bind fun x'=>(Z4 P e).bind fun n=>(vY P e).bind fun m=>(zeroCells P e).bind fun z=>if 0<m/\0<n/\z.length=n then (if isU8 P e then (if n=1 then some (.ex (.appT e m) [s',x']) else none) else some (.append n m s' x')) else none
  | _,_,_=>none
 | .builtin .copy=>match c.args.toList,(c.argTypes[0]?).bind P.underlying with
  | [d,x],some (.slice e)=>(Z4 P e).bind fun n=>(opd d).bind fun d'=>(opd x).map fun x'=>.ex (.copy n) [d',x']
  | _,_=>none
 | .builtin .unsafeSliceData=>match c.args.toList with
  | [x]=>(opd x).map fun x'=>.ex .sdata [x']
  | _=>none
 | .builtin .unsafeString=>match c.args.toList,c.argTypes.toList with
  | [x,y],[pt,_]=>match P.underlying pt with
   | some (.pointer e)=>(opd x).bind fun x'=>(opd y).bind fun y'=>if P.cellsOf e=1 then some (.ex (.ustr e) [x',y']) else none
   | _=>none
  | _,_=>none
 | .builtin .real=>match c.args.toList with
  | [x]=>(opd x).map fun x'=>.ex (.ru .re) [x']
  | _=>none
 | .builtin .imag=>match c.args.toList with
  | [x]=>(opd x).map fun x'=>.ex (.ru .im) [x']
  | _=>none
 | .builtin .delete=>match c.args.toList,c.argTypes[0]? with
  | [m,k],some t=>match P.underlying t with
   | some (.map kt _)=>(keyT P kt).bind fun st=>(opd m).bind fun m'=>(opd k).map fun k'=>.ex (.mdel st) [m',k']
   | _=>none
  | _,_=>none
 | .builtin .complex=>match c.args.toList with
  | [x,y]=>(opd x).bind fun x'=>(opd y).map fun y'=>.ex .cpx [x',y']
  | _=>none
 | .builtin .max=>match c.args.toList with
  | [x,y]=>(opd x).bind fun x'=>(opd y).map fun y'=>.max2 x' y'
  | _=>none
 | .builtin .min=>match c.args.toList with
  | [x,y]=>(opd x).bind fun x'=>(opd y).map fun y'=>.min2 x' y'
  | _=>none
 | _=>none
def zbf (P:Program) (op:BinOp) (t:TypeId):Bool:=
 match op with
 | .eql | .neq=>match P.underlying t with
  | some (.int _) | some .string | some (.float _) | some (.complex _)=>true
  | _=>false
 | _=>true
def z5T (P:Program) (t:TypeId) (y:Operand):Option Nat:=
 match P.underlying t,y with
 | some (.slice _),.const (.slice none 0 0)=>some 0
 | some (.interface _),.const .nilIface=>some 1
 | some (.func ..),.const .nilFunc=>some 2
 | _,_=>none
def Jn:Option Operand->Bool
 | some (.const (.int _ 0))=>true
 | _=>false
def z0j (P:Program) (t:TypeId) (x:Operand) (lo hi mx:Option Operand):Option XO:=
 match mx with
 | none=>match P.underlying t with
  | some .string=>(opd x).bind fun x'=>(opdO lo).bind fun l=>(opdO hi).map fun h=>.sliceS x' l h
  | some (.slice e)=>(Z4 P e).bind fun n=>if n=0 then none else (opd x).bind fun x'=>(opdO lo).bind fun l=>(opdO hi).map fun h=>.slice n x' l h
  | some (.array m e)=>if Z4 P e=some 1/\hi.isNone=true then (opd x).bind fun x'=>(opdO lo).map fun l=>.ex (.sla m) [x',l.getD (.c (.int .i64 0))] else none
  | _=>none
 | some m=>match P.underlying t with
  | some (.slice e)=>(Z4 P e).bind fun n=>if Jn (some m)&&Jn hi&&lo.isNone then (opd x).map .slice0 else match hi with
   | some h=>if n=0 then none else (opd x).bind fun x'=>(opdO lo).bind fun l=>(opd h).bind fun h'=>(opd m).map fun m'=>.ex (.sl3 n) [x',l.getD (.c (.int .i64 0)),h',m']
   | none=>none
  | _=>none
def wI (P:Program):Op->Option XO
 | .move x=>(opd x).map .mov
 | .assign x=>(opd x).map .mov
 | .pick c a b=>(opd c).bind fun c'=>(opd a).bind fun a'=>(opd b).map fun b'=>.pick c' a' b'
 | .alloc t=>(zeroCells P t).map fun z=>if z6G P t then .ex (.allocT t (z.map z2y)) [] else .alloc z
 | .box _ x=>(opd x).map .box
 | .build t ps=>match P.underlying t with
  | some (.struct fs)=>(zeroCells P t).bind fun z=>(mapO (fun (p:Nat × Operand)=>(fs[p.1]?).bind fun f=>(Z4 P f.type).bind fun n=>(opd p.2).map fun x=>(f.offset,n,x)) ps.toList).bind fun qs=>
    if fs.toList.all (fun f=>(P.info? f.type).isSome) then some (.build z qs) else none
  | some (.array _ e)=>(zeroCells P t).bind fun z=>(Z4 P e).bind fun n=>(mapO (fun (p:Nat × Operand)=>(opd p.2).map fun x=>(p.1*n,n,x)) ps.toList).map fun qs=>.build z qs
  | _=>none
 | .buildSlice t len ps=>match P.underlying t with
  | some (.slice e)=>(Z4 P e).bind fun n=>(zeroCells P e).bind fun z=>(mapO (fun (p:Nat × Operand)=>(opd p.2).map fun x=>(p.1,x)) ps.toList).bind fun qs=>
    if len*n<=2^24/\0<n/\z.length=n then some (.bslice n z len qs) else none
  | _=>none
 | .load t a=>(vZ P t).bind fun g=>(Z4 P t).bind fun n=>(opd a).map fun a'=>if g then .loadN n a' else .load1 a'
 | .store t a x=>(vZ P t).bind fun _=>(Z4 P t).bind fun n=>(opd a).bind fun a'=>(opd x).map fun x'=>.store n a' x'
 | .nilCheck x=>(opd x).map .nilck
 | .binOp op t x y _=>if zbf P op t then (opd x).bind fun x'=>(opd y).map fun y'=>.bin op x' y' else
  match op,P.underlying t with
  | .eql,some .bool=>(opd x).bind fun x'=>(opd y).map fun y'=>.eqB false x' y'
  | .neq,some .bool=>(opd x).bind fun x'=>(opd y).map fun y'=>.eqB true x' y'
  | .eql,some (.pointer e)=>(Z4 P e).bind fun n=>if n=0 then none else (opd x).bind fun x'=>(opd y).map fun y'=>.ex (.eqP false) [x',y']
  | .neq,some (.pointer e)=>(Z4 P e).bind fun n=>if n=0 then none else (opd x).bind fun x'=>(opd y).map fun y'=>.ex (.eqP true) [x',y']
  | .eql,some (.struct _)=>(z5K P t).bind fun ks=>(opd x).bind fun x'=>(opd y).map fun y'=>.ex (.eqA false ks) [x',y']
  | .neq,some (.struct _)=>(z5K P t).bind fun ks=>(opd x).bind fun x'=>(opd y).map fun y'=>.ex (.eqA true ks) [x',y']
  | .eql,_=>(z5T P t y).bind fun k=>(opd x).map (.isNil k false)
  | .neq,_=>(z5T P t y).bind fun k=>(opd x).map (.isNil k true)
  | _,_=>none
 | .unOp op _ x=>(opd x).map fun x'=>.un op x'
 | .convert s d x=>match P.underlying s,P.underlying d with
  | some (.int _),some (.int k)=>(opd x).map (.cvInt k)
  | some (.int _),some .string=>(opd x).map .cvIntStr
  | some (.int _),some (.float f)=>(opd x).map fun x'=>.ex (.itof f) [x']
  | some (.float _),some (.int k)=>(opd x).map fun x'=>.ex (.ru (.toInt k)) [x']
  | some .string,some .string=>(opd x).map .cvStr
  | some (.slice e),some .string=>if isU8 P e then (opd x).map fun x'=>.ex .bStr [x'] else if zbY P e then (opd x).map fun x'=>.ex .rStr [x'] else none
  | some .string,some (.slice e)=>if isU8 P e then (opd x).map fun x'=>.ex (.strB e) [x'] else none
  | some (.slice e),some (.slice _)=>if s=d/\isU8 P e=true then (opd x).map fun x'=>.ex .slId [x'] else none
  | some (.pointer t),some .unsafePointer=>(Z4 P t).bind fun n=>if n=0 then none else (opd x).map fun x'=>.ex (.toU t 1) [x']
  | some .unsafePointer,some (.pointer u)=>(Z4 P u).bind fun n=>if n=0\/P.cellsOf u≠n then none else (opd x).map fun x'=>.ex (.ofU u n) [x']
  | _,_=>none
 | .fieldAddr s x f=>match P.underlying s with
  | some (.struct fs)=>(fs[f]?).bind fun g=>(Z4 P g.type).bind fun n=>if n=0 then none else (opd x).map (.fldA g.offset)
  | _=>none
 | .field s x f=>match P.underlying s with
  | some (.struct fs)=>(fs[f]?).bind fun g=>(Z4 P g.type).bind fun n=>(vZ P g.type).bind fun b=>(opd x).map fun x'=>.fld g.offset n b x'
  | _=>none
 | .indexAddr t x i=>match P.underlying t with
  | some (.slice e)=>(Z4 P e).bind fun n=>if n=0 then none else (opd x).bind fun x'=>(opd i).map fun i'=>.idxS n x' i'
  | some (.array m e)=>(Z4 P e).bind fun n=>(opd x).bind fun x'=>(opd i).map fun i'=>.idxA m n x' i'
  | _=>none
 | .index t x i=>match P.underlying t with
  | some .string=>(opd x).bind fun x'=>(opd i).map fun i'=>.idx x' i'
  | _=>none
 | .slice t x lo hi mx=>z0j P t x lo hi mx
 | .makeFunc f a b=>(mapO opd a.toList).bind fun a'=>(mapO opd b.toList).map fun b'=>.mkfn f a' b'
 | .makeSlice t l c=>match P.underlying t with
  | some (.slice e)=>(Z4 P e).bind fun n=>(zeroCells P e).bind fun z=>(vY P e).bind fun m=>(opd l).bind fun l'=>(opd c).bind fun c'=>
    if 0<n/\z.length=n then some (.mkslice z m l' c') else none
  | _=>none
 | .extract t i=>(opd t).map fun t'=>.ext t' i
 | .makeInterface t x=>if P.concrete t then (opd x).map fun x'=>.ex (.mkif t) [x'] else none
 | .panic x=>(opd x).map fun x'=>.ex .panic [x']
 | .typeAssert x _ t ok=>match P.underlying t with
  | some (.interface _)=>none
  | some _=>if ok then (opd x).map fun x'=>.ex (.tas t) [x'] else none
  | none=>none
 | .call c=>z1Y P c
 | .makeMap _ none=>some (.ex .mmake [])
 | .lookup t x i ok=>match P.underlying t with
  | some (.map kt el)=>(keyT P kt).bind fun st=>(z6v P el).bind fun z=>(opd x).bind fun x'=>(opd i).map fun i'=>.ex (.mlook st z ok) [x',i']
  | _=>none
 | .mapUpdate t m k v=>match P.underlying t with
  | some (.map kt _)=>(keyT P kt).bind fun st=>(opd m).bind fun m'=>(opd k).bind fun k'=>(opd v).map fun v'=>.ex (.mset st) [m',k',v']
  | _=>none
 | .insert t m k v=>match P.underlying t with
  | some (.map kt _)=>(keyT P kt).bind fun st=>(opd m).bind fun m'=>(opd k).bind fun k'=>(opd v).map fun v'=>.ex (.mset st) [m',k',v']
  | _=>none
 | .mapEntry t m k=>match P.underlying t with
  | some (.map kt el)=>(keyT P kt).bind fun st=>(z6v P el).bind fun z=>(opd m).bind fun m'=>(opd k).map fun k'=>.ex (.ment st z) [m',k']
  | _=>none
 | .entryStore _ m s v=>(opd m).bind fun m'=>(opd s).bind fun s'=>(opd v).map fun v'=>.ex .msto [m',s',v']
 | .range t x=>match P.underlying t with
  | some .string=>(opd x).map .rng
  | some (.map _ _)=>(opd x).map fun x'=>.ex .mrng [x']
  | _=>none
 | .next t s=>if s then (opd t).map .nxt else (opd t).map fun t'=>.ex .mnxt [t']
 | _=>none
def ze5 (N:Nat):Option Tmp->Bool
 | none=>true
 | some d=>decide (d<N)
def Y5 (P:Program) (N:Nat) (ops:List Oper) (o:Oper):Option zk:=
 (wI P o.op).bind fun x=>
  if ze5 N o.dst then
   match o.guard with
   | none=>some ⟨o.dst,x,none⟩
   | some (j,b)=>((ops[j]?).bind (·.dst)).map fun t=>⟨o.dst,x,some (t,b)⟩
  else none
def Opd.us:Opd->List Nat
 | .t n=>[n]
 | _=>[]
def usL (l:List Opd):List Nat:=l.flatMap Opd.us
def usO:Option Opd->List Nat
 | none=>[]
 | some x=>x.us
def XO.us:XO->List Nat
 | .mov x | .box x | .load1 x | .loadN _ x | .nilck x | .un _ x | .cvInt _ x | .cvIntStr x | .cvStr x | .fldA _ x | .fld _ _ _ x | .slice0 x | .len x | .lenS x | .isNil _ _ x | .rng x | .nxt x | .ext x _=>x.us
 | .pick c x y=>c.us++x.us++y.us
 | .alloc _=>[]
 | .build _ ps=>ps.flatMap fun p=>p.2.2.us
 | .bslice _ _ _ ps=>ps.flatMap fun p=>p.2.us
 | .store _ x y | .bin _ x y | .eqB _ x y | .idxS _ x y | .idxA _ _ x y | .idx x y | .mkslice _ _ x y | .append _ _ x y | .max2 x y | .min2 x y=>x.us++y.us
 | .slice _ x lo hi | .sliceS x lo hi=>x.us++usO lo++usO hi
 | .mkfn _ a b=>usL a++usL b
 | .call f as | .pcall f as=>f.us++usL as
 | .ex _ xs=>usL xs
def XX.kd:XX->Nat
 | .mkif _ | .eqA .. | .eqP _ | .sdata | .ru _ | .itof _ | .cpx=>0
 | .bStr | .mlook ..=>1
 | .strB _=>2
 | .ustr _=>3
 | _=>4
def XO.kd:XO->Nat
 | .mov _ | .pick .. | .build .. | .bin .. | .eqB .. | .un .. | .cvInt .. | .cvIntStr _ | .cvStr _ | .fldA .. | .fld .. | .idxA .. | .idx ..
 | .sliceS .. | .slice0 .. | .mkfn .. | .nilck _ | .len _ | .lenS _ | .max2 .. | .min2 .. | .ext ..=>0
 | .load1 _ | .loadN .. | .idxS .. | .slice .. | .pcall ..=>1
 | .alloc _ | .box _=>2
 | .store ..=>3
 | .ex k _=>k.kd
 | .isNil k _ _=>if k=1 then 0 else 4
 | _=>4
def zk.rds (o:zk):List Nat:=o.op.us++match o.guard with | none=>[] | some (t,_)=>[t]
def ninO (d:Option Nat) (l:List Nat):Bool:=match d with | none=>true | some d=>!l.contains d
def neO (d d':Option Nat):Bool:=match d,d' with | some d,some d'=>!(d==d') | _,_=>true
def kdOk (a b:Nat):Bool:=a==0||(a<4&&b<4&&(b==0||(a==1&&b<3)))
def xap (o p:zk):Bool:=ninO o.dst p.rds&&ninO p.dst o.rds&&neO o.dst p.dst&&kdOk o.op.kd p.op.kd
def WI (ops:Array Oper) (i:Nat):List Nat:=
 (List.range ops.size).foldl (fun acc j=>if ((ops[j]?).map fun o=>o.after.any fun e=>Region.binds .any e&&acc.contains e.on).getD false then j::acc else acc) [i]
def zbH (ops:Array Oper) (xs:List zk) (listed:Array Bool) (k:Nat):Bool:=
 let W:=WI ops k
 W.all (fun j=>!(listed.getD j true))&&(List.range ops.size).all fun j=>j==k||listed.getD j true||W.contains j||(match xs[k]?,xs[j]? with | some o,some p=>xap o p | _,_=>false)
def z3m (ops:Array Oper) (xs:List zk):Nat->Nat->Array Bool->Bool
 | 0,_,listed=>(Region.ready .any ops listed).isEmpty
 | f+1,k,listed=>(Region.ready .any ops listed).contains k&&(zbH ops xs listed k&&z3m ops xs f (k+1) (listed.setIfInBounds k true))
def z9W (ops:Array Oper) (xs:List zk):Bool:=xs.all (fun o=>o.op.kd<4)&&z3m ops xs ops.size 0 (Array.replicate ops.size false)
def z8B (ops:Array Oper) (xs:List zk):Bool:=z3m ops xs ops.size 0 (Array.replicate ops.size false)
def XO.kd2:XO->Nat
 | .bslice ..=>2
 | o=>o.kd
def xap2 (o p:zk):Bool:=ninO o.dst p.rds&&ninO p.dst o.rds&&neO o.dst p.dst&&kdOk o.op.kd2 p.op.kd2
def xmv (o p:zk):Bool:=ninO o.dst p.rds&&ninO p.dst o.rds&&neO o.dst p.dst&&(match p.op,p.guard with | .mov _,none=>true | _,_=>false)
def z9E (ops:Array Oper) (xs:List zk) (listed:Array Bool) (k:Nat):Bool:=
 let W:=WI ops k
 W.all (fun j=>!(listed.getD j true))&&(List.range ops.size).all fun j=>j==k||listed.getD j true||W.contains j||(match xs[k]?,xs[j]? with | some o,some p=>xap2 o p||xmv o p | _,_=>false)
def z0e (ops:Array Oper) (xs:List zk):Nat->Nat->Array Bool->Bool
 | 0,_,listed=>(Region.ready .any ops listed).isEmpty
 | f+1,k,listed=>(Region.ready .any ops listed).contains k&&(z9E ops xs listed k&&z0e ops xs f (k+1) (listed.setIfInBounds k true))
def z8O (ops:Array Oper) (xs:List zk):Bool:=z0e ops xs ops.size 0 (Array.replicate ops.size false)
def z8b (P:Program):XO->Bool
 | .call (.f n) _=>match P.funcs[n]? with
  | some fn=>match fn.params[0]? with
   | some t=>match P.underlying t with
    | some (.pointer _)=>true
    | some (.slice _)=>fn.resultTypes[0]?==some t
    | _=>false
   | none=>false
  | none=>false
 | _=>false
def z8r (xs:List zk):Bool:=xs.any fun o=>match o.op with
 | .ex (.appT ..) (.t s::_)=>xs.any fun p=>p.dst==some s&&(match p.op with | .call ..=>true | _=>false)
 | _=>false
def zgO (xs:List zk) (d:Option Nat):Bool:=xs.any fun o=>match o.op with
 | .ex (.appT ..) (.t s::_)=>d==some s
 | _=>false
def XO.toP:XO->XO
 | .call f as=>.pcall f as
 | o=>o
def zk.toP (o:zk):zk:={ o with op:=o.op.toP }
def z4V (xs:List zk):List zk:=xs.map fun o=>if zgO xs o.dst then o else o.toP
def XO.isCall:XO->Bool
 | .call ..=>true
 | _=>false
def vk:List zk->List zk
 | []=>[]
 | o::r=>(if r.any (fun p=>p.op.isCall) then o.toP else o)::vk r
def XO.quiet:XO->Bool
 | .mov _ | .pick .. | .build .. | .load1 _ | .loadN .. | .bin .. | .eqB .. | .un .. | .cvInt .. | .cvIntStr _ | .cvStr _ | .fldA .. | .fld .. | .idxS .. | .idxA .. | .idx ..
 | .slice .. | .sliceS .. | .slice0 .. | .mkfn .. | .nilck _ | .len _ | .lenS _ | .max2 .. | .min2 .. | .ext ..=>true
 | _=>false
def XO.rk:XO->Nat
 | .bslice .. | .mkslice ..=>2
 | .append ..=>3
 | .ex (.ustr _) _=>4
 | .ex (.appT ..) _=>3
 | o=>o.kd
def racy (o p:zk):Bool:=!(o.op.rk==0)&&!(p.op.rk==0)&&!(o.op.rk==1&&p.op.rk==1)
def z8H (ops:Array Oper) (xs:List zk):List (Nat × Nat):=
 (List.range ops.size).flatMap fun i=>let W:=WI ops i
  (List.range ops.size).filterMap fun j=>if decide (i<j)&&!W.contains j&&(match xs[i]?,xs[j]? with | some o,some p=>racy o p | _,_=>true) then some (i,j) else none
def z0H (ops:Array Oper) (xs:List zk):List (zk × List Nat × Bool):=
 let ps:=z8H ops xs
 xs.zipIdx.map fun p=>(p.1,ps.filterMap (fun q=>if q.2==p.2 then some q.1 else none),ps.any fun q=>q.1==p.2)
def zaj (ops:Array Oper) (xs:List (zk × List Nat × Bool)):Bool:=
 xs.all (fun x=>decide (x.1.op.rk<4))&&(xs.length==ops.size)&&
 ((List.range ops.size).all (fun j=>match ops[j]? with | some o=>o.after.all fun e=>!(Region.binds .any e)||decide (e.on<j) | none=>true))&&
 (List.range ops.size).all fun i=>let W:=WI ops i
  (List.range ops.size).all fun j=>!decide (i<j)||W.contains j||(match xs[i]?,xs[j]? with
   | some (o,_,keep),some (p,chk,_)=>ninO o.dst p.rds&&ninO p.dst o.rds&&neO o.dst p.dst&&(!racy o p||(keep&&chk.contains i))
   | _,_=>false)
def J4 (P:Program) (N:Nat) (ops:Array Oper):XC:=
 if P.follows .mixedOrders then
  match mapO (Y5 P N ops.toList) ops.toList with
  | some xs=>if xs.all (fun o=>o.op.quiet)&&z9W ops xs then .draw xs
   else if (xs.any (fun o=>z8b P o.op)||z8r xs)&&z8B ops xs then .drawE xs
   else if z8r xs&&z8O ops (z4V xs) then .drawE (z4V xs)
   else if xs.any (fun o=>z8b P o.op)&&z8O ops (vk xs) then .drawE (vk xs)
   else if z9W ops (xs.map zk.toP) then .drawE (xs.map zk.toP)
   else if zaj ops (z0H ops (xs.map zk.toP)) then .drawR (z0H ops (xs.map zk.toP))
   else if z8B ops xs then .drawE xs
   else if z8B ops (xs.map zk.toP) then .drawE (xs.map zk.toP) else .bad
  | none=>.bad
 else .bad
def labels:Code->List Nat
 | .seq a b=>labels a++labels b
 | .label l=>[l]
 | _=>[]
def XC.find:XC->Nat->Option XC
 | .seq a b,l=>match a.find l with
  | some r=>some (.seq r b)
  | none=>b.find l
 | .label l',l=>if l'==l then some .skip else none
 | _,_=>none
def z07 (b:XC):List Nat->z1k
 | []=>.nil
 | l::r=>match b.find l with
  | some c=>.cons l c (z07 b r)
  | none=>z07 b r
def comp (P:Program) (N:Nat):Code->Option XC
 | .skip=>some .skip
 | .region _ ops false=>match mapO (Y5 P N ops.toList) ops.toList with
  | some xs=>some (.ops xs)
  | none=>some .bad
 | .region _ ops true=>some (J4 P N ops)
 | .seq a b=>(comp P N a).bind fun a'=>(comp P N b).map fun b'=>.seq a' b'
 | .cond c t e=>(opd c).bind fun c'=>(comp P N t).bind fun t'=>(comp P N e).map fun e'=>.cond c' t' e'
 | .block id b=>(comp P N b).map (.block id)
 | .loop b=>(comp P N b).map .loop
 | .exit id=>some (.exit id)
 | .scope b=>(comp P N b).map fun b'=>.scope b' (z07 b' (labels b))
 | .label l=>some (.label l)
 | .goto l=>some (.goto l)
 | .ret=>some .ret
 | .rangeFunc g ps a b=>match opd g,comp P N a,comp P N b with
  | some g',some a',some b'=>some (.rngF g' N ps.toList a' b')
  | _,_,_=>some .bad
 | .refuse _=>some .bad
end Go.X
end
section
namespace Go.X
open Go

def FOk (F:Fence):Prop:=F=Fence.wide\/∃l,F=Fence.wide.inRound l
def z9P (g0:Nat) (C:Ctx) (K:IV->List Blk->Prop) (v:Value) (w':World):Prop:=
 ∃r L' φ',K r L'/\Wf g0 ⟨w',φ',L',C.X⟩/\Sim ⟨w',φ',L',C.X⟩/\Ext C ⟨w',φ',L',C.X⟩/\VR ⟨w',φ',L',C.X⟩ r v
abbrev ze6:=Nat->List IV->List Blk->(IV->List Blk->Prop)->Prop
structure Env where
 /-- Slots below that are not written;what they hold;what has been deferred ('none':nothing but the marks of loops over functions). -/
 lo:Nat:=0
 kept:Nat->Value:=fun _=>undef
 base:Option (List Deferred):=none
 /-- What is to hold where the function panics. -/
 pan:IV->List Blk->Prop
 P:Program
 g0:Nat
 G:World->Prop
 hG:∀w w':World,(∀b,b<g0->w'.heap[b]?=w.heap[b]?)->G w->G w'
 /-- What a package-level variable holds,as far as it is known:plain cells. -/
 gl:Nat->Option (List IV)
 hgl:∀(w:World) (n:Nat) (cs:List IV),G w->gl n=some cs->∀(j:Nat) (y:IV),cs[j]?=some y->∃u,w.cell? ⟨n,j,none⟩=some u/\∀C:Ctx,VR C y u
 yl:ze6
 hylm:∀(s:Nat) (args:List IV) (L:List Blk) (K K':IV->List Blk->Prop),(∀v L',K v L'->K' v L')->yl s args L K->yl s args L K'
 hyl:∀(C:Ctx) (s:Nat) (args:List IV) (vs:List Value) (K:IV->List Blk->Prop),Wf g0 C->Sim C->G C.w->args.length=vs.length->
  (∀(i:Nat) (x:IV),args[i]?=some x->VR C x (vs.getD i undef))->yl s args C.L K->
  ∃fn tmps asg body,(Instr.yield (C.φ s).blk vs.toArray).run P C.w=.ok (.round (C.φ s).blk fn tmps asg body) C.w/\
   ∀F,FOk F->RoundIn F 0 P (C.φ s).blk fn tmps asg body C.w fun e w'=>∃v,e=.returned v/\z9P g0 C K v w'
abbrev Ren:=Nat->Option (Option Nat)
def Ren.inner (m:Ren):Ren:=fun s=>match m s with | some none=>some none | _=>none
def conv (L:List Blk):Nat->Ren->IV->Option IV
 | 0,_,_=>none
 | n+1,m,.ptr s r o=>match m s with
  | some (some t)=>some (.ptr t r o)
  | some none=>match L[s]? with
   | some (.cells _ rows)=>(mapO (mapO (conv L n m.inner)) rows).map fun rs=>.iptr rs r o
   | some (.tcells _ _ rows)=>(mapO (mapO (conv L n m.inner)) rows).map fun rs=>.iptr rs r o
   | _=>none
  | none=>none
 | n+1,m,.sl s off len cap=>match m s with
  | some (some t)=>some (.sl t off len cap)
  | some none=>match L[s]? with
   | some (.cells _ rows)=>if off+len<=rows.length then (mapO (mapO (conv L n m.inner)) ((rows.drop off).take len)).map .isl else none
   | some (.tcells _ _ rows)=>if off+len<=rows.length then (mapO (mapO (conv L n m.inner)) ((rows.drop off).take len)).map .isl else none
   | _=>none
  | none=>none
 | _+1,m,.mp s=>match m s with
  | some (some t)=>some (.mp t)
  | _=>none
 | _+1,m,.yld s=>match m s with
  | some (some t)=>some (.yld t)
  | _=>none
 | _+1,_,.nsl=>some (.isl [])
 | _+1,_,.esl=>some (.isl [])
 | n+1,m,.agg cs=>(mapO (conv L n m) cs).map .agg
 | n+1,m,.tup cs=>(mapO (conv L n m) cs).map .tup
 | n+1,m,.fn f a b=>match mapO (conv L n m) a,mapO (conv L n m) b with
  | some a',some b'=>some (.fn f a' b')
  | _,_=>none
 | n+1,m,.iface t v=>(conv L n m v).map (.iface t)
 | _+1,_,x=>some x
def ZN (L:List Blk) (n:Nat) (m:Ren):Blk->Option Blk
 | .cells sz rows=>(mapO (mapO (conv L n m)) rows).map (.cells sz)
 | .siter s p=>some (.siter s p)
 | .tcells ty sz rows=>(mapO (mapO (conv L n m)) rows).map (.tcells ty sz)
 | .dead=>some .dead
 | .unborn=>some .unborn
 | .map _ _=>none
 | .mit _=>none
 | .lp r l=>(mapO (conv L n m) l).map (.lp r)
def yE:IV->Bool
 | .isl rows=>rows.isEmpty
 | .iptr ..=>false
 | .agg cs | .tup cs=>noTreeL cs
 | .fn _ a b=>noTreeL a&&noTreeL b
 | .iface _ v=>yE v
 | _=>true
 where
 noTreeL:List IV->Bool
  | []=>true
  | x::r=>yE x&&noTreeL r
def jC:Blk->Bool
 | .cells _ rows=>rows.all yE.noTreeL
 | .tcells _ _ rows=>rows.all yE.noTreeL
 | .map _ _=>false
 | .mit _=>false
 | .lp ..=>false
 | _=>true
def jR (P : Program) (f : FuncId) : Prop := ∃ fn, P.funcs[f]? = some fn ∧ fn.name ≠ "runtime.NumGoroutine" ∧ fn.body.isNone = false
def XT (E:Env) (f:FuncId) (args:List IV) (L:List Blk) (R:IV->List Blk->Prop):Prop:=
 jR E.P f/\∀(w:World) (φ:Nat->Loc) (X:Nat->Prop) (vs:List Value),Wf E.g0 ⟨w,φ,L,X⟩->Sim ⟨w,φ,L,X⟩->E.G w->args.length=vs.length->
  (∀(i:Nat) (x:IV),args[i]?=some x->VR ⟨w,φ,L,X⟩ x (vs.getD i undef))->
  Calls E.P f vs.toArray w fun e w'=>∃r L' φ' v,R r L'/\e=.returned v/\Wf E.g0 ⟨w',φ',L',X⟩/\Sim ⟨w',φ',L',X⟩/\
   Ext ⟨w,φ,L,X⟩ ⟨w',φ',L',X⟩/\VR ⟨w',φ',L',X⟩ r v
def Jd (P:Program) (N:Nat) (ps:List Nat) (asg body:XC) (r:Loop):Prop:=
 r.params.toList=ps/\comp P N r.assign=some asg/\comp P N r.body=some body/\r.tmps.size=N
def XTP (E:Env) (f:FuncId) (args:List IV) (L:List Blk) (R Q:IV->List Blk->Prop):Prop:=
 jR E.P f/\∀(w:World) (φ:Nat->Loc) (X:Nat->Prop) (vs:List Value),Wf E.g0 ⟨w,φ,L,X⟩->Sim ⟨w,φ,L,X⟩->E.G w->args.length=vs.length->
  (∀(i:Nat) (x:IV),args[i]?=some x->VR ⟨w,φ,L,X⟩ x (vs.getD i undef))->
  Calls E.P f vs.toArray w fun e w'=>∃r L' φ' v,Wf E.g0 ⟨w',φ',L',X⟩/\Sim ⟨w',φ',L',X⟩/\Ext ⟨w,φ,L,X⟩ ⟨w',φ',L',X⟩/\VR ⟨w',φ',L',X⟩ r v/\
   ((R r L'/\e=.returned v)\/(Q r L'/\e=.panicked [{ v,recovered:=false }]))
def zI (E:Env) (f:FuncId) (args:List IV) (r:IV):Prop:=XT E f args [] fun r' L'=>r'=r/\L'=[]
def fuel:Nat:=12
def zV:Ren:=fun _=>none
def zy:Ren:=fun _=>some none
def ZB (n:Nat):Ren:=fun s=>some (some (s+n))
def zbh (E:Env) (f:FuncId) (args:List IV) (L:List Blk) (K:IV->List Blk->Prop):Prop:=
 ∃b args',mapO (conv L fuel (if b then zy else zV)) args=some args'/\
  XT E f args' [] fun r L1=>(b=true->yE r=true/\L1.all jC=true)/\
   ∃r' L1',conv L1 fuel (ZB L.length) r=some r'/\mapO (ZN L1 fuel (ZB L.length)) L1=some L1'/\K r' (L++L1')
def XExt (E:Env) (f:FuncId) (args:List IV) (r:IV):Prop:=
 ∀(C:Ctx) (vs:List Value),E.G C.w->args.length=vs.length->(∀(i:Nat) (x:IV),args[i]?=some x->VR C x (vs.getD i undef))->
  ∃v,(callFunc f vs.toArray).run E.P C.w=.ok (.value v) C.w/\VR C r v
def pos:List Nat->Nat->Nat->Option Nat
 | [],_,_=>none
 | k::r,s,i=>if s=k then some i else pos r s (i+1)
theorem YN:∀{l:List Nat} {s i j:Nat},pos l s i=some j->∃d,j=i+d/\l[d]?=some s
 | [],_,_,_,h=>by cases h
 | k::r,s,i,j,h=>by
  simp only [pos] at h
  split at h
  ·rename_i hk;subst hk;simp only [sij] at h;subst h;exact ⟨0,rfl,rfl⟩
  ·obtain ⟨d,h1,h2⟩:=YN h
   exact ⟨d+1,by omega,by simpa using h2⟩
theorem Jc:∀{l:List Nat} {s i:Nat},pos l s i=none->s∉l
 | [],_,_,_=>by simp
 | k::r,s,i,h=>by
  simp only [pos] at h
  split at h
  ·cases h
  ·rename_i hk
   have:=Jc h
   simp [hk,this]
def wV (sel dl:List Nat) (b:Bool):Ren:=fun s=>match pos sel s 0 with
 | some i=>some (some i)
 | none=>if b||dl.contains s then some none else none
def yO (sel:List Nat) (n:Nat):Ren:=fun i=>some (some (if i<sel.length then sel.getD i 0 else n+(i - sel.length)))
def putL:List Nat->List Blk->List Blk->List Blk
 | s::ss,k::ks,L=>putL ss ks (L.set s k)
 | _,_,L=>L
def z1S:List Nat->List Blk->List Blk
 | [],L=>L
 | s::ss,L=>z1S ss (L.set s .dead)
def z4f (L:List Blk) (s:Nat):Prop:=∃k,L[s]?=some k/\k.alive=true
def Back (sel dl:List Nat) (b:Bool) (L:List Blk) (K:IV->List Blk->Prop) (r:IV) (L1:List Blk):Prop:=
 (b=true->yE r=true/\L1.all jC=true)/\
  ∃r' L1',conv L1 fuel (yO sel L.length) r=some r'/\mapO (ZN L1 fuel (yO sel L.length)) L1=some L1'/\K r' (z1S dl (putL sel L1' L)++L1'.drop sel.length)
def zb6 (E:Env) (f:FuncId) (args:List IV) (L:List Blk) (K:IV->List Blk->Prop):Prop:=
 ∃sel dl b args' L0,sel.Nodup/\(∀s∈sel,z4f L s/\s∉dl)/\(b=true->dl=[])/\mapO (conv L fuel (wV sel dl b)) args=some args'/\
  mapO (ZN L fuel (wV sel dl b)) (sel.map fun s=>L.getD s .dead)=some L0/\XTP E f args' L0 (Back sel dl b L K) (Back sel dl b L E.pan)
def XTX (E:Env) (f:FuncId) (args:List IV) (L:List Blk) (K:IV->List Blk->Prop):Prop:=
 ∀(w:World) (φ:Nat->Loc) (X:Nat->Prop) (vs:List Value),Wf E.g0 ⟨w,φ,L,X⟩->Sim ⟨w,φ,L,X⟩->E.G w->args.length=vs.length->
  (∀(i:Nat) (x:IV),args[i]?=some x->VR ⟨w,φ,L,X⟩ x (vs.getD i undef))->
  ∃r L' φ' v w',(callFunc f vs.toArray).run E.P w=.ok (.value v) w'/\K r L'/\Wf E.g0 ⟨w',φ',L',X⟩/\Sim ⟨w',φ',L',X⟩/\Ext ⟨w,φ,L,X⟩ ⟨w',φ',L',X⟩/\VR ⟨w',φ',L',X⟩ r v
def YW (E:Env) (f:FuncId) (args:List IV) (L:List Blk) (K:IV->List Blk->Prop):Prop:=
 zbh E f args L K\/(∃r,XExt E f args r/\K r L)\/zb6 E f args L K\/XTP E f args L K E.pan\/XTX E f args L K
abbrev Rho:=Nat->IV
def put (ρ:Rho) (d:Option Nat) (v:IV):Rho:=
 match d with
 | none=>ρ
 | some d=>fun n=>if n=d then v else ρ n
def Opd.ev (ρ:Rho):Opd->IV
 | .t n=>ρ n
 | .c v=>v
 | .g n=>.raw (.pointer (some ⟨n,0,none⟩))
 | .f n=>.fn (.func n) [] []
def splice {α:Type} (l:List α) (i:Nat) (xs:List α):List α:=l.take i++xs++l.drop (i+xs.length)
def z0o:List IV->List (Nat × Nat × IV)->Option (List IV)
 | cs,[]=>some cs
 | cs,(off,n,v)::r=>if (cellsOf v).length=n/\off+n<=cs.length then z0o (splice cs off (cellsOf v)) r else none
def Zi (sz:Nat):List (List IV)->List (Nat × IV)->Option (List (List IV))
 | rows,[]=>some rows
 | rows,(i,v)::r=>if (cellsOf v).length=sz/\i<rows.length then Zi sz (rows.set i (cellsOf v)) r else none
def ZH (gl:Nat->Option (List IV)) (L:List Blk):IV->Option (List (List IV) × Nat × Nat)
 | .raw (.pointer (some ⟨n,o,none⟩))=>match gl n with
  | some cs=>some ([cs],0,o)
  | none=>none
 | .ptr s r o=>match L[s]? with
  | some (.cells _ rows)=>some (rows,r,o)
  | some (.tcells _ _ rows)=>some (rows,r,o)
  | _=>none
 | .iptr rows r o=>some (rows,r,o)
 | _=>none
def lenOf:IV->Option Nat
 | .isl rows=>some rows.length
 | .sl _ _ len _=>some len
 | .esl=>some 0
 | .nsl=>some 0
 | .raw (.slice none 0 0)=>some 0
 | _=>none
def rowsOf (L:List Blk):IV->Option (List (List IV))
 | .str s=>some (s.map fun b=>[.int .u8 b.toNat])
 | .isl rows=>some rows
 | .sl s off len _=>match L[s]? with
  | some (.cells _ rows)=>if off+len<=rows.length then some ((rows.drop off).take len) else none
  | some (.tcells _ _ rows)=>if off+len<=rows.length then some ((rows.drop off).take len) else none
  | _=>none
 | .esl=>some []
 | .nsl=>some []
 | _=>none
def xbin (op:BinOp) (x y:IV) (K:IV->Prop):Prop:=
 match op,x,y with
 | .shl,.int k a,.int _ b=>0<=b/\K (.int k (k.wrap (a*2^min b.toNat k.bits)))
 | .shr,.int k a,.int _ b=>0<=b/\K (.int k (a.fdiv (2^min b.toNat k.bits)))
 | .add,.int k a,.int k' b=>k=k'/\K (.int k (k.wrap (a+b)))
 | .sub,.int k a,.int k' b=>k=k'/\K (.int k (k.wrap (a - b)))
 | .mul,.int k a,.int k' b=>k=k'/\K (.int k (k.wrap (a*b)))
 | .quo,.int k a,.int k' b=>k=k'/\b≠0/\K (.int k (k.wrap (a.tdiv b)))
 | .rem,.int k a,.int k' b=>k=k'/\b≠0/\K (.int k (a.tmod b))
 | .and,.int k a,.int k' b=>k=k'/\K (.int k (k.wrap (BitVec.ofInt k.bits a&&&BitVec.ofInt k.bits b).toNat))
 | .or,.int k a,.int k' b=>k=k'/\K (.int k (k.wrap (BitVec.ofInt k.bits a|||BitVec.ofInt k.bits b).toNat))
 | .xor,.int k a,.int k' b=>k=k'/\K (.int k (k.wrap (BitVec.ofInt k.bits a^^^BitVec.ofInt k.bits b).toNat))
 | .eql,.int k a,.int k' b=>k=k'/\K (.bool (decide (a=b)))
 | .neq,.int k a,.int k' b=>k=k'/\K (.bool (!decide (a=b)))
 | .lss,.int k a,.int k' b=>k=k'/\K (.bool (decide (a<b)))
 | .leq,.int k a,.int k' b=>k=k'/\K (.bool (decide (a<=b)))
 | .gtr,.int k a,.int k' b=>k=k'/\K (.bool (decide (b<a)))
 | .geq,.int k a,.int k' b=>k=k'/\K (.bool (decide (b<=a)))
 | .add,.str a,.str b=>a.length+b.length<=9223372036854775807/\K (.str (a++b))
 | .eql,.str a,.str b=>K (.bool (decide (a=b)))
 | .neq,.str a,.str b=>K (.bool (!decide (a=b)))
 | .lss,.str a,.str b=>K (.bool (Op.bytesLess a b))
 | .geq,.str a,.str b=>K (.bool (!Op.bytesLess a b))
 | .gtr,.str a,.str b=>K (.bool (!(Op.bytesLess a b||decide (a=b))))
 | .leq,.str a,.str b=>K (.bool (Op.bytesLess a b||decide (a=b)))
 | .andNot,.int k a,.int k' b=>k=k'/\K (.int k (k.wrap (BitVec.ofInt k.bits a&&&~~~BitVec.ofInt k.bits b).toNat))
 | op,.raw u,.raw v=>∃r,WO op u v=some r/\K r
 | _,_,_=>False
theorem z5t {op:BinOp} {u v:Value} {K:IV->Prop}:xbin op (.raw u) (.raw v) K=∃r,WO op u v=some r/\K r:=by cases op<;>rfl
def xun (op:UnOp) (x:IV) (K:IV->Prop):Prop:=
 match op,x with
 | .not,.bool b=>K (.bool !b)
 | .neg,.int k n=>K (.int k (k.wrap (0 - n)))
 | .xor,.int k n=>K (.int k (k.wrap (BitVec.ofInt k.bits (if k.signed then -1 else k.max)^^^BitVec.ofInt k.bits n).toNat))
 | .neg,.raw v=>∃r,z7s v=some r/\K (.raw r)
 | _,_=>False
def Rows (n:Nat) (rows:List (List IV)):Prop:=∀row∈rows,row.length=n
def yj (n:Nat) (rows:List (List IV)):Prop:=∀row∈rows,row.length=n/\row.all zJ=true
def szOf (L:List Blk) (s:Nat):Option Nat:=
 match L[s]? with
 | some (.cells sz _)=>some sz
 | some (.tcells _ sz _)=>some sz
 | _=>none
def ZA (sz bytes:Nat) (s x:IV) (L:List Blk) (K:IV->List Blk->Prop):Prop:=
 match rowsOf L x with
 | none=>False
 | some rs=>yj sz rs/\
  match s with
  | .nsl | .esl=>(rs=[]->K s L)/\(rs≠[]->rs.length*bytes<=70368744177664/\K (.sl L.length 0 rs.length rs.length) (L++[.cells sz rs]))
  | .sl t off len cap=>match L[t]? with
   | some (.cells sz' rows)=>sz'=sz/\off+cap<=rows.length/\
    if len+rs.length<=cap then K (.sl t off (len+rs.length) cap) (L.set t (.cells sz (splice rows (off+len) rs)))
    else (len+rs.length)*bytes<=70368744177664/\
     K (.sl L.length 0 (len+rs.length) (len+rs.length)) (L.set t .dead++[.cells sz ((rows.drop off).take len++rs)])
   | _=>False
  | _=>False
def ZQ (sz bytes:Nat) (s x:IV) (g:Nat) (lay:List Blk->Blk->List Blk) (L:List Blk) (K:IV->List Blk->Prop):Prop:=
 match rowsOf L x with
 | none=>False
 | some rs=>yj sz rs/\
  match s with
  | .nsl | .esl=>(rs=[]->K s L)/\(rs≠[]->rs.length*bytes<=70368744177664/\K (.sl g 0 rs.length rs.length) (lay L (.cells sz rs)))
  | .sl t off len cap=>match L[t]? with
   | some (.cells sz' rows)=>sz'=sz/\off+cap<=rows.length/\
    if len+rs.length<=cap then K (.sl t off (len+rs.length) cap) (L.set t (.cells sz (splice rows (off+len) rs)))
    else (len+rs.length)*bytes<=70368744177664/\
     K (.sl g 0 (len+rs.length) (len+rs.length)) (lay (L.set t .dead) (.cells sz ((rows.drop off).take len++rs)))
   | _=>False
  | _=>False
def xnil (k:Nat) (x:IV) (K:Bool->Prop):Prop:=
 match k,x with
 | 0,.nsl=>K true
 | 0,.esl=>K true/\K false
 | 0,.isl rows=>K false/\(rows=[]->K true)
 | 0,.sl _ _ _ cap=>K false/\(cap=0->K true)
 | 1,.iface _ _=>K false
 | 1,.raw .nilIface=>K true
 | 1,.raw (.iface _ _)=>K false
 | 2,.fn _ _ _=>K false
 | 2,.raw .nilFunc=>K true
 | _,_=>False
def ofInt:IV->Option Int
 | .int _ n=>some n
 | _=>none
def bnd (x:Option IV) (d:Nat) (K:Nat->Prop):Prop:=
 match x with
 | none=>K d
 | some (.int _ n)=>0<=n/\K n.toNat
 | _=>False
def zi (s:List UInt8):List (List IV):=s.map fun b=>[.int .u8 b.toNat]
def byteOf:List IV->Option UInt8
 | [.int .u8 n]=>if n=((UInt8.ofNat n.toNat).toNat:Int) then some (UInt8.ofNat n.toNat) else none
 | _=>none
def runeOf:List IV->Option Int
 | [.int .i32 n]=>some n
 | _=>none
def runesL (ns:List Int):List UInt8:=ns.flatMap fun n=>(Utf8.encode n).data.toList
def yx (L:List Blk):IV->Option (List (List IV))
 | .str _=>none
 | x=>rowsOf L x
def ZW:List Nat->List IV->List IV->Option Bool
 | [],[],[]=>some true
 | 0::ks,.int k a::r,.int k' b::r'=>if k=k' then (ZW ks r r').map (decide (a=b)&&·) else none
 | 1::ks,.str a::r,.str b::r'=>(ZW ks r r').map (decide (a=b)&&·)
 | 2::ks,.bool a::r,.bool b::r'=>(ZW ks r r').map (decide (a=b)&&·)
 | _,_,_=>none
def WG:IV->IV->Option Bool
 | .ptr s r o,.ptr s' r' o'=>if s=s'/\r=r'/\o=o' then some true else none
 | .ptr ..,.raw (.pointer none)=>some false
 | .raw (.pointer none),.ptr ..=>some false
 | .iptr ..,.raw (.pointer none)=>some false
 | .raw (.pointer none),.raw (.pointer none)=>some true
 | _,_=>none
def zK (L:List Blk) (g:Nat) (k:Blk):List Blk:=if g=L.length then L++[k] else L.set g k
def Y1 (ty bytes:Nat) (s x:IV) (g:Nat) (L:List Blk) (K:IV->List Blk->Prop):Prop:=
 match rowsOf L x with
 | none=>False
 | some rs=>yj 1 rs/\
  match s with
  | .nsl=>(rs=[]->K s L)/\(rs≠[]->rs.length*bytes<=70368744177664/\K (.sl g 0 rs.length rs.length) (zK L g (.tcells ty 1 rs)))
  | .raw (.slice none 0 0)=>(rs=[]->K s L)/\(rs≠[]->rs.length*bytes<=70368744177664/\K (.sl g 0 rs.length rs.length) (zK L g (.tcells ty 1 rs)))
  | .sl t off len cap=>off=0/\len=cap/\match L[t]? with
   | some (.tcells ty' sz' rows)=>ty'=ty/\sz'=1/\rows.length=len/\(rs=[]->K s L)/\
     (rs≠[]->(len+rs.length)*bytes<=70368744177664/\K (.sl g 0 (len+rs.length) (len+rs.length)) (zK (L.set t .dead) g (.tcells ty 1 (rows++rs))))
   | some (.cells _ _)=>ZQ 1 bytes s x g (fun L' k=>zK L' g k) L K
   | _=>False
  | _=>False
def xusU (ty:Nat) (s r o:Nat) (n:Int) (L:List Blk) (K:IV->List Blk->Prop):Prop:=r=0/\o=0/\match L[s]? with
 | some (.tcells ty' sz rows)=>ty'=ty/\sz=1/\n=rows.length/\n≠0/\n<=9223372036854775807/\match mapO byteOf rows with
  | some bs=>K (.str bs) (L.set s .dead)
  | none=>False
 | _=>False
def z4C (ty n:Nat) (s r o:Nat) (L:List Blk) (K:IV->List Blk->Prop):Prop:=r=0/\o=0/\match L[s]? with
 | some (.tcells ty' sz [_])=>ty'=ty/\n<=sz/\0<sz/\K (.ptr s 0 0) L
 | _=>False
def zc0 (s off len cap:Nat) (L:List Blk) (K:IV->List Blk->Prop):Prop:=0<cap/\match L[s]? with
 | some (.tcells _ _ _)=>K (.sl s off len cap) L
 | _=>False
def isKey (st:Bool):IV->Bool
 | .int _ _=>!st
 | .str _=>st
 | _=>false
def kEq:IV->IV->Option Bool
 | .int k a,.int k' b=>if k=k' then some (decide (a=b)) else none
 | .str a,.str b=>some (decide (a=b))
 | _,_=>none
def yc (k:IV):List (IV × IV × Nat)->Nat->Option (Option Nat)
 | [],_=>some none
 | e::r,i=>match kEq k e.1 with
  | some true=>some (some i)
  | some false=>yc k r (i+1)
  | none=>none
def Yx (st:Bool) (m k:IV) (L:List Blk) (K:Nat->List (IV × IV × Nat)->Nat->Option Nat->Prop):Prop:=
 match m with
 | .mp s=>isKey st k=true/\match L[s]? with
  | some (.map es c)=>match yc k es 0 with
   | some r=>K s es c r
   | none=>False
  | _=>False
 | _=>False
def YT (ok:Bool) (r:IV) (b:Bool):IV:=if ok then .tup [r,.bool b] else r
def wz (st:Bool) (zero:IV) (ok:Bool) (m k:IV) (L:List Blk) (K:IV->List Blk->Prop):Prop:=Yx st m k L fun _ es _ r=>match r with
 | some i=>K (YT ok (es.getD i default).2.1 true) L
 | none=>K (YT ok zero false) L
def z3l (st:Bool) (m k v:IV) (L:List Blk) (K:IV->List Blk->Prop):Prop:=Yx st m k L fun s es c r=>match r with
 | some i=>K .und (L.set s (.map (es.set i (k,v,(es.getD i default).2.2)) c))
 | none=>K .und (L.set s (.map (es++[(k,v,c)]) (c+1)))
def zed (st:Bool) (m k:IV) (L:List Blk) (K:IV->List Blk->Prop):Prop:=Yx st m k L fun s es c r=>match r with
 | some i=>K (.tup []) (L.set s (.map (es.eraseIdx i) c))
 | none=>K (.tup []) (L.set s (.map es c))
def zdt (st:Bool) (zero:IV) (m k:IV) (L:List Blk) (K:IV->List Blk->Prop):Prop:=Yx st m k L fun s es c r=>match r with
 | some i=>K (.tup [(es.getD i default).2.1,.int .i64 (es.getD i default).2.2]) (L.set s (.map (es.set i (k,(es.getD i default).2.1,(es.getD i default).2.2)) c))
 | none=>K (.tup [zero,.int .i64 c]) (L.set s (.map (es++[(k,zero,c)]) (c+1)))
def zc7 (s:Nat) (b:Int) (v:IV) (L:List Blk) (K:IV->List Blk->Prop):Prop:=
 match L[s]? with
 | some (.map es c)=>match es.findIdx? (fun e=>(e.2.2:Int)==b) with
  | some i=>K .und (L.set s (.map (es.set i ((es.getD i default).1,v,(es.getD i default).2.2)) c))
  | none=>False
 | _=>False
def z0u (sz:Nat) (d x:IV) (L:List Blk) (K:IV->List Blk->Prop):Prop:=
 match d with
 | .sl t off len _=>match rowsOf L x with
  | some rs=>rs.length<=len/\yj sz rs/\(rs=[]->K (.int .i64 0) L)/\(rs≠[]->match L[t]? with
   | some (.cells sz' rows)=>sz'=sz/\off+rs.length<=rows.length/\K (.int .i64 rs.length) (L.set t (.cells sz' (splice rows off rs)))
   | some (.tcells ty sz' rows)=>sz'=sz/\off+rs.length<=rows.length/\K (.int .i64 rs.length) (L.set t (.tcells ty sz' (splice rows off rs)))
   | _=>False)
  | none=>False
 | _=>False
def xex (E:Env) (k:XX) (vs:List IV) (g:Nat) (L:List Blk) (K:IV->List Blk->Prop):Prop:=
 match k with
 | .panic=>match vs with
  | [.iface t v]=>E.pan (.iface t v) L
  | _=>False
 | .mkif t=>match vs with
  | [v]=>K (.iface t v) L
  | _=>False
 | .strB ty=>match vs with
  | [.str s]=>s.length<=9223372036854775807/\K (.sl g 0 s.length s.length) (zK L g (.tcells ty 1 (zi s)))
  | _=>False
 | .bStr=>match vs with
  | [v]=>match (yx L v).bind (mapO byteOf) with
   | some s=>K (.str s) L
   | none=>False
  | _=>False
 | .rStr=>match vs with
  | [v]=>match (yx L v).bind (mapO runeOf) with
   | some ns=>K (.str (runesL ns)) L
   | none=>False
  | _=>False
 | .tas t=>match vs with
  | [.iface t' v]=>if t'=t then K (.tup [v,.bool true]) L else False
  | _=>False
 | .ru op=>match vs with
  | [.raw v]=>∃r,z3W op v=some r/\K r L
  | _=>False
 | .itof f=>match vs with
  | [.int _ n]=>K (.raw (.float f (floatOfInt f n))) L
  | _=>False
 | .cpx=>match vs with
  | [.raw (.float k a),.raw (.float k' b)]=>k=k'/\K (.raw (.complex k a b)) L
  | _=>False
 | .mmake=>K (.mp g) (zK L g (.map [] 0))
 | .mlook st zero ok=>match vs with
  | [.raw (.map none),k]=>isKey st k=true/\K (YT ok zero false) L
  | [m,k]=>wz st zero ok m k L K
  | _=>False
 | .mset st=>match vs with
  | [m,k,v]=>z3l st m k v L K
  | _=>False
 | .mdel st=>match vs with
  | [m,k]=>zed st m k L K
  | _=>False
 | .ment st zero=>match vs with
  | [m,k]=>zdt st zero m k L K
  | _=>False
 | .msto=>match vs with
  | [.mp s,.int _ b,v]=>zc7 s b v L K
  | _=>False
 | .copy sz=>match vs with
  | [d,x]=>z0u sz d x L K
  | _=>False
 | .sl3 sz=>match vs with
  | [.sl s off len cap,.int _ l,.int _ h,.int _ m]=>szOf L s=some sz/\0<=l/\l<=h/\h<=m/\m<=cap/\K (.sl s (off+l.toNat) (h - l).toNat (m - l).toNat) L
  | _=>False
 | .sla n=>match vs with
  | [.ptr s 0 0,.int _ l]=>match L[s]? with
   | some (.cells m [row])=>m=n/\(∀c∈row,∃k v,c=.int k v)/\row.length=n/\0<=l/\l<=n/\K (.isl ((row.drop l.toNat).map fun c=>[c])) (L.set s .dead)
   | _=>False
  | _=>False
 | .mrng=>match vs with
  | [.mp s]=>match L[s]? with
   | some (.map _ _)=>K (.ptr g 0 0) (zK L g (.mit s))
   | _=>False
  | _=>False
 | .mnxt=>match vs with
  | [.ptr t 0 0]=>match L[t]? with
   | some (.mit s)=>match L[s]? with
    | some (.map [] _)=>K (.tup [.bool false]) L
    | _=>False
   | _=>False
  | _=>False
 | .slId=>match vs with
  | [.sl s off len cap]=>zc0 s off len cap L K
  | _=>False
 | .eqA neg ks=>match vs with
  | [.agg a,.agg b]=>match ZW ks a b with
   | some t=>K (.bool (if neg then !t else t)) L
   | none=>False
  | _=>False
 | .eqP neg=>match vs with
  | [x,y]=>match WG x y with
   | some t=>K (.bool (if neg then !t else t)) L
   | none=>False
  | _=>False
 | .allocT ty zero=>K (.ptr g 0 0) (zK L g (.tcells ty zero.length [zero]))
 | .appT ty bytes=>match vs with
  | [s,x]=>Y1 ty bytes s x g L K
  | _=>False
 | .sdata=>match vs with
  | [.nsl]=>K (.raw (.pointer none)) L
  | [.raw (.slice none 0 0)]=>K (.raw (.pointer none)) L
  | [.sl s off _ cap]=>0<cap/\K (.ptr s off 0) L
  | _=>False
 | .ustr ty=>match vs with
  | [.raw (.pointer none),.int .i64 n]=>n=0/\K (.str []) L
  | [.ptr s r o,.int .i64 n]=>xusU ty s r o n L K
  | _=>False
 | .toU ty n | .ofU ty n=>match vs with
  | [.ptr s r o]=>z4C ty n s r o L K
  | _=>False
def xop (E:Env) (o:XO) (e:Opd->IV) (L:List Blk) (K:IV->List Blk->Prop):Prop:=
 match o with
 | .mov x=>K (e x) L
 | .pick c a b=>match e c with
  | .bool t=>K (if t then e a else e b) L
  | _=>False
 | .alloc zero=>K (.ptr L.length 0 0) (L++[.cells zero.length [zero]])
 | .box x=>K (.ptr L.length 0 0) (L++[.cells (cellsOf (e x)).length [cellsOf (e x)]])
 | .build zero parts=>match z0o zero (parts.map fun p=>(p.1,p.2.1,e p.2.2)) with
  | some cs=>K (.agg cs) L
  | none=>False
 | .bslice sz zero len parts=>zero.length=sz/\match Zi sz (List.replicate len zero) (parts.map fun p=>(p.1,e p.2)) with
  | some rows=>K (.sl L.length 0 len len) (L++[.cells sz rows])
  | none=>False
 | .load1 a=>match ZH E.gl L (e a) with
  | some (rows,r,o)=>r<rows.length/\o<(rows.getD r []).length/\K ((rows.getD r []).getD o .und) L
  | none=>False
 | .loadN n a=>match ZH E.gl L (e a) with
  | some (rows,r,o)=>r<rows.length/\o+n<=(rows.getD r []).length/\K (.agg (((rows.getD r []).drop o).take n)) L
  | none=>False
 | .store n a x=>match e a with
  | .ptr s r o=>match L[s]? with
   | some (.cells sz rows)=>r<rows.length/\o+n<=(rows.getD r []).length/\(cellsOf (e x)).length=n/\(cellsOf (e x)).all zJ=true/\
    K .und (L.set s (.cells sz (rows.set r (splice (rows.getD r []) o (cellsOf (e x))))))
   | some (.tcells ty sz rows)=>r<rows.length/\o+n<=(rows.getD r []).length/\(cellsOf (e x)).length=n/\(cellsOf (e x)).all zJ=true/\
    K .und (L.set s (.tcells ty sz (rows.set r (splice (rows.getD r []) o (cellsOf (e x))))))
   | _=>False
  | _=>False
 | .nilck x=>match e x with
  | .ptr s r o=>K (.ptr s r o) L
  | .iptr rows r o=>K (.iptr rows r o) L
  | .fn (.func f) a b=>K (.fn (.func f) a b) L
  | .raw (.pointer (some ⟨n,o,none⟩))=>K (.raw (.pointer (some ⟨n,o,none⟩))) L
  | _=>False
 | .bin op x y=>xbin op (e x) (e y) fun v=>K v L
 | .eqB neg x y=>match e x,e y with
  | .bool a,.bool b=>K (.bool (if neg then !decide (a=b) else decide (a=b))) L
  | _,_=>False
 | .un op x=>xun op (e x) fun v=>K v L
 | .cvInt k x=>match e x with
  | .int _ n=>K (.int k (k.wrap n)) L
  | _=>False
 | .cvIntStr x=>match e x with
  | .int _ n=>K (.str (Utf8.encode n).data.toList) L
  | _=>False
 | .cvStr x=>match e x with
  | .str s=>K (.str s) L
  | _=>False
 | .fldA off x=>match e x with
  | .ptr s r o=>K (.ptr s r (o+off)) L
  | .iptr rows r o=>K (.iptr rows r (o+off)) L
  | .raw (.pointer (some ⟨n,o,none⟩))=>K (.raw (.pointer (some ⟨n,o+off,none⟩))) L
  | _=>False
 | .fld off n agg x=>match e x with
  | .agg cs=>off+n<=cs.length/\if agg then K (.agg ((cs.drop off).take n)) L else off<cs.length/\K (cs.getD off .und) L
  | _=>False
 | .idxS m x i=>match e x,e i with
  | .isl rows,.int _ n=>Rows m rows/\0<=n/\n<rows.length/\K (.iptr rows n.toNat 0) L
  | .sl s off len _,.int _ n=>szOf L s=some m/\0<=n/\n<len/\K (.ptr s (off+n.toNat) 0) L
  | _,_=>False
 | .idxA m sz x i=>match e x,e i with
  | .ptr s r o,.int _ n=>0<=n/\n<m/\K (.ptr s r (o+n.toNat*sz)) L
  | .iptr rows r o,.int _ n=>0<=n/\n<m/\K (.iptr rows r (o+n.toNat*sz)) L
  | .raw (.pointer (some ⟨b,o,none⟩)),.int _ n=>0<=n/\n<m/\K (.raw (.pointer (some ⟨b,o+n.toNat*sz,none⟩))) L
  | _,_=>False
 | .idx x i=>match e x,e i with
  | .str s,.int _ n=>0<=n/\n<s.length/\K (.int .u8 (s.getD n.toNat 0).toNat) L
  | _,_=>False
 | .slice m x lo hi=>match e x with
  | .isl rows=>Rows m rows/\bnd (lo.map e) 0 fun l=>bnd (hi.map e) rows.length fun h=>l<=h/\h<=rows.length/\K (.isl ((rows.take h).drop l)) L
  | .sl s off len cap=>szOf L s=some m/\bnd (lo.map e) 0 fun l=>bnd (hi.map e) len fun h=>l<=h/\h<=cap/\K (.sl s (off+l) (h - l) (cap - l)) L
  | .esl=>bnd (lo.map e) 0 fun l=>bnd (hi.map e) 0 fun h=>l=0/\h=0/\K .esl L
  | .nsl=>bnd (lo.map e) 0 fun l=>bnd (hi.map e) 0 fun h=>l=0/\h=0/\K .nsl L
  | _=>False
 | .sliceS x lo hi=>match e x with
  | .str s=>bnd (lo.map e) 0 fun l=>bnd (hi.map e) s.length fun h=>l<=h/\h<=s.length/\K (.str ((s.take h).drop l)) L
  | _=>False
 | .slice0 x=>match e x with
  | .isl _ | .sl .. | .esl | .nsl=>K .esl L
  | _=>False
 | .mkfn f a b=>K (.fn f (a.map e) (b.map e)) L
 | .mkslice zero bytes len cap=>match e len,e cap with
  | .int _ n,.int _ m=>0<=n/\n<=m/\m<=9223372036854775807/\m*bytes<=281474976710656/\
   K (.sl L.length 0 n.toNat m.toNat) (L++[.cells zero.length (List.replicate m.toNat zero)])
  | _,_=>False
 | .len x=>match lenOf (e x) with
  | some n=>K (.int .i64 n) L
  | none=>False
 | .lenS x=>match e x with
  | .str s=>K (.int .i64 s.length) L
  | _=>False
 | .append sz bytes s x=>ZA sz bytes (e s) (e x) L K
 | .max2 x y=>match e x,e y with
  | .int k a,.int _ b=>K (.int k (if b>a then b else a)) L
  | _,_=>False
 | .min2 x y=>match e x,e y with
  | .int k a,.int _ b=>K (.int k (if b<a then b else a)) L
  | _,_=>False
 | .call f args=>match e f with
  | .fn (.func n) a b=>YW E n (a++args.map e++b) L K
  | .yld s=>E.yl s (args.map e) L K
  | _=>False
 | .pcall f args=>match e f with
  | .fn (.func n) a b=>(∃fz args' r,mapO (conv L fuel (if fz then zy else zV)) (a++args.map e++b)=some args'/\zI E n args' r/\(fz=true->yE r=true)/\(∀m,conv [] fuel (ZB m) r=some r)/\K r L)\/
    (∃r,mapO (conv L fuel zV) (a++args.map e++b)=none/\(∀L',(∀i,i<L.length->L'[i]?=L[i]?)->XT E n (a++args.map e++b) L' fun v L''=>v=r/\L''=L')/\K r L)
  | _=>False
 | .isNil k neg x=>xnil k (e x) fun b=>K (.bool (if neg then !b else b)) L
 | .rng x=>match e x with
  | .str s=>K (.ptr L.length 0 0) (L++[.siter s 0])
  | _=>False
 | .nxt t=>match e t with
  | .ptr s 0 0=>match L[s]? with
   | some (.siter str pos)=>if pos<str.length then K (.tup [.bool true,.int .i64 pos,.int .i32 (Utf8.decode ⟨str.toArray⟩ pos).1]) (L.set s (.siter str (pos+(Utf8.decode ⟨str.toArray⟩ pos).2)))
     else K (.tup [.bool false]) L
   | _=>False
  | _=>False
 | .ext t i=>match e t with
  | .tup cs=>i<cs.length/\K (cs.getD i .und) L
  | _=>False
 | .ex k xs=>xex E k (xs.map e) L.length L K
def Free (L:List Blk) (g:Nat):Prop:=g=L.length\/L[g]?=some .unborn
theorem Zb (L:List Blk) (k:Blk):zK L L.length k=L++[k]:=if_pos rfl
def xopT (E:Env) (o:XO) (e:Opd->IV) (g:Nat) (L:List Blk) (K:IV->List Blk->Prop):Prop:=
 match o with
 | .alloc zero=>K (.ptr g 0 0) (zK L g (.cells zero.length [zero]))
 | .box x=>K (.ptr g 0 0) (zK L g (.cells (cellsOf (e x)).length [cellsOf (e x)]))
 | .bslice sz zero len parts=>zero.length=sz/\match Zi sz (List.replicate len zero) (parts.map fun p=>(p.1,e p.2)) with
  | some rows=>K (.sl g 0 len len) (zK L g (.cells sz rows))
  | none=>False
 | .mkslice zero bytes len cap=>match e len,e cap with
  | .int _ n,.int _ m=>0<=n/\n<=m/\m<=9223372036854775807/\m*bytes<=281474976710656/\
   K (.sl g 0 n.toNat m.toNat) (zK L g (.cells zero.length (List.replicate m.toNat zero)))
  | _,_=>False
 | .append sz bytes s x=>ZQ sz bytes (e s) (e x) g (fun L k=>zK L g k) L K
 | .ex k xs=>xex E k (xs.map e) g L K
 | o=>xop E o e L K
theorem z8U {n m:Nat} {s x:IV} {L:List Blk} {K:IV->List Blk->Prop} (h:ZA n m s x L K):ZQ n m s x L.length (fun L' k=>zK L' L.length k) L K:=by
 have e:∀(t:Nat) (k k':Blk),zK (L.set t k) L.length k'=L.set t k++[k']:=fun t k k'=>by unfold zK;rw [if_pos (by rw [lls])]
 unfold ZA at h
 unfold ZQ
 simp only [Zb,e]
 exact h
theorem zh2 {E:Env} {o:XO} {e:Opd->IV} {L:List Blk} {K:IV->List Blk->Prop} (h:xop E o e L K):xopT E o e L.length L K:=by
 cases o with
 | append sz b s x=>exact z8U h
 | alloc z=>simp only [xopT,Zb];exact h
 | box x=>simp only [xopT,Zb];exact h
 | bslice=>simp only [xopT,Zb];exact h
 | mkslice=>simp only [xopT,Zb];exact h
 | _=>exact h
def xops (E:Env):List zk->Rho->List Blk->(Rho->List Blk->Prop)->Prop
 | [],ρ,L,K=>K ρ L
 | o::r,ρ,L,K=>match o.guard with
  | none=>xop E o.op (Opd.ev ρ) L fun v L'=>xops E r (put ρ o.dst v) L' K
  | some (t,want)=>match ρ t with
   | .bool b=>(b=want->xop E o.op (Opd.ev ρ) L fun v L'=>xops E r (put ρ o.dst v) L' K)/\(b≠want->xops E r (put ρ o.dst .und) L K)
   | .und=>xops E r (put ρ o.dst .und) L K
   | _=>False
def slP:IV->List Nat
 | .ptr s _ _=>[s]
 | _=>[]
def slS:IV->List Nat
 | .sl s _ _ _=>[s]
 | _=>[]
def slM:IV->List Nat
 | .mp s=>[s]
 | _=>[]
def XO.rd (o:XO) (e:Opd->IV) (L:List Blk):List Nat:=
 match o with
 | .pcall f as=>match e f with
  | .fn _ a b=>match mapO (conv L fuel zV) (a++as.map e++b) with
   | some _=>[]
   | none=>List.range L.length
  | _=>[]
 | .load1 a | .loadN _ a=>slP (e a)
 | .idxS _ x _ | .slice _ x _ _=>slS (e x)
 | .store _ a _=>slP (e a)
 | .append _ _ s x=>slS (e s)++slS (e x)
 | .ex .bStr xs=>xs.flatMap fun x=>slS (e x)
 | .ex (.appT ..) xs=>xs.flatMap fun x=>slS (e x)
 | .ex (.mlook ..) xs=>xs.flatMap fun x=>slM (e x)
 | _=>[]
def XO.wr (o:XO) (e:Opd->IV):List Nat:=
 match o with
 | .store _ a _=>slP (e a)
 | .append _ _ s _=>slS (e s)
 | .ex (.appT ..) (s::_)=>slS (e s)
 | _=>[]
def newS (o:XO) (L L':List Blk):List Nat:=
 match o with
 | .alloc _ | .box _ | .bslice .. | .mkslice ..=>[L.length]
 | .append ..=>if L'.length=L.length then [] else [L.length]
 | .ex (.appT ..) _=>if L'.length=L.length then [] else [L.length]
 | .ex (.strB _) _=>[L.length]
 | _=>[]
def Ap (r1 w1 r2 w2:List Nat):Prop:=(∀i∈w1,i∉r2/\i∉w2)/\∀i∈w2,i∉r1/\i∉w1
def chkL (chk:List Nat) (r w:List Nat):List (Nat × List Nat × List Nat)->Prop
 | []=>True
 | (i,r1,w1)::lg=>(i∈chk->Ap r1 w1 r w)/\chkL chk r w lg
def ZG (E:Env):Nat->List (Nat × List Nat × List Nat)->List (zk × List Nat × Bool)->Rho->List Blk->(Rho->List Blk->Prop)->Prop
 | _,_,[],ρ,L,K=>K ρ L
 | i,lg,(o,chk,keep)::r,ρ,L,K=>
  match o.guard with
  | none=>xop E o.op (Opd.ev ρ) L fun v L'=>chkL chk (o.op.rd (Opd.ev ρ) L++newS o.op L L') (o.op.wr (Opd.ev ρ)++newS o.op L L') lg/\
    ZG E (i+1) (if keep then (i,o.op.rd (Opd.ev ρ) L++newS o.op L L',o.op.wr (Opd.ev ρ)++newS o.op L L')::lg else lg) r (put ρ o.dst v) L' K
  | some (t,want)=>match ρ t with
   | .bool b=>(b=want->xop E o.op (Opd.ev ρ) L fun v L'=>chkL chk (o.op.rd (Opd.ev ρ) L++newS o.op L L') (o.op.wr (Opd.ev ρ)++newS o.op L L') lg/\
     ZG E (i+1) (if keep then (i,o.op.rd (Opd.ev ρ) L++newS o.op L L',o.op.wr (Opd.ev ρ)++newS o.op L L')::lg else lg) r (put ρ o.dst v) L' K)/\
    (b≠want->ZG E (i+1) lg r (put ρ o.dst .und) L K)
   | .und=>ZG E (i+1) lg r (put ρ o.dst .und) L K
   | _=>False
abbrev Run:=Rho->List Blk->(XE->Rho->List Blk->Prop)->Prop
def Ya (g:Nat->Option Run):Nat->XE->Rho->List Blk->(XE->Rho->List Blk->Prop)->Prop
 | n,.goto l,ρ,L,K=>match g l with
  | none=>K (.goto l) ρ L
  | some f=>match n with
   | 0=>False
   | n+1=>f ρ L fun e ρ' L'=>Ya g n e ρ' L' K
 | _,e,ρ,L,K=>K e ρ L
def z6U (f:Rho->List Blk->(XE->Rho->List Blk->Prop)->Prop):Nat->Rho->List Blk->(XE->Rho->List Blk->Prop)->Prop
 | 0,_,_,_=>False
 | n+1,ρ,L,K=>f ρ L fun e ρ' L'=>match e with
  | .normal=>z6U f n ρ' L' K
  | e=>K e ρ' L'
def XE.inBlock (id:Nat) (K:XE->Rho->List Blk->Prop):XE->Rho->List Blk->Prop
 | .exit i,ρ,L=>if i=id then K .normal ρ L else K (.exit i) ρ L
 | e,ρ,L=>K e ρ L
mutual
def xrun (E:Env):XC->Rho->List Blk->(XE->Rho->List Blk->Prop)->Prop
 | .skip,ρ,L,K=>K .normal ρ L
 | .ops l,ρ,L,K=>xops E l ρ L fun ρ' L'=>K .normal ρ' L'
 | .draw l,ρ,L,K=>l.all (fun o=>o.op.quiet)=true/\xops E l ρ L fun ρ' L'=>K .normal ρ' L'
 | .seq a b,ρ,L,K=>xrun E a ρ L fun e ρ' L'=>match e with
  | .normal=>xrun E b ρ' L' K
  | e=>K e ρ' L'
 | .cond c t e,ρ,L,K=>match c.ev ρ with
  | .bool b=>(b=true->xrun E t ρ L K)/\(b=false->xrun E e ρ L K)
  | _=>False
 | .block id b,ρ,L,K=>xrun E b ρ L (XE.inBlock id K)
 | .loop b,ρ,L,K=>∃n,z6U (xrun E b) n ρ L K
 | .exit id,ρ,L,K=>K (.exit id) ρ L
 | .scope b ls,ρ,L,K=>∃n,xrun E b ρ L fun e ρ' L'=>Ya (wF E ls) n e ρ' L' K
 | .label _,ρ,L,K=>K .normal ρ L
 | .goto l,ρ,L,K=>K (.goto l) ρ L
 | .ret,ρ,L,K=>K .ret ρ L
 | .drawE l,ρ,L,K=>xops E l ρ L fun ρ' L'=>K .normal ρ' L'
 | .drawR l,ρ,L,K=>ZG E 0 [] l ρ L fun ρ' L'=>K .normal ρ' L'
 | .bad,_,_,_=>False
 | .rngF g N ps asg body,ρ,L,K=>match g.ev ρ with
  | .fn (.func gf) [] caps=>∀r0:Loop,r0.state=.ready->r0.pending=none->Jd E.P N ps asg body r0->
    XT E gf (.yld L.length::caps) (L++[.lp r0 ((List.range N).map ρ)]) fun _ L'=>∃r1,L'[L.length]?=some (.lp r1 ((List.range N).map ρ))/\r1.state≠.busy/\
     match r1.pending with
     | none=>K .normal ρ (L'.set L.length .dead)
     | some .ret=>K .ret ρ (L'.set L.length .dead)
     | some (.exit i)=>K (.exit i) ρ (L'.set L.length .dead)
     | some (.goto l)=>K (.goto l) ρ (L'.set L.length .dead)
     | _=>False
  | _=>False
def wF (E:Env):z1k->Nat->Option Run
 | .nil,_=>none
 | .cons l c r,n=>if n=l then some (xrun E c) else wF E r n
end

end Go.X
end
section
namespace Go.X
open Go

abbrev Post (E:Env) (C:Ctx) (K:IV->List Blk->Prop) (v:Value) (w':World):Prop:=z9P E.g0 C K v w'
theorem ZF {E:Env} {C:Ctx} {K:IV->List Blk->Prop} {r:IV} {v:Value} (wf:Wf E.g0 C) (sim:Sim C) (hv:VR C r v) (h:K r C.L):Post E C K v C.w:=
 ⟨r,C.L,C.φ,h,wf,sim,Ext.refl C,hv⟩
def ZT (w:World) (o:Obj):World:={ w with heap:=w.heap.push o }
def newφ (C:Ctx) (g sz:Nat):Nat->Loc:=fun s=>if s=g then ⟨C.w.heap.size,0,sz⟩ else C.φ s
def newC (C:Ctx) (g:Nat) (o:Obj) (k:Blk) (sz:Nat):Ctx:=⟨ZT C.w o,newφ C g sz,zK C.L g k,C.X⟩
theorem ZU {w:World} {o:Obj} {b:Nat} (h:b<w.heap.size):(ZT w o).heap[b]?=w.heap[b]?:=by
 show (w.heap.push o)[b]?=_
 rw [Array.getElem?_push,if_neg (Nat.ne_of_lt h)]
theorem Zm {w:World} {o:Obj}:(ZT w o).heap[w.heap.size]?=some o:=by
 show (w.heap.push o)[w.heap.size]?=_
 rw [Array.getElem?_push,if_pos rfl]
theorem z2e {α:Type} {l:List α} {x:α} {s:Nat} (h:s<l.length):(l++[x])[s]?=l[s]?:=by
 rw [List.getElem?_append_left h]
theorem wC {α:Type} {l:List α} {x y:α} {s:Nat} (h:(l++[x])[s]?=some y):(s<l.length/\l[s]?=some y)\/(s=l.length/\y=x):=by
 rcases Nat.lt_trichotomy s l.length with h1 | h1 | h1
 ·rw [z2e h1] at h;exact .inl ⟨h1,h⟩
 ·subst h1;simp at h;exact .inr ⟨rfl,h.symm⟩
 ·rw [List.getElem?_eq_none (by simp;omega)] at h;cases h
theorem zf {α:Type} {l:List α} {s:Nat} {x:α} (h:l[s]?=some x):s<l.length:=(List.getElem?_eq_some_iff.1 h).1
theorem Yj {L:List Blk} {g s:Nat} {k y:Blk} (hg:Free L g) (h:(zK L g k)[s]?=some y):(s≠g/\L[s]?=some y)\/(s=g/\y=k):=by
 unfold zK at h
 split at h
 ·rename_i he;subst he
  rcases wC h with ⟨h1,h2⟩ | ⟨h1,h2⟩
  ·exact .inl ⟨by omega,h2⟩
  ·exact .inr ⟨h1,h2⟩
 ·rename_i he
  have hlt:=zf (hg.resolve_left he)
  by_cases hs:s=g
  ·subst hs;rw [List.getElem?_set_self hlt] at h;exact .inr ⟨rfl,(Option.some.inj h).symm⟩
  ·rw [List.getElem?_set_ne (Ne.symm hs)] at h;exact .inl ⟨hs,h⟩
theorem Wj {L:List Blk} {g:Nat} {k:Blk} (hg:Free L g):(zK L g k)[g]?=some k:=by
 unfold zK
 split
 ·rename_i he;subst he;simp
 ·rename_i he;exact List.getElem?_set_self (zf (hg.resolve_left he))
theorem z1r {L:List Blk} {g s:Nat} {k y:Blk} (hs:s≠g) (h:L[s]?=some y):(zK L g k)[s]?=some y:=by
 unfold zK
 split
 ·rw [List.getElem?_append_left (zf h)];exact h
 ·rw [List.getElem?_set_ne (Ne.symm hs)];exact h
theorem jl {C:Ctx} {g s:Nat} (hg:Free C.L g) (h:C.born s):s≠g:=by
 rintro rfl
 rcases hg with hg | hg
 ·have:=h.lt;omega
 ·obtain ⟨k,h1,h2⟩:=h
  rw [hg] at h1;cases h1;cases h2
theorem z2F {L:List Blk} {g:Nat} {k:Blk}:L.length<=(zK L g k).length:=by
 unfold zK;split<;>simp
theorem YQ {L:List Blk} {g t:Nat} {k k0:Blk} (hg:Free L g) (ht:L[t]?=some k0) (hk:k0.born=true):Free (L.set t k) g:=by
 rcases hg with hg | hg
 ·exact .inl (by rw [lls];exact hg)
 ·refine .inr ?_
  rw [List.getElem?_set_ne];exact hg
  rintro rfl;rw [hg] at ht;cases ht;cases hk
theorem z0K {C:Ctx} {g s:Nat} {k:Blk} {w:World} {φ:Nat->Loc} {X:Nat->Prop} (hg:Free C.L g) (h:C.born s):(⟨w,φ,zK C.L g k,X⟩:Ctx).born s:=by
 have hne:=jl hg h
 obtain ⟨k',h1,h2⟩:=h
 exact ⟨k',z1r hne h1,h2⟩
theorem z1A {C:Ctx} {g:Nat} {o:Obj} {k:Blk} {sz b:Nat} (hg:Free C.L g) (h:(newC C g o k sz).mine b):C.mine b\/b=C.w.heap.size:=by
 obtain ⟨s,l,hl,ha,rfl⟩:=h
 rcases Yj hg hl with ⟨h1,h2⟩ | ⟨h1,h2⟩
 ·left;exact ⟨s,l,h2,ha,by simp [newC,newφ,h1]⟩
 ·right;simp [newC,newφ,h1]
theorem Yu {C:Ctx} {g:Nat} (hg:Free C.L g) (o:Obj) (k:Blk) (sz:Nat):Ext C (newC C g o k sz) where
 size:=by simp [newC,ZT]
 frame:=fun b hb _=>ZU hb
 sub:=fun b h=>(z1A hg h).imp id (fun h=>by omega)
 slot:=fun s hs=>by simp [newC,newφ,jl hg hs]
 bo:=fun s hs=>z0K hg hs
 len:=z2F
 cap:=fun b c e fr h=>⟨c,e,fr,(ZU (Array.getElem?_eq_some_iff.1 h).1).trans h,rfl⟩
 ex:=rfl
 os:=rfl
 tape:=rfl
 output:=rfl
theorem ZX.mono {tc:Bool} {C C':Ctx} (h:Ext C C') {s sz:Nat} {rows:List (List IV)} (hs:C.born s) (hk:ZX tc C s sz rows)
  (hh:C'.w.heap[(C.φ s).blk]?=C.w.heap[(C.φ s).blk]?):ZX tc C' s sz rows:=by
 obtain ⟨h1,c,e,fr,h2,hfr,h3,h4⟩:=hk
 refine ⟨by rw [h.slot s hs];exact h1,c,e,fr,by rw [h.slot s hs,hh];exact h2,hfr,by rw [h.slot s hs];exact h3,fun i row hi=>?_⟩
 obtain ⟨h5,h6⟩:=h4 i row hi
 refine ⟨h5,fun j x hj=>?_⟩
 obtain ⟨v,h7,h8⟩:=h6 j x hj
 exact ⟨v,by rw [h.slot s hs];exact h7,h8.mono h⟩
theorem wH.mono {C C':Ctx} (h:Ext C C') {s:Nat} {k:Blk} (hs0:C.L[s]?=some k) (hk:wH C s k)
  (hh:C'.w.heap[(C.φ s).blk]?=C.w.heap[(C.φ s).blk]?):wH C' s k:=by
 cases k with
 | cells sz rows=>
  have hs:C.born s:=⟨_,hs0,rfl⟩
  exact ZX.mono h hs hk hh
 | tcells ty sz rows=>
  have hs:C.born s:=⟨_,hs0,rfl⟩
  refine ⟨ZX.mono h hs hk.1 hh,?_⟩
  obtain ⟨_,h1,c,fr,h2⟩:=hk
  exact ⟨by rw [h.slot s hs];exact h1,c,fr,by rw [h.slot s hs,hh];exact h2⟩
 | siter t pos=>
  have hs:C.born s:=⟨_,hs0,rfl⟩
  exact ⟨by rw [h.slot s hs];exact hk.1,by rw [h.slot s hs,hh];exact hk.2⟩
 | lp r l=>
  have hs:C.born s:=⟨_,hs0,rfl⟩
  exact ⟨by rw [h.slot s hs,hh];exact hk.1,fun n=>(hk.2 n).mono h⟩
 | map es c=>
  have hs:C.born s:=⟨_,hs0,rfl⟩
  obtain ⟨ms,h1,h2,h3⟩:=hk
  exact ⟨ms,by rw [h.slot s hs,hh];exact h1,h2,fun i e he=>by obtain ⟨m,h4,h5,h6,h7⟩:=h3 i e he;exact ⟨m,h4,h5,h6.mono h,h7⟩⟩
 | mit m=>
  have hs:C.born s:=⟨_,hs0,rfl⟩
  obtain ⟨h1,h2,since,last,h3⟩:=hk
  exact ⟨by rw [h.slot s hs];exact h1,h.bo m h2,since,last,by rw [h.slot s hs,hh,h.slot m h2];exact h3⟩
 | dead=>trivial
 | unborn=>trivial
theorem z0i {g0 g:Nat} {C:Ctx} {o:Obj} {k:Blk} {sz:Nat} (hg:Free C.L g) (wf:Wf g0 C) (sim:Sim C):Wf g0 (newC C g o k sz) where
 inj:=fun s t ks kt hs ht as at_ heq=>by
  rcases Yj hg hs with ⟨h1,h2⟩ | ⟨h1,h2⟩<;>rcases Yj hg ht with ⟨h3,h4⟩ | ⟨h3,h4⟩
  ·simp only [newC,newφ,h1,h3,if_false] at heq
   exact wf.inj s t ks kt h2 h4 as at_ heq
  ·subst h3
   simp only [newC,newφ,h1,if_false,if_true] at heq
   have:=yP sim ⟨s,ks,h2,as,rfl⟩
   omega
  ·subst h1
   simp only [newC,newφ,h3,if_false,if_true] at heq
   have:=yP sim ⟨t,kt,h4,at_,rfl⟩
   omega
  ·omega
 lo:=fun b h=>(z1A hg h).elim (wf.lo b) (fun h=>by rw [h];exact wf.g)
 apart:=fun b hx h=>(z1A hg h).elim (wf.apart b hx) (fun h=>by have:=wf.exlo b hx;omega)
 exlo:=fun b hx=>by have:=wf.exlo b hx;simp [newC,ZT];omega
 g:=by have:=wf.g;simp [newC,ZT];omega
theorem WX {C:Ctx} {g:Nat} {o:Obj} {k:Blk} {sz:Nat} (hg:Free C.L g) (sim:Sim C) (hk:wH (newC C g o k sz) g k):Sim (newC C g o k sz):=by
 intro s l hl
 rcases Yj hg hl with ⟨h1,h2⟩ | ⟨h1,h2⟩
 ·have h3:=sim s l h2
  by_cases ha:l.alive=true
  ·exact h3.mono (Yu hg o k sz) h2 (ZU (yP sim ⟨s,l,h2,ha,rfl⟩))
  ·cases l<;>first | trivial | (exfalso;exact ha rfl)
 ·subst h1;subst h2;exact hk
def Flat (C:Ctx) (c:Array Value) (base sz:Nat) (rows:List (List IV)):Prop:=
 base+rows.length*sz<=c.size/\∀(i:Nat) (row:List IV),rows[i]?=some row->row.length=sz/\
  ∀(j:Nat) (x:IV),row[j]?=some x->∃v,c[base+i*sz+j]?=some v/\VR C x v
theorem Flat.mono {C C':Ctx} (h:Ext C C') {c:Array Value} {base sz:Nat} {rows:List (List IV)} (hf:Flat C c base sz rows):Flat C' c base sz rows:=
 ⟨hf.1,fun i row hi=>⟨(hf.2 i row hi).1,fun j x hj=>let ⟨v,h1,h2⟩:=(hf.2 i row hi).2 j x hj;⟨v,h1,h2.mono h⟩⟩⟩
theorem z9m {E:Env} {C:Ctx} {g:Nat} (hg:Free C.L g) {K:IV->List Blk->Prop} {c:Array Value} {e:TypeId} {fr:Nat × Nat} {sz:Nat} {rows:List (List IV)} {r:IV} {v:Value} (wf:Wf E.g0 C) (sim:Sim C) (hfr:frOk false c.size fr)
  (hf:Flat C c 0 sz rows) (hv:VR (newC C g (.cells c e fr) (.cells sz rows) sz) r v) (h:K r (zK C.L g (.cells sz rows))) :
  Post E C K v (ZT C.w (.cells c e fr)):=by
 refine ⟨r,zK C.L g (Blk.cells sz rows),newφ C g sz,h,z0i (o:=.cells c e fr) hg wf sim,WX (o:=.cells c e fr) hg sim ?_,Yu hg (.cells c e fr) (.cells sz rows) sz,hv⟩
 have hf':=hf.mono (Yu hg (.cells c e fr) (.cells sz rows) sz)
 refine ⟨by simp [newC,newφ],c,e,fr,by simp only [newC,newφ,if_true];exact Zm,hfr,?_,?_⟩
 ·simpa [newC,newφ] using hf'.1
 ·intro i row hi
  refine ⟨(hf'.2 i row hi).1,fun j x hj=>?_⟩
  obtain ⟨u,h1,h2⟩:=(hf'.2 i row hi).2 j x hj
  exact ⟨u,by simpa [newC,newφ] using h1,h2⟩
theorem YY {E:Env} {C:Ctx} {g:Nat} (hg:Free C.L g) {K:IV->List Blk->Prop} {c:Array Value} {e:TypeId} {sz:Nat} {rows:List (List IV)} {r:IV} {v:Value} (wf:Wf E.g0 C) (sim:Sim C)
  (hf:Flat C c 0 sz rows) (hv:VR (newC C g (.cells c e) (.cells sz rows) sz) r v) (h:K r (zK C.L g (.cells sz rows))) :
  Post E C K v (ZT C.w (.cells c e)):=z9m hg wf sim (z0f _ _) hf hv h
theorem YI {C:Ctx} {g:Nat} (hg:Free C.L g) {o:Obj} {k:Blk} {sz:Nat} (hkb:k.born=true:=by rfl):VR (newC C g o k sz) (.ptr g 0 0) (.pointer (some ⟨C.w.heap.size,0,none⟩)):=by
 have:=VR.ptr (C:=newC C g o k sz) g 0 0 ⟨k,Wj hg,hkb⟩
 simpa [newC,newφ] using this
theorem jD {C:Ctx} {g:Nat} (hg:Free C.L g) {c:Array Value} {e:TypeId} {fr:Nat × Nat} {k:Blk} {sz len cap cap':Nat} (hl:len<=cap) (hc:cap<=cap') (hs:cap'*sz<=c.size) (hm:cap'<=9223372036854775807) (hkb:k.born=true:=by rfl) :
  VR (newC C g (.cells c e fr) k sz) (.sl g 0 len cap) (.slice (some ⟨C.w.heap.size,0,none⟩) len cap'):=by
 refine VR.sl (C:=newC C g (.cells c e fr) k sz) g 0 len cap _ cap' ⟨k,Wj hg,hkb⟩ hl hc (.inr ⟨by simp [newC,newφ],c,e,fr,?_,?_⟩) hm
 ·simp only [newC,newφ,if_true];exact Zm
 ·simpa [newC,newφ] using hs
theorem YF {C:Ctx} {g:Nat} (hg:Free C.L g) {c:Array Value} {e:TypeId} {k:Blk} {sz len cap cap':Nat} (hl:len<=cap) (hc:cap<=cap') (hs:cap'*sz<=c.size) (hm:cap'<=9223372036854775807) (hkb:k.born=true:=by rfl) :
  VR (newC C g (.cells c e) k sz) (.sl g 0 len cap) (.slice (some ⟨C.w.heap.size,0,none⟩) len cap'):=jD hg hl hc hs hm hkb
theorem zaH {C:Ctx} {x:IV} {v:Value} (h:VR C x v):Flat C v.cells 0 (cellsOf x).length [cellsOf x]:=by
 obtain ⟨h1,h2⟩:=h.cells
 refine ⟨by simp [h1],fun i row hi=>?_⟩
 cases i with
 | zero=>
  simp at hi;subst hi
  exact ⟨rfl,fun j y hj=>by simpa using h2 j y hj⟩
 | succ i=>simp at hi
def setW (w:World) (b:Nat) (o:Obj):World:={ w with heap:=w.heap.setIfInBounds b o }
theorem Ze {w:World} {o:Obj} {b b':Nat} (h:b'≠b):(setW w b o).heap[b']?=w.heap[b']?:=by
 show (w.heap.setIfInBounds b o)[b']?=_
 rw [Array.getElem?_setIfInBounds,if_neg (Ne.symm h)]
theorem zD {w:World} {o:Obj} {b:Nat} (h:b<w.heap.size):(setW w b o).heap[b]?=some o:=by
 show (w.heap.setIfInBounds b o)[b]?=_
 rw [Array.getElem?_setIfInBounds,if_pos rfl,if_pos h]
def setC (C:Ctx) (s:Nat) (o:Obj) (k:Blk):Ctx:=⟨setW C.w (C.φ s).blk o,C.φ,C.L.set s k,C.X⟩
theorem zY {α:Type} {l:List α} {x y:α} {s t:Nat} (h:(l.set s x)[t]?=some y):(t≠s/\l[t]?=some y)\/(t=s/\y=x/\s<l.length):=by
 by_cases ht:t=s
 ·subst ht
  have:=zf h
  simp at this
  rw [List.getElem?_set_self this] at h
  exact .inr ⟨rfl,(Option.some.inj h).symm,this⟩
 ·rw [List.getElem?_set_ne (Ne.symm ht)] at h
  exact .inl ⟨ht,h⟩
theorem J5 {C:Ctx} {s b:Nat} {o:Obj} {k k0:Blk} (hs:C.L[s]?=some k0) (ha:k0.alive=true) (h:(setC C s o k).mine b):C.mine b:=by
 obtain ⟨t,l,hl,hla,rfl⟩:=h
 rcases zY hl with ⟨_,h2⟩ | ⟨h1,_,_⟩
 ·exact ⟨t,l,h2,hla,rfl⟩
 ·subst h1;exact ⟨t,k0,hs,ha,rfl⟩
theorem Jf {C:Ctx} {s t:Nat} {o:Obj} {k:Blk} (hkb:k.born=true) (h:C.born t):(setC C s o k).born t:=by
 obtain ⟨l,h1,h2⟩:=h
 by_cases ht:t=s
 ·subst ht;exact ⟨k,List.getElem?_set_self (zf h1),hkb⟩
 ·exact ⟨l,(List.getElem?_set_ne (Ne.symm ht)).trans h1,h2⟩
theorem JL {C:Ctx} {s:Nat} {k k0:Blk} {c c':Array Value} {e:TypeId} {fr0:Nat × Nat} (hs:C.L[s]?=some k0) (ha:k0.alive=true)
  (hc:C.w.heap[(C.φ s).blk]?=some (.cells c e fr0)) (hsz:c'.size=c.size) (hkb:k.born=true:=by rfl):Ext C (setC C s (.cells c' e fr0) k) where
 size:=by simp [setC,setW]
 frame:=fun b _ hm=>Ze (fun h=>hm ⟨s,k0,hs,ha,h.symm⟩)
 sub:=fun b h=>.inl (J5 hs ha h)
 slot:=fun _ _=>rfl
 bo:=fun t ht=>Jf hkb ht
 len:=by simp [setC]
 cap:=fun b d e' fr h=>by
  by_cases hb:b=(C.φ s).blk
  ·subst hb
   rw [hc] at h
   obtain ⟨rfl,rfl,rfl⟩:=by simpa using h
   exact ⟨c',e,fr0,zD (Array.getElem?_eq_some_iff.1 hc).1,hsz⟩
  ·exact ⟨d,e',fr,(Ze hb).trans h,rfl⟩
 ex:=rfl
 os:=rfl
 tape:=rfl
 output:=rfl
theorem Jy {g0:Nat} {C:Ctx} {s:Nat} {k k0:Blk} {o:Obj} (wf:Wf g0 C) (hs:C.L[s]?=some k0) (ha:k0.alive=true):Wf g0 (setC C s o k) where
 inj:=fun t u kt ku ht hu at_ au heq=>by
  have f:∀{t:Nat} {kt:Blk},(C.L.set s k)[t]?=some kt->kt.alive=true->∃l:Blk,C.L[t]?=some l/\l.alive=true:=fun {t kt} h ha'=>by
   rcases zY h with ⟨_,h2⟩ | ⟨h1,_,_⟩
   ·exact ⟨kt,h2,ha'⟩
   ·subst h1;exact ⟨k0,hs,ha⟩
  obtain ⟨l,h1,h2⟩:=f ht at_
  obtain ⟨l',h3,h4⟩:=f hu au
  exact wf.inj t u l l' h1 h3 h2 h4 heq
 lo:=fun b h=>wf.lo b (J5 hs ha h)
 apart:=fun b hx h=>wf.apart b hx (J5 hs ha h)
 exlo:=fun b hx=>by have:=wf.exlo b hx;simpa [setC,setW] using this
 g:=by have:=wf.g;simpa [setC,setW] using this
theorem z9G {g0:Nat} {C:Ctx} {s:Nat} {k k0:Blk} {c c':Array Value} {e:TypeId} {fr0:Nat × Nat} (wf:Wf g0 C) (sim:Sim C) (hs:C.L[s]?=some k0) (ha:k0.alive=true)
  (hc:C.w.heap[(C.φ s).blk]?=some (.cells c e fr0)) (hsz:c'.size=c.size) (hk:wH (setC C s (.cells c' e fr0) k) s k) (hkb:k.born=true:=by rfl):Sim (setC C s (.cells c' e fr0) k):=by
 intro t l hl
 rcases zY hl with ⟨h1,h2⟩ | ⟨h1,h2,_⟩
 ·have h3:=sim t l h2
  by_cases hla:l.alive=true
  ·refine h3.mono (JL hs ha hc hsz hkb) h2 (Ze fun h=>h1 (wf.inj t s l k0 h2 hs hla ha h))
  ·cases l<;>first | trivial | (exfalso;exact hla rfl)
 ·subst h1;subst h2;exact hk
theorem Wv {C:Ctx} {s:Nat} {k k0:Blk} {o0 o:Obj} (hs:C.L[s]?=some k0) (ha:k0.alive=true)
  (hc:C.w.heap[(C.φ s).blk]?=some o0) (hn:∀c e fr,o0≠.cells c e fr) (hkb:k.born=true:=by rfl):Ext C (setC C s o k) where
 size:=by simp [setC,setW]
 frame:=fun b _ hm=>Ze (fun h=>hm ⟨s,k0,hs,ha,h.symm⟩)
 sub:=fun b h=>.inl (J5 hs ha h)
 slot:=fun _ _=>rfl
 bo:=fun t ht=>Jf hkb ht
 len:=by simp [setC]
 cap:=fun b d e' fr h=>by
  by_cases hb:b=(C.φ s).blk
  ·subst hb
   rw [hc] at h
   exact absurd (Option.some.inj h) (hn _ _ _)
  ·exact ⟨d,e',fr,(Ze hb).trans h,rfl⟩
 ex:=rfl
 os:=rfl
 tape:=rfl
 output:=rfl
theorem vw {g0:Nat} {C:Ctx} {s:Nat} {k k0:Blk} {o0 o:Obj} (wf:Wf g0 C) (sim:Sim C) (hs:C.L[s]?=some k0) (ha:k0.alive=true)
  (hc:C.w.heap[(C.φ s).blk]?=some o0) (hn:∀c e fr,o0≠.cells c e fr) (hk:wH (setC C s o k) s k) (hkb:k.born=true:=by rfl):Sim (setC C s o k):=by
 intro t l hl
 rcases zY hl with ⟨h1,h2⟩ | ⟨h1,h2,_⟩
 ·have h3:=sim t l h2
  by_cases hla:l.alive=true
  ·refine h3.mono (Wv hs ha hc hn hkb) h2 (Ze fun h=>h1 (wf.inj t s l k0 h2 hs hla ha h))
  ·cases l<;>first | trivial | (exfalso;exact hla rfl)
 ·subst h1;subst h2;exact hk
theorem ZR {P:Program} {w:World} {r:Nat} {o0:Obj} (o:Obj) (hb:w.heap[r]?=some o0) (hn:∀c e fr,o0≠.cells c e fr):(setObj r o).run P w=.ok () (setW w r o):=by
 unfold setObj
 cases o0 with
 | cells c e fr=>exact absurd rfl (hn _ _ _)
 | _=>simp [Sem.run,hb,setW]
theorem Zq {P:Program} {w:World} {r:Nat} {o0:Obj} (hb:w.heap[r]?=some o0) (hn:∀c e fr,o0≠.cells c e fr):(getObj r).run P w=.ok o0 w:=by
 unfold getObj
 cases o0 with
 | cells c e fr=>exact absurd rfl (hn _ _ _)
 | _=>simp [Sem.run,hb]
end Go.X
end
section
namespace Go.X
open Go

theorem zG {α β:Type} {f:α->Option β}:∀{l:List α} {l':List β},mapO f l=some l'->l'.length=l.length
 | [],l',h=>by simp only [mapO,sij] at h;subst h;rfl
 | x::r,l',h=>by
  simp only [mapO] at h
  split at h
  ·split at h
   ·rename_i y hy ys hys
    simp only [sij] at h;subst h
    simp [zG hys]
   ·cases h
  ·cases h
theorem zM {α β:Type} {f:α->Option β}:∀{l:List α} {l':List β},mapO f l=some l'->∀(i:Nat) (y:β),l'[i]?=some y->∃x,l[i]?=some x/\f x=some y
 | [],l',h,i,y,hy=>by simp only [mapO,sij] at h;subst h;simp at hy
 | x::r,l',h,i,y,hy=>by
  simp only [mapO] at h
  split at h
  ·split at h
   ·rename_i y0 hy0 _ ys hys
    simp only [sij] at h;subst h
    cases i with
    | zero=>simp at hy;subst hy;exact ⟨x,rfl,hy0⟩
    | succ i=>simp at hy;exact zM hys i y hy
   ·cases h
  ·cases h
theorem Zx {α β:Type} {f:α->Option β}:∀{l:List α} {l':List β},mapO f l=some l'->∀(i:Nat) (x:α),l[i]?=some x->∃y,l'[i]?=some y/\f x=some y
 | [],l',h,i,y,hy=>by simp at hy
 | x::r,l',h,i,y,hy=>by
  simp only [mapO] at h
  split at h
  ·split at h
   ·rename_i y0 hy0 _ ys hys
    simp only [sij] at h;subst h
    cases i with
    | zero=>simp at hy;subst hy;exact ⟨y0,rfl,hy0⟩
    | succ i=>simp at hy;exact Zx hys i y hy
   ·cases h
  ·cases h
theorem Zy {l:List IV}:closed.closedL l=true↔∀(i:Nat) (x:IV),l[i]?=some x->closed x=true:=by
 induction l with
 | nil=>simp [closed.closedL]
 | cons a r ih=>
  simp only [closed.closedL,Bool.and_eq_true,ih]
  constructor
  ·rintro ⟨h1,h2⟩ i x hx
   cases i with
   | zero=>simp at hx;subst hx;exact h1
   | succ i=>exact h2 i x (by simpa using hx)
  ·intro h
   exact ⟨h 0 a rfl,fun i x hx=>h (i+1) x (by simpa using hx)⟩
theorem Yl {l:List IV}:yE.noTreeL l=true↔∀(i:Nat) (x:IV),l[i]?=some x->yE x=true:=by
 induction l with
 | nil=>simp [yE.noTreeL]
 | cons a r ih=>
  simp only [yE.noTreeL,Bool.and_eq_true,ih]
  constructor
  ·rintro ⟨h1,h2⟩ i x hx
   cases i with
   | zero=>simp at hx;subst hx;exact h1
   | succ i=>exact h2 i x (by simpa using hx)
  ·intro h
   exact ⟨h 0 a rfl,fun i x hx=>h (i+1) x (by simpa using hx)⟩
theorem VR.weaken {C C':Ctx} (hw:C'.w=C.w) (hown:∀b,C'.own b->C.own b) {x:IV} {v:Value} (h:VR C x v):closed x=true->VR C' x v:=by
 induction h with
 | bool b=>exact fun _=>.bool b
 | int k n=>exact fun _=>.int k n
 | str s=>exact fun _=>.str s
 | raw v h=>exact fun _=>.raw v h
 | und=>exact fun _=>.und
 | ptr s r o hs=>intro h;cases h
 | sl s off len cap a cap' hs hl hc ha=>intro h;cases h
 | isl rows a cap' sz vals hcap hsz hcl ha hv ih=>
  intro _
  refine .isl rows a cap' sz vals hcap hsz hcl ?_ (fun i row hi j x hj=>ih i row hi j x hj (Zy.1 (hcl i row hi) j x hj))
  rcases ha with h0 | ⟨b,o,ha,hb,hn,hc⟩
  ·exact .inl h0
  ·exact .inr ⟨b,o,ha,by rw [hw];exact hb,fun h=>hn (hown b h),fun i row hi j x hj=>by rw [hw];exact hc i row hi j x hj⟩
 | iptr rows r o b base sz vals hsz hcl hb hn ha hv ih=>
  intro _
  exact .iptr rows r o b base sz vals hsz hcl (by rw [hw];exact hb) (fun h=>hn (hown b h)) (fun i row hi j x hj=>by rw [hw];exact ha i row hi j x hj)
   (fun i row hi j x hj=>ih i row hi j x hj (Zy.1 (hcl i row hi) j x hj))
 | esl a=>exact fun _=>.esl a
 | nsl=>exact fun _=>.nsl
 | agg cs vs hl hv ih=>intro h;exact .agg cs vs hl fun i x hi=>ih i x hi (Zy.1 h i x hi)
 | tup cs vs hl hv ih=>intro h;exact .tup cs vs hl fun i x hi=>ih i x hi (Zy.1 h i x hi)
 | fn f as bs va vb ha hb hva hvb iha ihb=>
  intro h
  simp only [closed,Bool.and_eq_true] at h
  exact .fn f as bs va vb ha hb (fun i x hi=>iha i x hi (Zy.1 h.1 i x hi)) (fun i x hi=>ihb i x hi (Zy.1 h.2 i x hi))
 | iface t x v hv ih=>intro h;exact .iface t x v (ih h)
 | mp s hs=>intro h;cases h
 | yld s hs=>intro h;cases h
theorem WT {L:List Blk}:∀(n:Nat) (m:Ren) (x y:IV),(∀s t,m s≠some (some t))->conv L n m x=some y->closed y=true
 | 0,m,x,y,hm,h=>by cases h
 | n+1,m,x,y,hm,h=>by
  have L1:∀{l l':List IV},mapO (conv L n m) l=some l'->closed.closedL l'=true:=fun {l l'} hl=>Zy.2 fun i x' hi=>by
   obtain ⟨z,_,hz⟩:=zM hl i x' hi
   exact WT n m z x' hm hz
  cases x with
  | ptr s r o=>
   simp only [conv] at h
   split at h
   ·rename_i t ht;exact absurd ht (hm s t)
   ·split at h
    ·rw [oms] at h;obtain ⟨rs,_,rfl⟩:=h;rfl
    ·rw [oms] at h;obtain ⟨rs,_,rfl⟩:=h;rfl
    ·cases h
   ·cases h
  | sl s off len cap=>
   simp only [conv] at h
   split at h
   ·rename_i t ht;exact absurd ht (hm s t)
   ·split at h
    ·split at h
     ·rw [oms] at h;obtain ⟨rs,_,rfl⟩:=h;rfl
     ·cases h
    ·split at h
     ·rw [oms] at h;obtain ⟨rs,_,rfl⟩:=h;rfl
     ·cases h
    ·cases h
   ·cases h
  | mp s=>
   simp only [conv] at h
   split at h
   ·rename_i t ht;exact absurd ht (hm s t)
   ·cases h
  | yld s=>
   simp only [conv] at h
   split at h
   ·rename_i t ht;exact absurd ht (hm s t)
   ·cases h
  | agg cs=>simp only [conv,oms] at h;obtain ⟨l,hl,rfl⟩:=h;exact L1 hl
  | tup cs=>simp only [conv,oms] at h;obtain ⟨l,hl,rfl⟩:=h;exact L1 hl
  | fn f a b=>
   simp only [conv] at h
   split at h
   ·rename_i a' b' ha hb
    simp only [sij] at h;subst h
    simp only [closed,L1 ha,L1 hb,Bool.and_self]
   ·cases h
  | iface t v=>simp only [conv,oms] at h;obtain ⟨z,hz,rfl⟩:=h;exact WT n m v z hm hz
  | bool b=>simp only [conv,sij] at h;subst h;rfl
  | int k i=>simp only [conv,sij] at h;subst h;rfl
  | str s=>simp only [conv,sij] at h;subst h;rfl
  | raw v=>simp only [conv,sij] at h;subst h;rfl
  | und=>simp only [conv,sij] at h;subst h;rfl
  | isl rows=>simp only [conv,sij] at h;subst h;rfl
  | iptr rows r o=>simp only [conv,sij] at h;subst h;rfl
  | esl=>simp only [conv,sij] at h;subst h;rfl
  | nsl=>simp only [conv,sij] at h;subst h;rfl
theorem z5e (m:Ren) (s t:Nat):m.inner s≠some (some t):=by
 unfold Ren.inner
 split
 ·intro h;cases h
 ·intro h;cases h
def z4G (C C':Ctx) (m:Ren):Prop:=∀s k,C.L[s]?=some k->
 (m s=some none->k.alive=true->¬C'.own (C.φ s).blk)/\(∀t,m s=some (some t)->(k.born=true->C'.born t)/\C'.φ t=C.φ s)
theorem z4G.inner {C C':Ctx} {m:Ren} (h:z4G C C' m):z4G C C' m.inner:=fun s k hk=>
 ⟨fun hm ha=>(h s k hk).1 (by unfold Ren.inner at hm;split at hm<;>first | assumption | cases hm) ha,fun t ht=>absurd ht (z5e m s t)⟩
theorem YX {α:Type} {c:Array α} {i:Nat} {v d:α} (h:c[i]?=some v):c.getD i d=v:=by
 rw [Array.getD_eq_getD_getElem?,h];rfl
theorem Zu {C C':Ctx} (hw:C'.w=C.w) (sim:Sim C) (hown:∀b,C'.own b->C.own b) :
  ∀(n:Nat) (m:Ren) (x x':IV) (v:Value),z4G C C' m->conv C.L n m x=some x'->VR C x v->VR C' x' v
 | 0,m,x,x',v,hm,h,hx=>by cases h
 | n+1,m,x,x',v,hm,h,hx=>by
  have Lc:∀{cs l:List IV} {vs:List Value},mapO (conv C.L n m) cs=some l->(∀(i:Nat) (x:IV),cs[i]?=some x->VR C x (vs.getD i undef))->
    ∀(i:Nat) (x:IV),l[i]?=some x->VR C' x (vs.getD i undef):=fun hl hv i y hi=>by
   obtain ⟨z,h1,h2⟩:=zM hl i y hi
   exact Zu hw sim hown n m z y _ hm h2 (hv i z h1)
  -- what is frozen
  have Fz:∀{tc:Bool} {s:Nat} {sz:Nat} {k:Blk} {rows rows0 rs:List (List IV)} (off:Nat),C.L[s]?=some k->k.alive=true->ZX tc C s sz rows->
    (∀(i:Nat) (row:List IV),rows0[i]?=some row->rows[off+i]?=some row)->mapO (mapO (conv C.L n m.inner)) rows0=some rs->m s=some none->
    ∃(c:Array Value) (e:TypeId) (fr:Nat × Nat),C.w.heap[(C.φ s).blk]?=some (.cells c e fr)/\(C.φ s).sz=sz/\rs.length=rows0.length/\
     (∀(i:Nat) (row:List IV),rs[i]?=some row->row.length=sz/\closed.closedL row=true/\∀(j:Nat) (x:IV),row[j]?=some x->
      C'.w.cell? ⟨(C.φ s).blk,(C.φ s).base+(off+i)*sz+j,none⟩=some (c.getD ((C.φ s).base+(off+i)*sz+j) undef)/\
      VR C' x (c.getD ((C.φ s).base+(off+i)*sz+j) undef))/\(C.φ s).blk<C'.w.heap.size/\¬C'.own (C.φ s).blk:=by
   intro tc s sz k rows rows0 rs off hs hka hok hsub hrs hms
   obtain ⟨h1,c,e,fr,h2,_,h3,h4⟩:=hok
   refine ⟨c,e,fr,h2,h1,zG hrs,fun i row hi=>?_,by rw [hw];exact (Array.getElem?_eq_some_iff.1 h2).1,(hm s _ hs).1 hms hka⟩
   obtain ⟨row0,h5,h6⟩:=zM hrs i row hi
   obtain ⟨h7,h8⟩:=h4 _ row0 (hsub i row0 h5)
   refine ⟨(zG h6).trans h7,Zy.2 fun j y hj=>?_,fun j y hj=>?_⟩
   ·obtain ⟨z,_,hz⟩:=zM h6 j y hj
    exact WT n _ z y (z5e m) hz
   ·obtain ⟨z,hz1,hz⟩:=zM h6 j y hj
    obtain ⟨u,h9,h10⟩:=h8 j z hz1
    rw [YX h9]
    refine ⟨?_,Zu hw sim hown n _ z y u hm.inner hz h10⟩
    rw [hw]
    simp only [World.cell?,h2]
    simpa using h9
  cases x with
  | ptr s r o=>
   cases hx with
   | ptr _ _ _ hs=>
   simp only [conv] at h
   split at h
   ·rename_i t ht
    simp only [sij] at h;subst h
    obtain ⟨ks,hk1,hk2⟩:=hs
    obtain ⟨h1,h2⟩:=(hm s _ hk1).2 t ht
    replace h1:=h1 hk2
    rw [<-h2];exact .ptr t r o h1
   ·rename_i hms
    split at h
    ·rename_i sz rows hL
     rw [oms] at h;obtain ⟨rs,hrs,rfl⟩:=h
     obtain ⟨c,e,fr,h2,hsz,_,h4,h5,h6⟩:=Fz 0 hL rfl (sim _ _ hL) (fun i row hi=>by simpa using hi) hrs hms
     rw [hsz]
     refine .iptr rs r o _ _ sz (fun i j=>c.getD ((C.φ s).base+(0+i)*sz+j) undef) (fun i row hi=>(h4 i row hi).1) (fun i row hi=>(h4 i row hi).2.1) h5 h6 ?_ ?_
     ·intro i row hi j x hj;simpa using ((h4 i row hi).2.2 j x hj).1
     ·intro i row hi j x hj;exact ((h4 i row hi).2.2 j x hj).2
    ·rename_i ty sz rows hL
     rw [oms] at h;obtain ⟨rs,hrs,rfl⟩:=h
     obtain ⟨c,e,fr,h2,hsz,_,h4,h5,h6⟩:=Fz 0 hL rfl (sim _ _ hL).1 (fun i row hi=>by simpa using hi) hrs hms
     rw [hsz]
     refine .iptr rs r o _ _ sz (fun i j=>c.getD ((C.φ s).base+(0+i)*sz+j) undef) (fun i row hi=>(h4 i row hi).1) (fun i row hi=>(h4 i row hi).2.1) h5 h6 ?_ ?_
     ·intro i row hi j x hj;simpa using ((h4 i row hi).2.2 j x hj).1
     ·intro i row hi j x hj;exact ((h4 i row hi).2.2 j x hj).2
    ·cases h
   ·cases h
  | sl s off len cap=>
   cases hx with
   | sl _ _ _ _ a cap' hs hl hc ha hmx=>
   simp only [conv] at h
   split at h
   ·rename_i t ht
    simp only [sij] at h;subst h
    obtain ⟨ks,hk1,hk2⟩:=hs
    obtain ⟨h1,h2⟩:=(hm s _ hk1).2 t ht
    replace h1:=h1 hk2
    exact .sl t off len cap a cap' h1 hl hc (by rw [h2,hw];exact ha) hmx
   ·rename_i hms
    split at h
    ·rename_i sz rows hL
     split at h
     ·rename_i hle
      rw [oms] at h;obtain ⟨rs,hrs,rfl⟩:=h
      obtain ⟨c,e,fr,h2,hsz,h3,h4,h5,h6⟩:=Fz off hL rfl (sim _ _ hL) (fun i row hi=>by
       rw [List.getElem?_take] at hi
       split at hi
       ·rw [List.getElem?_drop] at hi;exact hi
       ·cases hi) hrs hms
      have hlen:rs.length=len:=by rw [h3,List.length_take,List.length_drop];omega
      subst hlen
      refine .isl rs a cap' sz (fun i j=>c.getD ((C.φ s).base+(off+i)*sz+j) undef) (by omega) (fun i row hi=>(h4 i row hi).1) (fun i row hi=>(h4 i row hi).2.1) ?_ ?_
      ·rcases ha with h0 | ⟨ha,_⟩
       ·left;exact List.eq_nil_of_length_eq_zero (by omega)
       ·refine .inr ⟨_,_,ha,h5,h6,fun i row hi j x hj=>?_⟩
        have:=((h4 i row hi).2.2 j x hj).1
        rw [hsz]
        rw [show (C.φ s).base+off*sz+i*sz+j=(C.φ s).base+(off+i)*sz+j by rw [Nat.add_mul];omega]
        exact this
      ·intro i row hi j x hj;exact ((h4 i row hi).2.2 j x hj).2
     ·cases h
    ·rename_i ty sz rows hL
     split at h
     ·rename_i hle
      rw [oms] at h;obtain ⟨rs,hrs,rfl⟩:=h
      obtain ⟨c,e,fr,h2,hsz,h3,h4,h5,h6⟩:=Fz off hL rfl (sim _ _ hL).1 (fun i row hi=>by
       rw [List.getElem?_take] at hi
       split at hi
       ·rw [List.getElem?_drop] at hi;exact hi
       ·cases hi) hrs hms
      have hlen:rs.length=len:=by rw [h3,List.length_take,List.length_drop];omega
      subst hlen
      refine .isl rs a cap' sz (fun i j=>c.getD ((C.φ s).base+(off+i)*sz+j) undef) (by omega) (fun i row hi=>(h4 i row hi).1) (fun i row hi=>(h4 i row hi).2.1) ?_ ?_
      ·rcases ha with h0 | ⟨ha,_⟩
       ·left;exact List.eq_nil_of_length_eq_zero (by omega)
       ·refine .inr ⟨_,_,ha,h5,h6,fun i row hi j x hj=>?_⟩
        have:=((h4 i row hi).2.2 j x hj).1
        rw [hsz]
        rw [show (C.φ s).base+off*sz+i*sz+j=(C.φ s).base+(off+i)*sz+j by rw [Nat.add_mul];omega]
        exact this
      ·intro i row hi j x hj;exact ((h4 i row hi).2.2 j x hj).2
     ·cases h
    ·cases h
   ·cases h
  | mp s=>
   cases hx with
   | mp _ hs=>
   simp only [conv] at h
   split at h
   ·rename_i t ht
    simp only [sij] at h;subst h
    obtain ⟨ks,hk1,hk2⟩:=hs
    obtain ⟨h1,h2⟩:=(hm s _ hk1).2 t ht
    replace h1:=h1 hk2
    rw [<-h2];exact .mp t h1
   ·cases h
  | yld s=>
   cases hx with
   | yld _ hs=>
   simp only [conv] at h
   split at h
   ·rename_i t ht
    simp only [sij] at h;subst h
    obtain ⟨ks,hk1,hk2⟩:=hs
    obtain ⟨h1,h2⟩:=(hm s _ hk1).2 t ht
    replace h1:=h1 hk2
    rw [<-h2];exact .yld t h1
   ·cases h
  | agg cs=>simp only [conv,oms] at h;obtain ⟨l,hl,rfl⟩:=h;cases hx with | agg _ vs hle hv=>exact .agg l vs ((zG hl).trans hle) (Lc hl hv)
  | tup cs=>simp only [conv,oms] at h;obtain ⟨l,hl,rfl⟩:=h;cases hx with | tup _ vs hle hv=>exact .tup l vs ((zG hl).trans hle) (Lc hl hv)
  | fn f a b=>
   simp only [conv] at h
   split at h
   ·rename_i a' b' ha' hb'
    simp only [sij] at h;subst h
    cases hx with
    | fn _ _ _ va vb ha hb hva hvb=>exact .fn f a' b' va vb ((zG ha').trans ha) ((zG hb').trans hb) (Lc ha' hva) (Lc hb' hvb)
   ·cases h
  | iface t y=>simp only [conv,oms] at h;obtain ⟨z,hz,rfl⟩:=h;cases hx with | iface _ _ u hu=>exact .iface t z u (Zu hw sim hown n m y z u hm hz hu)
  | bool b=>simp only [conv,sij] at h;subst h;exact hx.weaken hw hown rfl
  | int k i=>simp only [conv,sij] at h;subst h;exact hx.weaken hw hown rfl
  | str s=>simp only [conv,sij] at h;subst h;exact hx.weaken hw hown rfl
  | raw v=>simp only [conv,sij] at h;subst h;exact hx.weaken hw hown rfl
  | und=>simp only [conv,sij] at h;subst h;exact hx.weaken hw hown rfl
  | isl rows=>simp only [conv,sij] at h;subst h;exact hx.weaken hw hown rfl
  | iptr rows r o=>simp only [conv,sij] at h;subst h;exact hx.weaken hw hown rfl
  | esl=>
   simp only [conv,sij] at h;subst h
   cases hx with
   | esl a=>exact .isl [] a 0 0 (fun _ _=>undef) (Nat.le_refl _) (fun i row hi=>by simp at hi) (fun i row hi=>by simp at hi) (.inl rfl) (fun i row hi=>by simp at hi)
  | nsl=>
   simp only [conv,sij] at h;subst h
   cases hx with
   | nsl=>exact .isl [] none 0 0 (fun _ _=>undef) (Nat.le_refl _) (fun i row hi=>by simp at hi) (fun i row hi=>by simp at hi) (.inl rfl) (fun i row hi=>by simp at hi)
theorem Jl {C C':Ctx} (hw:C'.w=C.w) :
  ∀(n:Nat) (m:Ren) (x x':IV) (v:Value),(∀s,C.born s->∃t,m s=some (some t)/\C'.born t/\C'.φ t=C.φ s)->yE x=true->
   conv C.L n m x=some x'->VR C x v->VR C' x' v
 | 0,m,x,x',v,hm,hn,h,hx=>by cases h
 | n+1,m,x,x',v,hm,hn,h,hx=>by
  have Lc:∀{cs l:List IV} {vs:List Value},yE.noTreeL cs=true->mapO (conv C.L n m) cs=some l->(∀(i:Nat) (x:IV),cs[i]?=some x->VR C x (vs.getD i undef))->
    ∀(i:Nat) (x:IV),l[i]?=some x->VR C' x (vs.getD i undef):=fun hn hl hv i y hi=>by
   obtain ⟨z,h1,h2⟩:=zM hl i y hi
   exact Jl hw n m z y _ hm (Yl.1 hn i z h1) h2 (hv i z h1)
  cases x with
  | ptr s r o=>
   cases hx with
   | ptr _ _ _ hs=>
   obtain ⟨t,h0,h1,h2⟩:=hm s hs
   simp only [conv,h0,sij] at h;subst h
   rw [<-h2];exact .ptr t r o h1
  | sl s off len cap=>
   cases hx with
   | sl _ _ _ _ a cap' hs hl hc ha hmx=>
   obtain ⟨t,h0,h1,h2⟩:=hm s hs
   simp only [conv,h0,sij] at h;subst h
   exact .sl t off len cap a cap' h1 hl hc (by rw [h2,hw];exact ha) hmx
  | mp s=>
   cases hx with
   | mp _ hs=>
   obtain ⟨t,h0,h1,h2⟩:=hm s hs
   simp only [conv,h0,sij] at h;subst h
   rw [<-h2];exact .mp t h1
  | yld s=>
   cases hx with
   | yld _ hs=>
   obtain ⟨t,h0,h1,h2⟩:=hm s hs
   simp only [conv,h0,sij] at h;subst h
   rw [<-h2];exact .yld t h1
  | agg cs=>simp only [conv,oms] at h;obtain ⟨l,hl,rfl⟩:=h;cases hx with | agg _ vs hle hv=>exact .agg l vs ((zG hl).trans hle) (Lc hn hl hv)
  | tup cs=>simp only [conv,oms] at h;obtain ⟨l,hl,rfl⟩:=h;cases hx with | tup _ vs hle hv=>exact .tup l vs ((zG hl).trans hle) (Lc hn hl hv)
  | fn f a b=>
   simp only [conv] at h
   simp only [yE,Bool.and_eq_true] at hn
   split at h
   ·rename_i a' b' ha' hb'
    simp only [sij] at h;subst h
    cases hx with
    | fn _ _ _ va vb ha hb hva hvb=>exact .fn f a' b' va vb ((zG ha').trans ha) ((zG hb').trans hb) (Lc hn.1 ha' hva) (Lc hn.2 hb' hvb)
   ·cases h
  | iface t y=>simp only [conv,oms] at h;obtain ⟨z,hz,rfl⟩:=h;cases hx with | iface _ _ u hu=>exact .iface t z u (Jl hw n m y z u hm hn hz hu)
  | bool b=>simp only [conv,sij] at h;subst h;cases hx;exact .bool b
  | int k i=>simp only [conv,sij] at h;subst h;cases hx;exact .int k i
  | str s=>simp only [conv,sij] at h;subst h;cases hx;exact .str s
  | raw v=>simp only [conv,sij] at h;subst h;cases hx with | raw _ hr=>exact .raw _ hr
  | und=>simp only [conv,sij] at h;subst h;cases hx;exact .und
  | isl rows=>
   simp only [yE,List.isEmpty_iff] at hn
   subst hn
   simp only [conv,sij] at h;subst h
   cases hx with
   | isl _ a cap' sz vals hcap hsz hcl ha hv=>exact .isl [] a cap' sz vals hcap hsz hcl (.inl rfl) (fun i row hi=>by simp at hi)
  | iptr rows r o=>cases hn
  | esl=>
   simp only [conv,sij] at h;subst h
   cases hx with
   | esl a=>exact .isl [] a 0 0 (fun _ _=>undef) (Nat.le_refl _) (fun i row hi=>by simp at hi) (fun i row hi=>by simp at hi) (.inl rfl) (fun i row hi=>by simp at hi)
  | nsl=>
   simp only [conv,sij] at h;subst h
   cases hx with
   | nsl=>exact .isl [] none 0 0 (fun _ _=>undef) (Nat.le_refl _) (fun i row hi=>by simp at hi) (fun i row hi=>by simp at hi) (.inl rfl) (fun i row hi=>by simp at hi)
end Go.X
end
section
namespace Go.X
open Go

def shiftφ (C:Ctx) (φ1:Nat->Loc):Nat->Loc:=fun s=>if s<C.L.length then C.φ s else φ1 (s - C.L.length)
theorem shiftφ_lt {C:Ctx} {φ1:Nat->Loc} {s:Nat} (h:s<C.L.length):shiftφ C φ1 s=C.φ s:=by simp only [shiftφ,h,if_true]
theorem shiftφ_ge {C:Ctx} {φ1:Nat->Loc} {t:Nat}:shiftφ C φ1 (C.L.length+t)=φ1 t:=by
 have h:¬C.L.length+t<C.L.length:=by omega
 simp only [shiftφ,h,if_false,Nat.add_sub_cancel_left]
theorem zQ {L:List Blk} {n:Nat} {m:Ren} {k k':Blk} (h:ZN L n m k=some k'):k'.alive=k.alive:=by
 cases k with
 | cells sz rows=>simp only [ZN,oms] at h;obtain ⟨l,_,rfl⟩:=h;rfl
 | siter t p=>simp only [ZN,sij] at h;subst h;rfl
 | tcells ty sz rows=>simp only [ZN,oms] at h;obtain ⟨l,_,rfl⟩:=h;rfl
 | map es c=>cases h
 | mit m=>cases h
 | lp r l=>simp only [ZN,oms] at h;obtain ⟨l,_,rfl⟩:=h;rfl
 | dead=>simp only [ZN,sij] at h;subst h;rfl
 | unborn=>simp only [ZN,sij] at h;subst h;rfl
theorem yD {L:List Blk} {n:Nat} {m:Ren} {k k':Blk} (h:ZN L n m k=some k'):k'.born=k.born:=by
 cases k with
 | cells sz rows=>simp only [ZN,oms] at h;obtain ⟨l,_,rfl⟩:=h;rfl
 | siter t p=>simp only [ZN,sij] at h;subst h;rfl
 | tcells ty sz rows=>simp only [ZN,oms] at h;obtain ⟨l,_,rfl⟩:=h;rfl
 | map es c=>cases h
 | mit m=>cases h
 | lp r l=>simp only [ZN,oms] at h;obtain ⟨l,_,rfl⟩:=h;rfl
 | dead=>simp only [ZN,sij] at h;subst h;rfl
 | unborn=>simp only [ZN,sij] at h;subst h;rfl
def zgh (k:Blk) (x:IV):Prop:=(∃sz rows,(k=.cells sz rows\/∃ty,k=.tcells ty sz rows)/\∃(i j:Nat) (row:List IV),rows[i]?=some row/\row[j]?=some x)\/∃(r:Loop) (l:List IV) (n:Nat),k=.lp r l/\l[n]?=some x
theorem z14 {C C':Ctx} {n:Nat} {m:Ren} {s s' sz:Nat} {rows rs:List (List IV)} (hw:C'.w=C.w) (hφ:C'.φ s'=C.φ s)
  (hc:∀(x x':IV) (v:Value) (i j:Nat) (row:List IV),rows[i]?=some row->row[j]?=some x->conv C.L n m x=some x'->VR C x v->VR C' x' v)
  (hrs:mapO (mapO (conv C.L n m)) rows=some rs) {tc:Bool} (hk:ZX tc C s sz rows):ZX tc C' s' sz rs:=by
 obtain ⟨h1,c,e,fr,h2,hfr,h3,h4⟩:=hk
 refine ⟨by rw [hφ];exact h1,c,e,fr,by rw [hφ,hw];exact h2,hfr,by rw [hφ,zG hrs];exact h3,fun i row hi=>?_⟩
 obtain ⟨row0,h5,h6⟩:=zM hrs i row hi
 obtain ⟨h7,h8⟩:=h4 i row0 h5
 refine ⟨(zG h6).trans h7,fun j y hj=>?_⟩
 obtain ⟨z,h9,h10⟩:=zM h6 j y hj
 obtain ⟨u,h11,h12⟩:=h8 j z h9
 exact ⟨u,by rw [hφ];exact h11,hc z y u i j row0 h5 h9 h10 h12⟩
theorem Jk {C C':Ctx} {n:Nat} {m:Ren} {s s':Nat} {k k':Blk} (hw:C'.w=C.w) (hφ:C'.φ s'=C.φ s)
  (hc:∀x x' v,zgh k x->conv C.L n m x=some x'->VR C x v->VR C' x' v)
  (h:ZN C.L n m k=some k') (hk:wH C s k):wH C' s' k':=by
 cases k with
 | cells sz rows=>
  simp only [ZN,oms] at h;obtain ⟨rs,hrs,rfl⟩:=h
  exact z14 hw hφ (fun x x' v i j row h5 h9=>hc x x' v (.inl ⟨sz,rows,.inl rfl,i,j,row,h5,h9⟩)) hrs hk
 | tcells ty sz rows=>
  simp only [ZN,oms] at h;obtain ⟨rs,hrs,rfl⟩:=h
  refine ⟨z14 hw hφ (fun x x' v i j row h5 h9=>hc x x' v (.inl ⟨sz,rows,.inr ⟨ty,rfl⟩,i,j,row,h5,h9⟩)) hrs hk.1,?_⟩
  obtain ⟨_,h1,c,fr,h2⟩:=hk
  exact ⟨by rw [hφ];exact h1,c,fr,by rw [hφ,hw];exact h2⟩
 | siter t p=>simp only [ZN,sij] at h;subst h;exact ⟨by rw [hφ];exact hk.1,by rw [hφ,hw];exact hk.2⟩
 | map es c=>cases h
 | mit m=>cases h
 | lp r l=>
  simp only [ZN,oms] at h;obtain ⟨l',hl',rfl⟩:=h
  refine ⟨by rw [hφ,hw];exact hk.1,fun i=>?_⟩
  have h0:=hk.2 i
  rw [List.getD_eq_getElem?_getD] at h0 ⊢
  cases hy:l'[i]? with
  | none=>
   have:l[i]?=none:=by rw [List.getElem?_eq_none_iff] at hy ⊢;rw [<-zG hl'];exact hy
   rw [this] at h0
   simp only [Option.getD_none] at h0 ⊢
   generalize r.tmps.getD i undef=u at h0 ⊢
   cases h0;exact .und
  | some y=>
   obtain ⟨x,hx,hxy⟩:=zM hl' i y hy
   rw [hx] at h0
   exact hc x y _ (.inr ⟨r,l,i,rfl,hx⟩) hxy h0
 | dead=>simp only [ZN,sij] at h;subst h;trivial
 | unborn=>simp only [ZN,sij] at h;subst h;trivial
theorem JG {E:Env} {C:Ctx} {f:FuncId} {args:List IV} {vs:List Value} {K:IV->List Blk->Prop} (wf:Wf E.g0 C) (sim:Sim C) (hG:E.G C.w)
  (hl:args.length=vs.length) (hargs:∀(i:Nat) (x:IV),args[i]?=some x->VR C x (vs.getD i undef)) (h:zbh E f args C.L K) :
  jR E.P f/\Calls E.P f vs.toArray C.w fun e w'=>∃v,e=.returned v/\Post E C K v w':=by
 obtain ⟨b,args',hconv,hXT⟩:=h
 obtain ⟨X0,hXt,hXf⟩:∃X0:Nat->Prop,(b=true->X0=C.X)/\(b=false->X0=C.own):=by
  cases b
  ·exact ⟨C.own,by simp,fun _=>rfl⟩
  ·exact ⟨C.X,fun _=>rfl,by simp⟩
 have hX0:∀x,X0 x->C.own x:=fun x hx=>by
  cases b
  ·rw [hXf rfl] at hx;exact hx
  ·rw [hXt rfl] at hx;exact .inl hx
 have nomine:∀x,¬(⟨C.w,C.φ,[],X0⟩:Ctx).mine x:=fun x=>by
  rintro ⟨s,k,hk,_⟩;simp at hk
 have wf0:Wf E.g0 ⟨C.w,C.φ,[],X0⟩:=
  ⟨fun s t k l hs _ _ _ _=>by simp at hs,fun x h=>absurd h (nomine x),fun x _=>nomine x,
   fun x hx=>(hX0 x hx).elim (wf.exlo x) (fun hm=>yP sim hm),wf.g⟩
 have hargs':∀(i:Nat) (x:IV),args'[i]?=some x->VR ⟨C.w,C.φ,[],X0⟩ x (vs.getD i undef):=fun i y hi=>by
  obtain ⟨x,h1,h2⟩:=zM hconv i y hi
  refine Zu (C:=C) (C':=⟨C.w,C.φ,[],X0⟩) rfl sim (fun x hx=>hx.elim (hX0 x) (fun h=>absurd h (nomine x))) fuel _ x y _ ?_ h2 (hargs i x h1)
  intro s k hk
  cases b
  ·refine ⟨fun hm=>?_,fun t hm=>?_⟩
   ·simp [zV] at hm
   ·simp [zV] at hm
  ·refine ⟨fun _ ha hown=>?_,fun t hm=>?_⟩
   ·rcases hown with hx | hx
    ·rw [hXt rfl] at hx
     exact wf.apart _ hx ⟨s,k,hk,ha,rfl⟩
    ·exact nomine _ hx
   ·simp [zy] at hm
 refine ⟨hXT.1,(hXT.2 C.w C.φ _ vs wf0 (fun s k hk=>by simp at hk) hG ((zG hconv).trans hl) hargs').mono ?_⟩
 rintro e w' ⟨r,L1,φ1,v,⟨hnt,r',L1',hr',hL1',hK⟩,rfl,wf1,sim1,ext,hv⟩
 refine ⟨v,rfl,r',C.L++L1',shiftφ C φ1,hK,?_⟩
 have hlen1:=zG hL1'
 -- mine
 have hfresh:∀x,(⟨w',φ1,L1,X0⟩:Ctx).mine x->C.w.heap.size<=x:=fun x hx=>
  (ext.sub x hx).elim (fun h=>absurd h (nomine x)) id
 have getL:∀s k,(C.L++L1')[s]?=some k->(s<C.L.length/\C.L[s]?=some k)\/(∃t k0,s=C.L.length+t/\L1[t]?=some k0/\ZN L1 fuel (ZB C.L.length) k0=some k):=fun s k hs=>by
  rcases Nat.lt_or_ge s C.L.length with h1 | h1
  ·rw [List.getElem?_append_left h1] at hs;exact .inl ⟨h1,hs⟩
  ·rw [List.getElem?_append_right h1] at hs
   obtain ⟨k0,h2,h3⟩:=zM hL1' _ k hs
   exact .inr ⟨s - C.L.length,k0,by omega,h2,h3⟩
 have hmine:∀x,(⟨w',shiftφ C φ1,C.L++L1',C.X⟩:Ctx).mine x->C.mine x\/(⟨w',φ1,L1,X0⟩:Ctx).mine x:=by
  rintro x ⟨s,k,hk,ha,rfl⟩
  rcases getL s k hk with ⟨h1,h2⟩ | ⟨t,k0,rfl,h2,h3⟩
  ·left;exact ⟨s,k,h2,ha,congrArg Loc.blk (shiftφ_lt h1).symm⟩
  ·right;exact ⟨t,k0,h2,by rw [<-zQ h3];exact ha,congrArg Loc.blk (shiftφ_ge (C:=C) (φ1:=φ1) (t:=t)).symm⟩
 have hext:Ext C ⟨w',shiftφ C φ1,C.L++L1',C.X⟩:=
  ⟨ext.size,fun x hx hm=>ext.frame x hx (nomine x),fun x hx=>(hmine x hx).imp id (hfresh x),fun s hs=>shiftφ_lt hs.lt,fun s hs=>by
   obtain ⟨k,h1,h2⟩:=hs
   exact ⟨k,(List.getElem?_append_left (zf h1)).trans h1,h2⟩,by simp,ext.cap,rfl,ext.os,ext.tape,ext.output⟩
 have hown1:b=false->∀x,(⟨w',shiftφ C φ1,C.L++L1',C.X⟩:Ctx).own x->(⟨w',φ1,L1,X0⟩:Ctx).own x:=by
  rintro rfl x (hx | hx)
  ·exact .inl (by rw [hXf rfl];exact .inl hx)
  ·rcases hmine x hx with h1 | h1
   ·exact .inl (by rw [hXf rfl];exact .inr h1)
   ·exact .inr h1
 have hren:∀s,(⟨w',φ1,L1,X0⟩:Ctx).born s->∃t,ZB C.L.length s=some (some t)/\(⟨w',shiftφ C φ1,C.L++L1',C.X⟩:Ctx).born t/\shiftφ C φ1 t=φ1 s:=fun s hs=>by
  obtain ⟨k,h1,h2⟩:=hs
  obtain ⟨k',h3,h4⟩:=Zx hL1' s k h1
  exact ⟨s+C.L.length,rfl,⟨k',by
   show (C.L++L1')[s+C.L.length]?=_
   rw [List.getElem?_append_right (by omega),Nat.add_sub_cancel];exact h3,by rw [yD h4];exact h2⟩,by rw [Nat.add_comm];exact shiftφ_ge⟩
 have hvr:∀x x' u,(b=true->yE x=true)->conv L1 fuel (ZB C.L.length) x=some x'->VR ⟨w',φ1,L1,X0⟩ x u->
   VR ⟨w',shiftφ C φ1,C.L++L1',C.X⟩ x' u:=fun x x' u hx hc hu=>by
  cases b
  ·refine Zu (C:=⟨w',φ1,L1,X0⟩) (C':=⟨w',shiftφ C φ1,C.L++L1',C.X⟩) rfl sim1 (hown1 rfl) fuel _ x x' u ?_ hc hu
   intro s k hk
   refine ⟨fun hm=>by simp [ZB] at hm,fun t hm=>⟨fun hb=>?_,?_⟩⟩
   ·obtain ⟨t',h1,h2,h3⟩:=hren s ⟨k,hk,hb⟩
    rw [h1] at hm
    obtain rfl:t'=t:=by simpa using hm
    exact h2
   ·have h1:s+C.L.length=t:=by simpa [ZB] using hm
    subst h1
    rw [Nat.add_comm];exact shiftφ_ge
  ·exact Jl (C:=⟨w',φ1,L1,X0⟩) (C':=⟨w',shiftφ C φ1,C.L++L1',C.X⟩) rfl fuel _ x x' u hren (hx rfl) hc hu
 refine ⟨⟨?_,?_,?_,?_,?_⟩,?_,hext,hvr r r' v (fun hb=>(hnt hb).1) hr' hv⟩
 ·skip
  intro s t ks kt hs ht as at_ heq
  rcases getL s ks hs with ⟨h1,h2⟩ | ⟨s0,k0,rfl,h2,h3⟩<;>rcases getL t kt ht with ⟨h4,h5⟩ | ⟨t0,l0,rfl,h5,h6⟩
  ·simp only [shiftφ_lt h1,shiftφ_lt h4] at heq
   exact wf.inj s t ks kt h2 h5 as at_ heq
  ·have hlt:=yP sim ⟨s,ks,h2,as,rfl⟩
   have hge:=hfresh _ ⟨t0,l0,h5,by rw [<-zQ h6];exact at_,rfl⟩
   simp only [shiftφ_lt h1,shiftφ_ge] at heq
   rw [heq] at hlt;exact absurd hlt (Nat.not_lt.2 hge)
  ·have hlt:=yP sim ⟨t,kt,h5,at_,rfl⟩
   have hge:=hfresh _ ⟨s0,k0,h2,by rw [<-zQ h3];exact as,rfl⟩
   simp only [shiftφ_lt h4,shiftφ_ge] at heq
   rw [<-heq] at hlt;exact absurd hlt (Nat.not_lt.2 hge)
  ·have:=wf1.inj s0 t0 k0 l0 h2 h5 (by rw [<-zQ h3];exact as) (by rw [<-zQ h6];exact at_) (by simpa only [shiftφ_ge] using heq)
   omega
 ·exact fun x hx=>(hmine x hx).elim (wf.lo x) (fun h=>Nat.le_trans wf.g (hfresh x h))
 ·exact fun x hx hm=>(hmine x hm).elim (wf.apart x hx) (fun h=>by have h1:=wf.exlo x hx;have h2:=hfresh x h;omega)
 ·exact fun x hx=>Nat.lt_of_lt_of_le (wf.exlo x hx) ext.size
 ·exact Nat.le_trans wf.g ext.size
 ·skip
  intro s k hk
  rcases getL s k hk with ⟨h1,h2⟩ | ⟨t,k0,rfl,h2,h3⟩
  ·have h4:=sim s k h2
   by_cases ha:k.alive=true
   ·exact h4.mono hext h2 (ext.frame _ (yP sim ⟨s,k,h2,ha,rfl⟩) (nomine _))
   ·cases k<;>first | trivial | (exfalso;exact ha rfl)
  ·refine Jk (C:=⟨w',φ1,L1,X0⟩) (s:=t) rfl shiftφ_ge ?_ h3 (sim1 t k0 h2)
   intro x x' u hx hc hu
   refine hvr x x' u (fun hb=>?_) hc hu
   have h5:=(hnt hb).2
   rw [List.all_eq_true] at h5
   have h6:=h5 k0 (List.mem_of_getElem? h2)
   rcases hx with ⟨sz,rows,rfl | ⟨ty,rfl⟩,i,j,row,h7,h8⟩ | ⟨_,_,_,rfl,_⟩
   ·simp only [jC,List.all_eq_true] at h6
    exact Yl.1 (h6 row (List.mem_of_getElem? h7)) j x h8
   ·simp only [jC,List.all_eq_true] at h6
    exact Yl.1 (h6 row (List.mem_of_getElem? h7)) j x h8
   ·cases h6
theorem J8:∀(sel:List Nat) (ks L:List Blk) (s:Nat),sel.Nodup->sel.length<=ks.length->(∀t∈sel,t<L.length)->
  (putL sel ks L)[s]?=match pos sel s 0 with | some i=>ks[i]? | none=>L[s]?
 | [],_,_,_,_,_,_=>by simp [putL,pos]
 | t::sel,[],_,_,_,h,_=>by simp at h
 | t::sel,k::ks,L,s,hnd,hl,hlt=>by
  obtain ⟨h1,h2⟩:=List.nodup_cons.1 hnd
  have hps:∀(l:List Nat) (i:Nat),pos l s (i+1)=(pos l s i).map (·+1):=by
   intro l
   induction l with
   | nil=>intro i;rfl
   | cons a l ih=>intro i;simp only [pos];split<;>simp [ih]
  rw [putL,J8 sel ks (L.set t k) s h2 (by simpa using hl) (fun u hu=>by rw [lls];exact hlt u (List.mem_cons_of_mem _ hu))]
  simp only [pos]
  by_cases hs:s=t
  ·subst hs
   have hp:pos sel s 0=none:=by
    cases hp:pos sel s 0 with
    | none=>rfl
    | some i=>
     obtain ⟨d,_,hd⟩:=YN hp
     exact absurd (List.mem_of_getElem? hd) h1
   rw [if_pos rfl,hp]
   simp only
   rw [List.getElem?_set_self (hlt s List.mem_cons_self)];rfl
  ·rw [if_neg hs,hps]
   cases hp:pos sel s 0 with
   | none=>simp only [Option.map_none];rw [List.getElem?_set_ne (Ne.symm hs)]
   | some i=>simp
theorem Jh:∀(sel:List Nat) (ks L:List Blk),(putL sel ks L).length=L.length
 | [],ks,L=>by cases ks<;>rfl
 | t::sel,[],L=>rfl
 | t::sel,k::ks,L=>by rw [putL,Jh];simp
theorem vI:∀(dl:List Nat) (L:List Blk) (s:Nat),(z1S dl L)[s]?=if s∈dl/\s<L.length then some .dead else L[s]?
 | [],L,s=>by simp [z1S]
 | t::dl,L,s=>by
  rw [z1S,vI dl]
  simp only [lls,List.mem_cons,List.getElem?_set]
  by_cases h1:s∈dl
  ·by_cases h2:s<L.length
   ·simp [h1,h2]
   ·simp only [h1,h2,and_false,if_false]
    by_cases h3:t=s
    ·subst h3;simp [h2]
    ·rw [if_neg h3]
  ·by_cases h3:t=s
   ·subst h3
    by_cases h2:t<L.length
    ·simp [h1,h2]
    ·simp [h1,h2]
   ·simp [h1,h3,Ne.symm h3]
theorem z3b:∀(dl:List Nat) (L:List Blk),(z1S dl L).length=L.length
 | [],_=>rfl
 | t::dl,L=>by rw [z1S,z3b];simp
theorem z95 {l:List Nat} {s:Nat} (h:s∈l):∃i,pos l s 0=some i/\l[i]?=some s:=by
 cases hp:pos l s 0 with
 | none=>exact absurd h (Jc hp)
 | some i=>obtain ⟨d,h1,h2⟩:=YN hp;exact ⟨i,rfl,by simpa [h1] using h2⟩
theorem z4a {l:List Nat} (hnd:l.Nodup) {s i:Nat} (h:l[i]?=some s):pos l s 0=some i:=by
 obtain ⟨j,h1,h2⟩:=z95 (List.mem_of_getElem? h)
 have hi:=zf h
 have hj:=zf h2
 rw [List.getElem?_eq_getElem hi] at h
 rw [List.getElem?_eq_getElem hj] at h2
 have heq:l[j]=l[i]:=(Option.some.inj h2).trans (Option.some.inj h).symm
 have:j=i:=by
  rcases Nat.lt_trichotomy j i with h3 | h3 | h3
  ·exact absurd heq (List.pairwise_iff_getElem.1 hnd j i hj hi h3)
  ·exact h3
  ·exact absurd heq.symm (List.pairwise_iff_getElem.1 hnd i j hi hj h3)
 rw [h1,this]
def backφ (C:Ctx) (k:Nat) (φ1:Nat->Loc):Nat->Loc:=fun s=>if s<C.L.length then C.φ s else φ1 (s - C.L.length+k)
theorem z2z {E:Env} {C:Ctx} {f:FuncId} {args:List IV} {vs:List Value} {K:IV->List Blk->Prop} (wf:Wf E.g0 C) (sim:Sim C) (hG:E.G C.w)
  (hl:args.length=vs.length) (hargs:∀(i:Nat) (x:IV),args[i]?=some x->VR C x (vs.getD i undef)) (h:zb6 E f args C.L K) :
  jR E.P f/\Calls E.P f vs.toArray C.w fun e w'=>∃v,(e=.returned v/\Post E C K v w')\/(e=.panicked [{ v,recovered:=false }]/\Post E C E.pan v w'):=by
 obtain ⟨sel,dl,b,args',L0,hnd,hsel,hbd,hconv,hL0,hXT⟩:=h
 have hk0:L0.length=sel.length:=by rw [zG hL0];simp
 have hselt:∀s∈sel,s<C.L.length:=fun s hs=>by obtain ⟨⟨k,h1,_⟩,_⟩:=hsel s hs;exact zf h1
 let φ0:Nat->Loc:=fun i=>C.φ (sel.getD i 0)
 let bs:Nat->Prop:=fun x=>∃s∈sel,(C.φ s).blk=x
 let bd:Nat->Prop:=fun x=>∃s∈dl,∃k,C.L[s]?=some k/\k.alive=true/\(C.φ s).blk=x
 let X0:Nat->Prop:=fun x=>C.X x\/(b=false/\C.mine x/\¬bs x/\¬bd x)
 let C0:Ctx:=⟨C.w,φ0,L0,X0⟩
 -- a block that is handed
 have get0:∀i k,L0[i]?=some k->∃s k0,sel[i]?=some s/\C.L[s]?=some k0/\k0.alive=true/\ZN C.L fuel (wV sel dl b) k0=some k/\φ0 i=C.φ s:=fun i k hi=>by
  obtain ⟨k0,h1,h2⟩:=zM hL0 i k hi
  rw [List.getElem?_map,oms] at h1
  obtain ⟨s,hs,rfl⟩:=h1
  obtain ⟨⟨k1,h3,h4⟩,_⟩:=hsel s (List.mem_of_getElem? hs)
  have e1:C.L.getD s .dead=k1:=by rw [List.getD_eq_getElem?_getD,h3];rfl
  rw [e1] at h2
  exact ⟨s,k1,hs,h3,h4,h2,by show C.φ (sel.getD i 0)=_;rw [List.getD_eq_getElem?_getD,hs];rfl⟩
 have mine0:∀x,C0.mine x->C.mine x/\bs x:=by
  rintro x ⟨i,k,hk,ha,rfl⟩
  obtain ⟨s,k0,h1,h2,h3,h4,h5⟩:=get0 i k hk
  have hb:(C0.φ i).blk=(C.φ s).blk:=congrArg Loc.blk h5
  exact ⟨⟨s,k0,h2,h3,hb.symm⟩,s,List.mem_of_getElem? h1,hb.symm⟩
 have bs_mine:∀x,bs x->C.mine x:=by
  rintro x ⟨s,hs,rfl⟩
  obtain ⟨⟨k,h1,h2⟩,_⟩:=hsel s hs
  exact ⟨s,k,h1,h2,rfl⟩
 have own0:∀x,C0.own x->C.own x:=fun x hx=>hx.elim (fun h=>h.elim .inl (fun h=>.inr h.2.1)) (fun h=>.inr (mine0 x h).1)
 have wf0:Wf E.g0 C0:=by
  refine ⟨fun i j k l hi hj ha hb heq=>?_,fun x hx=>wf.lo x (mine0 x hx).1,fun x hx hm=>?_,fun x hx=>?_,wf.g⟩
  ·obtain ⟨s,k0,h1,h2,h3,h4,h5⟩:=get0 i k hi
   obtain ⟨t,l0,h6,h7,h8,h9,h10⟩:=get0 j l hj
   have hst:s=t:=wf.inj s t k0 l0 h2 h7 h3 h8 (by rw [<-h5,<-h10];exact heq)
   subst hst
   have:=(z4a hnd h1).symm.trans (z4a hnd h6)
   exact Option.some.inj this
  ·rcases hx with hx | ⟨_,_,hx,_⟩
   ·exact wf.apart x hx (mine0 x hm).1
   ·exact hx (mine0 x hm).2
  ·rcases hx with hx | ⟨_,hx,_⟩
   ·exact wf.exlo x hx
   ·exact yP sim hx
 have ren0:z4G C C0 (wV sel dl b):=by
  intro s k hk
  refine ⟨fun hm ha hown=>?_,fun t hm=>?_⟩
  ·have hns:s∉sel:=by
    intro hs
    obtain ⟨i,h1,_⟩:=z95 hs
    unfold wV at hm
    rw [h1] at hm;cases hm
   rcases hown with (hx | ⟨hb,_,_,hx⟩) | hm0
   ·exact wf.apart _ hx ⟨s,k,hk,ha,rfl⟩
   ·refine hx ⟨s,?_,k,hk,ha,rfl⟩
    unfold wV at hm
    split at hm
    ·cases hm
    ·subst hb
     simp only [Bool.false_or] at hm
     split at hm
     ·rename_i hc;simpa using hc
     ·cases hm
   ·obtain ⟨_,t,ht,heq⟩:=mine0 _ hm0
    obtain ⟨⟨k1,h1,h2⟩,_⟩:=hsel t ht
    exact hns (wf.inj t s k1 k h1 hk h2 ha heq▸ht)
  ·unfold wV at hm
   split at hm
   ·rename_i i hp
    simp only [sij] at hm;subst hm
    obtain ⟨d,h1,h2⟩:=YN hp
    have h2':sel[i]?=some s:=by rw [h1];simpa using h2
    have hget:(sel.map fun s=>C.L.getD s .dead)[i]?=some k:=by
     rw [List.getElem?_map,h2']
     show some (C.L.getD s .dead)=_
     rw [List.getD_eq_getElem?_getD,hk];rfl
    obtain ⟨k',h3,h4⟩:=Zx hL0 i k hget
    refine ⟨fun hb=>⟨k',h3,by rw [yD h4];exact hb⟩,?_⟩
    show C.φ (sel.getD i 0)=_
    rw [List.getD_eq_getElem?_getD,h2'];rfl
   ·split at hm<;>cases hm
 have sim0:Sim C0:=fun i k hi=>by
  obtain ⟨s,k0,h1,h2,h3,h4,h5⟩:=get0 i k hi
  exact Jk (C:=C) (C':=C0) (s:=s) (s':=i) rfl h5 (fun x x' u _ hc hu=>Zu (C:=C) (C':=C0) rfl sim own0 fuel _ x x' u ren0 hc hu) h4 (sim s k0 h2)
 have hargs':∀(i:Nat) (x:IV),args'[i]?=some x->VR C0 x (vs.getD i undef):=fun i y hi=>by
  obtain ⟨x,h1,h2⟩:=zM hconv i y hi
  exact Zu (C:=C) (C':=C0) rfl sim own0 fuel _ x y _ ren0 h2 (hargs i x h1)
 refine ⟨hXT.1,(hXT.2 C.w φ0 X0 vs wf0 sim0 hG ((zG hconv).trans hl) hargs').mono ?_⟩
 rintro e w' ⟨r,L1,φ1,v,wf1,sim1,ext,hv,hR⟩
 have main:∀K':IV->List Blk->Prop,Back sel dl b C.L K' r L1->Post E C K' v w':=by
  rintro K' ⟨hnt,r',L1',hr',hL1',hK⟩
  let C1:Ctx:=⟨w',φ1,L1,X0⟩
  let nL:=z1S dl (putL sel L1' C.L)++L1'.drop sel.length
  let C':Ctx:=⟨w',backφ C sel.length φ1,nL,C.X⟩
  have hlen1:L1'.length=L1.length:=zG hL1'
  have hle:sel.length<=L1'.length:=by rw [hlen1,<-hk0];exact ext.len
  have φlt:∀s,s<C.L.length->C'.φ s=C.φ s:=fun s hs=>by show (if s<C.L.length then _ else _)=_;rw [if_pos hs]
  have φge:∀t,C'.φ (C.L.length+t)=φ1 (sel.length+t):=fun t=>by
   show (if C.L.length+t<C.L.length then _ else _)=_
   rw [if_neg (by omega)];congr 1;omega
  have φsel:∀i s,sel[i]?=some s->φ1 i=C.φ s:=fun i s hs=>by
   obtain ⟨⟨k1,h3,h4⟩,_⟩:=hsel s (List.mem_of_getElem? hs)
   have hget:(sel.map fun s=>C.L.getD s .dead)[i]?=some k1:=by
    rw [List.getElem?_map,hs]
    show some (C.L.getD s .dead)=_
    rw [List.getD_eq_getElem?_getD,h3];rfl
   obtain ⟨k',h5,h6⟩:=Zx hL0 i k1 hget
   have hb:C0.born i:=⟨k',h5,by
    have h7:k'.alive=true:=by rw [zQ h6];exact h4
    cases k'<;>first | rfl | cases h7⟩
   rw [show φ1 i=C0.φ i from ext.slot i hb]
   show C.φ (sel.getD i 0)=_
   rw [List.getD_eq_getElem?_getD,hs];rfl
  have hkl:(z1S dl (putL sel L1' C.L)).length=C.L.length:=by rw [z3b,Jh]
  -- where a block of the new list comes from
  have getL:∀s k,nL[s]?=some k->(s<C.L.length/\s∉sel/\s∉dl/\C.L[s]?=some k)\/(k=.dead)\/
    (∃i k0,L1[i]?=some k0/\ZN L1 fuel (yO sel C.L.length) k0=some k/\C'.φ s=φ1 i/\((s<C.L.length/\sel[i]?=some s)\/(sel.length<=i/\s=C.L.length+(i - sel.length)))):=fun s k hs=>by
   rcases Nat.lt_or_ge s C.L.length with h1 | h1
   ·rw [List.getElem?_append_left (by rw [hkl];exact h1),vI] at hs
    split at hs
    ·exact .inr (.inl (Option.some.inj hs).symm)
    ·rename_i hd
     rw [Jh] at hd
     rw [J8 sel L1' C.L s hnd hle hselt] at hs
     cases hp:pos sel s 0 with
     | none=>
      rw [hp] at hs
      exact .inl ⟨h1,Jc hp,fun h=>hd ⟨h,h1⟩,hs⟩
     | some i=>
      rw [hp] at hs
      obtain ⟨d,h2,h3⟩:=YN hp
      have h3':sel[i]?=some s:=by rw [h2];simpa using h3
      obtain ⟨k0,h4,h5⟩:=zM hL1' i k hs
      exact .inr (.inr ⟨i,k0,h4,h5,by rw [φlt s h1,φsel i s h3'],.inl ⟨h1,h3'⟩⟩)
   ·rw [List.getElem?_append_right (by rw [hkl];exact h1),hkl,List.getElem?_drop] at hs
    obtain ⟨k0,h4,h5⟩:=zM hL1' _ k hs
    refine .inr (.inr ⟨_,k0,h4,h5,?_,.inr ⟨by omega,by omega⟩⟩)
    have e1:s=C.L.length+(s - C.L.length):=by omega
    rw [e1,φge];congr 1;omega
  -- mine
  have fresh1:∀x,C1.mine x->(C.mine x/\bs x)\/C.w.heap.size<=x:=fun x hx=>(ext.sub x hx).imp (mine0 x) id
  have hmine:∀x,C'.mine x->(C.mine x/\¬bs x/\¬bd x)\/C1.mine x:=by
   rintro x ⟨s,k,hk,ha,rfl⟩
   rcases getL s k hk with ⟨h1,h2,h3,h4⟩ | h1 | ⟨i,k0,h1,h2,h3,_⟩
   ·left
    rw [φlt s h1]
    refine ⟨⟨s,k,h4,ha,rfl⟩,?_,?_⟩
    ·rintro ⟨t,ht,heq⟩
     obtain ⟨⟨k1,h5,h6⟩,_⟩:=hsel t ht
     exact h2 (wf.inj t s k1 k h5 h4 h6 ha heq▸ht)
    ·rintro ⟨t,ht,k1,h5,h6,heq⟩
     exact h3 (wf.inj t s k1 k h5 h4 h6 ha heq▸ht)
   ·subst h1;cases ha
   ·right;exact ⟨i,k0,h1,by rw [<-zQ h2];exact ha,congrArg Loc.blk h3.symm⟩
  have hext:Ext C C':=by
   refine ⟨ext.size,fun x hx hm=>ext.frame x hx (fun h=>hm (mine0 x h).1),fun x hx=>?_,fun s hs=>φlt s hs.lt,fun s hs=>?_,?_,ext.cap,rfl,ext.os,ext.tape,ext.output⟩
   ·rcases hmine x hx with h1 | h1
    ·exact .inl h1.1
    ·exact (fresh1 x h1).imp And.left id
   ·have hlt:=hs.lt
    obtain ⟨k,h1,h2⟩:=hs
    show ∃k',nL[s]?=some k'/\k'.born=true
    rw [List.getElem?_append_left (by rw [hkl];exact hlt),vI,Jh]
    split
    ·exact ⟨_,rfl,rfl⟩
    ·rw [J8 sel L1' C.L s hnd hle hselt]
     cases hp:pos sel s 0 with
     | none=>exact ⟨k,h1,h2⟩
     | some i=>
      obtain ⟨d,h3,h4⟩:=YN hp
      have h4':sel[i]?=some s:=by rw [h3];simpa using h4
      obtain ⟨⟨k1,h5,h6⟩,_⟩:=hsel s (List.mem_of_getElem? h4')
      have hget:(sel.map fun s=>C.L.getD s .dead)[i]?=some k1:=by
       rw [List.getElem?_map,h4']
       show some (C.L.getD s .dead)=_
       rw [List.getD_eq_getElem?_getD,h5];rfl
      obtain ⟨k',h7,h8⟩:=Zx hL0 i k1 hget
      obtain ⟨k2,h9,h10⟩:=ext.bo i ⟨k',h7,by
       have h11:k'.alive=true:=by rw [zQ h8];exact h6
       cases k'<;>first | rfl | cases h11⟩
      obtain ⟨k3,h12,h13⟩:=Zx hL1' i k2 h9
      exact ⟨k3,h12,by rw [yD h13];exact h10⟩
   ·show C.L.length<=nL.length
    simp only [nL,lla,hkl];omega
  have own1:b=false->∀x,C'.own x->C1.own x:=by
   rintro hb x (hx | hx)
   ·exact .inl (.inl hx)
   ·rcases hmine x hx with ⟨h1,h2,h3⟩ | h1
    ·exact .inl (.inr ⟨hb,h1,h2,h3⟩)
    ·exact .inr h1
  have hren:∀i,C1.born i->∃t,yO sel C.L.length i=some (some t)/\C'.born t/\C'.φ t=φ1 i:=fun i hi=>by
   obtain ⟨k,h1,h2⟩:=hi
   obtain ⟨k',h3,h4⟩:=Zx hL1' i k h1
   by_cases hik:i<sel.length
   ·obtain ⟨s,hs⟩:∃s,sel[i]?=some s:=⟨_,List.getElem?_eq_getElem hik⟩
    have hslt:=hselt s (List.mem_of_getElem? hs)
    refine ⟨s,?_,⟨k',?_,by rw [yD h4];exact h2⟩,by rw [φlt s hslt,φsel i s hs]⟩
    ·show some (some (if i<sel.length then sel.getD i 0 else _))=_
     rw [if_pos hik,List.getD_eq_getElem?_getD,hs];rfl
    ·show nL[s]?=_
     rw [List.getElem?_append_left (by rw [hkl];exact hslt),vI,if_neg (fun h=>(hsel s (List.mem_of_getElem? hs)).2 h.1),J8 sel L1' C.L s hnd hle hselt,z4a hnd hs]
     exact h3
   ·refine ⟨C.L.length+(i - sel.length),?_,⟨k',?_,by rw [yD h4];exact h2⟩,by rw [φge];congr 1;omega⟩
    ·show some (some (if i<sel.length then _ else _))=_
     rw [if_neg hik]
    ·show nL[_]?=_
     rw [List.getElem?_append_right (by rw [hkl];omega),hkl,List.getElem?_drop]
     have e1:sel.length+(C.L.length+(i - sel.length) - C.L.length)=i:=by omega
     rw [e1];exact h3
  have hvr:∀x x' u,(b=true->yE x=true)->conv L1 fuel (yO sel C.L.length) x=some x'->VR C1 x u->VR C' x' u:=fun x x' u hx hc hu=>by
   cases hb:b with
   | false=>
    refine Zu (C:=C1) (C':=C') rfl sim1 (own1 hb) fuel _ x x' u ?_ hc hu
    intro s k hk
    refine ⟨fun hm=>by simp [yO] at hm,fun t hm=>⟨fun hbn=>?_,?_⟩⟩
    ·obtain ⟨t',h1,h2,h3⟩:=hren s ⟨k,hk,hbn⟩
     rw [h1] at hm
     obtain rfl:t'=t:=by simpa using hm
     exact h2
    ·have ht:t=if s<sel.length then sel.getD s 0 else C.L.length+(s - sel.length):=by
      have:yO sel C.L.length s=some (some (if s<sel.length then sel.getD s 0 else C.L.length+(s - sel.length))):=rfl
      rw [this] at hm
      simpa using hm.symm
     by_cases hik:s<sel.length
     ·rw [if_pos hik] at ht
      obtain ⟨q,hq⟩:∃q,sel[s]?=some q:=⟨_,List.getElem?_eq_getElem hik⟩
      have:sel.getD s 0=q:=by rw [List.getD_eq_getElem?_getD,hq];rfl
      rw [this] at ht;subst ht
      rw [φlt t (hselt t (List.mem_of_getElem? hq)),<-φsel s t hq]
     ·rw [if_neg hik] at ht;subst ht
      rw [φge];show φ1 _=φ1 s;congr 1;omega
   | true=>exact Jl (C:=C1) (C':=C') rfl fuel _ x x' u hren (hx hb) hc hu
  refine ⟨r',nL,backφ C sel.length φ1,hK,⟨?_,?_,?_,?_,?_⟩,?_,hext,hvr r r' v (fun hb=>(hnt hb).1) hr' hv⟩
  ·skip
   intro s t ks kt hs ht as at_ heq
   have heq':(C'.φ s).blk=(C'.φ t).blk:=heq
   rcases getL s ks hs with ⟨h1,h2,h3,h4⟩ | h1 | ⟨i,k0,h1,h2,h3,h4⟩<;>rcases getL t kt ht with ⟨g1,g2,g3,g4⟩ | g1 | ⟨j,l0,g1,g2,g3,g4⟩
   ·rw [φlt s h1,φlt t g1] at heq'
    exact wf.inj s t ks kt h4 g4 as at_ heq'
   ·subst g1;cases at_
   ·exfalso
    rw [φlt s h1,g3] at heq'
    have hm1:C1.mine (φ1 j).blk:=⟨j,l0,g1,by rw [<-zQ g2];exact at_,rfl⟩
    rcases fresh1 _ hm1 with ⟨_,u,hu,hue⟩ | hf
    ·obtain ⟨⟨k1,h5,h6⟩,_⟩:=hsel u hu
     exact h2 (wf.inj u s k1 ks h5 h4 h6 as (hue.trans heq'.symm)▸hu)
    ·have:=yP sim ⟨s,ks,h4,as,rfl⟩
     rw [heq'] at this;omega
   ·subst h1;cases as
   ·subst h1;cases as
   ·subst h1;cases as
   ·exfalso
    rw [φlt t g1,h3] at heq'
    have hm1:C1.mine (φ1 i).blk:=⟨i,k0,h1,by rw [<-zQ h2];exact as,rfl⟩
    rcases fresh1 _ hm1 with ⟨_,u,hu,hue⟩ | hf
    ·obtain ⟨⟨k1,h5,h6⟩,_⟩:=hsel u hu
     exact g2 (wf.inj u t k1 kt h5 g4 h6 at_ (hue.trans heq')▸hu)
    ·have:=yP sim ⟨t,kt,g4,at_,rfl⟩
     rw [<-heq'] at this;omega
   ·subst g1;cases at_
   ·rw [h3,g3] at heq'
    have hij:=wf1.inj i j k0 l0 h1 g1 (by rw [<-zQ h2];exact as) (by rw [<-zQ g2];exact at_) heq'
    subst hij
    rcases h4 with ⟨h5,h6⟩ | ⟨h5,h6⟩<;>rcases g4 with ⟨g5,g6⟩ | ⟨g5,g6⟩
    ·rw [h6] at g6;exact Option.some.inj g6
    ·have:=zf h6;omega
    ·have:=zf g6;omega
    ·omega
  ·exact fun x hx=>(hmine x hx).elim (fun h=>wf.lo x h.1) (fun h=>wf1.lo x h)
  ·intro x hx hm
   rcases hmine x hm with h1 | h1
   ·exact wf.apart x hx h1.1
   ·rcases fresh1 x h1 with h2 | h2
    ·exact wf.apart x hx h2.1
    ·have:=wf.exlo x hx;omega
  ·exact fun x hx=>Nat.lt_of_lt_of_le (wf.exlo x hx) ext.size
  ·exact Nat.le_trans wf.g ext.size
  ·skip
   intro s k hk
   rcases getL s k hk with ⟨h1,h2,h3,h4⟩ | h1 | ⟨i,k0,h1,h2,h3,h4⟩
   ·have h5:=sim s k h4
    by_cases ha:k.alive=true
    ·refine h5.mono hext h4 (ext.frame _ (yP sim ⟨s,k,h4,ha,rfl⟩) (fun hm=>?_))
     obtain ⟨_,u,hu,hue⟩:=mine0 _ hm
     obtain ⟨⟨k1,h6,h7⟩,_⟩:=hsel u hu
     exact h2 (wf.inj u s k1 k h6 h4 h7 ha hue▸hu)
    ·cases k<;>first | trivial | (exfalso;exact ha rfl)
   ·subst h1;trivial
   ·refine Jk (C:=C1) (C':=C') (s:=i) (s':=s) rfl h3 ?_ h2 (sim1 i k0 h1)
    intro x x' u hx hc hu
    refine hvr x x' u (fun hb=>?_) hc hu
    have h5:=(hnt hb).2
    rw [List.all_eq_true] at h5
    have h6:=h5 k0 (List.mem_of_getElem? h1)
    rcases hx with ⟨sz,rows,rfl | ⟨ty,rfl⟩,i',j,row,h7,h8⟩ | ⟨_,_,_,rfl,_⟩
    ·simp only [jC,List.all_eq_true] at h6
     exact Yl.1 (h6 row (List.mem_of_getElem? h7)) j x h8
    ·simp only [jC,List.all_eq_true] at h6
     exact Yl.1 (h6 row (List.mem_of_getElem? h7)) j x h8
    ·cases h6
 rcases hR with ⟨hR,he⟩ | ⟨hR,he⟩
 ·exact ⟨v,.inl ⟨he,main K hR⟩⟩
 ·exact ⟨v,.inr ⟨he,main E.pan hR⟩⟩
end Go.X
end
section
namespace Go.X
open Go

def Does (P:Program) (o:Oper) (a:Act) (w:World) (R RP:Value->World->Prop):Prop:=
 (∃v w',(execOp a.eval o).run P w=.ok (.value v) w'/\R v w')\/(∃w',(execOp a.eval o).run P w=.ok .skip w'/\R undef w')\/
 (∃f args w',(execOp a.eval o).run P w=.ok (.enter f args) w'/\Calls P f args w' fun e w''=>∃v,(e=.returned v/\R v w'')\/(e=.panicked [{ v,recovered:=false }]/\RP v w''))\/
 (∃l fn tmps asg body w',(execOp a.eval o).run P w=.ok (.round l fn tmps asg body) w'/\∀F,FOk F->RoundIn F 0 P l fn tmps asg body w' fun e w''=>∃v,e=.returned v/\R v w'')\/
 (∃v w',(execOp a.eval o).run P w=.halt (.panic v) w'/\RP v w')
theorem z1Q {C:Ctx} {v:Value} {x:IV} (h:z9I v=some x):VR C x v:=by
 unfold z9I at h
 split at h
 ·cases h;exact .bool _
 ·cases h;exact .int _ _
 ·cases h;exact .str _
 ·cases h;exact .nsl
 ·split at h
  ·rename_i vs h0
   cases h
   have:vs=#[]:=Array.eq_empty_of_size_eq_zero h0
   subst this;exact .und
  ·cases h
 ·cases h
 ·rename_i h1 h2 h3 h4 h5 h6
  cases h
  refine .raw _ ?_
  cases v<;>first | rfl | exact absurd rfl (h6 _)
def Opds (C:Ctx) (a:Act) (e:Opd->IV):Prop:=∀p q,opd p=some q->VR C (e q) (a.eval p)
theorem JF {C:Ctx} {a:Act} {ρ:Rho} (h:∀n,VR C (ρ n) (a.tmps.getD n undef)):Opds C a (Opd.ev ρ):=by
 intro p q hq
 cases p with
 | tmp t=>cases hq;exact h t
 | const v=>simp only [opd,oms] at hq;obtain ⟨x,hx,rfl⟩:=hq;exact z1Q hx
 | global g=>cases hq;exact .raw _ rfl
 | func f=>cases hq;exact .fn _ [] [] [] [] rfl rfl (fun i x hi=>by simp at hi) (fun i x hi=>by simp at hi)
theorem z1e {C:Ctx} {x:IV} {v:Value} (h:VR C x v) (hc:zJ x=true):v.oneCell'=true:=by
 cases h with
 | raw v h=>cases v<;>first | rfl | cases hc
 | agg=>cases hc
 | tup=>cases hc
 | und=>cases hc
 | _=>rfl
section
variable {E:Env} {C:Ctx} {a:Act} {e:Opd->IV} {o:Oper} {K:IV->List Blk->Prop}
abbrev Good (E:Env) (C:Ctx) (a:Act) (o:Oper) (K:IV->List Blk->Prop):Prop:=Does E.P o a C.w (Post E C K) (Post E C E.pan)
def zbI (C:Ctx) (K:IV->List Blk->Prop) (v:Value) (w':World):Prop:=w'=C.w/\∃r,VR C r v/\K r C.L
def Z5 (E:Env) (C:Ctx) (a:Act) (o:Oper) (K:IV->List Blk->Prop):Prop:=∃v r,(execOp a.eval o).run E.P C.w=.ok (.value v) C.w/\VR C r v/\K r C.L
theorem Zk {r:IV} {v:Value} (hv:VR C r v) (h:K r C.L):zbI C K v C.w:=⟨rfl,r,hv,h⟩
theorem z1I (h:∃v w',(execOp a.eval o).run E.P C.w=.ok (.value v) w'/\zbI C K v w'):Z5 E C a o K:=by
 obtain ⟨v,w',h1,rfl,r,h2,h3⟩:=h
 exact ⟨v,r,h1,h2,h3⟩
theorem zn {s:Sem Value} {v:Value} {w':World} (h1:execOp a.eval o=(do pure (Next.value (<-s)))) (h2:s.run E.P C.w=.ok v w') (h:zbI C K v w'):Z5 E C a o K:=
 z1I ⟨v,w',by rw [h1,Sem.run_bind,h2];rfl,h⟩
theorem Z5.good (h:Z5 E C a o K) (wf:Wf E.g0 C) (sim:Sim C):Good E C a o K:=by
 obtain ⟨v,r,h1,h2,h3⟩:=h
 exact .inl ⟨v,C.w,h1,ZF wf sim h2 h3⟩
theorem Zd {s:Sem Value} {v:Value} {w':World} (h1:execOp a.eval o=(do pure (Next.value (<-s)))) (h2:s.run E.P C.w=.ok v w') (h:Post E C K v w'):Good E C a o K:=
 .inl ⟨v,w',by rw [h1,Sem.run_bind,h2];rfl,h⟩
theorem JV {s:Sem Unit} {w':World} (h1:execOp a.eval o=(do s;pure Next.skip)) (h2:s.run E.P C.w=.ok () w') (h:Post E C K undef w'):Good E C a o K:=
 .inr (.inl ⟨w',by rw [h1,Sem.run_bind,h2];rfl,h⟩)
theorem jb (sim:Sim C) (he:Opds C a e) {x:Operand} {q:Opd} (ho:o.op=.move x\/o.op=.assign x) (hq:opd x=some q) (h:K (e q) C.L):Z5 E C a o K:=by
 refine z1I ⟨a.eval x,C.w,?_,Zk (he x q hq) h⟩
 rcases ho with ho | ho<;>(unfold execOp;rw [ho];rfl)
theorem z3q (sim:Sim C) (he:Opds C a e) {c x y:Operand} {c' x' y':Opd} (ho:o.op=.pick c x y) (hc:opd c=some c') (hx:opd x=some x') (hy:opd y=some y')
  {t:Bool} (ht:e c'=.bool t) (h:K (if t then e x' else e y') C.L):Z5 E C a o K:=by
 have h1:=he c c' hc
 rw [ht] at h1
 generalize hcv:a.eval c=cv at h1
 cases h1
 refine z1I ⟨if t then a.eval x else a.eval y,C.w,?_,Zk ?_ h⟩
 ·unfold execOp;rw [ho];simp only [hcv]
  cases t<;>rfl
 ·cases t
  ·exact he y y' hy
  ·exact he x x' hx
theorem Zn {P:Program} {t:TypeId} {z:List IV} (h:zeroCells P t=some z) :
  ∃i v,P.info? t=some i/\i.zero=some v/\z.length=v.cells.size/\∀(C:Ctx) (j:Nat) (x:IV),z[j]?=some x->∃u,v.cells[j]?=some u/\VR C x u:=by
 unfold zeroCells at h
 rw [obs] at h
 obtain ⟨i,hi,h⟩:=h
 rw [obs] at h
 obtain ⟨v,hv,h⟩:=h
 refine ⟨i,v,hi,hv,by simpa using zG h,fun C j x hx=>?_⟩
 obtain ⟨u,h1,h2⟩:=zM h j x hx
 exact ⟨u,by simpa using h1,z1Q h2⟩
theorem ZI {P:Program} {t:TypeId} {i:TypeInfo} {v:Value} (h1:P.info? t=some i) (h2:i.zero=some v) (w:World):(zeroValue t).run P w=.ok v w:=by
 simp [zeroValue,typeInfo,h1,h2]
theorem zO {P:Program} {t:TypeId} {n:Nat} (h:Z4 P t=some n) (w:World):(sizeOf t).run P w=.ok n w:=by
 unfold Z4 at h
 rw [oms] at h
 obtain ⟨i,h1,rfl⟩:=h
 simp [sizeOf,typeInfo,h1]
theorem vU {P:Program} {t:TypeId} {b:Bool} (h:vZ P t=some b) (w:World):(isAgg t).run P w=.ok b w:=by
 unfold vZ at h
 unfold isAgg
 have hu:∀d,P.underlying t=some d->(underlying t).run P w=.ok d w:=fun d hd=>by simp [underlying,hd]
 split at h<;>rename_i hd<;>first
  | (cases h;rw [Sem.run_bind,hu _ hd];rfl)
  | skip
 ·rename_i _ d h1 h2
  cases h
  rw [Sem.run_bind,hu _ hd]
  cases d<;>first | rfl | exact absurd rfl (h1 _) | exact absurd rfl (h2 _ _)
 ·cases h
theorem z3x {z:List IV} {v:Value} {C:Ctx} (hl:z.length=v.cells.size) (h:∀(j:Nat) (x:IV),z[j]?=some x->∃u,v.cells[j]?=some u/\VR C x u) :
  Flat C v.cells 0 z.length [z]:=by
 refine ⟨by simp [hl],fun i row hi=>?_⟩
 cases i with
 | zero=>simp at hi;subst hi;exact ⟨rfl,fun j y hj=>by simpa using h j y hj⟩
 | succ i=>simp at hi
theorem z6H {g:Nat} (hg:Free C.L g) (wf:Wf E.g0 C) (sim:Sim C) {t:TypeId} {z:List IV} (ho:o.op=.alloc t) (hz:zeroCells E.P t=some z)
  (h:K (.ptr g 0 0) (zK C.L g (.cells z.length [z]))):Good E C a o K:=by
 obtain ⟨i,v,h1,h2,h3,h4⟩:=Zn hz
 refine Zd (s:=Instr.alloc t true (.tuple #[])) (v:=.pointer (some ⟨C.w.heap.size,0,none⟩)) (w':=ZT C.w (.cells v.cells t)) (by unfold execOp;rw [ho]) ?_ (YY hg wf sim (z3x h3 (h4 C)) (YI hg) h)
 unfold Instr.alloc
 rw [Sem.run_bind,ZI h1 h2]
 rfl
theorem zaa {g:Nat} (hg:Free C.L g) (wf:Wf E.g0 C) (sim:Sim C) (he:Opds C a e) {t:TypeId} {x:Operand} {q:Opd} (ho:o.op=.box t x) (hq:opd x=some q)
  (h:K (.ptr g 0 0) (zK C.L g (.cells (cellsOf (e q)).length [cellsOf (e q)]))):Good E C a o K:=
 Zd (s:=Instr.box t (a.eval x)) (v:=.pointer (some ⟨C.w.heap.size,0,none⟩)) (w':=ZT C.w (.cells (a.eval x).cells t)) (by unfold execOp;rw [ho]) rfl
  (YY hg wf sim (zaH (he x q hq)) (YI hg) h)
theorem jF (sim:Sim C) (hG:E.G C.w) {x:IV} {v:Value} (hv:VR C x v) {rows:List (List IV)} {r off:Nat} (h:ZH E.gl C.L x=some (rows,r,off)) (hr:r<rows.length) :
  ∃b k,v=.pointer (some ⟨b,k,none⟩)/\∀(j:Nat) (y:IV),(rows.getD r [])[off+j]?=some y->∃u,C.w.cell? ⟨b,k+j,none⟩=some u/\VR C y u:=by
 have hrow:rows[r]?=some (rows.getD r []):=by simp [List.getD,List.getElem?_eq_getElem hr]
 cases hv with
 | ptr s r' o' hs=>
  simp only [ZH] at h
  split at h
  ·rename_i sz rows' hL
   simp only [sij,Prod.mk.injEq] at h
   obtain ⟨rfl,rfl,rfl⟩:=h
   obtain ⟨h1,c,ty,fr,h2,_,h3,h4⟩:=sim s _ hL
   refine ⟨_,_,rfl,fun j y hj=>?_⟩
   obtain ⟨u,h5,h6⟩:=(h4 _ _ hrow).2 _ y hj
   refine ⟨u,?_,h6⟩
   rw [h1]
   simp only [World.cell?,h2]
   simpa [Nat.add_assoc] using h5
  ·rename_i ty' sz rows' hL
   simp only [sij,Prod.mk.injEq] at h
   obtain ⟨rfl,rfl,rfl⟩:=h
   obtain ⟨⟨h1,c,ty,fr,h2,_,h3,h4⟩,_⟩:=sim s _ hL
   refine ⟨_,_,rfl,fun j y hj=>?_⟩
   obtain ⟨u,h5,h6⟩:=(h4 _ _ hrow).2 _ y hj
   refine ⟨u,?_,h6⟩
   rw [h1]
   simp only [World.cell?,h2]
   simpa [Nat.add_assoc] using h5
  ·cases h
 | iptr rows' r' o' b base sz vals hsz hcl hb hown ha hv=>
  simp only [ZH,sij,Prod.mk.injEq] at h
  obtain ⟨rfl,rfl,rfl⟩:=h
  refine ⟨b,base+r'*sz+o',rfl,fun j y hj=>?_⟩
  refine ⟨vals r' (o'+j),?_,hv _ _ hrow _ _ hj⟩
  rw [<-ha _ _ hrow _ _ hj,Nat.add_assoc]
 | raw v hv=>
  unfold ZH at h
  split at h
  ·rename_i n o heq
   cases heq
   split at h
   ·rename_i cs hcs
    simp only [sij,Prod.mk.injEq] at h
    obtain ⟨rfl,rfl,rfl⟩:=h
    refine ⟨n,o,rfl,fun j y hj=>?_⟩
    obtain ⟨u,h1,h2⟩:=E.hgl C.w n cs hG hcs (o+j) y hj
    exact ⟨u,h1,h2 C⟩
   ·cases h
  ·rename_i heq;cases heq
  ·rename_i heq;cases heq
  ·cases h
 | _=>cases h
theorem Yd {α:Type} {l:List α} {i:Nat} {x d:α} (h:l[i]?=some x):l.getD i d=x:=by
 rw [List.getD_eq_getElem?_getD,h];rfl
theorem getD_get {α:Type} {l:List α} {i:Nat} {d:α} (h:i<l.length):l[i]?=some (l.getD i d):=by simp [List.getD,List.getElem?_eq_getElem h]
theorem z19 (sim:Sim C) (hG:E.G C.w) (he:Opds C a e) {t:TypeId} {x:Operand} {q:Opd} (ho:o.op=.load t x) (hq:opd x=some q) (hg:vZ E.P t=some false)
  {rows:List (List IV)} {r off:Nat} (h:ZH E.gl C.L (e q)=some (rows,r,off)) (hr:r<rows.length) (hoff:off<(rows.getD r []).length)
  (hK:K ((rows.getD r []).getD off .und) C.L):Z5 E C a o K:=by
 obtain ⟨b,k,hv,hc⟩:=jF sim hG (he x q hq) h hr
 obtain ⟨u,h1,h2⟩:=hc 0 _ (getD_get (d:=.und) (by simpa using hoff))
 refine zn (s:=Instr.loadAt t (a.eval x)) (v:=u) (w':=C.w) (by unfold execOp;rw [ho]) ?_ (Zk h2 (by simpa using hK))
 rw [hv]
 unfold Instr.loadAt loadVar
 rw [Sem.run_bind]
 simp only [Instr.sureAddr,Sem.run_pure,Result.andThen_ok]
 rw [Sem.run_bind,vU hg]
 simp only [Result.andThen_ok,Bool.false_eq_true,if_false,run_load]
 simp only [Nat.add_zero] at h1
 rw [h1]
theorem z0G (sim:Sim C) (hG:E.G C.w) (he:Opds C a e) {t:TypeId} {x:Operand} {q:Opd} {n:Nat} (ho:o.op=.load t x) (hq:opd x=some q) (hg:vZ E.P t=some true) (hn:Z4 E.P t=some n)
  {rows:List (List IV)} {r off:Nat} (h:ZH E.gl C.L (e q)=some (rows,r,off)) (hr:r<rows.length) (hoff:off+n<=(rows.getD r []).length)
  (hK:K (.agg (((rows.getD r []).drop off).take n)) C.L):Z5 E C a o K:=by
 obtain ⟨b,k,hv,hc⟩:=jF sim hG (he x q hq) h hr
 have hc':∀j,j<n->∃u,C.w.cell? ⟨b,k+j,none⟩=some u/\VR C ((rows.getD r []).getD (off+j) .und) u:=fun j hj=>hc j _ (getD_get (by omega))
 let f:Nat->Value:=fun j=>if hj:j<n then (hc' j hj).choose else undef
 have hf:∀j,j<n->C.w.cell? ⟨b,k+j,none⟩=some (f j)/\VR C ((rows.getD r []).getD (off+j) .und) (f j):=fun j hj=>by
  simp only [f,hj,dif_pos];exact (hc' j hj).choose_spec
 refine zn (s:=Instr.loadAt t (a.eval x)) (v:=.agg ((List.range n).map f).toArray) (w':=C.w) (by unfold execOp;rw [ho]) ?_ (Zk ?_ hK)
 ·rw [hv]
  unfold Instr.loadAt loadVar
  rw [Sem.run_bind]
  simp only [Instr.sureAddr,Sem.run_pure,Result.andThen_ok]
  rw [Sem.run_bind,vU hg]
  simp only [Result.andThen_ok,if_true]
  rw [Sem.run_bind,zO hn]
  simp only [Result.andThen_ok]
  rw [Sem.run_bind,run_loadCells C.w _ n f (fun j hj=>by
   have:(⟨b,k,none⟩:Addr).add j=⟨b,k+j,none⟩:=by unfold Addr.add;split<;>simp_all
   rw [this];exact (hf j hj).1)]
  rfl
 ·refine .agg _ _ (by rw [List.length_take,List.length_drop,List.length_map,List.length_range];omega) fun i y hi=>?_
  rw [List.getElem?_take] at hi
  split at hi
  ·rename_i hlt
   rw [List.getElem?_drop] at hi
   have hin:i<n:=hlt
   have h1:=(hf i hin).2
   have hy:(rows.getD r []).getD (off+i) .und=y:=Yd hi
   rw [hy] at h1
   simpa [List.getD,hin] using h1
  ·cases hi
end
end Go.X
end
section
namespace Go.X
open Go

theorem JI {w:World} {g:Nat} {old cs:Array Value} {t:TypeId} {fr:Nat × Nat} (hg:w.heap[g]?=some (.cells old t fr)):w.setRow g cs=setW w g (.cells cs t fr):=by
 unfold World.setRow setW
 cases w with
 | mk heap tape drawn os output=>
  congr 1
  apply Array.ext'
  apply List.ext_getElem?
  intro i
  simp only [Array.getElem?_toList]
  rw [Array.getElem?_modify,Array.getElem?_setIfInBounds]
  by_cases h:g=i
  ·subst h
   have hlt:=(Array.getElem?_eq_some_iff.1 hg).1
   simp only [hlt]
   rw [hg];simp
  ·rw [if_neg h,if_neg h]
theorem ZP {tc:Bool} (P:Program) (g o:Nat) (t:TypeId) (fz:Nat × Nat):∀(vs:List Value) (i:Nat) (cur:Array Value) (w:World),w.heap[g]?=some (.cells cur t fz)->frOk tc cur.size fz->o+i+vs.length<=cur.size->(∀v∈vs,v.oneCell'=true)->
  (storeCells ⟨g,o,none⟩ vs i).run P w=.ok () (w.setRow g (cur.toList.take (o+i)++vs++cur.toList.drop (o+i+vs.length)).toArray)
 | [],i,cur,w,hg,_,_,_=>by
  simp only [storeCells,List.append_nil,lln,Nat.add_zero,List.take_append_drop,Array.toArray_toList]
  rw [setRow_self w g cur t fz hg]
  rfl
 | v::rest,i,cur,w,hg,hfz,hl,h1=>by
  have hi:o+i<cur.size:=by simp at hl;omega
  have hadd:(⟨g,o,none⟩:Addr).add i=⟨g,o+i,none⟩:=by unfold Addr.add;split<;>simp_all
  have hcell:w.cell? ⟨g,o+i,none⟩=some cur[o+i]:=by simp [World.cell?,hg,hi]
  have hfro:w.frozen? ⟨g,o+i,none⟩=false:=by
   obtain ⟨lo,hi'⟩:=fz
   have:=z9R hfz hi
   simp only [World.frozen?,hg,Bool.and_eq_false_iff,decide_eq_false_iff_not]
   simp only at this
   omega
  have hst:(store ((⟨g,o,none⟩:Addr).add i) v).run P w=.ok () (w.setRow g (cur.setIfInBounds (o+i) v)):=by
   rw [hadd,run_store P w _ v _ (h1 v (by simp)),hcell]
   simp [hfro,setCell_eq_setRow w g (o+i) cur t fz v hg]
  have ih:=ZP P g o t fz rest (i+1) (cur.setIfInBounds (o+i) v) (w.setRow g (cur.setIfInBounds (o+i) v)) (setRow_heap w g cur _ t _ hg) (by simpa using hfz) (by simp at hl ⊢;omega) (fun x hx=>h1 x (by simp [hx]))
  simp only [storeCells,Sem.run_bind,hst,Result.andThen_ok,ih,setRow_setRow]
  congr 3
  have e:=list_seg_step cur.toList (o+i) v rest (by simp at hl ⊢;omega)
  simpa [Array.toList_setIfInBounds,Nat.add_assoc] using e
def seg (c:Array Value) (k:Nat) (vs:List Value):Array Value:=(c.toList.take k++vs++c.toList.drop (k+vs.length)).toArray
theorem Z9 {c:Array Value} {k:Nat} {vs:List Value} (h:k+vs.length<=c.size):(seg c k vs).size=c.size:=by
 have h':c.toList.length=c.size:=by simp
 simp only [seg,List.size_toArray,lla,List.length_take,List.length_drop,h'];omega
theorem Yw {c:Array Value} {k:Nat} {vs:List Value} (h:k+vs.length<=c.size) (i:Nat) :
  (seg c k vs)[i]?=if k<=i/\i<k+vs.length then vs[i - k]? else c[i]?:=by
 have h':c.toList.length=c.size:=by simp
 simp only [seg,List.getElem?_toArray]
 by_cases h1:i<k
 ·rw [if_neg (by omega),List.append_assoc,List.getElem?_append_left (by rw [List.length_take];omega),List.getElem?_take,if_pos h1]
  simp
 ·by_cases h2:i<k+vs.length
  ·rw [if_pos ⟨by omega,h2⟩,List.append_assoc,List.getElem?_append_right (by rw [List.length_take];omega),List.getElem?_append_left (by rw [List.length_take];omega)]
   congr 1
   rw [List.length_take];omega
  ·rw [if_neg (by omega),List.getElem?_append_right (by rw [lla,List.length_take];omega),List.getElem?_drop]
   rw [lla,List.length_take,<-Array.getElem?_toList]
   congr 1
   omega
theorem Wy {α:Type} {l xs:List α} {i:Nat} (h:i+xs.length<=l.length):(splice l i xs).length=l.length:=by
 simp only [splice,lla,List.length_take,List.length_drop];omega
theorem jv {α:Type} {l xs:List α} {k:Nat} (h:k<=l.length) (i:Nat) :
  (splice l k xs)[i]?=if k<=i/\i<k+xs.length then xs[i - k]? else l[i]?:=by
 simp only [splice]
 by_cases h1:i<k
 ·rw [if_neg (by omega),List.append_assoc,List.getElem?_append_left (by rw [List.length_take];omega),List.getElem?_take,if_pos h1]
 ·by_cases h2:i<k+xs.length
  ·rw [if_pos ⟨by omega,h2⟩,List.append_assoc,List.getElem?_append_right (by rw [List.length_take];omega),List.getElem?_append_left (by rw [List.length_take];omega)]
   congr 1
   rw [List.length_take];omega
  ·rw [if_neg (by omega),List.getElem?_append_right (by rw [lla,List.length_take];omega),List.getElem?_drop]
   rw [lla,List.length_take]
   congr 1
   omega
theorem jQ {i r sz j:Nat} (h:i<r) (hj:j<sz):i*sz+j<r*sz:=by
 have h1:(i+1)*sz<=r*sz:=Nat.mul_le_mul_right sz h
 rw [Nat.add_mul] at h1
 omega
theorem zu {α:Type} {l:List α} {i:Nat} {x:α} (h:l[i]?=some x):i<l.length:=(List.getElem?_eq_some_iff.1 h).1
theorem z1d {C:Ctx} {c:Array Value} {base sz:Nat} {rows:List (List IV)} (hf:Flat C c base sz rows) {r off:Nat} {xs:List IV} {vs:List Value} (hr:r<rows.length)
  (hoff:off+xs.length<=(rows.getD r []).length) (hl:xs.length=vs.length) (hx:∀(i:Nat) (x:IV),xs[i]?=some x->∃v,vs[i]?=some v/\VR C x v) :
  base+r*sz+off+vs.length<=c.size/\Flat C (seg c (base+r*sz+off) vs) base sz (rows.set r (splice (rows.getD r []) off xs)):=by
 have hrow:=getD_get (d:=[]) hr
 have hsz:=(hf.2 r _ hrow).1
 have hle:base+r*sz+off+vs.length<=c.size:=by
  have h1:=hf.1
  have h2:(r+1)*sz<=rows.length*sz:=Nat.mul_le_mul_right sz hr
  rw [Nat.add_mul] at h2
  omega
 refine ⟨hle,by rw [Z9 hle,lls];exact hf.1,fun i row hi=>?_⟩
 rcases zY hi with ⟨h1,h2⟩ | ⟨h1,h2,_⟩
 ·refine ⟨(hf.2 i row h2).1,fun j x hj=>?_⟩
  obtain ⟨v,h3,h4⟩:=(hf.2 i row h2).2 j x hj
  refine ⟨v,?_,h4⟩
  rw [Yw hle,if_neg,h3]
  rintro ⟨h5,h6⟩
  have hj':j<sz:=by rw [<-(hf.2 i row h2).1];exact zu hj
  rcases Nat.lt_or_gt_of_ne h1 with h7 | h7
  ·have:=jQ h7 hj';omega
  ·have:=jQ h7 (show off+vs.length - 1<sz by omega);omega
 ·subst h1;subst h2
  refine ⟨(Wy hoff).trans hsz,fun j x hj=>?_⟩
  rw [jv (by omega)] at hj
  split at hj
  ·rename_i h5
   obtain ⟨v,h3,h4⟩:=hx _ x hj
   refine ⟨v,?_,h4⟩
   rw [Yw hle,if_pos (by omega),<-h3]
   congr 1
   omega
  ·rename_i h5
   obtain ⟨v,h3,h4⟩:=(hf.2 i _ hrow).2 j x hj
   refine ⟨v,?_,h4⟩
   rw [Yw hle,if_neg (by omega),h3]
section
variable {E:Env} {C:Ctx} {a:Act} {e:Opd->IV} {o:Oper} {K:IV->List Blk->Prop}
theorem J6 {s:Nat} {sz:Nat} {rows rows':List (List IV)} {c c':Array Value} {ty:TypeId} {fr:Nat × Nat} {r:IV} {v:Value} (wf:Wf E.g0 C) (sim:Sim C) (hs:C.L[s]?=some (.cells sz rows))
  (hc:C.w.heap[(C.φ s).blk]?=some (.cells c ty fr)) (hfr:frOk false c.size fr) (hsz:c'.size=c.size) (hf:Flat C c' (C.φ s).base sz rows')
  (hv:VR (setC C s (.cells c' ty fr) (.cells sz rows')) r v) (h:K r (C.L.set s (.cells sz rows'))):Post E C K v (setW C.w (C.φ s).blk (.cells c' ty fr)):=by
 refine ⟨r,C.L.set s (Blk.cells sz rows'),C.φ,h,Jy (o:=.cells c' ty fr) wf hs rfl,z9G wf sim hs rfl hc hsz ?_,JL hs rfl hc hsz,hv⟩
 have hf':=hf.mono (JL (k:=.cells sz rows') hs rfl hc hsz)
 refine ⟨(sim s _ hs).1,c',ty,fr,?_,by rw [hsz];exact hfr,hf'.1,hf'.2⟩
 exact zD (Array.getElem?_eq_some_iff.1 hc).1
theorem z2s {s:Nat} {sz:Nat} {rows rows':List (List IV)} {c c':Array Value} {ty:TypeId} {fr:Nat × Nat} {r:IV} {v:Value} (wf:Wf E.g0 C) (sim:Sim C) (hs:C.L[s]?=some (.tcells ty sz rows))
  (hc:C.w.heap[(C.φ s).blk]?=some (.cells c ty fr)) (hfr:frOk true c.size fr) (hsz:c'.size=c.size) (hf:Flat C c' (C.φ s).base sz rows')
  (hv:VR (setC C s (.cells c' ty fr) (.tcells ty sz rows')) r v) (h:K r (C.L.set s (.tcells ty sz rows'))):Post E C K v (setW C.w (C.φ s).blk (.cells c' ty fr)):=by
 refine ⟨r,C.L.set s (Blk.tcells ty sz rows'),C.φ,h,Jy (o:=.cells c' ty fr) wf hs rfl,z9G wf sim hs rfl hc hsz ?_,JL hs rfl hc hsz,hv⟩
 have hf':=hf.mono (JL (k:=.tcells ty sz rows') hs rfl hc hsz)
 have hh:(setC C s (.cells c' ty fr) (.tcells ty sz rows')).w.heap[(C.φ s).blk]?=some (.cells c' ty fr):=zD (Array.getElem?_eq_some_iff.1 hc).1
 exact ⟨⟨(sim s _ hs).1.1,c',ty,fr,hh,by rw [hsz];exact hfr,hf'.1,hf'.2⟩,(sim s _ hs).2.1,c',fr,hh⟩
theorem z3t (sim:Sim C) (he:Opds C a e) {t:TypeId} {p x:Operand} {p' x':Opd} {n:Nat} (ho:o.op=.store t p x) (hp:opd p=some p') (hx:opd x=some x')
  (hn:Z4 E.P t=some n) {s r off sz:Nat} {rows:List (List IV)} (h1:e p'=.ptr s r off) {tc:Bool} (hco:ZX tc C s sz rows) (hr:r<rows.length) (hoff:off+n<=(rows.getD r []).length)
  (hl:(cellsOf (e x')).length=n) (hc:(cellsOf (e x')).all zJ=true)
  (hK:∀(c c':Array Value) (ty:TypeId) (fr:Nat × Nat),C.w.heap[(C.φ s).blk]?=some (.cells c ty fr)->frOk tc c.size fr->c'.size=c.size->
   Flat C c' (C.φ s).base sz (rows.set r (splice (rows.getD r []) off (cellsOf (e x'))))->Post E C K undef (setW C.w (C.φ s).blk (.cells c' ty fr))):Good E C a o K:=by
 have hv:=he p p' hp
 rw [h1] at hv
 generalize hpv:a.eval p=pv at hv
 cases hv with
 | ptr _ _ _ hs=>
 obtain ⟨hsz,c,ty,fr,h3,hfr,hf⟩:=hco
 obtain ⟨hl2,hx2⟩:=(he x x' hx).cells
 have hxs:∀(i:Nat) (y:IV),(cellsOf (e x'))[i]?=some y->∃v,(a.eval x).cells.toList[i]?=some v/\VR C y v:=fun i y hi=>by
  obtain ⟨v,h4,h5⟩:=hx2 i y hi;exact ⟨v,by simpa using h4,h5⟩
 obtain ⟨hle,hf'⟩:=z1d (C:=C) hf hr (by rw [hl];exact hoff) (vs:=(a.eval x).cells.toList) (by simpa using hl2) hxs
 have hone:∀v∈(a.eval x).cells.toList,v.oneCell'=true:=fun v hv=>by
  obtain ⟨i,hi,rfl⟩:=List.getElem_of_mem hv
  have hi':i<(cellsOf (e x')).length:=by rw [hl2];simpa using hi
  obtain ⟨u,h4,h5⟩:=hxs i _ (List.getElem?_eq_getElem hi')
  rw [List.getElem?_eq_getElem hi] at h4
  rw [Option.some.inj h4]
  exact z1e h5 (List.all_eq_true.1 hc _ (List.getElem_mem hi'))
 refine JV (s:=Instr.storeAt t (a.eval p) (a.eval x)) (by unfold execOp;rw [ho]) ?_ (hK c _ ty fr h3 hfr (Z9 hle) hf')
 rw [hpv]
 unfold Instr.storeAt storeVar
 rw [Sem.run_bind]
 simp only [Instr.sureAddr,Sem.run_pure,Result.andThen_ok]
 rw [Sem.run_bind,zO hn]
 simp only [Result.andThen_ok]
 rw [if_neg (by rw [<-hl2,hl];simp)]
 have h6:=ZP E.P (C.φ s).blk ((C.φ s).base+r*sz+off) ty fr (a.eval x).cells.toList 0 c C.w h3 hfr (by simpa using hle) hone
 simp only [Nat.add_zero] at h6
 rw [hsz]
 rw [<-JI h3]
 exact h6
theorem z6u (wf:Wf E.g0 C) (sim:Sim C) (he:Opds C a e) {t:TypeId} {p x:Operand} {p' x':Opd} {n:Nat} (ho:o.op=.store t p x) (hp:opd p=some p') (hx:opd x=some x')
  (hn:Z4 E.P t=some n) {s r off sz:Nat} {rows:List (List IV)} (h1:e p'=.ptr s r off) (h2:C.L[s]?=some (.cells sz rows)) (hr:r<rows.length) (hoff:off+n<=(rows.getD r []).length)
  (hl:(cellsOf (e x')).length=n) (hc:(cellsOf (e x')).all zJ=true)
  (hK:K .und (C.L.set s (.cells sz (rows.set r (splice (rows.getD r []) off (cellsOf (e x'))))))):Good E C a o K:=
 z3t sim he ho hp hx hn h1 (sim s _ h2) hr hoff hl hc fun _ _ _ _ h3 hfr hsz hf=>J6 wf sim h2 h3 hfr hsz hf (by exact .und) hK
theorem z4w (wf:Wf E.g0 C) (sim:Sim C) (he:Opds C a e) {t:TypeId} {p x:Operand} {p' x':Opd} {n:Nat} (ho:o.op=.store t p x) (hp:opd p=some p') (hx:opd x=some x')
  (hn:Z4 E.P t=some n) {s r off ty sz:Nat} {rows:List (List IV)} (h1:e p'=.ptr s r off) (h2:C.L[s]?=some (.tcells ty sz rows)) (hr:r<rows.length) (hoff:off+n<=(rows.getD r []).length)
  (hl:(cellsOf (e x')).length=n) (hc:(cellsOf (e x')).all zJ=true)
  (hK:K .und (C.L.set s (.tcells ty sz (rows.set r (splice (rows.getD r []) off (cellsOf (e x'))))))):Good E C a o K:=
 z3t sim he ho hp hx hn h1 (sim s _ h2).1 hr hoff hl hc fun c c' ty' fr h3 hfr hsz hf=>by
  obtain ⟨_,_,c0,fr0,h4⟩:=sim s _ h2
  have:ty'=ty:=by rw [h3] at h4;cases h4;rfl
  subst this
  exact z2s wf sim h2 h3 hfr hsz hf (by exact .und) hK
end
end Go.X
end
section
namespace Go.X
open Go

theorem z9B (cs:List Value):∀(off k:Nat) (c:Array Value),off+k+cs.length<=c.size->
  (cs.zipIdx k).foldl (fun a (x:Value × Nat)=>a.setIfInBounds (off+x.2) x.1) c=seg c (off+k) cs:=by
 induction cs with
 | nil=>intro off k c h;simp [seg]
 | cons v r ih=>
  intro off k c h
  simp only [llc] at h
  rw [List.zipIdx_cons,List.foldl_cons,show k+1=k+1 from rfl,ih off (k+1) _ (by rw [Array.size_setIfInBounds];omega)]
  apply Array.ext_getElem?
  intro i
  rw [Yw (by rw [Array.size_setIfInBounds];omega),Yw (by simp only [llc];omega),Array.getElem?_setIfInBounds]
  simp only [llc]
  by_cases h1:i=off+k
  ·subst h1
   rw [if_neg (by omega),if_pos rfl,if_pos (by omega),if_pos ⟨by omega,by omega⟩]
   simp
  ·by_cases h2:off+k<i/\i<off+k+(r.length+1)
   ·rw [if_pos ⟨by omega,by omega⟩,if_pos ⟨by omega,by omega⟩]
    have:i - (off+k)=(i - (off+(k+1)))+1:=by omega
    rw [this,List.getElem?_cons_succ]
   ·rw [if_neg (by omega),if_neg (by omega),if_neg (by omega)]
theorem z3F (c:Array Value) (off:Nat) (vs:Array Value) (h:off+vs.size<=c.size) :
  vs.zipIdx.foldl (fun cs (x:Value × Nat)=>cs.setIfInBounds (off+x.2) x.1) c=seg c off vs.toList:=by
 rw [<-Array.foldl_toList,Array.toList_zipIdx]
 have:=z9B vs.toList off 0 c (by simpa using h)
 simpa using this
def Row (C:Ctx) (zs:List IV) (c:Array Value):Prop:=zs.length=c.size/\∀(j:Nat) (x:IV),zs[j]?=some x->∃u,c[j]?=some u/\VR C x u
theorem z6d {C:Ctx} {zs:List IV} {c:Array Value} (h:Row C zs c) {off:Nat} {xs:List IV} {vs:List Value} (hl:xs.length=vs.length) (hle:off+xs.length<=zs.length)
  (hx:∀(i:Nat) (x:IV),xs[i]?=some x->∃v,vs[i]?=some v/\VR C x v):Row C (splice zs off xs) (seg c off vs):=by
 have hle':off+vs.length<=c.size:=by rw [<-h.1,<-hl];exact hle
 refine ⟨by rw [Wy hle,Z9 hle'];exact h.1,fun j x hj=>?_⟩
 rw [jv (by omega)] at hj
 rw [Yw hle']
 split at hj
 ·rename_i h1
  rw [if_pos (by omega)]
  exact hx _ x hj
 ·rename_i h1
  rw [if_neg (by omega)]
  exact h.2 j x hj
theorem jy {C:Ctx} {place:Nat->Option (Nat × Nat)}:∀(ps:List (Nat × Value)) (qs:List (Nat × Nat × IV)) (zs cs:List IV) (c:Array Value),Row C zs c->z0o zs qs=some cs->
  ps.length=qs.length->(∀(i:Nat) q,qs[i]?=some q->∃p,ps[i]?=some p/\place p.1=some (q.1,q.2.1)/\VR C q.2.2 p.2)->
  ∃c',Instr.fill place c ps=some c'/\Row C cs c'
 | [],[],zs,cs,c,hr,hf,_,_=>by
  simp only [z0o,sij] at hf;subst hf
  exact ⟨c,rfl,hr⟩
 | [],q::qs,_,_,_,_,_,hl,_=>by simp at hl
 | p::ps,[],_,_,_,_,_,hl,_=>by simp at hl
 | (i,v)::ps,(off,n,x)::qs,zs,cs,c,hr,hf,hl,h=>by
  obtain ⟨p,hp,hpl,hv⟩:=h 0 _ rfl
  simp only [List.getElem?_cons_zero,sij] at hp;subst hp
  simp only [z0o] at hf
  split at hf
  ·rename_i hc
   obtain ⟨h1,h2⟩:=hv.cells
   dsimp only at h1 h2
   have hvs:v.cells.size=n:=by rw [<-h1];exact hc.1
   have hr':Row C (splice zs off (cellsOf x)) (seg c off v.cells.toList):=z6d hr (by simpa using h1) (by rw [hc.1];exact hc.2)
    (fun i y hi=>by obtain ⟨u,h3,h4⟩:=h2 i y hi;exact ⟨u,by simpa using h3,h4⟩)
   obtain ⟨c',h5,h6⟩:=jy ps qs _ cs _ hr' hf (by simpa using hl) (fun i q hi=>h (i+1) q (by simpa using hi))
   refine ⟨c',?_,h6⟩
   simp only [Instr.fill,hpl]
   have hle:off+n<=c.size:=by rw [<-hr.1];exact hc.2
   rw [if_neg (by simp only [Bool.or_eq_true,decide_eq_true_eq];omega),z3F c off v.cells (by omega)]
   exact h5
  ·cases hf
section
variable {E:Env} {C:Ctx} {a:Act} {e:Opd->IV} {o:Oper} {K:IV->List Blk->Prop}
theorem jJ {P:Program} {α β:Type} {f:α->Sem β} {g:α->β} {w:World}:∀(l:List α),(∀x∈l,(f x).run P w=.ok (g x) w)->(l.mapM f).run P w=.ok (l.map g) w
 | [],_=>rfl
 | x::r,h=>by
  rw [List.mapM_cons,Sem.run_bind,h x (by simp)]
  simp only [Result.andThen_ok]
  rw [Sem.run_bind,jJ r (fun y hy=>h y (by simp [hy]))]
  rfl
theorem z7I {cs:List IV} {c:Array Value} (h:Row C cs c):VR C (.agg cs) (.agg c):=by
 have:=VR.agg (C:=C) cs c.toList (by simpa using h.1) (fun i x hi=>by
  obtain ⟨u,h1,h2⟩:=h.2 i x hi
  have:c.toList.getD i undef=u:=Yd (by simpa using h1)
  rw [this];exact h2)
 simpa using this
theorem YJ (sim:Sim C) (he:Opds C a e) {t:TypeId} {ps:Array (Nat × Operand)} {fs:Array Field} {z:List IV} {qs:List (Nat × Nat × Opd)} (ho:o.op=.build t ps)
  (ht:E.P.underlying t=some (.struct fs)) (hz:zeroCells E.P t=some z)
  (hq:mapO (fun (p:Nat × Operand)=>(fs[p.1]?).bind fun f=>(Z4 E.P f.type).bind fun n=>(opd p.2).map fun x=>(f.offset,n,x)) ps.toList=some qs)
  (hfs:fs.toList.all (fun f=>(E.P.info? f.type).isSome)=true) {cs:List IV} (hx:z0o z (qs.map fun p=>(p.1,p.2.1,e p.2.2))=some cs) (hK:K (.agg cs) C.L):Z5 E C a o K:=by
 obtain ⟨i,v,h1,h2,h3,h4⟩:=Zn hz
 let g:Field->Nat × Nat:=fun f=>(f.offset,((E.P.info? f.type).map (·.size)).getD 0)
 have hpl:(fs.mapM fun f=>(do pure (f.offset,<-sizeOf f.type):Sem (Nat × Nat))).run E.P C.w=.ok (fs.toList.map g).toArray C.w:=by
  rw [Array.mapM_eq_mapM_toList,Sem.run_map,jJ (g:=g) fs.toList]
  ·rfl
  ·intro f hf
   have:=List.all_eq_true.1 hfs f hf
   obtain ⟨i,hi⟩:=Option.isSome_iff_exists.1 this
   rw [Sem.run_bind,zO (n:=i.size) (by simp [Z4,hi])]
   simp [g,hi]
 obtain ⟨c',h5,h6⟩:=jy (C:=C) (place:=fun j=>(fs.toList.map g).toArray[j]?) (ps.toList.map fun p=>(p.1,a.eval p.2)) (qs.map fun p=>(p.1,p.2.1,e p.2.2)) z cs v.cells ⟨h3,h4 C⟩ hx
  (by simp [zG hq]) (fun j q hj=>by
   rw [List.getElem?_map,oms] at hj
   obtain ⟨q0,hj,rfl⟩:=hj
   obtain ⟨p,h7,h8⟩:=zM hq j q0 hj
   rw [obs] at h8
   obtain ⟨f,h8,h9⟩:=h8
   rw [obs] at h9
   obtain ⟨n,h9,h10⟩:=h9
   rw [oms] at h10
   obtain ⟨x,h10,rfl⟩:=h10
   refine ⟨(p.1,a.eval p.2),by rw [List.getElem?_map,h7];rfl,?_,he _ _ h10⟩
   simp only [List.getElem?_toArray,List.getElem?_map,Array.getElem?_toList,h8,Option.map_some,g]
   unfold Z4 at h9
   rw [h9];rfl)
 refine zn (s:=Instr.build t (ps.map fun (i,x)=>(i,a.eval x))) (v:=.agg c') (w':=C.w) (by unfold execOp;rw [ho]) ?_ (Zk (z7I h6) hK)
 unfold Instr.build
 rw [Sem.run_bind,ZI h1 h2]
 simp only [Result.andThen_ok]
 rw [Sem.run_bind]
 have hu:(underlying t).run E.P C.w=.ok (.struct fs) C.w:=by simp [underlying,ht]
 rw [hu]
 simp only [Result.andThen_ok]
 rw [Sem.run_bind,hpl]
 simp only [Result.andThen_ok]
 have h7:(ps.map fun (x:Nat × Operand)=>(x.1,a.eval x.2)).toList=ps.toList.map fun p=>(p.1,a.eval p.2):=by simp
 rw [h7,h5]
 rfl
theorem wB (sim:Sim C) (he:Opds C a e) {t el:TypeId} {ps:Array (Nat × Operand)} {m n:Nat} {z:List IV} {qs:List (Nat × Nat × Opd)} (ho:o.op=.build t ps)
  (ht:E.P.underlying t=some (.array m el)) (hz:zeroCells E.P t=some z) (hn:Z4 E.P el=some n)
  (hq:mapO (fun (p:Nat × Operand)=>(opd p.2).map fun x=>(p.1*n,n,x)) ps.toList=some qs)
  {cs:List IV} (hx:z0o z (qs.map fun p=>(p.1,p.2.1,e p.2.2))=some cs) (hK:K (.agg cs) C.L):Z5 E C a o K:=by
 obtain ⟨i,v,h1,h2,h3,h4⟩:=Zn hz
 obtain ⟨c',h5,h6⟩:=jy (C:=C) (place:=fun j=>some (j*n,n)) (ps.toList.map fun p=>(p.1,a.eval p.2)) (qs.map fun p=>(p.1,p.2.1,e p.2.2)) z cs v.cells ⟨h3,h4 C⟩ hx
  (by simp [zG hq]) (fun j q hj=>by
   rw [List.getElem?_map,oms] at hj
   obtain ⟨q0,hj,rfl⟩:=hj
   obtain ⟨p,h7,h8⟩:=zM hq j q0 hj
   rw [oms] at h8
   obtain ⟨x,h10,rfl⟩:=h8
   exact ⟨(p.1,a.eval p.2),by rw [List.getElem?_map,h7];rfl,rfl,he _ _ h10⟩)
 refine zn (s:=Instr.build t (ps.map fun (i,x)=>(i,a.eval x))) (v:=.agg c') (w':=C.w) (by unfold execOp;rw [ho]) ?_ (Zk (z7I h6) hK)
 unfold Instr.build
 rw [Sem.run_bind,ZI h1 h2]
 simp only [Result.andThen_ok]
 rw [Sem.run_bind]
 have hu:(underlying t).run E.P C.w=.ok (.array m el) C.w:=by simp [underlying,ht]
 rw [hu]
 simp only [Result.andThen_ok]
 rw [Sem.run_bind,zO hn]
 simp only [Result.andThen_ok]
 have h7:(ps.map fun (x:Nat × Operand)=>(x.1,a.eval x.2)).toList=ps.toList.map fun p=>(p.1,a.eval p.2):=by simp
 rw [h7,h5]
 rfl
theorem WM {C:Ctx} {z:List IV} {v:Value} {m:Nat} (hl:z.length=v.cells.size) (h:∀(j:Nat) (x:IV),z[j]?=some x->∃u,v.cells[j]?=some u/\VR C x u)
  (zero:Array Value) (hz:m*z.length=0\/zero=v.cells) :
  ((Array.range (m*z.length)).map (zero[·%zero.size]!)).size=m*z.length/\Flat C ((Array.range (m*z.length)).map (zero[·%zero.size]!)) 0 z.length (List.replicate m z):=by
 refine ⟨by simp,by simp,fun i row hi=>?_⟩
 rw [List.getElem?_replicate] at hi
 split at hi
 ·rename_i hlt
  simp only [sij] at hi;subst hi
  refine ⟨rfl,fun j x hj=>?_⟩
  obtain ⟨u,h1,h2⟩:=h j x hj
  have hj':j<z.length:=zu hj
  refine ⟨u,?_,h2⟩
  have hlt2:i*z.length+j<m*z.length:=jQ hlt hj'
  have hz':zero=v.cells:=hz.resolve_left (by omega)
  subst hz'
  have hj2:j<v.cells.size:=by omega
  have hmod:(i*z.length+j)%v.cells.size=j:=by rw [<-hl,Nat.mul_comm,Nat.mul_add_mod,Nat.mod_eq_of_lt hj']
  simp only [Nat.zero_add,Array.getElem?_map,Array.getElem?_range,hlt2,if_true,Option.map_some,hmod]
  rw [getElem!_pos v.cells j hj2,<-h1,Array.getElem?_eq_getElem hj2]
 ·cases hi
theorem WN {C:Ctx} {sz:Nat}:∀(ps:List (Nat × Value)) (qs:List (Nat × IV)) (rows rows':List (List IV)) (c:Array Value),c.size=rows.length*sz->Flat C c 0 sz rows->Zi sz rows qs=some rows'->
  ps.length=qs.length->(∀(i:Nat) (q:Nat × IV),qs[i]?=some q->∃p,ps[i]?=some p/\p.1=q.1/\VR C q.2 p.2)->
  ∃c',Instr.fill (fun i=>some (i*sz,sz)) c ps=some c'/\c'.size=c.size/\rows'.length=rows.length/\Flat C c' 0 sz rows'
 | [],[],rows,rows',c,hs,hr,hf,_,_=>by
  simp only [Zi,sij] at hf;subst hf
  exact ⟨c,rfl,rfl,rfl,hr⟩
 | [],q::qs,_,_,_,_,_,_,hl,_=>by simp at hl
 | p::ps,[],_,_,_,_,_,_,hl,_=>by simp at hl
 | (i,v)::ps,(k,x)::qs,rows,rows',c,hs,hr,hf,hl,h=>by
  obtain ⟨p,hp,hpl,hv⟩:=h 0 _ rfl
  simp only [List.getElem?_cons_zero,sij] at hp;subst hp
  dsimp only at hpl hv;subst hpl
  simp only [Zi] at hf
  split at hf
  ·rename_i hc
   obtain ⟨h1,h2⟩:=hv.cells
   have hrow:=getD_get (d:=[]) hc.2
   have hrl:=(hr.2 _ _ hrow).1
   have hsp:splice (rows.getD i []) 0 (cellsOf x)=cellsOf x:=by
    simp only [splice,List.take_zero,List.nil_append,Nat.zero_add]
    rw [List.drop_eq_nil_of_le (by rw [hrl,hc.1];exact Nat.le_refl _),List.append_nil]
   obtain ⟨hle,hr'⟩:=z1d hr hc.2 (off:=0) (xs:=cellsOf x) (vs:=v.cells.toList) (by rw [hrl,hc.1];omega) (by simpa using h1)
    (fun i y hi=>by obtain ⟨u,h3,h4⟩:=h2 i y hi;exact ⟨u,by simpa using h3,h4⟩)
   rw [hsp] at hr'
   simp only [Nat.zero_add,Nat.add_zero] at hle hr'
   obtain ⟨c',h5,h6,h7,h8⟩:=WN ps qs _ rows' _ (by rw [Z9 (by simpa using hle),lls];exact hs) hr' hf (by simpa using hl) (fun j q hj=>h (j+1) q (by simpa using hj))
   refine ⟨c',?_,by rw [h6,Z9 (by simpa using hle)],by rw [h7,lls],h8⟩
   simp only [Instr.fill]
   have hvs:v.cells.size=sz:=by rw [<-h1];exact hc.1
   simp only [Array.length_toList] at hle
   rw [if_neg (by simp only [Bool.or_eq_true,decide_eq_true_eq];omega),z3F c (i*sz) v.cells hle]
   exact h5
  ·cases hf
theorem z4i {g:Nat} (hg:Free C.L g) (wf:Wf E.g0 C) (sim:Sim C) (he:Opds C a e) {t el:TypeId} {ps:Array (Nat × Operand)} {len n:Nat} {z:List IV} {qs:List (Nat × Opd)} (ho:o.op=.buildSlice t len ps)
  (ht:E.P.underlying t=some (.slice el)) (hn:Z4 E.P el=some n) (hz:zeroCells E.P el=some z)
  (hq:mapO (fun (p:Nat × Operand)=>(opd p.2).map fun x=>(p.1,x)) ps.toList=some qs) (hb:len*n<=2^24) (h0:0<n) (hzn:z.length=n)
  {rows:List (List IV)} (hx:Zi n (List.replicate len z) (qs.map fun p=>(p.1,e p.2))=some rows) (hK:K (.sl g 0 len len) (zK C.L g (.cells n rows))):Good E C a o K:=by
 obtain ⟨i,v,h1,h2,h3,h4⟩:=Zn hz
 subst hzn
 let zero:Array Value:=if len*z.length=0 then #[] else v.cells
 have hzero:len*z.length=0\/zero=v.cells:=by
  by_cases h:len*z.length=0
  ·exact .inl h
  ·exact .inr (by simp only [zero,h,if_false])
 obtain ⟨hcs,hfl⟩:=WM (C:=C) (m:=len) h3 (h4 C) zero hzero
 obtain ⟨c',h5,h6,h7,h8⟩:=WN (C:=C) (ps.toList.map fun p=>(p.1,a.eval p.2)) (qs.map fun p=>(p.1,e p.2)) (List.replicate len z) rows _ (by rw [hcs];simp) hfl hx
  (by simp [zG hq]) (fun j q hj=>by
   rw [List.getElem?_map,oms] at hj
   obtain ⟨q0,hj,rfl⟩:=hj
   obtain ⟨p,h7,h8⟩:=zM hq j q0 hj
   rw [oms] at h8
   obtain ⟨x,h10,rfl⟩:=h8
   exact ⟨(p.1,a.eval p.2),by rw [List.getElem?_map,h7];rfl,rfl,he _ _ h10⟩)
 have hlm:len<=9223372036854775807:=by
  have:=Nat.mul_le_mul_left len h0
  omega
 refine Zd (s:=Instr.buildSlice t len (ps.map fun (i,x)=>(i,a.eval x))) (v:=.slice (some ⟨C.w.heap.size,0,none⟩) len len) (w':=ZT C.w (.cells c' el)) (by unfold execOp;rw [ho]) ?_
  (YY hg wf sim h8 (YF hg (Nat.le_refl _) (Nat.le_refl _) (by rw [h6,hcs];exact Nat.le_refl _) hlm) hK)
 unfold Instr.buildSlice
 rw [Sem.run_bind]
 have hu:(underlying t).run E.P C.w=.ok (.slice el) C.w:=by simp [underlying,ht]
 rw [hu]
 simp only [Result.andThen_ok]
 rw [Sem.run_bind,zO hn]
 simp only [Result.andThen_ok]
 have hb':¬(len*z.length>2^24):=by omega
 rw [if_neg hb']
 have h9:(ps.map fun (x:Nat × Operand)=>(x.1,a.eval x.2)).toList=ps.toList.map fun p=>(p.1,a.eval p.2):=by simp
 by_cases h:len*z.length=0
 ·rw [if_pos h,Sem.run_bind]
  simp only [Sem.run_pure,Result.andThen_ok]
  have e0:zero=#[]:=if_pos h
  rw [e0] at h5
  rw [h9,h5]
  rfl
 ·rw [if_neg h,Sem.run_bind,ZI h1 h2]
  simp only [Result.andThen_ok]
  rw [Sem.run_bind]
  simp only [Sem.run_pure,Result.andThen_ok]
  have e0:zero=v.cells:=if_neg h
  rw [e0] at h5
  rw [h9,h5]
  rfl
theorem wrap64_in {n:Int} (h0:0<=n) (h:n<=9223372036854775807):IntKind.i64.wrap n=n:=by rw [IntKind.wrap_i64];omega
theorem z3D {g:Nat} (hg:Free C.L g) (wf:Wf E.g0 C) (sim:Sim C) (he:Opds C a e) {t el:TypeId} {l c:Operand} {l' c':Opd} {n by_:Nat} {z:List IV} (ho:o.op=.makeSlice t l c)
  (ht:E.P.underlying t=some (.slice el)) (hn:Z4 E.P el=some n) (hz:zeroCells E.P el=some z) (hby:vY E.P el=some by_) (hl:opd l=some l') (hc:opd c=some c') (h0:0<n) (hzn:z.length=n)
  {k k':IntKind} {x y:Int} (hlx:e l'=.int k x) (hcy:e c'=.int k' y) (hx0:0<=x) (hxy:x<=y) (hy:y<=9223372036854775807) (hroom:y*by_<=281474976710656)
  (hK:K (.sl g 0 x.toNat y.toNat) (zK C.L g (.cells z.length (List.replicate y.toNat z)))):Good E C a o K:=by
 obtain ⟨i,v,h1,h2,h3,h4⟩:=Zn hz
 subst hzn
 have hlv:=he l l' hl
 rw [hlx] at hlv
 have hcv:=he c c' hc
 rw [hcy] at hcv
 generalize hlv':a.eval l=lv at hlv
 generalize hcv':a.eval c=cv at hcv
 cases hlv;cases hcv
 let zero:Array Value:=if y.toNat*z.length=0 then #[] else v.cells
 have hzero:y.toNat*z.length=0\/zero=v.cells:=by
  by_cases h:y.toNat*z.length=0
  ·exact .inl h
  ·exact .inr (by simp only [zero,h,if_false])
 obtain ⟨hcs,hfl⟩:=WM (C:=C) (m:=y.toNat) h3 (h4 C) zero hzero
 refine Zd (s:=Instr.makeSlice t (a.eval l) (a.eval c)) (v:=.slice (some ⟨C.w.heap.size,0,none⟩) x.toNat y.toNat) (w':=ZT C.w (.cells _ el)) (by unfold execOp;rw [ho]) ?_
  (YY hg wf sim hfl (YF hg (by omega) (Nat.le_refl _) (by rw [hcs];exact Nat.le_refl _) (by omega)) hK)
 rw [hlv',hcv']
 unfold vY at hby
 rw [oms] at hby
 obtain ⟨i',h5,rfl⟩:=hby
 obtain rfl:i=i':=Option.some.inj (h1.symm.trans h5)
 unfold Instr.makeSlice
 rw [Sem.run_bind]
 have hu:(underlying t).run E.P C.w=.ok (.slice el) C.w:=by simp [underlying,ht]
 rw [hu]
 simp only [Result.andThen_ok,asInt,asIntOf]
 rw [Sem.run_bind,Sem.run_bind]
 simp only [Sem.run_pure,Result.andThen_ok]
 rw [Sem.run_bind,Sem.run_bind]
 simp only [Sem.run_pure,Result.andThen_ok]
 rw [Sem.run_bind]
 have hi:(typeInfo el).run E.P C.w=.ok i C.w:=by simp [typeInfo,h1]
 rw [hi]
 simp only [Result.andThen_ok]
 rw [wrap64_in hx0 (by omega),wrap64_in (by omega) hy]
 have hnot:¬(((decide (y<0)||decide (↑i.bytes*y>2^48))||decide (x<0)||decide (x>y))=true):=by
  have h7:(i.bytes:Int)*y<=281474976710656:=by rw [Int.mul_comm];exact hroom
  simp only [Bool.or_eq_true,decide_eq_true_eq]
  omega
 rw [if_neg hnot]
 rw [Sem.run_bind,run_askRoom]
 simp only [Result.andThen_ok]
 rw [Sem.run_bind,zO hn]
 simp only [Result.andThen_ok]
 by_cases h:y.toNat*z.length=0
 ·have e0:zero=#[]:=if_pos h
  rw [if_pos h,Sem.run_bind,e0]
  rfl
 ·have e0:zero=v.cells:=if_neg h
  rw [if_neg h,Sem.run_bind,ZI h1 h2,e0]
  rfl
end
end Go.X
end
section
namespace Go.X
open Go

section
variable {E:Env} {C:Ctx} {a:Act} {e:Opd->IV} {o:Oper} {K:IV->List Blk->Prop}
def wG (C:Ctx) (news:List Value) (sz:Nat) (rs:List (List IV)):Prop:=news.length=rs.length*sz/\
 ∀(i:Nat) (row:List IV),rs[i]?=some row->row.length=sz/\∀(j:Nat) (x:IV),row[j]?=some x->∃u,news[i*sz+j]?=some u/\VR C x u
theorem wG.one {news:List Value} {sz:Nat} {rs:List (List IV)} (h:wG C news sz rs) (hc:∀row∈rs,row.all zJ=true):∀v∈news,v.oneCell'=true:=by
 intro v hv
 obtain ⟨k,hk,rfl⟩:=List.getElem_of_mem hv
 have hsz:0<sz:=by
  rcases Nat.eq_zero_or_pos sz with h0 | h0
  ·have:=h.1;rw [h0] at this;simp at this;rw [this] at hk;simp at hk
  ·exact h0
 have hi:k / sz<rs.length:=by rw [Nat.div_lt_iff_lt_mul hsz,<-h.1];exact hk
 obtain ⟨h1,h2⟩:=h.2 (k / sz) _ (List.getElem?_eq_getElem hi)
 have hj:k%sz<(rs[k / sz]).length:=by rw [h1];exact Nat.mod_lt _ hsz
 obtain ⟨u,h3,h4⟩:=h2 (k%sz) _ (List.getElem?_eq_getElem hj)
 have hkk:k / sz*sz+k%sz=k:=by rw [Nat.mul_comm];exact Nat.div_add_mod k sz
 rw [hkk,List.getElem?_eq_getElem hk] at h3
 rw [Option.some.inj h3]
 exact z1e h4 (List.all_eq_true.1 (hc _ (List.getElem_mem hi)) _ (List.getElem_mem hj))
theorem yw {P:Program} {w:World} {sz n:Nat} {b k:Nat} {f:Nat->Value} (h:∀j,j<n*sz->w.cell? ⟨b,k+j,none⟩=some (f j)) (l c:Nat) :
  (Builtin.firstCells sz n (.slice (some ⟨b,k,none⟩) l c)).run P w=.ok ((List.range (n*sz)).map f).toArray w:=by
 show (loadCells ⟨b,k,none⟩ (n*sz)).run P w=_
 refine run_loadCells w _ _ f fun j hj=>?_
 have:(⟨b,k,none⟩:Addr).add j=⟨b,k+j,none⟩:=by unfold Addr.add;split<;>simp_all
 rw [this];exact h j hj
theorem YS {sz:Nat} {rs:List (List IV)} {f:Nat->Value} (hsz:∀(i:Nat) (row:List IV),rs[i]?=some row->row.length=sz)
  (hv:∀(i:Nat) (row:List IV),rs[i]?=some row->∀(j:Nat) (x:IV),row[j]?=some x->VR C x (f (i*sz+j))):wG C ((List.range (rs.length*sz)).map f) sz rs:=by
 refine ⟨by simp,fun i row hi=>⟨hsz i row hi,fun j x hj=>⟨f (i*sz+j),?_,hv i row hi j x hj⟩⟩⟩
 have hj':j<sz:=by rw [<-hsz i row hi];exact zu hj
 have:=jQ (zu hi) hj'
 simp [this]
theorem z8D {k sz i j:Nat} (hj:j<sz):(i*sz+j) / sz=i/\(i*sz+j)%sz=j:=by
 have h0:0<sz:=by omega
 constructor
 ·rw [Nat.mul_comm,Nat.mul_add_div h0,Nat.div_eq_of_lt hj];rfl
 ·rw [Nat.mul_comm,Nat.mul_add_mod,Nat.mod_eq_of_lt hj]
theorem Wl (sim : Sim C) {x : IV} {xv : Value} (hv : VR C x xv) {rs : List (List IV)} {sz : Nat} (h : rowsOf C.L x = some rs) (hsz : ∀ row ∈ rs, row.length = sz) :
    ∃ news, wG C news sz rs /\ (Builtin.lenOf xv = pure rs.length) /\
      ∀ w' : World, w'.heap = C.w.heap -> (Builtin.firstCells sz rs.length xv).run E.P w' = .ok news.toArray w' := by
  have hsz' : ∀ (i : Nat) (row : List IV), rs[i]? = some row -> row.length = sz := fun i row hi => hsz row (List.mem_of_getElem? hi)
  cases hv with
  | str s =>
    simp only [rowsOf, sij] at h; subst h
    have h1 : s = [] \/ sz = 1 := by
      cases s with
      | nil => exact .inl rfl
      | cons c r => right; have := hsz [.int .u8 c.toNat] (by simp); simpa using this.symm
    refine ⟨s.map fun b => .int .u8 b.toNat, ⟨?_, fun i row hi => ⟨hsz' i row hi, fun j y hj => ?_⟩⟩, ?_, fun w' _ => ?_⟩
    · rcases h1 with h1 | h1
      · subst h1; simp
      · subst h1; simp
    · rw [List.getElem?_map, oms] at hi
      obtain ⟨b, hb, rfl⟩ := hi
      have h2 : sz = 1 := h1.resolve_left (fun h => by subst h; simp at hb)
      subst h2
      cases j with
      | zero => simp at hj; subst hj; exact ⟨_, by simp [hb], .int _ _⟩
      | succ j => simp at hj
    · show pure (ByteArray.size _) = _
      simp [ByteArray.size]
    · show (pure ((ByteArray.extract _ 0 _).data.map _) : Sem (Array Value)).run E.P w' = _
      rw [Sem.run_pure]
      congr 1
      apply Array.ext'
      simp [ByteArray.extract, ByteArray.copySlice]
  | isl rows av cap' sz' vals hcap hsz2 hcl ha hvv =>
    simp only [rowsOf, sij] at h; subst h
    rcases ha with h0 | ⟨b, k, rfl, hb, hn, hc⟩
    · subst h0
      refine ⟨[], ⟨by simp, fun i row hi => by simp at hi⟩, rfl, fun w' _ => ?_⟩
      cases av with
      | none => rfl
      | some av => show (loadCells av (0 * sz)).run E.P w' = _; rw [Nat.zero_mul]; rfl
    · by_cases hr : rows = []
      · subst hr
        refine ⟨[], ⟨by simp, fun i row hi => by simp at hi⟩, rfl, fun w' _ => ?_⟩
        show (loadCells _ (0 * sz)).run E.P w' = _; rw [Nat.zero_mul]; rfl
      · have hss : sz' = sz := by
          obtain ⟨row, r, rfl⟩ := List.exists_cons_of_ne_nil hr
          rw [<- hsz2 0 row rfl, <- hsz' 0 row rfl]
        subst hss
        refine ⟨_, YS (f := fun k => vals (k / sz') (k % sz')) hsz' (fun i row hi j x hj => ?_), rfl, fun w' hw => yw (fun k hk => ?_) _ _⟩
        · have hj' : j < sz' := by rw [<- hsz' i row hi]; exact zu hj
          rw [(z8D (k := 0) hj').1, (z8D (k := 0) hj').2]; exact hvv i row hi j x hj
        · have h0 : 0 < sz' := by rcases Nat.eq_zero_or_pos sz' with h | h; · rw [h] at hk; simp at hk
                                  · exact h
          have hi : k / sz' < rows.length := by rw [Nat.div_lt_iff_lt_mul h0]; exact hk
          have hrow := List.getElem?_eq_getElem hi
          have hj : k % sz' < (rows[k / sz']).length := by rw [hsz' _ _ hrow]; exact Nat.mod_lt _ h0
          have := hc _ _ hrow _ _ (List.getElem?_eq_getElem hj)
          rename_i kk
          have hkk : k / sz' * sz' + k % sz' = k := by rw [Nat.mul_comm]; exact Nat.div_add_mod k sz'
          rw [Nat.add_assoc, hkk] at this
          simp only [World.cell?, hw] at this ⊢
          exact this
  | sl s off len cap av cap' hs hl hc ha =>
    simp only [rowsOf] at h
    split at h
    · rename_i sz0 rows hL
      split at h
      · rename_i hle
        simp only [sij] at h; subst h
        have hlen : ((rows.drop off).take len).length = len := by rw [List.length_take, List.length_drop]; omega
        obtain ⟨h1, c, ty, fr, h2, _, h3, h4⟩ := sim s _ hL
        by_cases hl0 : len = 0
        · subst hl0
          refine ⟨[], ⟨by simp, fun i row hi => by simp at hi⟩, by rw [hlen]; rfl, fun w' _ => ?_⟩
          rw [hlen]
          cases av with
          | none => rfl
          | some av => show (loadCells av (0 * sz)).run E.P w' = _; rw [Nat.zero_mul]; rfl
        · have hsub : ∀ (i : Nat) (row : List IV), ((rows.drop off).take len)[i]? = some row -> rows[off + i]? = some row := fun i row hi => by
            rw [List.getElem?_take] at hi
            split at hi
            · rwa [List.getElem?_drop] at hi
            · cases hi
          have hss : sz0 = sz := by
            obtain ⟨row, hrow⟩ : ∃ row, ((rows.drop off).take len)[0]? = some row := ⟨_, List.getElem?_eq_getElem (by rw [hlen]; omega)⟩
            rw [<- (h4 _ row (hsub 0 row hrow)).1, hsz' 0 row hrow]
          subst hss
          obtain ⟨rfl, _⟩ := ha.resolve_left (by omega)
          refine ⟨_, YS (f := fun k => c.getD ((C.φ s).base + off * sz0 + k) undef) hsz' (fun i row hi j x hj => ?_), by rw [hlen]; rfl, fun w' hw => yw (fun k hk => ?_) _ _⟩
          · obtain ⟨u, h5, h6⟩ := (h4 _ row (hsub i row hi)).2 j x hj
            rw [show (C.φ s).base + off * sz0 + (i * sz0 + j) = (C.φ s).base + (off + i) * sz0 + j by rw [Nat.add_mul]; omega, YX h5]
            exact h6
          · rw [hlen] at hk
            have h5 : (off + len) * sz0 <= rows.length * sz0 := Nat.mul_le_mul_right _ hle
            rw [Nat.add_mul] at h5
            have hlt : (C.φ s).base + off * sz0 + k < c.size := by omega
            rw [h1]
            simp only [World.cell?, hw, h2]
            simp [hlt]
      · cases h
    · rename_i ty0 sz0 rows hL
      split at h
      · rename_i hle
        simp only [sij] at h; subst h
        have hlen : ((rows.drop off).take len).length = len := by rw [List.length_take, List.length_drop]; omega
        obtain ⟨h1, c, ty, fr, h2, _, h3, h4⟩ := (sim s _ hL).1
        by_cases hl0 : len = 0
        · subst hl0
          refine ⟨[], ⟨by simp, fun i row hi => by simp at hi⟩, by rw [hlen]; rfl, fun w' _ => ?_⟩
          rw [hlen]
          cases av with
          | none => rfl
          | some av => show (loadCells av (0 * sz)).run E.P w' = _; rw [Nat.zero_mul]; rfl
        · have hsub : ∀ (i : Nat) (row : List IV), ((rows.drop off).take len)[i]? = some row -> rows[off + i]? = some row := fun i row hi => by
            rw [List.getElem?_take] at hi
            split at hi
            · rwa [List.getElem?_drop] at hi
            · cases hi
          have hss : sz0 = sz := by
            obtain ⟨row, hrow⟩ : ∃ row, ((rows.drop off).take len)[0]? = some row := ⟨_, List.getElem?_eq_getElem (by rw [hlen]; omega)⟩
            rw [<- (h4 _ row (hsub 0 row hrow)).1, hsz' 0 row hrow]
          subst hss
          obtain ⟨rfl, _⟩ := ha.resolve_left (by omega)
          refine ⟨_, YS (f := fun k => c.getD ((C.φ s).base + off * sz0 + k) undef) hsz' (fun i row hi j x hj => ?_), by rw [hlen]; rfl, fun w' hw => yw (fun k hk => ?_) _ _⟩
          · obtain ⟨u, h5, h6⟩ := (h4 _ row (hsub i row hi)).2 j x hj
            rw [show (C.φ s).base + off * sz0 + (i * sz0 + j) = (C.φ s).base + (off + i) * sz0 + j by rw [Nat.add_mul]; omega, YX h5]
            exact h6
          · rw [hlen] at hk
            have h5 : (off + len) * sz0 <= rows.length * sz0 := Nat.mul_le_mul_right _ hle
            rw [Nat.add_mul] at h5
            have hlt : (C.φ s).base + off * sz0 + k < c.size := by omega
            rw [h1]
            simp only [World.cell?, hw, h2]
            simp [hlt]
      · cases h
    · cases h
  | esl av =>
    simp only [rowsOf, sij] at h; subst h
    refine ⟨[], ⟨by simp, fun i row hi => by simp at hi⟩, rfl, fun w' _ => ?_⟩
    cases av with
    | none => rfl
    | some av => show (loadCells av (0 * sz)).run E.P w' = _; rw [Nat.zero_mul]; rfl
  | nsl =>
    simp only [rowsOf, sij] at h; subst h
    exact ⟨[], ⟨by simp, fun i row hi => by simp at hi⟩, rfl, fun w' _ => rfl⟩
  | _ => cases h

end
end Go.X
end
section
namespace Go.X
open Go

theorem z3N {C:Ctx} {c:Array Value} {base sz:Nat} {rows rs:List (List IV)} {news:List Value} (hf:Flat C c base sz rows) (hn:wG C news sz rs) {k:Nat} (hk:k+rs.length<=rows.length) :
  base+k*sz+news.length<=c.size/\Flat C (seg c (base+k*sz) news) base sz (splice rows k rs):=by
 have hle:base+k*sz+news.length<=c.size:=by
  have h1:=hf.1
  have h2:(k+rs.length)*sz<=rows.length*sz:=Nat.mul_le_mul_right sz hk
  rw [Nat.add_mul] at h2
  rw [hn.1];omega
 refine ⟨hle,by rw [Z9 hle,Wy hk];exact hf.1,fun i row hi=>?_⟩
 rw [jv (by omega)] at hi
 split at hi
 ·rename_i h1
  obtain ⟨h2,h3⟩:=hn.2 _ row hi
  refine ⟨h2,fun j x hj=>?_⟩
  obtain ⟨u,h4,h5⟩:=h3 j x hj
  refine ⟨u,?_,h5⟩
  have hj':j<sz:=by rw [<-h2];exact zu hj
  have hlt:=jQ (zu hi) hj'
  have e1:i*sz=k*sz+(i - k)*sz:=by rw [<-Nat.add_mul];congr 1;omega
  rw [Yw hle,if_pos (by rw [hn.1];omega),<-h4]
  congr 1
  omega
 ·rename_i h1
  obtain ⟨h2,h3⟩:=hf.2 i row hi
  refine ⟨h2,fun j x hj=>?_⟩
  obtain ⟨u,h4,h5⟩:=h3 j x hj
  refine ⟨u,?_,h5⟩
  have hj':j<sz:=by rw [<-h2];exact zu hj
  rw [Yw hle,if_neg,h4]
  rintro ⟨h6,h7⟩
  by_cases h8:i<k
  ·have:=jQ h8 hj';omega
  ·have h9:(k+rs.length)*sz<=i*sz:=Nat.mul_le_mul_right sz (by omega)
   rw [Nat.add_mul] at h9
   rw [hn.1] at h7
   omega
theorem z2v {C:Ctx} {c:Array Value} {base sz:Nat} {rows rs:List (List IV)} {news:List Value} (hf:Flat C c base sz rows) (hn:wG C news sz rs)
  (hk:base+(rows.length+rs.length)*sz<=c.size):Flat C (seg c (base+rows.length*sz) news) base sz (rows++rs):=by
 have hle:base+rows.length*sz+news.length<=c.size:=by rw [Nat.add_mul] at hk;rw [hn.1];omega
 refine ⟨by rw [Z9 hle,lla];exact hk,fun i row hi=>?_⟩
 rcases Nat.lt_or_ge i rows.length with h1 | h1
 ·rw [List.getElem?_append_left h1] at hi
  obtain ⟨h2,h3⟩:=hf.2 i row hi
  refine ⟨h2,fun j x hj=>?_⟩
  obtain ⟨u,h4,h5⟩:=h3 j x hj
  refine ⟨u,?_,h5⟩
  have hj':j<sz:=by rw [<-h2];exact zu hj
  have:=jQ h1 hj'
  rw [Yw hle,if_neg (by omega),h4]
 ·rw [List.getElem?_append_right h1] at hi
  obtain ⟨h2,h3⟩:=hn.2 _ row hi
  refine ⟨h2,fun j x hj=>?_⟩
  obtain ⟨u,h4,h5⟩:=h3 j x hj
  refine ⟨u,?_,h5⟩
  have hj':j<sz:=by rw [<-h2];exact zu hj
  have hlt:=jQ (zu hi) hj'
  have e1:i*sz=rows.length*sz+(i - rows.length)*sz:=by rw [<-Nat.add_mul];congr 1;omega
  rw [Yw hle,if_pos (by rw [hn.1];omega),<-h4]
  congr 1
  omega
def jq (C:Ctx) (s:Nat):Ctx:=⟨C.w,C.φ,C.L.set s .dead,C.X⟩
theorem z08 {C:Ctx} {s b:Nat} (h:(jq C s).mine b):C.mine b/\∃t k,t≠s/\C.L[t]?=some k/\k.alive=true/\(C.φ t).blk=b:=by
 obtain ⟨t,l,hl,ha,rfl⟩:=h
 rcases zY hl with ⟨h1,h2⟩ | ⟨_,h2,_⟩
 ·exact ⟨⟨t,l,h2,ha,rfl⟩,t,l,h1,h2,ha,rfl⟩
 ·subst h2;cases ha
theorem WB (C:Ctx) (s:Nat):Ext C (jq C s) where
 size:=Nat.le_refl _
 frame:=fun _ _ _=>rfl
 sub:=fun b h=>.inl (z08 h).1
 slot:=fun _ _=>rfl
 bo:=fun t ht=>by
  obtain ⟨l,h1,h2⟩:=ht
  by_cases hts:t=s
  ·subst hts;exact ⟨.dead,List.getElem?_set_self (zf h1),rfl⟩
  ·exact ⟨l,(List.getElem?_set_ne (Ne.symm hts)).trans h1,h2⟩
 len:=by simp [jq]
 cap:=fun b c e fr h=>⟨c,e,fr,h,rfl⟩
 ex:=rfl
 os:=rfl
 tape:=rfl
 output:=rfl
theorem Jv {g0:Nat} {C:Ctx} {s:Nat} (wf:Wf g0 C):Wf g0 (jq C s) where
 inj:=fun t u kt ku ht hu at_ au heq=>by
  rcases zY ht with ⟨_,h1⟩ | ⟨_,h1,_⟩
  ·rcases zY hu with ⟨_,h2⟩ | ⟨_,h2,_⟩
   ·exact wf.inj t u kt ku h1 h2 at_ au heq
   ·subst h2;cases au
  ·subst h1;cases at_
 lo:=fun b h=>wf.lo b (z08 h).1
 apart:=fun b hx h=>wf.apart b hx (z08 h).1
 exlo:=wf.exlo
 g:=wf.g
theorem Ja {C:Ctx} {s:Nat} (sim:Sim C):Sim (jq C s):=by
 intro t l hl
 rcases zY hl with ⟨_,h2⟩ | ⟨_,h2,_⟩
 ·exact (sim t l h2).mono (WB C s) h2 rfl
 ·subst h2;trivial
def yA (C:Ctx):Ctx:=⟨C.w.drew,C.φ,C.L,C.X⟩
theorem Z8 (C:Ctx):Ext C (yA C):=⟨Nat.le_refl _,fun _ _ _=>rfl,fun _ h=>.inl h,fun _ _=>rfl,fun _ h=>h,Nat.le_refl _,fun b c e fr h=>⟨c,e,fr,h,rfl⟩,rfl,rfl,rfl,rfl⟩
theorem y8 {g0:Nat} {C:Ctx} (wf:Wf g0 C):Wf g0 (yA C):=⟨wf.inj,wf.lo,wf.apart,wf.exlo,wf.g⟩
theorem Zv {C:Ctx} (sim:Sim C):Sim (yA C):=fun s k hk=>(sim s k hk).mono (Z8 C) hk rfl
theorem Post.of_ext {E:Env} {C C1:Ctx} {K:IV->List Blk->Prop} {v:Value} {w':World} (h:Ext C C1) (hx:C1.X=C.X) (hp:Post E C1 K v w'):Post E C K v w':=by
 obtain ⟨r,L',φ',h1,h2,h3,h4,h5⟩:=hp
 rw [hx] at h2 h3 h4 h5
 exact ⟨r,L',φ',h1,h2,h3,h.trans h4,h5⟩
def moveφ (C:Ctx) (t g base sz:Nat):Nat->Loc:=fun s=>if s=g then ⟨(C.φ t).blk,base,sz⟩ else C.φ s
def moveC (C:Ctx) (t g base sz:Nat) (o:Obj) (k:Blk):Ctx:=⟨setW C.w (C.φ t).blk o,moveφ C t g base sz,zK (C.L.set t .dead) g k,C.X⟩
theorem Jo {C:Ctx} {t g s:Nat} {k k0 l:Blk} (hg:Free C.L g) (hs:C.L[t]?=some k0) (ha0:k0.alive=true) (h:(zK (C.L.set t .dead) g k)[s]?=some l) (ha:l.alive=true) :
  (s≠g/\s≠t/\C.L[s]?=some l)\/(s=g/\l=k):=by
 have hb:k0.born=true:=by cases k0<;>first | rfl | cases ha0
 rcases Yj (YQ hg hs hb) h with ⟨h1,h2⟩ | ⟨h1,h2⟩
 ·rcases zY h2 with ⟨h3,h4⟩ | ⟨_,h4,_⟩
  ·exact .inl ⟨h1,h3,h4⟩
  ·subst h4;cases ha
 ·exact .inr ⟨h1,h2⟩
section
variable {C:Ctx} {t g base sz:Nat} {k k0:Blk} {c c':Array Value} {ty:TypeId} {fr0:Nat × Nat} (hg:Free C.L g) (hs:C.L[t]?=some k0) (ha:k0.alive=true) (hc:C.w.heap[(C.φ t).blk]?=some (.cells c ty fr0)) (hsz:c'.size=c.size)
include hg hs ha hc hsz
theorem z0g {o:Obj} {b:Nat} (h:(moveC C t g base sz o k).mine b):C.mine b:=by
 obtain ⟨s,l,hl,hla,rfl⟩:=h
 rcases Jo hg hs ha hl hla with ⟨h1,_,h3⟩ | ⟨h1,_⟩
 ·exact ⟨s,l,h3,hla,by simp [moveC,moveφ,h1]⟩
 ·exact ⟨t,k0,hs,ha,by simp [moveC,moveφ,h1]⟩
theorem vS:Ext C (moveC C t g base sz (.cells c' ty fr0) k) where
 size:=by simp [moveC,setW]
 frame:=fun b _ hm=>Ze (fun h=>hm ⟨t,k0,hs,ha,h.symm⟩)
 sub:=fun b h=>.inl (z0g hg hs ha hc hsz h)
 slot:=fun s h=>by simp [moveC,moveφ,jl hg h]
 bo:=fun s h=>by
  have hne:=jl hg h
  obtain ⟨l,h1,h2⟩:=h
  by_cases hst:s=t
  ·subst hst;exact ⟨.dead,z1r hne (List.getElem?_set_self (zf h1)),rfl⟩
  ·exact ⟨l,z1r hne ((List.getElem?_set_ne (Ne.symm hst)).trans h1),h2⟩
 len:=by
  have:=z2F (L:=C.L.set t .dead) (g:=g) (k:=k)
  rw [lls] at this
  exact this
 cap:=fun b d e' fr h=>by
  by_cases hb:b=(C.φ t).blk
  ·subst hb
   rw [hc] at h
   obtain ⟨rfl,rfl,rfl⟩:=by simpa using h
   exact ⟨c',ty,fr0,zD (Array.getElem?_eq_some_iff.1 hc).1,hsz⟩
  ·exact ⟨d,e',fr,(Ze hb).trans h,rfl⟩
 ex:=rfl
 os:=rfl
 tape:=rfl
 output:=rfl
theorem z7E {g0:Nat} {o:Obj} (wf:Wf g0 C):Wf g0 (moveC C t g base sz o k) where
 inj:=fun s u ks ku hs' hu as au heq=>by
  rcases Jo hg hs ha hs' as with ⟨h1,h2,h3⟩ | ⟨h1,_⟩<;>rcases Jo hg hs ha hu au with ⟨h4,h5,h6⟩ | ⟨h4,_⟩
  ·simp only [moveC,moveφ,h1,h4,if_false] at heq
   exact wf.inj s u ks ku h3 h6 as au heq
  ·subst h4
   simp only [moveC,moveφ,h1,if_false,if_true] at heq
   exact absurd (wf.inj s t ks k0 h3 hs as ha heq) h2
  ·subst h1
   simp only [moveC,moveφ,h4,if_false,if_true] at heq
   exact absurd (wf.inj u t ku k0 h6 hs au ha heq.symm) h5
  ·omega
 lo:=fun b h=>wf.lo b (z0g hg hs ha hc hsz h)
 apart:=fun b hx h=>wf.apart b hx (z0g hg hs ha hc hsz h)
 exlo:=fun b hx=>by have:=wf.exlo b hx;simpa [moveC,setW] using this
 g:=by have:=wf.g;simpa [moveC,setW] using this
theorem z5Z {g0:Nat} (wf:Wf g0 C) (sim:Sim C) (hk:wH (moveC C t g base sz (.cells c' ty fr0) k) g k):Sim (moveC C t g base sz (.cells c' ty fr0) k):=by
 intro s l hl
 by_cases hla:l.alive=true
 ·rcases Jo hg hs ha hl hla with ⟨h1,h2,h3⟩ | ⟨h1,h2⟩
  ·exact (sim s l h3).mono (vS hg hs ha hc hsz) h3 (Ze fun h=>h2 (wf.inj s t l k0 h3 hs hla ha h))
  ·subst h1;subst h2;exact hk
 ·cases l<;>first | trivial | (exfalso;exact hla rfl)
end

section
variable {E:Env} {C:Ctx} {a:Act} {e:Opd->IV} {o:Oper} {K:IV->List Blk->Prop}
theorem z0D {news:List Value} {sz:Nat} {rs:List (List IV)} (h:wG C news sz rs) (rest:Array Value):Flat C (news.toArray++rest) 0 sz rs:=by
 refine ⟨by simp [h.1],fun i row hi=>⟨(h.2 i row hi).1,fun j x hj=>?_⟩⟩
 obtain ⟨u,h1,h2⟩:=(h.2 i row hi).2 j x hj
 refine ⟨u,?_,h2⟩
 rw [Nat.zero_add,Array.getElem?_append_left (by simpa using zu h1)]
 simpa using h1
theorem wG.mono {C':Ctx} (h:Ext C C') {news:List Value} {sz:Nat} {rs:List (List IV)} (hf:wG C news sz rs):wG C' news sz rs:=
 ⟨hf.1,fun i row hi=>⟨(hf.2 i row hi).1,fun j x hj=>let ⟨u,h1,h2⟩:=(hf.2 i row hi).2 j x hj;⟨u,h1,h2.mono h⟩⟩⟩
theorem run_append_grow' {P:Program} {t1 t2 ty el:TypeId} {i:TypeInfo} {z:Value} {w:World} (ht:P.underlying t1=some (.slice el)) (ht2:∃d,P.underlying t2=some d/\∀k,d≠.int k)
  (hi:P.info? el=some i) (hz:i.zero=some z) {base:Option Addr} {sLen sCap n:Nat} {xv:Value} {olds news:List Value} (hl:Builtin.lenOf xv=pure n)
  (hold:(Builtin.firstCells i.size sLen (.slice base sLen sCap)).run P w.drew=.ok olds.toArray w.drew) (hnew:(Builtin.firstCells i.size n xv).run P w.drew=.ok news.toArray w.drew)
  (hg:sCap<sLen+n) (hb0:0<i.bytes) (hb:(sLen+n)*i.bytes<=70368744177664) :
  ∃cap,(sLen+n<=cap/\cap<=9223372036854775807)/\(Builtin.append_ #[t1,t2] ty #[.slice base sLen sCap,xv]).run P w =
   .ok (.slice (some ⟨w.heap.size,0,none⟩) (sLen+n) cap) (ZT w.drew (.cells ((olds++news).toArray++Builtin.zeroCells z.cells (cap - (sLen+n))) el)):=by
 have h1:¬(sLen+n<=sCap):=by omega
 have h2:(sLen+n)*1<=(sLen+n)*i.bytes:=Nat.mul_le_mul_left _ hb0
 have h3:¬(9223372036854775807<((sLen:Int)+(n:Int))):=by omega
 have h4:¬(281474976710656<Builtin.nextslicecap (sLen+n) sCap*i.bytes):=by
  have:=growslice_fits (need:=sLen+n) (old:=sCap) (bytes:=i.bytes) hg (by omega)
  omega
 obtain ⟨d,hd,hd2⟩:=ht2
 refine ⟨grownCap w (sLen+n) sCap el,⟨grownCap_ge w _ _ _,grownCap_le_maxLen w _ _ _ (by show _<=2^63 - 1;omega)⟩,?_⟩
 have hu2:(underlying t2).run P w=.ok d w:=by simp [underlying,hd]
 simp only [Builtin.append_]
 simp [run_underlying ht,sizeOf,typeInfo,zeroValue,hi,hz,hl,h1,h3,h4,Question.forced,newRow,grownCap,hu2]
 rw [hold]
 simp only [Result.andThen_ok]
 rw [hnew]
 simp only [Result.andThen_ok]
 have e:olds.toArray++news.toArray=(olds++news).toArray:=by simp
 rw [<-Array.append_assoc,e]
 rfl
theorem run_append_room' {P:Program} {t1 t2 ty el:TypeId} {i:TypeInfo} {w:World} (ht:P.underlying t1=some (.slice el)) (ht2:∃d,P.underlying t2=some d/\∀k,d≠.int k)
  (hi:P.info? el=some i) {b k sLen sCap n:Nat} {xv:Value} {news:List Value} (hl:Builtin.lenOf xv=pure n) (hnew:(Builtin.firstCells i.size n xv).run P w=.ok news.toArray w)
  (hg:sLen+n<=sCap) {c:Array Value} {e:TypeId} {fr0:Nat × Nat} (hc:w.heap[b]?=some (.cells c e fr0)) {tc:Bool} (hfr0:frOk tc c.size fr0) (hle:k+sLen*i.size+news.length<=c.size) (hone:∀v∈news,v.oneCell'=true) :
  (Builtin.append_ #[t1,t2] ty #[.slice (some ⟨b,k,none⟩) sLen sCap,xv]).run P w=.ok (.slice (some ⟨b,k,none⟩) (sLen+n) sCap) (setW w b (.cells (seg c (k+sLen*i.size) news) e fr0)):=by
 obtain ⟨d,hd,hd2⟩:=ht2
 have hu2:(underlying t2).run P w=.ok d w:=by simp [underlying,hd]
 have hst:=ZP P b (k+sLen*i.size) e fr0 news 0 c w hc hfr0 (by simpa using hle) hone
 simp only [Nat.add_zero] at hst
 have hadd:(⟨b,k,none⟩:Addr).add (sLen*i.size)=⟨b,k+sLen*i.size,none⟩:=by
  unfold Addr.add;split
  ·rename_i h0;rw [h0];rfl
  ·rfl
 simp only [Builtin.append_]
 simp [run_underlying ht,sizeOf,typeInfo,hi,hl,hg,hu2,hnew,hadd,hst]
 rw [<-List.append_assoc]
 exact JI hc
theorem ZK {P:Program} {t1 t2 ty el:TypeId} {i:TypeInfo} {w:World} (ht:P.underlying t1=some (.slice el)) (ht2:∃d,P.underlying t2=some d/\∀k,d≠.int k)
  (hi:P.info? el=some i) {base:Option Addr} {cap:Nat} {xv:Value} (hl:Builtin.lenOf xv=pure 0) (hnew:(Builtin.firstCells i.size 0 xv).run P w=.ok #[] w) :
  (Builtin.append_ #[t1,t2] ty #[.slice base 0 cap,xv]).run P w=.ok (.slice base 0 cap) w:=by
 obtain ⟨d,hd,hd2⟩:=ht2
 have hu2:(underlying t2).run P w=.ok d w:=by simp [underlying,hd]
 simp only [Builtin.append_]
 cases base<;>simp [run_underlying ht,sizeOf,typeInfo,hi,hl,hu2,hnew,storeCells]
theorem yT {P:Program} {c:Call} {b:Builtin} (ho:o.op=.call c) (hb:c.callee=.builtin b) (w:World) :
  (execOp a.eval o).run P w=(builtin b c.argTypes o.type (c.args.map fun | .const _=>true | _=>false) (c.args.map a.eval)).run P w:=by
 unfold execOp
 rw [ho]
 simp only [resolve,hb]
 rfl
theorem ve {g:Nat} (hg:Free C.L g) (wf:Wf E.g0 C) (sim:Sim C) (he:Opds C a e) {c:Call} {s x:Operand} {s' x':Opd} {el:TypeId} {n m:Nat} {z:List IV} (ho:o.op=.call c) (hcb:c.callee=.builtin .append)
  (hargs:c.args.toList=[s,x]) (h1:(c.argTypes[0]?).bind E.P.underlying=some (.slice el)) (h2:∃d,(c.argTypes[1]?).bind E.P.underlying=some d/\∀k,d≠.int k)
  (hs:opd s=some s') (hx:opd x=some x') (hn:Z4 E.P el=some n) (hm:vY E.P el=some m) (hz:zeroCells E.P el=some z) (hm0:0<m) (hn0:0<n) (hzn:z.length=n)
  (h:ZQ n m (e s') (e x') g (fun L k=>zK L g k) C.L K):Good E C a o K:=by
 obtain ⟨i,zv,hi,hzv,hz3,hz4⟩:=Zn hz
 have hisz:i.size=n:=by unfold Z4 at hn;rw [hi] at hn;exact Option.some.inj hn
 have hiby:i.bytes=m:=by unfold vY at hm;rw [hi] at hm;exact Option.some.inj hm
 rw [obs] at h1
 obtain ⟨t1,ht1,hu1⟩:=h1
 obtain ⟨d,h2,hd⟩:=h2
 rw [obs] at h2
 obtain ⟨t2,ht2,hu2⟩:=h2
 have hu2':∃d,E.P.underlying t2=some d/\∀k,d≠.int k:=⟨d,hu2,hd⟩
 have hsv:=he s s' hs
 have hxv:=he x x' hx
 unfold ZQ at h
 split at h
 ·exact h.elim
 ·rename_i rs hrs
  obtain ⟨hrows,h⟩:=h
  obtain ⟨news,hfl,hlen,hfirst⟩:=Wl (E:=E) sim hxv hrs (fun row hr=>(hrows row hr).1)
  have hone:=hfl.one (fun row hr=>(hrows row hr).2)
  -- the call
  have hrun:∀{v:Value} {w':World},(Builtin.append_ #[t1,t2] o.type #[a.eval s,a.eval x]).run E.P C.w=.ok v w'->Post E C K v w'->Good E C a o K:=by
   intro v w' hr hp
   refine .inl ⟨v,w',?_,hp⟩
   rw [yT ho hcb]
   have e1:c.args.map a.eval=#[a.eval s,a.eval x]:=by
    apply Array.ext';simp [hargs]
   have e2:(Builtin.append_ c.argTypes o.type #[a.eval s,a.eval x])=(Builtin.append_ #[t1,t2] o.type #[a.eval s,a.eval x]):=by
    unfold Builtin.append_
    rw [ht1,ht2]
    rfl
   rw [e1]
   show (do pure (Next.value (<-Builtin.append_ c.argTypes o.type #[a.eval s,a.eval x])):Sem Next).run E.P C.w=_
   rw [e2,Sem.run_bind,hr]
   rfl
  have hgrow:∀{base:Option Addr} {sCap:Nat} {t:Nat} {olds:List Value} {C1:Ctx},a.eval s=.slice base t sCap->Ext C C1->C1.X=C.X->C1.w=C.w.drew->Wf E.g0 C1->Sim C1->
    (Builtin.firstCells n t (.slice base t sCap)).run E.P C.w.drew=.ok olds.toArray C.w.drew->sCap<t+rs.length->(t+rs.length)*m<=70368744177664->
    ∀{rows':List (List IV)},wG C olds n rows'->rows'.length=t->Free C1.L g->K (.sl g 0 (t+rs.length) (t+rs.length)) (zK C1.L g (.cells n (rows'++rs)))->Good E C a o K:=by
   intro base sCap t olds C1 hsv' hext hX hw wf1 sim1 hold hgr hb rows' hfo hlr hlL hK
   obtain ⟨cap,⟨hcap,hcapm⟩,hr⟩:=run_append_grow' (P:=E.P) (t1:=t1) (t2:=t2) (ty:=o.type) (w:=C.w) hu1 hu2' hi hzv (base:=base) (sLen:=t) (sCap:=sCap) hlen (by rw [hisz];exact hold)
    (by rw [hisz];exact hfirst _ rfl) hgr (by rw [hiby];exact hm0) (by rw [hiby];exact hb)
   rw [<-hsv'] at hr
   refine hrun hr (Post.of_ext hext hX ?_)
   have hcat:wG C (olds++news) n (rows'++rs):=by
    refine ⟨by simp [hfo.1,hfl.1,Nat.add_mul],fun i row hi'=>?_⟩
    rcases Nat.lt_or_ge i rows'.length with h5 | h5
    ·rw [List.getElem?_append_left h5] at hi'
     obtain ⟨h6,h7⟩:=hfo.2 i row hi'
     refine ⟨h6,fun j y hj=>?_⟩
     obtain ⟨u,h8,h9⟩:=h7 j y hj
     exact ⟨u,by rw [List.getElem?_append_left (zu h8)];exact h8,h9⟩
    ·rw [List.getElem?_append_right h5] at hi'
     obtain ⟨h6,h7⟩:=hfl.2 _ row hi'
     refine ⟨h6,fun j y hj=>?_⟩
     obtain ⟨u,h8,h9⟩:=h7 j y hj
     refine ⟨u,?_,h9⟩
     have e1:i*n=rows'.length*n+(i - rows'.length)*n:=by rw [<-Nat.add_mul];congr 1;omega
     rw [List.getElem?_append_right (by rw [hfo.1];omega),<-h8]
     congr 1
     rw [hfo.1];omega
   have hflat:=z0D (hcat.mono hext) (Builtin.zeroCells zv.cells (cap - (t+rs.length)))
   have hsz:((olds++news).toArray++Builtin.zeroCells zv.cells (cap - (t+rs.length))).size=cap*n:=by
    have e1:zv.cells.size=n:=by rw [<-hz3,hzn]
    have e2:cap*n=(t+rs.length)*n+(cap - (t+rs.length))*n:=by rw [<-Nat.add_mul];congr 1;omega
    rw [Array.size_append,size_zeroCells,e1,e2]
    simp [hfo.1,hfl.1,hlr,Nat.add_mul]
   have hnew:=YY (E:=E) (C:=C1) (K:=K) (c:=(olds++news).toArray++Builtin.zeroCells zv.cells (cap - (t+rs.length))) (e:=el) hlL wf1 sim1 hflat
    (YF (C:=C1) hlL (e:=el) (k:=.cells n (rows'++rs)) (sz:=n) (Nat.le_refl _) hcap (by rw [hsz];exact Nat.le_refl _) hcapm) hK
   rw [hw] at hnew
   exact hnew
  -- nothing at hand
  have hnil:∀{base:Option Addr},a.eval s=.slice base 0 0->(rs=[]->VR C (e s') (.slice base 0 0)->K (e s') C.L)->
    (rs≠[]->rs.length*m<=70368744177664/\K (.sl g 0 rs.length rs.length) (zK C.L g (.cells n rs)))->Good E C a o K:=by
   intro base hb h5 h6
   by_cases hr:rs=[]
   ·subst hr
    have h7:news=[]:=List.eq_nil_of_length_eq_zero (by rw [hfl.1];simp)
    subst h7
    have hr':=ZK (P:=E.P) (t1:=t1) (t2:=t2) (ty:=o.type) (w:=C.w) hu1 hu2' hi (base:=base) (cap:=0) hlen (by rw [hisz];exact hfirst _ rfl)
    rw [<-hb] at hr'
    rw [hb] at hsv
    refine hrun hr' (ZF wf sim ?_ (h5 rfl hsv))
    rw [hb];exact hsv
   ·obtain ⟨h7,h8⟩:=h6 hr
    have h9:0<rs.length:=List.length_pos_iff.2 hr
    refine hgrow (C1:=yA C) (olds:=[]) (rows':=[]) hb (Z8 C) rfl rfl (y8 wf) (Zv sim) ?_ (by omega) (by rw [Nat.zero_add];exact h7) ⟨by simp,fun i row hi=>by simp at hi⟩ rfl hg (by simpa [yA] using h8)
    cases base with
    | none=>rfl
    | some b=>show (loadCells b (0*n)).run E.P _=_;rw [Nat.zero_mul];rfl
  split at h
  ·rename_i heq
   rw [heq] at hsv
   generalize hb:a.eval s=sv at hsv
   cases hsv
   exact hnil hb (fun h5 _=>h.1 h5) h.2
  ·rename_i heq
   rw [heq] at hsv
   generalize hb:a.eval s=sv at hsv
   cases hsv
   exact hnil hb (fun h5 _=>h.1 h5) h.2
  ·rename_i t off len cap heq
   rw [heq] at hsv
   generalize hb:a.eval s=sv at hsv
   cases hsv with
   | sl _ _ _ _ av cap' hts hlc hcc ha hmx=>
   split at h
   ·rename_i sz' rows hL
    obtain ⟨rfl,hroom,h⟩:=h
    obtain ⟨hφ,c0,ty,fr0,hc0,hfr0,hflat⟩:=sim t _ hL
    have hlr:((rows.drop off).take len).length=len:=by rw [List.length_take,List.length_drop];omega
    by_cases hcap0:cap'=0
    ·subst hcap0
     have hc0':cap=0:=by omega
     have hl0:len=0:=by omega
     subst hc0' hl0
     split at h
     ·rename_i hle
      have hr:rs=[]:=List.eq_nil_of_length_eq_zero (by omega)
      subst hr
      have h7:news=[]:=List.eq_nil_of_length_eq_zero (by rw [hfl.1];simp)
      subst h7
      have hr':=ZK (P:=E.P) (t1:=t1) (t2:=t2) (ty:=o.type) (w:=C.w) hu1 hu2' hi (base:=av) (cap:=0) hlen (by rw [hisz];exact hfirst _ rfl)
      rw [<-hb] at hr'
      refine hrun hr' (ZF wf sim (r:=.sl t off 0 0) ?_ ?_)
      ·rw [hb];exact .sl t off 0 0 av 0 hts (Nat.le_refl _) (Nat.le_refl _) (.inl rfl) (by decide)
      ·have e1:splice rows (off+0) ([]:List (List IV))=rows:=by simp [splice]
       rw [e1] at h
       have e2:C.L.set t (.cells sz' rows)=C.L:=by
        apply List.ext_getElem?
        intro j
        rw [List.getElem?_set]
        split
        ·rename_i h8;subst h8;rw [hL,if_pos (zf hL)]
        ·rfl
       rw [e2] at h
       simpa using h
     ·rename_i hle
      obtain ⟨hbd,hK⟩:=h
      refine hgrow (C1:=jq (yA C) t) (olds:=[]) (rows':=[]) hb ((Z8 C).trans (WB _ t)) rfl rfl (Jv (y8 wf)) (Ja (Zv sim)) ?_ (by omega) hbd ⟨by simp,fun i row hi=>by simp at hi⟩ rfl (YQ hg hL rfl) ?_
      ·cases av with
       | none=>rfl
       | some b=>show (loadCells b (0*_)).run E.P _=_;rw [Nat.zero_mul];rfl
      ·simpa [jq,yA] using hK
    ·obtain ⟨rfl,c1,e1,fr1,hc1,hbig⟩:=ha.resolve_left hcap0
     rw [hc0] at hc1
     obtain ⟨rfl,rfl,rfl⟩:=by simpa using hc1
     rw [hφ] at hbig hb
     have hk0:(C.φ t).base+off*sz'+len*sz'=(C.φ t).base+(off+len)*sz':=by rw [Nat.add_mul];omega
     split at h
     ·skip
      rename_i hle
      obtain ⟨hle2,hflat2⟩:=z3N (C:=C) hflat hfl (k:=off+len) (by omega)
      have hr':=run_append_room' (P:=E.P) (t1:=t1) (t2:=t2) (ty:=o.type) (w:=C.w) hu1 hu2' hi (b:=(C.φ t).blk) (k:=(C.φ t).base+off*sz') (sLen:=len) (sCap:=cap') hlen
       (by rw [hisz];exact hfirst _ rfl) (by omega) hc0 hfr0 (by rw [hisz,hk0];exact hle2) hone
      rw [hisz,hk0,<-hb] at hr'
      refine hrun hr' (J6 wf sim hL hc0 hfr0 (Z9 hle2) hflat2 ?_ h)
      refine .sl t off (len+rs.length) cap _ cap' (Jf (k:=.cells _ _) rfl hts) hle hcc (.inr ⟨by simp [setC,hφ],seg c0 ((C.φ t).base+(off+len)*sz') news,ty,fr0,?_,?_⟩) hmx
      ·exact zD (Array.getElem?_eq_some_iff.1 hc0).1
      ·rw [Z9 hle2];show (C.φ t).base+(off+cap')*(C.φ t).sz<=_;rw [hφ];exact hbig
     ·rename_i hnle
      obtain ⟨hbd,hK⟩:=h
      have hflatO:Flat C c0 ((C.φ t).base+off*sz') sz' ((rows.drop off).take len):=by
       refine ⟨?_,fun i row hi'=>?_⟩
       ·rw [hlr]
        have h5:=hflat.1
        have h6:(off+len)*sz'<=rows.length*sz':=Nat.mul_le_mul_right _ (by omega)
        rw [Nat.add_mul] at h6;omega
       ·rw [List.getElem?_take] at hi'
        split at hi'
        ·rw [List.getElem?_drop] at hi'
         obtain ⟨h5,h6⟩:=hflat.2 _ row hi'
         refine ⟨h5,fun j y hj=>?_⟩
         obtain ⟨u,h7,h8⟩:=h6 j y hj
         refine ⟨u,?_,h8⟩
         rw [<-h7];congr 1;rw [Nat.add_mul];omega
        ·cases hi'
      by_cases hgr:len+rs.length<=cap'
      ·skip
       have hbig2:(C.φ t).base+off*sz'+(((rows.drop off).take len).length+rs.length)*sz'<=c0.size:=by
        rw [hlr]
        have h6:(len+rs.length)*sz'<=cap'*sz':=Nat.mul_le_mul_right _ hgr
        rw [Nat.add_mul off] at hbig
        omega
       have hfg:=z2v hflatO hfl hbig2
       rw [hlr,hk0] at hfg
       have hle2:(C.φ t).base+(off+len)*sz'+news.length<=c0.size:=by
        rw [hlr,Nat.add_mul] at hbig2
        rw [hfl.1,<-hk0];omega
       have hr':=run_append_room' (P:=E.P) (t1:=t1) (t2:=t2) (ty:=o.type) (w:=C.w) hu1 hu2' hi (b:=(C.φ t).blk) (k:=(C.φ t).base+off*sz') (sLen:=len) (sCap:=cap') hlen
        (by rw [hisz];exact hfirst _ rfl) hgr hc0 hfr0 (by rw [hisz,hk0];exact hle2) hone
       rw [hisz,hk0,<-hb] at hr'
       refine hrun hr' ⟨.sl g 0 (len+rs.length) (len+rs.length),zK (C.L.set t .dead) g (Blk.cells sz' ((rows.drop off).take len++rs)),moveφ C t g ((C.φ t).base+off*sz') sz',hK,
        z7E hg hL rfl hc0 (Z9 hle2) wf,z5Z hg hL rfl hc0 (Z9 hle2) wf sim ?_,vS hg hL rfl hc0 (Z9 hle2),?_⟩
       ·have hfg':=hfg.mono (vS (base:=(C.φ t).base+off*sz') (sz:=sz') (k:=.cells sz' ((rows.drop off).take len++rs)) hg hL rfl hc0 (Z9 hle2))
        refine ⟨by simp [moveC,moveφ],seg c0 ((C.φ t).base+(off+len)*sz') news,ty,fr0,?_,by rw [Z9 hle2];exact hfr0,?_,?_⟩
        ·simp only [moveC,moveφ,if_true];exact zD (Array.getElem?_eq_some_iff.1 hc0).1
        ·simpa [moveC,moveφ] using hfg'.1
        ·intro i row hi'
         refine ⟨(hfg'.2 i row hi').1,fun j y hj=>?_⟩
         obtain ⟨u,h7,h8⟩:=(hfg'.2 i row hi').2 j y hj
         exact ⟨u,by simpa [moveC,moveφ] using h7,h8⟩
       ·refine .sl g 0 _ _ _ cap' ⟨_,Wj (YQ hg hL rfl),rfl⟩ (Nat.le_refl _) hgr (.inr ⟨by simp [moveφ],seg c0 ((C.φ t).base+(off+len)*sz') news,ty,fr0,?_,?_⟩) hmx
        ·simp only [moveφ,if_true];exact zD (Array.getElem?_eq_some_iff.1 hc0).1
        ·rw [Z9 hle2]
         simp only [moveφ,if_true,Nat.zero_add]
         rw [Nat.add_mul] at hbig;omega
      ·skip
       have hfo:wG C ((List.range (len*sz')).map fun k=>c0.getD ((C.φ t).base+off*sz'+k) undef) sz' ((rows.drop off).take len):=by
        have:=YS (C:=C) (sz:=sz') (rs:=(rows.drop off).take len) (f:=fun k=>c0.getD ((C.φ t).base+off*sz'+k) undef) (fun i row hi'=>(hflatO.2 i row hi').1)
         (fun i row hi' j y hj=>by
          obtain ⟨u,h7,h8⟩:=(hflatO.2 i row hi').2 j y hj
          rw [<-Nat.add_assoc,YX h7];exact h8)
        rw [hlr] at this
        exact this
       refine hgrow (C1:=jq (yA C) t) (rows':=(rows.drop off).take len) hb ((Z8 C).trans (WB _ t)) rfl rfl (Jv (y8 wf)) (Ja (Zv sim)) ?_ (by omega) hbd hfo hlr (YQ hg hL rfl)
        (by simpa [jq,yA] using hK)
       refine yw (fun k hk=>?_) _ _
       have hlt:(C.φ t).base+off*sz'+k<c0.size:=by
        have h6:=hflatO.1
        rw [hlr] at h6;omega
       have hcc0:C.w.drew.heap[(C.φ t).blk]?=some (.cells c0 ty fr0):=hc0
       simp only [World.cell?,hcc0]
       simp [hlt]
   ·exact h.elim
  ·exact h.elim
end
end Go.X
end
section
namespace Go.X
open Go

section
variable {E:Env} {C:Ctx} {a:Act} {e:Opd->IV} {o:Oper} {K:IV->List Blk->Prop}
theorem z4L (P:Program) (op:BinOp) (t:TypeId) (x y:Operand) (v u:Value) (w:World) (h:match v with | .int _ _ | .bool _ | .string _=>True | _=>False) :
  (eqGuard op t x y v u).run P w=.ok () w:=by
 cases v<;>first
  | exact h.elim
  | (rw [eqGuard_at_int];rfl)
  | (rw [eqGuard_at_bool];rfl)
  | (rw [eqGuard_at_string];rfl)
theorem zS (sim:Sim C) {op:BinOp} {t ty:TypeId} {x y:Operand} (ho:o.op=.binOp op t x y ty) {r:IV} {v:Value}
  (hg:match a.eval x with | .int _ _ | .bool _ | .string _=>True | _=>False) (hr:(binOp op t (a.eval x) (a.eval y)).run E.P C.w=.ok v C.w) (hv:VR C r v) (hK:K r C.L):Z5 E C a o K:=by
 refine zn (s:=do eqGuard op t x y (a.eval x) (a.eval y);binOp op t (a.eval x) (a.eval y)) (v:=v) (w':=C.w) (by unfold execOp;rw [ho]) ?_ (Zk hv hK)
 rw [Sem.run_bind,z4L _ _ _ _ _ _ _ _ hg]
 exact hr
theorem beqL {a b:List UInt8}:(a==b)=decide (a=b):=by
 by_cases h:a=b
 ·subst h;simp
 ·simp [h]
theorem beqB {a b:Bool}:(a==b)=decide (a=b):=by cases a<;>cases b<;>rfl
theorem run_eql_bool {P:Program} {t:TypeId} (ht:P.underlying t=some .bool) (a b:Bool) (w:World):(binOp .eql t (.bool a) (.bool b)).run P w=.ok (.bool (decide (a=b))) w:=by
 have hu:(underlying t).run P w=.ok .bool w:=by simp [underlying,ht]
 have:binOp .eql t (.bool a) (.bool b)=(do pure (.bool (<-Op.equal t (.bool a) (.bool b)))):=by simp [binOp]
 rw [this,Sem.run_bind]
 unfold Op.equal Op.maxDepth Op.equalIn
 rw [Sem.run_bind,hu]
 simp only [Result.andThen_ok,Sem.run_pure,beqB]
theorem run_neq_bool {P:Program} {t:TypeId} (ht:P.underlying t=some .bool) (a b:Bool) (w:World):(binOp .neq t (.bool a) (.bool b)).run P w=.ok (.bool (!decide (a=b))) w:=by
 have hu:(underlying t).run P w=.ok .bool w:=by simp [underlying,ht]
 have:binOp .neq t (.bool a) (.bool b)=(do pure (.bool (!(<-Op.equal t (.bool a) (.bool b))))):=by simp [binOp]
 rw [this,Sem.run_bind]
 unfold Op.equal Op.maxDepth Op.equalIn
 rw [Sem.run_bind,hu]
 simp only [Result.andThen_ok,Sem.run_pure,beqB]
theorem z5N (sim:Sim C) (he:Opds C a e) {op:BinOp} {t ty:TypeId} {x y:Operand} {x' y':Opd} (ho:o.op=.binOp op t x y ty) (ht:zbf E.P op t=true)
  (hx:opd x=some x') (hy:opd y=some y') (h:xbin op (e x') (e y') fun v=>K v C.L):Z5 E C a o K:=by
 have hxv:=he x x' hx
 have hyv:=he y y' hy
 generalize hxe:a.eval x=xv at hxv
 generalize hye:a.eval y=yv at hyv
 generalize e x'=ex at *
 generalize e y'=ey at *
 unfold xbin at h
 split at h
 case h_26=>exact h.elim
 all_goals (cases hxv;cases hyv)
 case h_1=>
  obtain ⟨h1,h2⟩:=h
  refine zS sim ho (by rw [hxe];trivial) (v:=.int _ _) ?_ (.int _ _) h2
  rw [hxe,hye,binOp_shl]
  unfold Op.shift
  rw [if_neg (by omega)]
  rfl
 case h_2=>
  obtain ⟨h1,h2⟩:=h
  refine zS sim ho (by rw [hxe];trivial) (v:=.int _ _) ?_ (.int _ _) h2
  rw [hxe,hye,binOp_shr]
  unfold Op.shift
  rw [if_neg (by omega)]
  rfl
 case h_6=>
  obtain ⟨rfl,h1,h2⟩:=h
  refine zS sim ho (by rw [hxe];trivial) (v:=.int _ _) ?_ (.int _ _) h2
  rw [hxe,hye,binOp_quo]
  unfold Op.intDiv
  rw [if_neg h1]
  rfl
 case h_7=>
  obtain ⟨rfl,h1,h2⟩:=h
  refine zS sim ho (by rw [hxe];trivial) (v:=.int _ _) ?_ (.int _ _) h2
  rw [hxe,hye,binOp_rem]
  unfold Op.intDiv
  rw [if_neg h1]
  rfl
 case h_17=>
  obtain ⟨h1,h2⟩:=h
  refine zS sim ho (by rw [hxe];trivial) (v:=.string _) ?_ (.str _) h2
  rw [hxe,hye,binOp_string_add,run_string_add_sum _ _ _ (by simpa [ByteArray.size] using h1)]
  congr 2
 case h_18=>exact zS sim ho (by rw [hxe];trivial) (v:=.bool _) (by rw [hxe,hye,binOp_string_eql,ByteArray.toList_mk,ByteArray.toList_mk,beqL];rfl) (.bool _) h
 case h_19=>exact zS sim ho (by rw [hxe];trivial) (v:=.bool _) (by rw [hxe,hye,binOp_string_neq,ByteArray.toList_mk,ByteArray.toList_mk,beqL];rfl) (.bool _) h
 case h_20=>exact zS sim ho (by rw [hxe];trivial) (v:=.bool _) (by rw [hxe,hye,binOp_string_lss,ByteArray.toList_mk,ByteArray.toList_mk];rfl) (.bool _) h
 case h_21=>exact zS sim ho (by rw [hxe];trivial) (v:=.bool _) (by rw [hxe,hye,binOp_string_geq,ByteArray.toList_mk,ByteArray.toList_mk];rfl) (.bool _) h
 case h_22=>exact zS sim ho (by rw [hxe];trivial) (v:=.bool _) (by rw [hxe,hye,binOp_string_gtr,ByteArray.toList_mk,ByteArray.toList_mk,beqL];rfl) (.bool _) h
 case h_23=>exact zS sim ho (by rw [hxe];trivial) (v:=.bool _) (by rw [hxe,hye,binOp_string_leq,ByteArray.toList_mk,ByteArray.toList_mk,beqL];rfl) (.bool _) h
 case h_25=>
  obtain ⟨r,h1,h2⟩:=h
  have key:∀v:Value,(binOp op t (a.eval x) (a.eval y)).run E.P C.w=.ok v C.w->(match a.eval x with | .float _ _ | .complex _ _ _=>True | _=>False)->VR C r v->Z5 E C a o K:=fun v hv hx hr=>by
   refine zn (s:=do eqGuard op t x y (a.eval x) (a.eval y);binOp op t (a.eval x) (a.eval y)) (v:=v) (w':=C.w) (by unfold execOp;rw [ho]) ?_ (Zk hr h2)
   rw [Sem.run_bind]
   have hg:(eqGuard op t x y (a.eval x) (a.eval y)).run E.P C.w=.ok () C.w:=by
    generalize a.eval x=xv at hx
    generalize a.eval y=yv
    unfold eqGuard
    cases xv<;>first | exact hx.elim | (cases op<;>rfl)
   rw [hg]
   exact hv
  rw [hxe,hye] at key
  unfold WO at h1
  split at h1
  ·split at h1
   ·rename_i hk;subst hk
    split at h1
    case h_11=>cases h1
    case h_1=>simp only [oms] at h1;obtain ⟨q,hs,rfl⟩:=h1;exact key _ (run_float_arith _ _ _ _ _ _ _ hs) trivial (.raw _ rfl)
    case h_2=>simp only [oms] at h1;obtain ⟨q,hs,rfl⟩:=h1;exact key _ (run_float_arith _ _ _ _ _ _ _ hs) trivial (.raw _ rfl)
    case h_3=>simp only [oms] at h1;obtain ⟨q,hs,rfl⟩:=h1;exact key _ (run_float_arith _ _ _ _ _ _ _ hs) trivial (.raw _ rfl)
    case h_4=>simp only [oms] at h1;obtain ⟨q,hs,rfl⟩:=h1;exact key _ (run_float_arith _ _ _ _ _ _ _ hs) trivial (.raw _ rfl)
    all_goals (cases h1;refine key (.bool _) ?_ trivial (.bool _);simp [binOp,Op.floatCmp])
   ·cases h1
  ·split at h1
   ·rename_i hk;subst hk
    split at h1
    ·simp only [oms] at h1
     obtain ⟨⟨re,im⟩,hs,rfl⟩:=h1
     exact key _ (run_complex_sum C.w .add (.inl rfl) t _ _ _ _ _ re im hs) trivial (.raw _ rfl)
    ·split at h1
     ·rename_i hk;subst hk
      simp only [oms] at h1
      obtain ⟨⟨re,im⟩,hs,rfl⟩:=h1
      exact key _ (run_complex_mul C.w t _ _ _ _ re im hs) trivial (.raw _ rfl)
     ·cases h1
    ·cases h1
     refine key (.bool _) ?_ trivial (.bool _)
     simp [binOp,Op.complexOp,Op.Complex.cmp,Op.floatCmp,asBool]
    ·cases h1
   ·cases h1
  ·cases h1
 all_goals (obtain ⟨rfl,h2⟩:=h)
 case h_3=>exact zS sim ho (by rw [hxe];trivial) (v:=.int _ _) (by rw [hxe,hye,binOp_add];rfl) (.int _ _) h2
 case h_4=>exact zS sim ho (by rw [hxe];trivial) (v:=.int _ _) (by rw [hxe,hye,binOp_sub];rfl) (.int _ _) h2
 case h_5=>exact zS sim ho (by rw [hxe];trivial) (v:=.int _ _) (by rw [hxe,hye,binOp_mul];rfl) (.int _ _) h2
 case h_8=>exact zS sim ho (by rw [hxe];trivial) (v:=.int _ _) (by rw [hxe,hye,binOp_and];rfl) (.int _ _) h2
 case h_9=>exact zS sim ho (by rw [hxe];trivial) (v:=.int _ _) (by rw [hxe,hye,binOp_or];rfl) (.int _ _) h2
 case h_24=>exact zS sim ho (by rw [hxe];trivial) (v:=.int _ _) (by rw [hxe,hye];simp [binOp,Op.intBits]) (.int _ _) h2
 case h_10=>exact zS sim ho (by rw [hxe];trivial) (v:=.int _ _) (by rw [hxe,hye,binOp_xor];rfl) (.int _ _) h2
 all_goals (refine zS sim ho (by rw [hxe];trivial) (v:=.bool _) ?_ (.bool _) h2;rw [hxe,hye])
 case h_11=>rw [binOp_eql];rfl
 case h_12=>rw [binOp_neq];rfl
 case h_13=>rw [binOp_lss];rfl
 case h_14=>rw [binOp_leq];rfl
 case h_15=>rw [binOp_gtr];rfl
 case h_16=>rw [binOp_geq];rfl
theorem Je (sim:Sim C) (he:Opds C a e) {op:BinOp} {t ty:TypeId} {x y:Operand} {x' y':Opd} {neg:Bool} (ho:o.op=.binOp op t x y ty) (hop:op=if neg then .neq else .eql) (ht:E.P.underlying t=some .bool)
  (hx:opd x=some x') (hy:opd y=some y') (h:xop E (.eqB neg x' y') e C.L K):Z5 E C a o K:=by
 have hxv:=he x x' hx
 have hyv:=he y y' hy
 generalize hxe:a.eval x=xv at hxv
 generalize hye:a.eval y=yv at hyv
 simp only [xop] at h
 generalize e x'=ex at *
 generalize e y'=ey at *
 split at h
 ·cases hxv;cases hyv
  cases neg
  ·subst hop
   exact zS sim ho (by rw [hxe];trivial) (v:=.bool _) (by rw [hxe,hye];exact run_eql_bool ht _ _ _) (.bool _) h
  ·subst hop
   exact zS sim ho (by rw [hxe];trivial) (v:=.bool _) (by rw [hxe,hye];exact run_neq_bool ht _ _ _) (.bool _) h
 ·exact h.elim
theorem z7k (sim:Sim C) (he:Opds C a e) {op:UnOp} {t:TypeId} {x:Operand} {x':Opd} (ho:o.op=.unOp op t x) (hx:opd x=some x') (h:xun op (e x') fun v=>K v C.L):Z5 E C a o K:=by
 have hxv:=he x x' hx
 generalize hxe:a.eval x=xv at hxv
 generalize e x'=ex at *
 unfold xun at h
 split at h
 ·cases hxv;exact zn (s:=Op.unary .not (a.eval x)) (by unfold execOp;rw [ho]) (by rw [hxe];rfl) (Zk (.bool _) h)
 ·cases hxv;exact zn (s:=Op.unary .neg (a.eval x)) (by unfold execOp;rw [ho]) (by rw [hxe];rfl) (Zk (.int _ _) h)
 ·cases hxv;exact zn (s:=Op.unary .xor (a.eval x)) (by unfold execOp;rw [ho]) (by rw [hxe];rfl) (Zk (.int _ _) h)
 ·cases hxv
  obtain ⟨r,h1,h2⟩:=h
  unfold z7s at h1
  split at h1
  ·cases h1;exact zn (s:=Op.unary .neg (a.eval x)) (by unfold execOp;rw [ho]) (by rw [hxe];rfl) (Zk (.raw _ rfl) h2)
  ·cases h1
 ·exact h.elim
theorem zN {P:Program} {t:TypeId} {d:TypeDesc} (h:P.underlying t=some d) (w:World):(underlying t).run P w=.ok d w:=by simp [underlying,h]
theorem z0N (sim:Sim C) (he:Opds C a e) {s d:TypeId} {x:Operand} {x':Opd} {k k0:IntKind} (ho:o.op=.convert s d x) (hs:E.P.underlying s=some (.int k0)) (hd:E.P.underlying d=some (.int k))
  (hx:opd x=some x') {k1:IntKind} {n:Int} (h1:e x'=.int k1 n) (h:K (.int k (k.wrap n)) C.L):Z5 E C a o K:=by
 have hxv:=he x x' hx
 rw [h1] at hxv
 generalize hxe:a.eval x=xv at hxv
 cases hxv
 refine zn (s:=convert s d (a.eval x)) (by unfold execOp;rw [ho]) (v:=.int k (k.wrap n)) (w':=C.w) ?_ (Zk (.int _ _) h)
 rw [hxe]
 unfold convert
 rw [Sem.run_bind,zN hs]
 simp only [Result.andThen_ok]
 rw [Sem.run_bind,zN hd]
 rfl
theorem jg (sim:Sim C) (he:Opds C a e) {s d:TypeId} {x:Operand} {x':Opd} {k0:IntKind} (ho:o.op=.convert s d x) (hs:E.P.underlying s=some (.int k0)) (hd:E.P.underlying d=some .string)
  (hx:opd x=some x') {k1:IntKind} {n:Int} (h1:e x'=.int k1 n) (h:K (.str (Utf8.encode n).data.toList) C.L):Z5 E C a o K:=by
 have hxv:=he x x' hx
 rw [h1] at hxv
 generalize hxe:a.eval x=xv at hxv
 cases hxv
 refine zn (s:=convert s d (a.eval x)) (by unfold execOp;rw [ho]) (v:=.string (Utf8.encode n)) (w':=C.w) ?_ (Zk (.str _) h)
 rw [hxe]
 unfold convert
 rw [Sem.run_bind,zN hs]
 simp only [Result.andThen_ok]
 rw [Sem.run_bind,zN hd]
 rfl
theorem z1c (sim:Sim C) (he:Opds C a e) {s d:TypeId} {x:Operand} {x':Opd} (ho:o.op=.convert s d x) (hs:E.P.underlying s=some .string) (hd:E.P.underlying d=some .string)
  (hx:opd x=some x') {l:List UInt8} (h1:e x'=.str l) (h:K (.str l) C.L):Z5 E C a o K:=by
 have hxv:=he x x' hx
 rw [h1] at hxv
 generalize hxe:a.eval x=xv at hxv
 cases hxv
 refine zn (s:=convert s d (a.eval x)) (by unfold execOp;rw [ho]) (v:=.string ⟨l.toArray⟩) (w':=C.w) ?_ (Zk (.str _) h)
 rw [hxe]
 unfold convert
 rw [Sem.run_bind,zN hs]
 simp only [Result.andThen_ok]
 rw [Sem.run_bind,zN hd]
 rfl
theorem z0a (b k n:Nat):(⟨b,k,none⟩:Addr).add n=⟨b,k+n,none⟩:=by unfold Addr.add;split<;>simp_all
theorem z2o (sim:Sim C) (he:Opds C a e) {s:TypeId} {x:Operand} {x':Opd} {f:Nat} {fs:Array Field} {g:Field} {n:Nat} (ho:o.op=.fieldAddr s x f) (hs:E.P.underlying s=some (.struct fs)) (hg:fs[f]?=some g)
  (hn:Z4 E.P g.type=some n) (hn0:n≠0) (hx:opd x=some x')
  (h:xop E (.fldA g.offset x') e C.L K):Z5 E C a o K:=by
 have hxv:=he x x' hx
 generalize hxe:a.eval x=xv at hxv
 have hrun:∀b k,xv=.pointer (some ⟨b,k,none⟩)->(Instr.fieldAt s (a.eval x) f).run E.P C.w=.ok (.pointer (some ⟨b,k+g.offset,none⟩)) C.w:=by
  rintro b k rfl
  rw [hxe]
  unfold Instr.fieldAt
  rw [Sem.run_bind,zN hs]
  simp only [Result.andThen_ok,hg]
  rw [Sem.run_bind]
  simp only [Instr.sureAddr,Sem.run_pure,Result.andThen_ok]
  rw [Sem.run_bind]
  unfold fieldPlace
  rw [Sem.run_bind,zO hn]
  simp only [Result.andThen_ok,hn0,if_false,Sem.run_pure,z0a]
 simp only [xop] at h
 generalize e x'=ex at *
 split at h
 ·cases hxv with
  | ptr s' r o' hs'=>
   refine zn (by unfold execOp;rw [ho]) (hrun _ _ rfl) (Zk ?_ h)
   rw [Nat.add_assoc];exact .ptr _ _ _ hs'
 ·cases hxv with
  | iptr rows r o' b base sz vals hsz hcl hb hown ha hv=>
   refine zn (by unfold execOp;rw [ho]) (hrun _ _ rfl) (Zk ?_ h)
   rw [Nat.add_assoc];exact .iptr _ _ _ b base sz vals hsz hcl hb hown ha hv
 ·rename_i b k
  cases hxv
  exact zn (by unfold execOp;rw [ho]) (hrun b k rfl) (Zk (.raw _ rfl) h)
 ·exact h.elim
theorem z4Y (sim:Sim C) (he:Opds C a e) {s:TypeId} {x:Operand} {x':Opd} {f:Nat} {fs:Array Field} {g:Field} {n:Nat} {b:Bool} (ho:o.op=.field s x f) (hs:E.P.underlying s=some (.struct fs)) (hg:fs[f]?=some g)
  (hn:Z4 E.P g.type=some n) (hb:vZ E.P g.type=some b) (hx:opd x=some x')
  (h:xop E (.fld g.offset n b x') e C.L K):Z5 E C a o K:=by
 have hxv:=he x x' hx
 generalize hxe:a.eval x=xv at hxv
 simp only [xop] at h
 generalize e x'=ex at *
 split at h
 ·rename_i cs
  cases hxv with
  | agg _ vs hl hv=>
  obtain ⟨h1,h⟩:=h
  have hrun:∀v,(part g.type vs.toArray g.offset).run E.P C.w=.ok v C.w->(Instr.field s (a.eval x) f).run E.P C.w=.ok v C.w:=fun v hp=>by
   rw [hxe]
   unfold Instr.field
   rw [Sem.run_bind,zN hs]
   simp only [Result.andThen_ok,hg]
   rw [Sem.run_bind]
   simp only [asAgg,Sem.run_pure,Result.andThen_ok]
   exact hp
  cases b
  ·simp only [Bool.false_eq_true,if_false] at h
   have h3:=hv g.offset _ (getD_get (d:=.und) h.1)
   refine zn (by unfold execOp;rw [ho]) (hrun (vs.getD g.offset undef) ?_) (Zk h3 h.2)
   unfold part
   rw [Sem.run_bind,vU hb]
   simp only [Result.andThen_ok,Bool.false_eq_true,if_false]
   have:vs.toArray[g.offset]?=some (vs.getD g.offset undef):=by rw [List.getElem?_toArray];exact getD_get (by omega)
   rw [this];rfl
  ·simp only [if_true] at h
   refine zn (by unfold execOp;rw [ho]) (hrun (.agg (vs.toArray.extract g.offset (g.offset+n))) ?_) (Zk ?_ h)
   ·unfold part
    rw [Sem.run_bind,vU hb]
    simp only [Result.andThen_ok,if_true]
    rw [Sem.run_bind,zO hn]
    rfl
   ·have e1:vs.toArray.extract g.offset (g.offset+n)=((vs.drop g.offset).take n).toArray:=by
     apply Array.ext';simp
    rw [e1]
    refine .agg _ _ (by simp [hl]) fun i y hi=>?_
    rw [List.getElem?_take] at hi
    split at hi
    ·rename_i hlt
     rw [List.getElem?_drop] at hi
     have h4:=hv _ y hi
     have h5:((vs.drop g.offset).take n).getD i undef=vs.getD (g.offset+i) undef:=by
      rw [List.getD_eq_getElem?_getD,List.getD_eq_getElem?_getD,List.getElem?_take,if_pos hlt,List.getElem?_drop]
     rw [h5];exact h4
    ·cases hi
 ·exact h.elim
theorem z8E (sim:Sim C) {s n:Nat} (hz:szOf C.L s=some n):(C.φ s).sz=n:=by
 unfold szOf at hz
 split at hz
 ·rename_i sz rows hL
  obtain rfl:sz=n:=by simpa using hz
  exact (sim s _ hL).1
 ·rename_i ty sz rows hL
  obtain rfl:sz=n:=by simpa using hz
  exact (sim s _ hL).1.1
 ·cases hz
theorem z3I (sim:Sim C) (he:Opds C a e) {t el:TypeId} {x i:Operand} {x' i':Opd} {n:Nat} (ho:o.op=.indexAddr t x i) (ht:E.P.underlying t=some (.slice el)) (hn:Z4 E.P el=some n)
  (hx:opd x=some x') (hi:opd i=some i') (h:xop E (.idxS n x' i') e C.L K):Z5 E C a o K:=by
 have hxv:=he x x' hx
 have hiv:=he i i' hi
 generalize hxe:a.eval x=xv at hxv
 generalize hie:a.eval i=iv at hiv
 simp only [xop] at h
 generalize e x'=ex at *
 generalize e i'=ei at *
 have hrun:∀(b k len cap:Nat) (q:IntKind) (j:Int),xv=.slice (some ⟨b,k,none⟩) len cap->iv=.int q j->0<=j->j<len->
   (Instr.indexAt t (a.eval x) (a.eval i)).run E.P C.w=.ok (.pointer (some ⟨b,k+j.toNat*n,none⟩)) C.w:=by
  rintro b k len cap q j rfl rfl h0 h1
  rw [hxe,hie]
  unfold Instr.indexAt
  simp only [asIntOf,Sem.run_bind,Sem.run_pure,Result.andThen_ok,zN ht,z0a]
  rw [if_pos ⟨h0,h1⟩]
  simp only [Sem.run_bind,Sem.run_pure,Result.andThen_ok,zO hn]
 split at h
 ·rename_i rows q j
  obtain ⟨hr,h0,h1,h⟩:=h
  cases hiv
  cases hxv with
  | isl _ av cap' sz vals hcap hsz hcl ha hv=>
   rcases ha with ha | ⟨b,k,rfl,hb,hno,hc⟩
   ·subst ha;simp at h1;omega
   ·have hlt:j.toNat<rows.length:=by omega
    have hss:sz=n:=by
     have:=List.getElem?_eq_getElem hlt
     rw [<-hsz _ _ this,hr _ (List.getElem_mem hlt)]
    subst hss
    refine zn (by unfold execOp;rw [ho]) (hrun b k _ cap' q j rfl rfl h0 h1) (Zk ?_ h)
    exact .iptr rows _ 0 b k sz vals hsz hcl hb hno hc hv
 ·rename_i s off len cap q j
  obtain ⟨hz,h0,h1,h⟩:=h
  cases hiv
  cases hxv with
  | sl _ _ _ _ av cap' hs hl hc ha=>
   obtain ⟨rfl,_⟩:=ha.resolve_left (by omega)
   refine zn (by unfold execOp;rw [ho]) (hrun _ _ len cap' q j rfl rfl h0 h1) (Zk ?_ h)
   have h5:=z8E sim hz
   have h6:=VR.ptr (C:=C) s (off+j.toNat) 0 hs
   rw [h5] at h6 ⊢
   rw [Nat.add_mul,Nat.add_zero,<-Nat.add_assoc] at h6
   exact h6
 ·exact h.elim
end
end Go.X
end
section
namespace Go.X
open Go
section
variable {E:Env} {C:Ctx} {a:Act} {e:Opd->IV} {o:Oper} {K:IV->List Blk->Prop}
theorem JZ {P:Program} {t:TypeId} {v c:Value} {b:Bool} {w:World} (neg:Bool) (x y:Operand) (hg:(eqGuard (if neg then .neq else .eql) t x y v c).run P w=.ok () w)
  (hb:binOp (if neg then .neq else .eql) t v c=(do let r <-Op.equal t v c;pure (.bool (if neg then !r else r)))) (h:(Op.equal t v c).run P w=.ok b w) :
  (do eqGuard (if neg then .neq else .eql) t x y v c;binOp (if neg then .neq else .eql) t v c:Sem Value).run P w=.ok (.bool (if neg then !b else b)) w:=by
 rw [Sem.run_bind,hg]
 simp only [Result.andThen_ok]
 rw [hb,Sem.run_bind,h]
 simp only [Result.andThen_ok,Sem.run_pure]
theorem z2Y {P:Program} {t el:TypeId} (ht:P.underlying t=some (.slice el)) (a:Option Addr) (l k:Nat) (w:World):(Op.equal t (.slice a l k) (.slice none 0 0)).run P w=.ok a.isNone w:=by
 have hu:(underlying t).run P w=.ok (.slice el) w:=by simp [underlying,ht]
 unfold Op.equal Op.maxDepth Op.equalIn
 rw [Sem.run_bind,hu]
 cases a<;>rfl
theorem z2B {P:Program} {t:TypeId} {ms} (ht:P.underlying t=some (.interface ms)) (w:World):(Op.equal t .nilIface .nilIface).run P w=.ok true w:=by
 have hu:(underlying t).run P w=.ok (.interface ms) w:=by simp [underlying,ht]
 unfold Op.equal Op.maxDepth Op.equalIn
 rw [Sem.run_bind,hu];rfl
theorem z1J {P:Program} {t t':TypeId} {u:Value} {ms} (ht:P.underlying t=some (.interface ms)) (w:World):(Op.equal t (.iface t' u) .nilIface).run P w=.ok false w:=by
 have hu:(underlying t).run P w=.ok (.interface ms) w:=by simp [underlying,ht]
 unfold Op.equal Op.maxDepth Op.equalIn
 rw [Sem.run_bind,hu];rfl
theorem z4h {P:Program} {t:TypeId} {p q r} (ht:P.underlying t=some (.func p q r)) (w:World):(Op.equal t .nilFunc .nilFunc).run P w=.ok true w:=by
 have hu:(underlying t).run P w=.ok (.func p q r) w:=by simp [underlying,ht]
 unfold Op.equal Op.maxDepth Op.equalIn
 rw [Sem.run_bind,hu];rfl
theorem z3a {P:Program} {t:TypeId} {f:Fn} {x y:Array Value} {p q r} (ht:P.underlying t=some (.func p q r)) (w:World):(Op.equal t (.func f x y) .nilFunc).run P w=.ok false w:=by
 have hu:(underlying t).run P w=.ok (.func p q r) w:=by simp [underlying,ht]
 unfold Op.equal Op.maxDepth Op.equalIn
 rw [Sem.run_bind,hu];rfl
theorem z0U (sim:Sim C) (he:Opds C a e) {op:BinOp} {t ty:TypeId} {x y:Operand} {x':Opd} {k:Nat} {neg:Bool} (ho:o.op=.binOp op t x y ty) (hop:op=if neg then .neq else .eql) (hn:z5T E.P t y=some k)
  (hx:opd x=some x') (h:xop E (.isNil k neg x') e C.L K):Z5 E C a o K:=by
 have hxv:=he x x' hx
 subst hop
 simp only [xop] at h
 have key:∀(c:Value) (b:Bool),y=.const c->(eqGuard (if neg then .neq else .eql) t x y (a.eval x) c).run E.P C.w=.ok () C.w->
   binOp (if neg then .neq else .eql) t (a.eval x) c=(do let r <-Op.equal t (a.eval x) c;pure (.bool (if neg then !r else r)))->
   (Op.equal t (a.eval x) c).run E.P C.w=.ok b C.w->K (.bool (if neg then !b else b)) C.L->Z5 E C a o K:=fun c b hy hg hb h1 hk=>by
  refine zn (s:=do eqGuard (if neg then .neq else .eql) t x y (a.eval x) (a.eval y);binOp (if neg then .neq else .eql) t (a.eval x) (a.eval y)) (v:=.bool (if neg then !b else b)) (w':=C.w) (by unfold execOp;rw [ho]) ?_ (Zk (.bool _) hk)
  subst hy
  exact JZ neg x _ hg hb h1
 unfold z5T at hn
 generalize hxe:a.eval x=xv at hxv
 generalize e x'=ex at *
 rw [hxe] at key
 split at hn
 ·rename_i el ht
  cases hn
  have ks:=fun (b0:Option Addr) (l k:Nat) (hv:xv=.slice b0 l k) (hk:K (.bool (if neg then !b0.isNone else b0.isNone)) C.L)=>
   key _ b0.isNone rfl (by subst hv;cases neg<;>rfl) (by subst hv;cases neg<;>simp [binOp]) (by subst hv;exact z2Y ht _ _ _ _) hk
  unfold xnil at h
  cases hxv<;>simp only at h
  case nsl=>exact ks _ _ _ rfl h
  case esl b0=>cases b0 with
    | none=>exact ks _ _ _ rfl h.1
    | some p=>exact ks _ _ _ rfl h.2
  case isl rows b0 cap' sz vals hcap hsz hcl ha hv=>cases b0 with
    | none=>
     refine ks _ _ _ rfl (h.2 ?_)
     rcases ha with h0 | ⟨_,_,h0,_⟩
     ·exact h0
     ·cases h0
    | some p=>exact ks _ _ _ rfl h.1
  case sl s off len cap b0 cap' hs hl hc ha hmx=>cases b0 with
    | none=>
     refine ks _ _ _ rfl (h.2 ?_)
     rcases ha with h0 | ⟨h0,_⟩
     ·omega
     ·cases h0
    | some p=>exact ks _ _ _ rfl h.1
 ·rename_i ms ht
  cases hn
  have k1:=fun (hv:xv=.nilIface) (hk:K (.bool (if neg then !true else true)) C.L)=>key _ true rfl (by subst hv;cases neg<;>cases x<;>rfl) (by subst hv;cases neg<;>simp [binOp]) (by subst hv;exact z2B ht _) hk
  have k2:=fun (t':TypeId) (u:Value) (hv:xv=.iface t' u) (hk:K (.bool (if neg then !false else false)) C.L)=>key _ false rfl (by subst hv;cases neg<;>rfl) (by subst hv;cases neg<;>simp [binOp]) (by subst hv;exact z1J ht _) hk
  unfold xnil at h
  cases hxv<;>simp only at h
  case raw hr=>cases xv<;>simp only at h<;>first | exact k1 rfl h | exact k2 _ _ rfl h
  case iface t' x0 u hu=>exact k2 _ _ rfl h
 ·rename_i p q r ht
  cases hn
  have k1:=fun (hv:xv=.nilFunc) (hk:K (.bool (if neg then !true else true)) C.L)=>key _ true rfl (by subst hv;cases neg<;>cases x<;>rfl) (by subst hv;cases neg<;>simp [binOp]) (by subst hv;exact z4h ht _) hk
  have k2:=fun (f:Fn) (x0 y0:Array Value) (hv:xv=.func f x0 y0) (hk:K (.bool (if neg then !false else false)) C.L)=>key _ false rfl (by subst hv;cases neg<;>rfl) (by subst hv;cases neg<;>simp [binOp]) (by subst hv;exact z3a ht _) hk
  unfold xnil at h
  cases hxv<;>simp only at h
  case raw hr=>cases xv<;>simp only at h<;>exact k1 rfl h
  case fn f as bs va vb _ _ _ _=>exact k2 _ _ _ rfl h
 ·cases hn
theorem z9N (wf:Wf E.g0 C) (sim:Sim C) (he:Opds C a e) {t:TypeId} {x:Operand} {x':Opd} (ho:o.op=.range t x) (ht:E.P.underlying t=some .string) (hx:opd x=some x')
  (h:xop E (.rng x') e C.L K):Good E C a o K:=by
 have hxv:=he x x' hx
 simp only [xop] at h
 generalize hxe:a.eval x=xv at hxv
 generalize e x'=ex at *
 split at h
 ·rename_i s
  cases hxv
  have hu:(underlying t).run E.P C.w=.ok .string C.w:=by simp [underlying,ht]
  refine Zd (s:=Instr.range t (a.eval x)) (v:=.pointer (some ⟨C.w.heap.size,0,none⟩)) (w':=ZT C.w (.stringIter ⟨s.toArray⟩ 0)) (by unfold execOp;rw [ho]) ?_ ?_
  ·rw [hxe]
   unfold Instr.range
   rw [Sem.run_bind,hu]
   rfl
  ·refine ⟨.ptr C.L.length 0 0,zK C.L C.L.length (.siter s 0),newφ C C.L.length 0,by rw [Zb];exact h,z0i (o:=.stringIter ⟨s.toArray⟩ 0) (.inl rfl) wf sim,WX (o:=.stringIter ⟨s.toArray⟩ 0) (.inl rfl) sim ?_,Yu (.inl rfl) (.stringIter ⟨s.toArray⟩ 0) (.siter s 0) 0,YI (.inl rfl)⟩
   exact ⟨by simp [newC,newφ],by simp only [newC,newφ,if_true];exact Zm⟩
 ·exact h.elim
theorem zam (wf:Wf E.g0 C) (sim:Sim C) (he:Opds C a e) {x:Operand} {x':Opd} (ho:o.op=.next x true) (hx:opd x=some x')
  (h:xop E (.nxt x') e C.L K):Good E C a o K:=by
 have hxv:=he x x' hx
 simp only [xop] at h
 generalize hxe:a.eval x=xv at hxv
 generalize e x'=ex at *
 split at h
 ·rename_i s
  split at h
  ·rename_i str pos hL
   obtain ⟨hb,hh⟩:=sim s _ hL
   have hptr:xv=.pointer (some ⟨(C.φ s).blk,0,none⟩):=by
    cases hxv with
    | ptr _ _ _ hs=>rw [hb];simp
   have hne:∀c e fr,Obj.stringIter ⟨str.toArray⟩ pos≠.cells c e fr:=fun _ _ _ h=>by cases h
   have hsz:(ByteArray.mk str.toArray).size=str.length:=by simp [ByteArray.size]
   have hrun:(Instr.next xv true o.type).run E.P C.w=if pos<str.length then .ok (.tuple #[.bool true,.int .i64 pos,.int .i32 (Utf8.decode ⟨str.toArray⟩ pos).1]) (setW C.w (C.φ s).blk (.stringIter ⟨str.toArray⟩ (pos+(Utf8.decode ⟨str.toArray⟩ pos).2)))
     else .ok (.tuple #[.bool false]) C.w:=by
    subst hptr
    unfold Instr.next
    simp only
    rw [Sem.run_bind,Zq hh hne]
    simp only [Result.andThen_ok,hsz]
    by_cases hp:pos<str.length
    ·rw [if_pos hp,if_pos hp]
     rw [Sem.run_bind,ZR _ hh hne]
     rfl
    ·rw [if_neg hp,if_neg hp];rfl
   have hvb:∀b,VR C (.tup [.bool b]) (.tuple #[.bool b]):=fun b=>.tup [.bool b] [.bool b] rfl (fun i x hi=>by
    cases i with
    | zero=>simp at hi;subst hi;exact .bool b
    | succ i=>simp at hi)
   split at h
   ·rename_i hp
    rw [if_pos hp] at hrun
    refine Zd (s:=Instr.next (a.eval x) true o.type) (by unfold execOp;rw [ho]) (by rw [hxe];exact hrun) ?_
    refine ⟨_,_,C.φ,h,Jy (o:=.stringIter ⟨str.toArray⟩ (pos+(Utf8.decode ⟨str.toArray⟩ pos).2)) wf hL rfl,vw wf sim hL rfl hh hne ?_,Wv hL rfl hh hne,?_⟩
    ·exact ⟨hb,zD (Array.getElem?_eq_some_iff.1 hh).1⟩
    ·refine .tup _ [.bool true,.int .i64 pos,.int .i32 (Utf8.decode ⟨str.toArray⟩ pos).1] rfl (fun i x hi=>?_)
     match i,hi with
     | 0,hi=>simp at hi;subst hi;exact .bool true
     | 1,hi=>simp at hi;subst hi;exact .int _ _
     | 2,hi=>simp at hi;subst hi;exact .int _ _
   ·rename_i hp
    rw [if_neg hp] at hrun
    exact Zd (s:=Instr.next (a.eval x) true o.type) (by unfold execOp;rw [ho]) (by rw [hxe];exact hrun) (ZF wf sim (hvb false) h)
  ·exact h.elim
 ·exact h.elim
end
end Go.X
end
