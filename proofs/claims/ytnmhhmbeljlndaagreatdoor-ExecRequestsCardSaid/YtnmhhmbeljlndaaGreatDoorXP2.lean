/- Parts of the proof: XBase, XForm, XComp, XRun, XCtx, XConv, XCall, XOps, XOps2, XOps3, XOps4, XOps5, XOps6, XNil. -/
import Derived.Test.YtnmhhmbeljlndaaGreatDoorXP1
import Derived.CallsIn
import Derived.Below
import Derived.Laws.ComplexArith
import Derived.Still
import Derived.Laws.Build
import Derived.Laws.StructEq
import Derived.Laws.AppendOwn
import Derived.Laws.Strings
import Derived.Laws.Concat
import Derived.Laws.Cover1
import Derived.WalkSpells
set_option linter.unusedVariables false
set_option linter.unusedSimpArgs false
set_option linter.unusedSectionVars false
section
namespace Go.X
open Go
theorem oms {α β} {f:α→β} {o:Option α} {b:β}:o.map f=some b↔∃a,o=some a∧f a=b:=Option.map_eq_some_iff
theorem obs {α β} {b:β} {o:Option α} {f:α→Option β}:o.bind f=some b↔∃a,o=some a∧f a=some b:=Option.bind_eq_some_iff
theorem lla {α} {a b:List α}:(a++b).length=a.length+b.length:=List.length_append
theorem lls {α} {l:List α} {i:Nat} {a:α}:(l.set i a).length=l.length:=List.length_set
theorem llc {α} {l:List α} {a:α}:(a::l).length=l.length+1:=List.length_cons
theorem lln {α}:([]:List α).length=0:=List.length_nil
theorem sij {α} {a b:α}:(some a=some b)=(a=b):=Option.some.injEq a b
theorem od {p:Prop} (h:p:=by omega):p:=h
theorem tO {p:Prop} (h:p:=by omega):p=True:=eq_true h
theorem fO {p:Prop} (h:¬p:=by omega):p=False:=eq_false h
inductive IV where
 | bool (b:Bool)
 | int (k:IntKind) (n:Int)
 | str (s:List UInt8)
 | raw (v:Value)
 | und
 | ptr (s row off:Nat)
 | sl (s off len cap:Nat)
 | isl (rows:List (List IV))
 | iptr (rows:List (List IV)) (row off:Nat)
 | esl
 | nsl
 | agg (cs:List IV)
 | tup (cs:List IV)
 | fn (f:Fn) (first captured:List IV)
 | iface (t:TypeId) (v:IV)
 | mp (s:Nat)
 | yld (s:Nat)
 deriving Inhabited
inductive Blk where
 | cells (sz:Nat) (rows:List (List IV))
 | siter (s:List UInt8) (pos:Nat)
 | tcells (ty sz:Nat) (rows:List (List IV))
 | map (es:List (IV × IV × Nat)) (clock:Nat)
 | mit (m:Nat)
 | lp (r:Loop) (l:List IV)
 | dead
 | unborn
 deriving Inhabited
def Blk.alive:Blk->Bool
 | .dead | .unborn=>false
 | _=>true
def Blk.born:Blk->Bool
 | .unborn=>false
 | _=>true
structure Loc where
 blk:Nat
 base:Nat
 sz:Nat
structure Ctx where
 w:World
 φ:Nat->Loc
 L:List Blk
 X:Nat->Prop
def Ctx.mine (C:Ctx) (b:Nat):Prop:=∃s k,C.L[s]?=some k/\k.alive=true/\(C.φ s).blk=b
def Ctx.born (C:Ctx) (s:Nat):Prop:=∃k,C.L[s]?=some k/\k.born=true
theorem Ctx.born.lt {C:Ctx} {s:Nat} (h:C.born s):s<C.L.length:=by
 obtain ⟨k,b,_⟩:=h
 exact (List.getElem?_eq_some_iff.1 b).1
def Ctx.own (C:Ctx) (b:Nat):Prop:=C.X b\/C.mine b
def closed:IV->Bool
 | .ptr .. | .sl .. | .mp _ | .yld _=>false
 | .agg cs | .tup cs=>closedL cs
 | .fn _ a b=>closedL a&&closedL b
 | .iface _ v=>closed v
 | _=>true
 where
 closedL:List IV->Bool
  | []=>true
  | x::r=>closed x&&closedL r
def zG:IV->Bool
 | .agg _ | .tup _ | .und=>false
 | .raw v=>match v with | .agg _ | .tuple _=>false | _=>true
 | _=>true
def zgx:Value->Bool
 | .agg _=>false
 | _=>true
inductive VR (C:Ctx):IV->Value->Prop
 | bool (b:Bool):VR C (.bool b) (.bool b)
 | int (k:IntKind) (n:Int):VR C (.int k n) (.int k n)
 | str (s:List UInt8):VR C (.str s) (.string ⟨s.toArray⟩)
 | raw (v:Value) (h:zgx v=true):VR C (.raw v) v
 | und:VR C .und undef
 | ptr (s r o:Nat) (hs:C.born s) :
   VR C (.ptr s r o) (.pointer (some ⟨(C.φ s).blk,(C.φ s).base+r*(C.φ s).sz+o,none⟩))
 | sl (s off len cap:Nat) (a:Option Addr) (cap':Nat) (hs:C.born s) (hl:len<=cap) (hc:cap<=cap')
   (ha:cap'=0\/(a=some ⟨(C.φ s).blk,(C.φ s).base+off*(C.φ s).sz,none⟩/\
    ∃c e fr,C.w.heap[(C.φ s).blk]?=some (.cells c e fr)/\(C.φ s).base+(off+cap')*(C.φ s).sz<=c.size)) (hm:cap'<=9223372036854775807) :
   VR C (.sl s off len cap) (.slice a len cap')
 | isl (rows:List (List IV)) (a:Option Addr) (cap' sz:Nat) (vals:Nat->Nat->Value) (hcap:rows.length<=cap')
   (hsz:∀(i:Nat) (row:List IV),rows[i]?=some row->row.length=sz)
   (hcl:∀(i:Nat) (row:List IV),rows[i]?=some row->closed.closedL row=true)
   (ha:rows=[]\/∃b o,a=some ⟨b,o,none⟩/\b<C.w.heap.size/\¬C.own b/\
    ∀(i:Nat) (row:List IV),rows[i]?=some row->∀(j:Nat) (x:IV),row[j]?=some x->C.w.cell? ⟨b,o+i*sz+j,none⟩=some (vals i j))
   (hv:∀(i:Nat) (row:List IV),rows[i]?=some row->∀(j:Nat) (x:IV),row[j]?=some x->VR C x (vals i j)) :
   VR C (.isl rows) (.slice a rows.length cap')
 | iptr (rows:List (List IV)) (r o b base sz:Nat) (vals:Nat->Nat->Value)
   (hsz:∀(i:Nat) (row:List IV),rows[i]?=some row->row.length=sz)
   (hcl:∀(i:Nat) (row:List IV),rows[i]?=some row->closed.closedL row=true)
   (hb:b<C.w.heap.size) (hown:¬C.own b)
   (ha:∀(i:Nat) (row:List IV),rows[i]?=some row->∀(j:Nat) (x:IV),row[j]?=some x->C.w.cell? ⟨b,base+i*sz+j,none⟩=some (vals i j))
   (hv:∀(i:Nat) (row:List IV),rows[i]?=some row->∀(j:Nat) (x:IV),row[j]?=some x->VR C x (vals i j)) :
   VR C (.iptr rows r o) (.pointer (some ⟨b,base+r*sz+o,none⟩))
 | esl (a:Option Addr):VR C .esl (.slice a 0 0)
 | nsl:VR C .nsl (.slice none 0 0)
 | agg (cs:List IV) (vs:List Value) (hl:cs.length=vs.length) (hv:∀i x,cs[i]?=some x->VR C x (vs.getD i undef)) :
   VR C (.agg cs) (.agg vs.toArray)
 | tup (cs:List IV) (vs:List Value) (hl:cs.length=vs.length) (hv:∀i x,cs[i]?=some x->VR C x (vs.getD i undef)) :
   VR C (.tup cs) (.tuple vs.toArray)
 | fn (f:Fn) (as bs:List IV) (va vb:List Value) (ha:as.length=va.length) (hb:bs.length=vb.length)
   (hva:∀i x,as[i]?=some x->VR C x (va.getD i undef)) (hvb:∀i x,bs[i]?=some x->VR C x (vb.getD i undef)) :
   VR C (.fn f as bs) (.func f va.toArray vb.toArray)
 | iface (t:TypeId) (x:IV) (v:Value) (h:VR C x v):VR C (.iface t x) (.iface t v)
 | mp (s:Nat) (hs:C.born s):VR C (.mp s) (.map (some (C.φ s).blk))
 | yld (s:Nat) (hs:C.born s):VR C (.yld s) (.func (.yield (C.φ s).blk) #[] #[])
structure Ext (C C':Ctx):Prop where
 size:C.w.heap.size<=C'.w.heap.size
 frame:∀b,b<C.w.heap.size->¬C.mine b->C'.w.heap[b]?=C.w.heap[b]?
 sub:∀b,C'.mine b->C.mine b\/C.w.heap.size<=b
 slot:∀s,C.born s->C'.φ s=C.φ s
 bo:∀s,C.born s->C'.born s
 len:C.L.length<=C'.L.length
 cap:∀(b:Nat) c e fr,C.w.heap[b]?=some (.cells c e fr)->∃c' e' fr',C'.w.heap[b]?=some (.cells c' e' fr')/\c'.size=c.size
 ex:C'.X=C.X
 os:C'.w.os=C.w.os
 tape:C'.w.tape=C.w.tape
 output:C'.w.output=C.w.output
theorem Ext.refl (C:Ctx):Ext C C:=
 ⟨Nat.le_refl _,fun _ _ _=>rfl,fun _ h=>.inl h,fun _ _=>rfl,fun _ h=>h,Nat.le_refl _,fun _ c e b h=>⟨c,e,b,h,rfl⟩,rfl,rfl,rfl,rfl⟩
theorem Ext.trans {A B C:Ctx} (h:Ext A B) (k:Ext B C):Ext A C where
 size:=Nat.le_trans h.size k.size
 frame:=fun b j l=>(k.frame b (Nat.lt_of_lt_of_le j h.size) (fun m=>(h.sub b m).elim l (fun d=>absurd j (Nat.not_lt.2 d)))).trans (h.frame b j l)
 sub:=fun b D=>(k.sub b D).elim (h.sub b) (fun d=>.inr (Nat.le_trans h.size d))
 slot:=fun s hs=>(k.slot s (h.bo s hs)).trans (h.slot s hs)
 bo:=fun s hs=>k.bo s (h.bo s hs)
 len:=Nat.le_trans h.len k.len
 cap:=fun b c e r hc=>by
  obtain ⟨c1,e1,p,h1,u⟩:=h.cap b c e r hc
  obtain ⟨c2,q,v,h2,w⟩:=k.cap b c1 e1 p h1
  exact ⟨c2,q,v,h2,w.trans u⟩
 ex:=k.ex.trans h.ex
 os:=k.os.trans h.os
 tape:=k.tape.trans h.tape
 output:=k.output.trans h.output
theorem cell_of_heap {w w':World} {b:Nat} (h:w'.heap[b]?=w.heap[b]?) (o:Nat):w'.cell? ⟨b,o,none⟩=w.cell? ⟨b,o,none⟩:=by
 simp only [World.cell?,h]
theorem Ext.own {C C':Ctx} (h:Ext C C') {b:Nat} (m:b<C.w.heap.size) (d:¬C.own b):¬C'.own b:=by
 rintro (j | l)
 ·exact d (.inl (by rw [<-h.ex];exact j))
 ·rcases h.sub b l with h1 | h1
  ·exact d (.inr h1)
  ·omega
theorem Ext.heap {C C':Ctx} (h:Ext C C') {b:Nat} (d:b<C.w.heap.size) (l:¬C.own b):C'.w.heap[b]?=C.w.heap[b]?:=
 h.frame b d (fun j=>l (.inr j))
theorem VR.mono {C C':Ctx} (h:Ext C C') {x:IV} {v:Value} (Z:VR C x v):VR C' x v:=by
 induction Z with
 | bool b=>exact .bool b
 | int k n=>exact .int k n
 | str s=>exact .str s
 | raw v h=>exact .raw v h
 | und=>exact .und
 | ptr s r o hs=>rw [<-h.slot s hs];exact .ptr s r o (h.bo s hs)
 | sl s off len cap a cap' hs q hc ha U=>
  refine .sl s off len cap a cap' (h.bo s hs) q hc ?_ U
  rcases ha with G | ⟨ha,c,e,T,hh,X⟩
  ·exact .inl G
  ·obtain ⟨c',R,D,A,V⟩:=h.cap _ c e T hh
   rw [h.slot s hs]
   exact .inr ⟨ha,c',R,D,A,by omega⟩
 | isl rows a cap' sz vals u hsz p ha w d=>
  refine .isl rows a cap' sz vals u hsz p ?_ d
  rcases ha with G | ⟨b,o,ha,l,M,hc⟩
  ·exact .inl G
  ·exact .inr ⟨b,o,ha,Nat.lt_of_lt_of_le l h.size,h.own l M,fun i row hi j x J=>by rw [cell_of_heap (h.heap l M)];exact hc i row hi j x J⟩
 | iptr rows r o b base sz vals hsz p l m ha w d=>
  exact .iptr rows r o b base sz vals hsz p (Nat.lt_of_lt_of_le l h.size) (h.own l m)
   (fun i row hi j x J=>by rw [cell_of_heap (h.heap l m)];exact ha i row hi j x J) d
 | esl a=>exact .esl a
 | nsl=>exact .nsl
 | agg cs vs q w d=>exact .agg cs vs q d
 | tup cs vs q w d=>exact .tup cs vs q d
 | fn f as bs S Y ha l Q O I B=>exact .fn f as bs S Y ha l I B
 | iface t x v w d=>exact .iface t x v d
 | mp s hs=>rw [<-h.slot s hs];exact .mp s (h.bo s hs)
 | yld s hs=>rw [<-h.slot s hs];exact .yld s (h.bo s hs)
def z8b (tc:Bool) (n:Nat) (fr:Nat × Nat):Prop:=fr=(0,0)\/(tc=true/\n<=fr.1)
theorem z3D (b:Bool) (n:Nat):z8b b n (0,0):=.inl rfl
theorem zbe {d:Bool} {n:Nat} {b:Nat × Nat} (h:z8b d n b) {i:Nat} (hi:i<n):¬(b.1<=i/\i<b.2):=by
 rcases h with rfl | ⟨_,h⟩
 ·simp
 ·omega
def yS (tc:Bool) (C:Ctx) (s sz:Nat) (rows:List (List IV)):Prop:=(C.φ s).sz=sz/\∃c e fr,C.w.heap[(C.φ s).blk]?=some (.cells c e fr)/\z8b tc c.size fr/\
   (C.φ s).base+rows.length*sz<=c.size/\
   ∀(i:Nat) (row:List IV),rows[i]?=some row->row.length=sz/\∀j x,row[j]?=some x->∃v,c[(C.φ s).base+i*sz+j]?=some v/\VR C x v
def znA (C:Ctx) (s ty:Nat):Prop:=(C.φ s).base=0/\∃c fr,C.w.heap[(C.φ s).blk]?=some (.cells c ty fr)
def z0d:IV->Option Value
 | .int k n=>some (.int k n)
 | .str s=>some (.string ⟨s.toArray⟩)
 | _=>none
def ziF (C:Ctx) (s:Nat) (es:List (IV × IV × Nat)) (clock:Nat):Prop:=∃ms:Array MapEntry,C.w.heap[(C.φ s).blk]?=some (.map ms clock)/\ms.size=es.length/\
 ∀(i:Nat) (e:IV × IV × Nat),es[i]?=some e->∃m,ms[i]?=some m/\z0d e.1=some m.key/\VR C e.2.1 m.val/\m.born=e.2.2
def Ws (C:Ctx) (s:Nat):Blk->Prop
 | .cells sz rows=>yS false C s sz rows
 | .tcells ty sz rows=>yS true C s sz rows/\znA C s ty
 | .siter t pos=>(C.φ s).base=0/\C.w.heap[(C.φ s).blk]?=some (.stringIter ⟨t.toArray⟩ pos)
 | .map es c=>ziF C s es c
 | .mit m=>(C.φ s).base=0/\C.born m/\∃since last,C.w.heap[(C.φ s).blk]?=some (.mapIter (some (C.φ m).blk) since #[] last)
 | .lp r l=>C.w.heap[(C.φ s).blk]?=some (.loop r)/\∀n,VR C (l.getD n .und) (r.tmps.getD n undef)
 | .dead=>True
 | .unborn=>True
def Sim (C:Ctx):Prop:=∀s k,C.L[s]?=some k->Ws C s k
structure Wf (g0:Nat) (C:Ctx):Prop where
 inj:∀s t k l,C.L[s]?=some k->C.L[t]?=some l->k.alive=true->l.alive=true->(C.φ s).blk=(C.φ t).blk->s=t
 lo:∀b,C.mine b->g0<=b
 apart:∀b,C.X b->¬C.mine b
 exlo:∀b,C.X b->b<C.w.heap.size
 g:g0<=C.w.heap.size
theorem Y7 {C:Ctx} (hs:Sim C) {b:Nat} (h:C.mine b):b<C.w.heap.size:=by
 obtain ⟨s,k,d,ha,rfl⟩:=h
 have:=hs s k d
 cases k with
 | cells sz rows=>obtain ⟨_,c,e,j,hh,_⟩:=this;exact (Array.getElem?_eq_some_iff.1 hh).1
 | siter t pos=>exact (Array.getElem?_eq_some_iff.1 this.2).1
 | tcells ty sz rows=>obtain ⟨_,_,c,j,hh⟩:=this;exact (Array.getElem?_eq_some_iff.1 hh).1
 | map v c=>obtain ⟨q,hh,_⟩:=this;exact (Array.getElem?_eq_some_iff.1 hh).1
 | mit m=>obtain ⟨_,_,u,p,hh⟩:=this;exact (Array.getElem?_eq_some_iff.1 hh).1
 | lp r l=>exact (Array.getElem?_eq_some_iff.1 this.1).1
 | dead=>cases ha
 | unborn=>cases ha
def cellsOf:IV->List IV
 | .agg cs=>cs
 | x=>[x]
theorem VR.cells {C:Ctx} {x:IV} {v:Value} (h:VR C x v) :
  (cellsOf x).length=v.cells.size/\∀(i:Nat) (y:IV),(cellsOf x)[i]?=some y->∃u,v.cells[i]?=some u/\VR C y u:=by
 have one:∀{x:IV} {v:Value},VR C x v->v.cells=#[v]->cellsOf x=[x]->
   (cellsOf x).length=v.cells.size/\∀(i:Nat) (y:IV),(cellsOf x)[i]?=some y->∃u,v.cells[i]?=some u/\VR C y u:=by
  intro x v h d J
  rw [d,J]
  refine ⟨rfl,fun i y hi=>?_⟩
  cases i with
  | zero=>simp at hi;subst hi;exact ⟨v,rfl,h⟩
  | succ i=>simp at hi
 cases h with
 | agg cs vs l d=>
  refine ⟨by simpa [cellsOf,Value.cells] using l,fun i y hi=>?_⟩
  have:=d i y hi
  have A:i<vs.length:=by rw [<-l];exact (List.getElem?_eq_some_iff.1 hi).1
  refine ⟨vs.getD i undef,?_,this⟩
  simp [Value.cells,List.getD,A]
 | raw v h=>
  refine one (.raw v h) ?_ rfl
  cases v<;>first | rfl | cases h
 | bool b=>exact one (.bool b) rfl rfl
 | int k n=>exact one (.int k n) rfl rfl
 | str s=>exact one (.str s) rfl rfl
 | und=>exact one .und rfl rfl
 | ptr s r o hs=>exact one (.ptr s r o hs) rfl rfl
 | sl s off len cap a cap' hs l hc ha G=>exact one (.sl s off len cap a cap' hs l hc ha G) rfl rfl
 | isl rows a cap' sz vals p hsz j ha d=>exact one (.isl rows a cap' sz vals p hsz j ha d) rfl rfl
 | iptr rows r o b base sz vals hsz j B m ha d=>exact one (.iptr rows r o b base sz vals hsz j B m ha d) rfl rfl
 | esl a=>exact one (.esl a) rfl rfl
 | nsl=>exact one .nsl rfl rfl
 | tup cs vs l d=>exact one (.tup cs vs l d) rfl rfl
 | fn f as bs D I ha B w q=>exact one (.fn f as bs D I ha B w q) rfl rfl
 | iface t x v d=>exact one (.iface t x v d) rfl rfl
 | mp s hs=>exact one (.mp s hs) rfl rfl
 | yld s hs=>exact one (.yld s hs) rfl rfl
inductive RU where
 | re
 | im
 | toInt (k:IntKind)
 deriving Inhabited
def z4G:RU->Value->Option IV
 | .re,.complex k a _=>some (.raw (.float k a))
 | .im,.complex k _ b=>some (.raw (.float k b))
 | .toInt k,.float s b=>(floatToIntVal s b k).map (.int k)
 | _,_=>none
def wE (op:BinOp):Value->Value->Option IV
 | .float k a,.float k' b=>if k=k' then match op with
   | .add=>(floatBits .add k a b).map fun r=>.raw (.float k r)
   | .sub=>(floatBits .sub k a b).map fun r=>.raw (.float k r)
   | .mul=>(floatBits .mul k a b).map fun r=>.raw (.float k r)
   | .quo=>(floatBits .quo k a b).map fun r=>.raw (.float k r)
   | .eql=>some (.bool (k.format.order a b==some .eq))
   | .neq=>some (.bool (k.format.order a b !=some .eq))
   | .lss=>some (.bool (k.format.order a b==some .lt))
   | .leq=>some (.bool (k.format.order a b==some .lt||k.format.order a b==some .eq))
   | .gtr=>some (.bool (k.format.order a b==some .gt))
   | .geq=>some (.bool (k.format.order a b==some .gt||k.format.order a b==some .eq))
   | _=>none
  else none
 | .complex k a b,.complex k' c d=>if k=k' then match op with
   | .add=>(cSumBits .add k a b c d).map fun r=>.raw (.complex k r.1 r.2)
   | .mul=>if k=.f64 then (cMulBits a b c d).map fun r=>.raw (.complex .f64 r.1 r.2) else none
   | .eql=>some (.bool ((k.format.order a c==some .eq)&&(k.format.order b d==some .eq)))
   | .neq=>some (.bool !((k.format.order a c==some .eq)&&(k.format.order b d==some .eq)))
   | _=>none
  else none
 | _,_=>none
def zb2:Value->Option Value
 | .float k b=>some (.float k (Op.negFloat k b))
 | _=>none
inductive Opd where
 | t (n:Nat)
 | c (v:IV)
 | g (n:Nat)
 | f (n:Nat)
 deriving Inhabited
inductive XX where
 | panic
 | mkif (t:Nat)
 | strB (ty:Nat)
 | bStr
 | eqA (neg:Bool) (ks:List Nat)
 | eqP (neg:Bool)
 | appT (ty bytes:Nat)
 | tas (t:Nat)
 | ru (op:RU)
 | itof (f:FloatKind)
 | cpx
 | mmake
 | mlook (st:Bool) (zero:IV) (ok:Bool)
 | mset (st:Bool)
 | mdel (st:Bool)
 | copy (sz:Nat)
 | clr (z:List IV)
 | no
 | sl3 (sz:Nat)
 | sla (n:Nat)
 | mrng
 | mnxt
 deriving Inhabited
inductive XO where
 | mov (x:Opd)
 | pick (c a b:Opd)
 | alloc (zero:List IV)
 | box (x:Opd)
 | build (zero:List IV) (parts:List (Nat × Nat × Opd))
 | bslice (sz:Nat) (zero:List IV) (len:Nat) (parts:List (Nat × Opd))
 | load1 (a:Opd)
 | loadN (n:Nat) (a:Opd)
 | store (n:Nat) (a x:Opd)
 | nilck (x:Opd)
 | bin (op:BinOp) (x y:Opd)
 | eqB (neg:Bool) (x y:Opd)
 | un (op:UnOp) (x:Opd)
 | cvInt (k:IntKind) (x:Opd)
 | cvIntStr (x:Opd)
 | fldA (off:Nat) (x:Opd)
 | idxS (n:Nat) (x i:Opd)
 | idxA (n sz:Nat) (x i:Opd)
 | idx (x i:Opd)
 | slice (n:Nat) (x:Opd) (lo hi:Option Opd)
 | sliceS (x:Opd) (lo hi:Option Opd)
 | mkfn (f:Fn) (first cap:List Opd)
 | len (x:Opd)
 | lenS (x:Opd)
 | append (sz bytes:Nat) (s x:Opd)
 | max2 (x y:Opd)
 | call (f:Opd) (args:List Opd)
 | pcall (f:Opd) (args:List Opd)
 | isNil (kd:Nat) (neg:Bool) (x:Opd)
 | ext (t:Opd) (i:Nat)
 | ex (k:XX) (xs:List Opd)
 deriving Inhabited
structure zq where
 dst:Option Nat
 op:XO
 guard:Option (Nat × Bool)
 deriving Inhabited
mutual
inductive XC where
 | skip
 | ops (l:List zq)
 | draw (l:List zq)
 | drawE (l:List zq)
 | drawR (l:List (zq × List Nat × Bool))
 | bad
 | rngF (g:Opd) (n:Nat) (ps:List Nat) (asg body:XC)
 | seq (a b:XC)
 | cond (c:Opd) (t e:XC)
 | block (id:Nat) (b:XC)
 | loop (b:XC)
 | exit (id:Nat)
 | scope (b:XC) (ls:z2j)
 | label (l:Nat)
 | goto (l:Nat)
 | ret
inductive z2j where
 | nil
 | cons (l:Nat) (c:XC) (r:z2j)
end
instance:Inhabited XC:=⟨.skip⟩
inductive XE where
 | normal
 | exit (id:Nat)
 | goto (l:Nat)
 | ret
 deriving DecidableEq
def zJ {α β:Type} (f:α->Option β):List α->Option (List β)
 | []=>some []
 | x::r=>match f x with
  | some y=>match zJ f r with
   | some ys=>some (y::ys)
   | none=>none
  | none=>none
def z9X:Value->Option IV
 | .bool b=>some (.bool b)
 | .int k n=>some (.int k n)
 | .string s=>some (.str s.data.toList)
 | .slice none 0 0=>some .nsl
 | .tuple vs=>if vs.size=0 then some .und else none
 | .agg _=>none
 | v=>some (.raw v)
def opd:Operand->Option Opd
 | .tmp t=>some (.t t)
 | .const v=>(z9X v).map .c
 | .global g=>some (.g g)
 | .func f=>some (.f f)
def zeroCells (P:Program) (t:TypeId):Option (List IV):=(P.info? t).bind fun i=>i.zero.bind fun z=>zJ z9X z.cells.toList
def z07 (P:Program) (t:TypeId):Option Bool:=
 match P.underlying t with
 | some (.struct _)=>some true
 | some (.array _ _)=>some true
 | some _=>some false
 | none=>none
def Zx (P:Program) (t:TypeId):Option Nat:=(P.info? t).map (·.size)
def z1c (P:Program) (t:TypeId):Option Nat:=(P.info? t).map (·.bytes)
def z0K:Option Operand->Option (Option Opd)
 | none=>some none
 | some x=>(opd x).map some
def zff (P:Program) (t:TypeId):Bool:=match P.underlying t with
 | some (.int .u8)=>true
 | _=>false
def jF (P:Program):List Field→Nat→Option (List Nat)
 | [],_=>some []
 | f :: fs, k => if f.name != "_" && f.offset == k then
   (match P.underlying f.type with
   | some (.int _)=>(jF P fs (k+1)).map (0::·)
   | some .string=>(jF P fs (k+1)).map (1::·)
   | some .bool=>(jF P fs (k+1)).map (2::·)
   | _=>none) else none
def z6y (P:Program) (t:TypeId):Option (List Nat):=if P.stoodInHeld t=false/\P.eqGuardType P.depth t=false then jF P (P.fieldsOf t).toList 0 else none
def z7h (P:Program) (t:TypeId):Bool:=match P.underlying t with
 | some (.struct fs) => fs.toList.map (·.name) == ["addr", "buf"]
 | _=>false
def zcB (P:Program) (t:TypeId):Option Bool:=match P.underlying t with
 | some (.int _)=>some false
 | some .string=>some true
 | _=>none
def zci (P:Program) (t:TypeId):Option IV:=(P.info? t).bind fun i=>i.zero.bind fun z=>match z with
 | .agg _=>none
 | z=>z9X z
def z6v (P:Program) (c:Call):Option XO:=
 match c.callee with
 | .value f=>(opd f).bind fun f'=>(zJ opd c.args.toList).map fun as=>.call f' as
 | .builtin .len=>match c.args.toList,(c.argTypes[0]?).bind P.underlying with
  | [x],some .string=>(opd x).map .lenS
  | [x],some (.slice _)=>(opd x).map .len
  | _,_=>none
 | .builtin .append=>match c.args.toList,(c.argTypes[0]?).bind P.underlying,(c.argTypes[1]?).bind P.underlying with
  | [s,x],some (.slice e),some (.slice _)=>(opd s).bind fun s'=>(opd x).bind fun x'=>(Zx P e).bind fun n=>(z1c P e).bind fun m=>(zeroCells P e).bind fun z=>if 0<m/\0<n/\z.length=n then (if zff P e then (if n=1 then some (.ex (.appT e m) [s',x']) else none) else some (.append n m s' x')) else none
  | [s,x],some (.slice e),some .string=>(opd s).bind fun s'=>(opd x).bind fun x'=>(Zx P e).bind fun n=>(z1c P e).bind fun m=>(zeroCells P e).bind fun z=>if 0<m/\0<n/\z.length=n then (if zff P e then (if n=1 then some (.ex (.appT e m) [s',x']) else none) else some (.append n m s' x')) else none
  | _,_,_=>none
 | .builtin .copy=>match c.args.toList,(c.argTypes[0]?).bind P.underlying with
  | [d,x],some (.slice e)=>(Zx P e).bind fun n=>(opd d).bind fun d'=>(opd x).map fun x'=>.ex (.copy n) [d',x']
  | _,_=>none
 | .builtin .clear=>match c.args.toList,(c.argTypes[0]?).bind P.underlying with
  | [d],some (.slice e)=>(zeroCells P e).bind fun z=>(opd d).map fun d'=>.ex (.clr z) [d']
  | _,_=>none
 | .builtin .real=>match c.args.toList with
  | [x]=>(opd x).map fun x'=>.ex (.ru .re) [x']
  | _=>none
 | .builtin .imag=>match c.args.toList with
  | [x]=>(opd x).map fun x'=>.ex (.ru .im) [x']
  | _=>none
 | .builtin .delete=>match c.args.toList,c.argTypes[0]? with
  | [m,k],some t=>match P.underlying t with
   | some (.map kt _)=>(zcB P kt).bind fun st=>(opd m).bind fun m'=>(opd k).map fun k'=>.ex (.mdel st) [m',k']
   | _=>none
  | _,_=>none
 | .builtin .complex=>match c.args.toList with
  | [x,y]=>(opd x).bind fun x'=>(opd y).map fun y'=>.ex .cpx [x',y']
  | _=>none
 | .builtin .max=>match c.args.toList with
  | [x,y]=>(opd x).bind fun x'=>(opd y).map fun y'=>.max2 x' y'
  | _=>none
 | _=>none
def zdf (P:Program) (op:BinOp) (t:TypeId):Bool:=
 match op with
 | .eql | .neq=>match P.underlying t with
  | some (.int _) | some .string | some (.float _) | some (.complex _)=>true
  | _=>false
 | _=>true
def z2T (P:Program) (t:TypeId) (y:Operand):Option Nat:=
 match P.underlying t,y with
 | some (.slice _),.const (.slice none 0 0)=>some 0
 | some (.interface _),.const .nilIface=>some 1
 | some (.func ..),.const .nilFunc=>some 2
 | _,_=>none
def z3q (P:Program) (t:TypeId) (x:Operand) (lo hi mx:Option Operand):Option XO:=
 match mx with
 | none=>match P.underlying t with
  | some .string=>(opd x).bind fun x'=>(z0K lo).bind fun l=>(z0K hi).map fun h=>.sliceS x' l h
  | some (.slice e)=>(Zx P e).bind fun n=>if n=0 then none else (opd x).bind fun x'=>(z0K lo).bind fun l=>(z0K hi).map fun h=>.slice n x' l h
  | some (.array m e)=>if Zx P e=some 1/\hi.isNone=true then (opd x).bind fun x'=>(z0K lo).map fun l=>.ex (.sla m) [x',l.getD (.c (.int .i64 0))] else none
  | _=>none
 | some m=>match P.underlying t with
  | some (.slice e)=>(Zx P e).bind fun n=>match hi with
   | some h=>if n=0 then none else (opd x).bind fun x'=>(z0K lo).bind fun l=>(opd h).bind fun h'=>(opd m).map fun m'=>.ex (.sl3 n) [x',l.getD (.c (.int .i64 0)),h',m']
   | none=>none
  | _=>none
def WA (P:Program):Op->Option XO
 | .move x=>(opd x).map .mov
 | .assign x=>(opd x).map .mov
 | .pick c a b=>(opd c).bind fun c'=>(opd a).bind fun a'=>(opd b).map fun b'=>.pick c' a' b'
 | .alloc t=>(zeroCells P t).bind fun z=>if z7h P t then none else some (.alloc z)
 | .box _ x=>(opd x).map .box
 | .build t ps=>match P.underlying t with
  | some (.struct fs)=>(zeroCells P t).bind fun z=>(zJ (fun (p:Nat × Operand)=>(fs[p.1]?).bind fun f=>(Zx P f.type).bind fun n=>(opd p.2).map fun x=>(f.offset,n,x)) ps.toList).bind fun qs=>
    if fs.toList.all (fun f=>(P.info? f.type).isSome) then some (.build z qs) else none
  | some (.array _ e)=>(zeroCells P t).bind fun z=>(Zx P e).bind fun n=>(zJ (fun (p:Nat × Operand)=>(opd p.2).map fun x=>(p.1*n,n,x)) ps.toList).map fun qs=>.build z qs
  | _=>none
 | .buildSlice t len ps=>match P.underlying t with
  | some (.slice e)=>(Zx P e).bind fun n=>(zeroCells P e).bind fun z=>(zJ (fun (p:Nat × Operand)=>(opd p.2).map fun x=>(p.1,x)) ps.toList).bind fun qs=>
    if len*n<=2^24/\0<n/\z.length=n then some (.bslice n z len qs) else none
  | _=>none
 | .load t a=>(z07 P t).bind fun g=>(Zx P t).bind fun n=>(opd a).map fun a'=>if g then .loadN n a' else .load1 a'
 | .store t a x=>(z07 P t).bind fun _=>(Zx P t).bind fun n=>(opd a).bind fun a'=>(opd x).map fun x'=>.store n a' x'
 | .nilCheck x=>(opd x).map .nilck
 | .binOp op t x y _=>if zdf P op t then (opd x).bind fun x'=>(opd y).map fun y'=>.bin op x' y' else
  match op,P.underlying t with
  | .eql,some .bool=>(opd x).bind fun x'=>(opd y).map fun y'=>.eqB false x' y'
  | .neq,some .bool=>(opd x).bind fun x'=>(opd y).map fun y'=>.eqB true x' y'
  | .eql,some (.pointer e)=>(Zx P e).bind fun n=>if n=0 then none else (opd x).bind fun x'=>(opd y).map fun y'=>.ex (.eqP false) [x',y']
  | .neq,some (.pointer e)=>(Zx P e).bind fun n=>if n=0 then none else (opd x).bind fun x'=>(opd y).map fun y'=>.ex (.eqP true) [x',y']
  | .eql,some (.struct _)=>(z6y P t).bind fun ks=>(opd x).bind fun x'=>(opd y).map fun y'=>.ex (.eqA false ks) [x',y']
  | .neq,some (.struct _)=>(z6y P t).bind fun ks=>(opd x).bind fun x'=>(opd y).map fun y'=>.ex (.eqA true ks) [x',y']
  | .neq,some (.interface _)=>match z2T P t y with
   | some k=>(opd x).map (.isNil k true)
   | none=>some (.ex .no [])
  | .eql,_=>(z2T P t y).bind fun k=>(opd x).map (.isNil k false)
  | .neq,_=>(z2T P t y).bind fun k=>(opd x).map (.isNil k true)
  | _,_=>none
 | .unOp op _ x=>(opd x).map fun x'=>.un op x'
 | .convert s d x=>match P.underlying s,P.underlying d with
  | some (.int _),some (.int k)=>(opd x).map (.cvInt k)
  | some (.int _),some .string=>(opd x).map .cvIntStr
  | some (.int _),some (.float f)=>(opd x).map fun x'=>.ex (.itof f) [x']
  | some (.float _),some (.int k)=>(opd x).map fun x'=>.ex (.ru (.toInt k)) [x']
  | some (.slice e),some .string=>if zff P e then (opd x).map fun x'=>.ex .bStr [x'] else none
  | some .string,some (.slice e)=>if zff P e then (opd x).map fun x'=>.ex (.strB e) [x'] else none
  | _,_=>none
 | .fieldAddr s x f=>match P.underlying s with
  | some (.struct fs)=>(fs[f]?).bind fun g=>(Zx P g.type).bind fun n=>if n=0 then none else (opd x).map (.fldA g.offset)
  | _=>none
 | .indexAddr t x i=>match P.underlying t with
  | some (.slice e)=>(Zx P e).bind fun n=>if n=0 then none else (opd x).bind fun x'=>(opd i).map fun i'=>.idxS n x' i'
  | some (.array m e)=>(Zx P e).bind fun n=>(opd x).bind fun x'=>(opd i).map fun i'=>.idxA m n x' i'
  | _=>none
 | .index t x i=>match P.underlying t with
  | some .string=>(opd x).bind fun x'=>(opd i).map fun i'=>.idx x' i'
  | _=>none
 | .slice t x lo hi mx=>z3q P t x lo hi mx
 | .makeFunc f a b=>(zJ opd a.toList).bind fun a'=>(zJ opd b.toList).map fun b'=>.mkfn f a' b'
 | .extract t i=>(opd t).map fun t'=>.ext t' i
 | .makeInterface t x=>if P.concrete t then (opd x).map fun x'=>.ex (.mkif t) [x'] else none
 | .panic x=>(opd x).map fun x'=>.ex .panic [x']
 | .typeAssert x _ t ok=>match P.underlying t with
  | some (.interface _)=>none
  | some _=>if ok then (opd x).map fun x'=>.ex (.tas t) [x'] else none
  | none=>none
 | .call c=>z6v P c
 | .makeMap _ none=>some (.ex .mmake [])
 | .lookup t x i ok=>match P.underlying t with
  | some (.map kt el)=>(zcB P kt).bind fun st=>(zci P el).bind fun z=>(opd x).bind fun x'=>(opd i).map fun i'=>.ex (.mlook st z ok) [x',i']
  | _=>none
 | .mapUpdate t m k v=>match P.underlying t with
  | some (.map kt _)=>(zcB P kt).bind fun st=>(opd m).bind fun m'=>(opd k).bind fun k'=>(opd v).map fun v'=>.ex (.mset st) [m',k',v']
  | _=>none
 | .insert t m k v=>match P.underlying t with
  | some (.map kt _)=>(zcB P kt).bind fun st=>(opd m).bind fun m'=>(opd k).bind fun k'=>(opd v).map fun v'=>.ex (.mset st) [m',k',v']
  | _=>none
 | .range t x=>match P.underlying t with
  | some (.map _ _)=>(opd x).map fun x'=>.ex .mrng [x']
  | _=>none
 | .next t s=>if s then none else (opd t).map fun t'=>.ex .mnxt [t']
 | _=>none
def zfS (N:Nat):Option Tmp->Bool
 | none=>true
 | some d=>decide (d<N)
def Ym (P:Program) (N:Nat) (ops:List Oper) (o:Oper):Option zq:=
 (WA P o.op).bind fun x=>
  if zfS N o.dst then
   match o.guard with
   | none=>some ⟨o.dst,x,none⟩
   | some (j,b)=>((ops[j]?).bind (·.dst)).map fun t=>⟨o.dst,x,some (t,b)⟩
  else none
def Opd.us:Opd->List Nat
 | .t n=>[n]
 | _=>[]
def usL (l:List Opd):List Nat:=l.flatMap Opd.us
def usO:Option Opd->List Nat
 | none=>[]
 | some x=>x.us
def XO.us:XO->List Nat
 | .mov x | .box x | .load1 x | .loadN _ x | .nilck x | .un _ x | .cvInt _ x | .cvIntStr x | .fldA _ x | .len x | .lenS x | .isNil _ _ x | .ext x _=>x.us
 | .pick c x y=>c.us++x.us++y.us
 | .alloc _=>[]
 | .build _ ps=>ps.flatMap fun p=>p.2.2.us
 | .bslice _ _ _ ps=>ps.flatMap fun p=>p.2.us
 | .store _ x y | .bin _ x y | .eqB _ x y | .idxS _ x y | .idxA _ _ x y | .idx x y | .append _ _ x y | .max2 x y=>x.us++y.us
 | .slice _ x lo hi | .sliceS x lo hi=>x.us++usO lo++usO hi
 | .mkfn _ a b=>usL a++usL b
 | .call f as | .pcall f as=>f.us++usL as
 | .ex _ xs=>usL xs
def XX.kd:XX->Nat
 | .mkif _ | .eqA .. | .eqP _ | .ru _ | .itof _ | .cpx=>0
 | .bStr | .mlook ..=>1
 | .strB _=>2
 | _=>4
def XO.kd:XO->Nat
 | .mov _ | .pick .. | .build .. | .bin .. | .eqB .. | .un .. | .cvInt .. | .cvIntStr _ | .fldA .. | .idxA .. | .idx ..
 | .sliceS .. | .mkfn .. | .nilck _ | .len _ | .lenS _ | .max2 .. | .ext ..=>0
 | .load1 _ | .loadN .. | .idxS .. | .slice .. | .pcall ..=>1
 | .alloc _ | .box _=>2
 | .store ..=>3
 | .ex k _=>k.kd
 | .isNil k _ _=>if k=1 then 0 else 4
 | _=>4
def zq.rds (o:zq):List Nat:=o.op.us++match o.guard with | none=>[] | some (t,_)=>[t]
def z6D (d:Option Nat) (l:List Nat):Bool:=match d with | none=>true | some d=>!l.contains d
def neO (d d':Option Nat):Bool:=match d,d' with | some d,some d'=>!(d==d') | _,_=>true
def zf6 (a b:Nat):Bool:=a==0||(a<4&&b<4&&(b==0||(a==1&&b<3)))
def xap (o p:zq):Bool:=z6D o.dst p.rds&&z6D p.dst o.rds&&neO o.dst p.dst&&zf6 o.op.kd p.op.kd
def vS (ops:Array Oper) (i:Nat):List Nat:=
 (List.range ops.size).foldl (fun acc j=>if ((ops[j]?).map fun o=>o.after.any fun e=>Region.binds .any e&&acc.contains e.on).getD false then j::acc else acc) [i]
def zg7 (ops:Array Oper) (xs:List zq) (listed:Array Bool) (k:Nat):Bool:=
 let W:=vS ops k
 W.all (fun j=>!(listed.getD j true))&&(List.range ops.size).all fun j=>j==k||listed.getD j true||W.contains j||(match xs[k]?,xs[j]? with | some o,some p=>xap o p | _,_=>false)
def z8y (ops:Array Oper) (xs:List zq):Nat->Nat->Array Bool->Bool
 | 0,_,listed=>(Region.ready .any ops listed).isEmpty
 | f+1,k,listed=>(Region.ready .any ops listed).contains k&&(zg7 ops xs listed k&&z8y ops xs f (k+1) (listed.setIfInBounds k true))
def zcA (ops:Array Oper) (xs:List zq):Bool:=xs.all (fun o=>o.op.kd<4)&&z8y ops xs ops.size 0 (Array.replicate ops.size false)
def z8w (ops:Array Oper) (xs:List zq):Bool:=z8y ops xs ops.size 0 (Array.replicate ops.size false)
def XO.kd2:XO->Nat
 | .bslice ..=>2
 | o=>o.kd
def zdl (o p:zq):Bool:=z6D o.dst p.rds&&z6D p.dst o.rds&&neO o.dst p.dst&&zf6 o.op.kd2 p.op.kd2
def xmv (o p:zq):Bool:=z6D o.dst p.rds&&z6D p.dst o.rds&&neO o.dst p.dst&&(match p.op,p.guard with | .mov _,none=>true | _,_=>false)
def z9B (ops:Array Oper) (xs:List zq) (listed:Array Bool) (k:Nat):Bool:=
 let W:=vS ops k
 W.all (fun j=>!(listed.getD j true))&&(List.range ops.size).all fun j=>j==k||listed.getD j true||W.contains j||(match xs[k]?,xs[j]? with | some o,some p=>zdl o p||xmv o p | _,_=>false)
def JD (ops:Array Oper) (xs:List zq):Nat->Nat->Array Bool->Bool
 | 0,_,listed=>(Region.ready .any ops listed).isEmpty
 | f+1,k,listed=>(Region.ready .any ops listed).contains k&&(z9B ops xs listed k&&JD ops xs f (k+1) (listed.setIfInBounds k true))
def zaH (ops:Array Oper) (xs:List zq):Bool:=JD ops xs ops.size 0 (Array.replicate ops.size false)
def zax (P:Program):XO->Bool
 | .call (.f n) _=>match P.funcs[n]? with
  | some fn=>match fn.params[0]? with
   | some t=>match P.underlying t with
    | some (.pointer _)=>true
    | some (.slice _)=>fn.resultTypes[0]?==some t
    | _=>false
   | none=>false
  | none=>false
 | _=>false
def za2 (xs:List zq):Bool:=xs.any fun o=>match o.op with
 | .ex (.appT ..) (.t s::_)=>xs.any fun p=>p.dst==some s&&(match p.op with | .call ..=>true | _=>false)
 | _=>false
def zjA (xs:List zq) (d:Option Nat):Bool:=xs.any fun o=>match o.op with
 | .ex (.appT ..) (.t s::_)=>d==some s
 | _=>false
def XO.toP:XO->XO
 | .call f as=>.pcall f as
 | o=>o
def zq.toP (o:zq):zq:={ o with op:=o.op.toP }
def z6H (xs:List zq):List zq:=xs.map fun o=>if zjA xs o.dst then o else o.toP
def XO.isCall:XO->Bool
 | .call ..=>true
 | _=>false
def Vf:List zq->List zq
 | []=>[]
 | o::r=>(if r.any (fun p=>p.op.isCall) then o.toP else o)::Vf r
def XO.quiet:XO->Bool
 | .mov _ | .pick .. | .build .. | .load1 _ | .loadN .. | .bin .. | .eqB .. | .un .. | .cvInt .. | .cvIntStr _ | .fldA .. | .idxS .. | .idxA .. | .idx ..
 | .slice .. | .sliceS .. | .mkfn .. | .nilck _ | .len _ | .lenS _ | .max2 .. | .ext ..=>true
 | _=>false
def XO.rk:XO->Nat
 | .bslice ..=>2
 | .append ..=>3
 | .ex (.appT ..) _=>3
 | o=>o.kd
def racy (o p:zq):Bool:=!(o.op.rk==0)&&!(p.op.rk==0)&&!(o.op.rk==1&&p.op.rk==1)
def z8A (ops:Array Oper) (xs:List zq):List (Nat × Nat):=
 (List.range ops.size).flatMap fun i=>let W:=vS ops i
  (List.range ops.size).filterMap fun j=>if decide (i<j)&&!W.contains j&&(match xs[i]?,xs[j]? with | some o,some p=>racy o p | _,_=>true) then some (i,j) else none
def z1e (ops:Array Oper) (xs:List zq):List (zq × List Nat × Bool):=
 let ps:=z8A ops xs
 xs.zipIdx.map fun p=>(p.1,ps.filterMap (fun q=>if q.2==p.2 then some q.1 else none),ps.any fun q=>q.1==p.2)
def zbX (ops:Array Oper) (xs:List (zq × List Nat × Bool)):Bool:=
 xs.all (fun x=>decide (x.1.op.rk<4))&&(xs.length==ops.size)&&
 ((List.range ops.size).all (fun j=>match ops[j]? with | some o=>o.after.all fun e=>!(Region.binds .any e)||decide (e.on<j) | none=>true))&&
 (List.range ops.size).all fun i=>let W:=vS ops i
  (List.range ops.size).all fun j=>!decide (i<j)||W.contains j||(match xs[i]?,xs[j]? with
   | some (o,_,keep),some (p,chk,_)=>z6D o.dst p.rds&&z6D p.dst o.rds&&neO o.dst p.dst&&(!racy o p||(keep&&chk.contains i))
   | _,_=>false)
def J5 (P:Program) (N:Nat) (ops:Array Oper):XC:=
 if P.follows .mixedOrders then
  match zJ (Ym P N ops.toList) ops.toList with
  | some xs=>if xs.all (fun o=>o.op.quiet)&&zcA ops xs then .draw xs
   else if (xs.any (fun o=>zax P o.op)||za2 xs)&&z8w ops xs then .drawE xs
   else if za2 xs&&zaH ops (z6H xs) then .drawE (z6H xs)
   else if xs.any (fun o=>zax P o.op)&&zaH ops (Vf xs) then .drawE (Vf xs)
   else if zcA ops (xs.map zq.toP) then .drawE (xs.map zq.toP)
   else if zbX ops (z1e ops (xs.map zq.toP)) then .drawR (z1e ops (xs.map zq.toP))
   else if z8w ops xs then .drawE xs
   else if z8w ops (xs.map zq.toP) then .drawE (xs.map zq.toP) else .bad
  | none=>.bad
 else .bad
def labels:Code->List Nat
 | .seq a b=>labels a++labels b
 | .label l=>[l]
 | _=>[]
def XC.find:XC->Nat->Option XC
 | .seq a b,l=>match a.find l with
  | some r=>some (.seq r b)
  | none=>b.find l
 | .label l',l=>if l'==l then some .skip else none
 | _,_=>none
def z01 (b:XC):List Nat->z2j
 | []=>.nil
 | l::r=>match b.find l with
  | some c=>.cons l c (z01 b r)
  | none=>z01 b r
def comp (P:Program) (N:Nat):Code->Option XC
 | .skip=>some .skip
 | .region _ ops false=>match zJ (Ym P N ops.toList) ops.toList with
  | some xs=>some (.ops xs)
  | none=>some .bad
 | .region _ ops true=>some (J5 P N ops)
 | .seq a b=>(comp P N a).bind fun a'=>(comp P N b).map fun b'=>.seq a' b'
 | .cond c t e=>(opd c).bind fun c'=>(comp P N t).bind fun t'=>(comp P N e).map fun e'=>.cond c' t' e'
 | .block id b=>(comp P N b).map (.block id)
 | .loop b=>(comp P N b).map .loop
 | .exit id=>some (.exit id)
 | .scope b=>(comp P N b).map fun b'=>.scope b' (z01 b' (labels b))
 | .label l=>some (.label l)
 | .goto l=>some (.goto l)
 | .ret=>some .ret
 | .rangeFunc g ps a b=>match opd g,comp P N a,comp P N b with
  | some g',some a',some b'=>some (.rngF g' N ps.toList a' b')
  | _,_,_=>some .bad
 | .refuse _=>some .bad
def FOk (F:Fence):Prop:=F=Fence.wide\/∃l,F=Fence.wide.inRound l
def zcy (g0:Nat) (C:Ctx) (K:IV->List Blk->Prop) (v:Value) (w':World):Prop:=
 ∃r L' φ',K r L'/\Wf g0 ⟨w',φ',L',C.X⟩/\Sim ⟨w',φ',L',C.X⟩/\Ext C ⟨w',φ',L',C.X⟩/\VR ⟨w',φ',L',C.X⟩ r v
abbrev zfW:=Nat->List IV->List Blk->(IV->List Blk->Prop)->Prop
structure Env where
 /-- Slots below that are not written;what they hold;what has been deferred ('none':nothing but the marks of loops over functions). -/
 lo:Nat:=0
 kept:Nat->Value:=fun _=>undef
 base:Option (List Deferred):=none
 /-- What is to hold where the function panics. -/
 pan:IV->List Blk->Prop
 P:Program
 g0:Nat
 G:World->Prop
 hG:∀w w':World,(∀b,b<g0->w'.heap[b]?=w.heap[b]?)->G w->G w'
 /-- What a package-level variable holds,as far as it is known:plain cells. -/
 gl:Nat->Option (List IV)
 hgl:∀(w:World) (n:Nat) (cs:List IV),G w->gl n=some cs->∀(j:Nat) (y:IV),cs[j]?=some y->∃u,w.cell? ⟨n,j,none⟩=some u/\∀C:Ctx,VR C y u
 yl:zfW
 hylm:∀(s:Nat) (args:List IV) (L:List Blk) (K K':IV->List Blk->Prop),(∀v L',K v L'->K' v L')->yl s args L K->yl s args L K'
 hyl:∀(C:Ctx) (s:Nat) (args:List IV) (vs:List Value) (K:IV->List Blk->Prop),Wf g0 C->Sim C->G C.w->args.length=vs.length->
  (∀(i:Nat) (x:IV),args[i]?=some x->VR C x (vs.getD i undef))->yl s args C.L K->
  ∃fn tmps asg body,(Instr.yield (C.φ s).blk vs.toArray).run P C.w=.ok (.round (C.φ s).blk fn tmps asg body) C.w/\
   ∀F,FOk F->RoundIn F 0 P (C.φ s).blk fn tmps asg body C.w fun e w'=>∃v,e=.returned v/\zcy g0 C K v w'
abbrev Ren:=Nat->Option (Option Nat)
def Ren.inner (m:Ren):Ren:=fun s=>match m s with | some none=>some none | _=>none
def conv (L:List Blk):Nat->Ren->IV->Option IV
 | 0,_,_=>none
 | n+1,m,.ptr s r o=>match m s with
  | some (some t)=>some (.ptr t r o)
  | some none=>match L[s]? with
   | some (.cells _ rows)=>(zJ (zJ (conv L n m.inner)) rows).map fun rs=>.iptr rs r o
   | some (.tcells _ _ rows)=>(zJ (zJ (conv L n m.inner)) rows).map fun rs=>.iptr rs r o
   | _=>none
  | none=>none
 | n+1,m,.sl s off len cap=>match m s with
  | some (some t)=>some (.sl t off len cap)
  | some none=>match L[s]? with
   | some (.cells _ rows)=>if off+len<=rows.length then (zJ (zJ (conv L n m.inner)) ((rows.drop off).take len)).map .isl else none
   | some (.tcells _ _ rows)=>if off+len<=rows.length then (zJ (zJ (conv L n m.inner)) ((rows.drop off).take len)).map .isl else none
   | _=>none
  | none=>none
 | _+1,m,.mp s=>match m s with
  | some (some t)=>some (.mp t)
  | _=>none
 | _+1,m,.yld s=>match m s with
  | some (some t)=>some (.yld t)
  | _=>none
 | _+1,_,.nsl=>some (.isl [])
 | _+1,_,.esl=>some (.isl [])
 | n+1,m,.agg cs=>(zJ (conv L n m) cs).map .agg
 | n+1,m,.tup cs=>(zJ (conv L n m) cs).map .tup
 | n+1,m,.fn f a b=>match zJ (conv L n m) a,zJ (conv L n m) b with
  | some a',some b'=>some (.fn f a' b')
  | _,_=>none
 | n+1,m,.iface t v=>(conv L n m v).map (.iface t)
 | _+1,_,x=>some x
def Y4 (L:List Blk) (n:Nat) (m:Ren):Blk->Option Blk
 | .cells sz rows=>(zJ (zJ (conv L n m)) rows).map (.cells sz)
 | .siter s p=>some (.siter s p)
 | .tcells ty sz rows=>(zJ (zJ (conv L n m)) rows).map (.tcells ty sz)
 | .dead=>some .dead
 | .unborn=>some .unborn
 | .map _ _=>none
 | .mit _=>none
 | .lp r l=>(zJ (conv L n m) l).map (.lp r)
def yV:IV->Bool
 | .isl rows=>rows.isEmpty
 | .iptr ..=>false
 | .agg cs | .tup cs=>noTreeL cs
 | .fn _ a b=>noTreeL a&&noTreeL b
 | .iface _ v=>yV v
 | _=>true
 where
 noTreeL:List IV->Bool
  | []=>true
  | x::r=>yV x&&noTreeL r
def jb:Blk->Bool
 | .cells _ rows=>rows.all yV.noTreeL
 | .tcells _ _ rows=>rows.all yV.noTreeL
 | .map _ _=>false
 | .mit _=>false
 | .lp ..=>false
 | _=>true
def Jo (P : Program) (f : FuncId) : Prop := ∃ fn, P.funcs[f]? = some fn ∧ fn.name ≠ "runtime.NumGoroutine" ∧ fn.body.isNone = false
def XT (E:Env) (f:FuncId) (args:List IV) (L:List Blk) (R:IV->List Blk->Prop):Prop:=
 Jo E.P f/\∀(w:World) (φ:Nat->Loc) (X:Nat->Prop) (vs:List Value),Wf E.g0 ⟨w,φ,L,X⟩->Sim ⟨w,φ,L,X⟩->E.G w->args.length=vs.length->
  (∀(i:Nat) (x:IV),args[i]?=some x->VR ⟨w,φ,L,X⟩ x (vs.getD i undef))->
  Calls E.P f vs.toArray w fun e w'=>∃r L' φ' v,R r L'/\e=.returned v/\Wf E.g0 ⟨w',φ',L',X⟩/\Sim ⟨w',φ',L',X⟩/\
   Ext ⟨w,φ,L,X⟩ ⟨w',φ',L',X⟩/\VR ⟨w',φ',L',X⟩ r v
def z1V (P:Program) (N:Nat) (ps:List Nat) (asg body:XC) (r:Loop):Prop:=
 r.params.toList=ps/\comp P N r.assign=some asg/\comp P N r.body=some body/\r.tmps.size=N
def XTP (E:Env) (f:FuncId) (args:List IV) (L:List Blk) (R Q:IV->List Blk->Prop):Prop:=
 Jo E.P f/\∀(w:World) (φ:Nat->Loc) (X:Nat->Prop) (vs:List Value),Wf E.g0 ⟨w,φ,L,X⟩->Sim ⟨w,φ,L,X⟩->E.G w->args.length=vs.length->
  (∀(i:Nat) (x:IV),args[i]?=some x->VR ⟨w,φ,L,X⟩ x (vs.getD i undef))->
  Calls E.P f vs.toArray w fun e w'=>∃r L' φ' v,Wf E.g0 ⟨w',φ',L',X⟩/\Sim ⟨w',φ',L',X⟩/\Ext ⟨w,φ,L,X⟩ ⟨w',φ',L',X⟩/\VR ⟨w',φ',L',X⟩ r v/\
   ((R r L'/\e=.returned v)\/(Q r L'/\e=.panicked [{ v,recovered:=false }]))
def zD (E:Env) (f:FuncId) (args:List IV) (r:IV):Prop:=XT E f args [] fun r' L'=>r'=r/\L'=[]
def fuel:Nat:=12
def Za:Ren:=fun _=>none
def zF:Ren:=fun _=>some none
def ZR (n:Nat):Ren:=fun s=>some (some (s+n))
def zd2 (E:Env) (f:FuncId) (args:List IV) (L:List Blk) (K:IV->List Blk->Prop):Prop:=
 ∃b args',zJ (conv L fuel (if b then zF else Za)) args=some args'/\
  XT E f args' [] fun r L1=>(b=true->yV r=true/\L1.all jb=true)/\
   ∃r' L1',conv L1 fuel (ZR L.length) r=some r'/\zJ (Y4 L1 fuel (ZR L.length)) L1=some L1'/\K r' (L++L1')
def ze1 (E:Env) (f:FuncId) (args:List IV) (r:IV):Prop:=
 ∀(C:Ctx) (vs:List Value),E.G C.w->args.length=vs.length->(∀(i:Nat) (x:IV),args[i]?=some x->VR C x (vs.getD i undef))->
  ∃v,(callFunc f vs.toArray).run E.P C.w=.ok (.value v) C.w/\VR C r v
def pos:List Nat->Nat->Nat->Option Nat
 | [],_,_=>none
 | k::r,s,i=>if s=k then some i else pos r s (i+1)
theorem wP:∀{l:List Nat} {s i j:Nat},pos l s i=some j->∃d,j=i+d/\l[d]?=some s
 | [],_,_,_,h=>by cases h
 | k::r,s,i,j,h=>by
  simp only [pos] at h
  split at h
  ·rename_i b;subst b;simp only [sij] at h;subst h;exact ⟨0,rfl,rfl⟩
  ·obtain ⟨d,h1,h2⟩:=wP h
   exact ⟨d+1,od,by simpa using h2⟩
theorem jU:∀{l:List Nat} {s i:Nat},pos l s i=none->s∉l
 | [],_,_,_=>by simp
 | k::r,s,i,h=>by
  simp only [pos] at h
  split at h
  ·cases h
  ·rename_i b
   have:=jU h
   simp [b,this]
def JY (sel dl:List Nat) (b:Bool):Ren:=fun s=>match pos sel s 0 with
 | some i=>some (some i)
 | none=>if b||dl.contains s then some none else none
def vU (sel:List Nat) (n:Nat):Ren:=fun i=>some (some (if i<sel.length then sel.getD i 0 else n+(i - sel.length)))
def zby:List Nat->List Blk->List Blk->List Blk
 | s::ss,k::ks,L=>zby ss ks (L.set s k)
 | _,_,L=>L
def z1L:List Nat->List Blk->List Blk
 | [],L=>L
 | s::ss,L=>z1L ss (L.set s .dead)
def zex (L:List Blk) (s:Nat):Prop:=∃k,L[s]?=some k/\k.alive=true
def Back (sel dl:List Nat) (b:Bool) (L:List Blk) (K:IV->List Blk->Prop) (r:IV) (L1:List Blk):Prop:=
 (b=true->yV r=true/\L1.all jb=true)/\
  ∃r' L1',conv L1 fuel (vU sel L.length) r=some r'/\zJ (Y4 L1 fuel (vU sel L.length)) L1=some L1'/\K r' (z1L dl (zby sel L1' L)++L1'.drop sel.length)
def zdg (E:Env) (f:FuncId) (args:List IV) (L:List Blk) (K:IV->List Blk->Prop):Prop:=
 ∃sel dl b args' L0,sel.Nodup/\(∀s∈sel,zex L s/\s∉dl)/\(b=true->dl=[])/\zJ (conv L fuel (JY sel dl b)) args=some args'/\
  zJ (Y4 L fuel (JY sel dl b)) (sel.map fun s=>L.getD s .dead)=some L0/\XTP E f args' L0 (Back sel dl b L K) (Back sel dl b L E.pan)
def XTX (E:Env) (f:FuncId) (args:List IV) (L:List Blk) (K:IV->List Blk->Prop):Prop:=
 ∀(w:World) (φ:Nat->Loc) (X:Nat->Prop) (vs:List Value),Wf E.g0 ⟨w,φ,L,X⟩->Sim ⟨w,φ,L,X⟩->E.G w->args.length=vs.length->
  (∀(i:Nat) (x:IV),args[i]?=some x->VR ⟨w,φ,L,X⟩ x (vs.getD i undef))->
  ∃r L' φ' v w',(callFunc f vs.toArray).run E.P w=.ok (.value v) w'/\K r L'/\Wf E.g0 ⟨w',φ',L',X⟩/\Sim ⟨w',φ',L',X⟩/\Ext ⟨w,φ,L,X⟩ ⟨w',φ',L',X⟩/\VR ⟨w',φ',L',X⟩ r v
def vJ (E:Env) (f:FuncId) (args:List IV) (L:List Blk) (K:IV->List Blk->Prop):Prop:=
 zd2 E f args L K\/(∃r,ze1 E f args r/\K r L)\/zdg E f args L K\/XTP E f args L K E.pan\/XTX E f args L K
abbrev Rho:=Nat->IV
def put (ρ:Rho) (d:Option Nat) (v:IV):Rho:=
 match d with
 | none=>ρ
 | some d=>fun n=>if n=d then v else ρ n
def Opd.ev (ρ:Rho):Opd->IV
 | .t n=>ρ n
 | .c v=>v
 | .g n=>.raw (.pointer (some ⟨n,0,none⟩))
 | .f n=>.fn (.func n) [] []
def splice {α:Type} (l:List α) (i:Nat) (xs:List α):List α:=l.take i++xs++l.drop (i+xs.length)
def z0i:List IV->List (Nat × Nat × IV)->Option (List IV)
 | cs,[]=>some cs
 | cs,(off,n,v)::r=>if (cellsOf v).length=n/\off+n<=cs.length then z0i (splice cs off (cellsOf v)) r else none
def Zn (sz:Nat):List (List IV)->List (Nat × IV)->Option (List (List IV))
 | rows,[]=>some rows
 | rows,(i,v)::r=>if (cellsOf v).length=sz/\i<rows.length then Zn sz (rows.set i (cellsOf v)) r else none
def y8 (gl:Nat->Option (List IV)) (L:List Blk):IV->Option (List (List IV) × Nat × Nat)
 | .raw (.pointer (some ⟨n,o,none⟩))=>match gl n with
  | some cs=>some ([cs],0,o)
  | none=>none
 | .ptr s r o=>match L[s]? with
  | some (.cells _ rows)=>some (rows,r,o)
  | some (.tcells _ _ rows)=>some (rows,r,o)
  | _=>none
 | .iptr rows r o=>some (rows,r,o)
 | _=>none
def lenOf:IV->Option Nat
 | .isl rows=>some rows.length
 | .sl _ _ len _=>some len
 | .esl=>some 0
 | .nsl=>some 0
 | .raw (.slice none 0 0)=>some 0
 | _=>none
def rowsOf (L:List Blk):IV->Option (List (List IV))
 | .str s=>some (s.map fun b=>[.int .u8 b.toNat])
 | .isl rows=>some rows
 | .sl s off len _=>match L[s]? with
  | some (.cells _ rows)=>if off+len<=rows.length then some ((rows.drop off).take len) else none
  | some (.tcells _ _ rows)=>if off+len<=rows.length then some ((rows.drop off).take len) else none
  | _=>none
 | .esl=>some []
 | .nsl=>some []
 | _=>none
def VM (op:BinOp) (x y:IV) (K:IV->Prop):Prop:=
 match op,x,y with
 | .shl,.int k a,.int _ b=>0<=b/\K (.int k (k.wrap (a*2^min b.toNat k.bits)))
 | .shr,.int k a,.int _ b=>0<=b/\K (.int k (a.fdiv (2^min b.toNat k.bits)))
 | .add,.int k a,.int k' b=>k=k'/\K (.int k (k.wrap (a+b)))
 | .sub,.int k a,.int k' b=>k=k'/\K (.int k (k.wrap (a - b)))
 | .mul,.int k a,.int k' b=>k=k'/\K (.int k (k.wrap (a*b)))
 | .quo,.int k a,.int k' b=>k=k'/\b≠0/\K (.int k (k.wrap (a.tdiv b)))
 | .rem,.int k a,.int k' b=>k=k'/\b≠0/\K (.int k (a.tmod b))
 | .and,.int k a,.int k' b=>k=k'/\K (.int k (k.wrap (BitVec.ofInt k.bits a&&&BitVec.ofInt k.bits b).toNat))
 | .or,.int k a,.int k' b=>k=k'/\K (.int k (k.wrap (BitVec.ofInt k.bits a|||BitVec.ofInt k.bits b).toNat))
 | .xor,.int k a,.int k' b=>k=k'/\K (.int k (k.wrap (BitVec.ofInt k.bits a^^^BitVec.ofInt k.bits b).toNat))
 | .eql,.int k a,.int k' b=>k=k'/\K (.bool (decide (a=b)))
 | .neq,.int k a,.int k' b=>k=k'/\K (.bool (!decide (a=b)))
 | .lss,.int k a,.int k' b=>k=k'/\K (.bool (decide (a<b)))
 | .leq,.int k a,.int k' b=>k=k'/\K (.bool (decide (a<=b)))
 | .gtr,.int k a,.int k' b=>k=k'/\K (.bool (decide (b<a)))
 | .geq,.int k a,.int k' b=>k=k'/\K (.bool (decide (b<=a)))
 | .add,.str a,.str b=>a.length+b.length<=9223372036854775807/\K (.str (a++b))
 | .eql,.str a,.str b=>K (.bool (decide (a=b)))
 | .neq,.str a,.str b=>K (.bool (!decide (a=b)))
 | .lss,.str a,.str b=>K (.bool (Op.bytesLess a b))
 | .geq,.str a,.str b=>K (.bool (!Op.bytesLess a b))
 | .gtr,.str a,.str b=>K (.bool (!(Op.bytesLess a b||decide (a=b))))
 | .leq,.str a,.str b=>K (.bool (Op.bytesLess a b||decide (a=b)))
 | .andNot,.int k a,.int k' b=>k=k'/\K (.int k (k.wrap (BitVec.ofInt k.bits a&&&~~~BitVec.ofInt k.bits b).toNat))
 | op,.raw u,.raw v=>∃r,wE op u v=some r/\K r
 | _,_,_=>False
theorem z5L {op:BinOp} {u v:Value} {K:IV->Prop}:VM op (.raw u) (.raw v) K=∃r,wE op u v=some r/\K r:=by cases op<;>rfl
def xun (op:UnOp) (x:IV) (K:IV->Prop):Prop:=
 match op,x with
 | .not,.bool b=>K (.bool !b)
 | .neg,.int k n=>K (.int k (k.wrap (0 - n)))
 | .xor,.int k n=>K (.int k (k.wrap (BitVec.ofInt k.bits (if k.signed then -1 else k.max)^^^BitVec.ofInt k.bits n).toNat))
 | .neg,.raw v=>∃r,zb2 v=some r/\K (.raw r)
 | _,_=>False
def Rows (n:Nat) (rows:List (List IV)):Prop:=∀row∈rows,row.length=n
def yz (n:Nat) (rows:List (List IV)):Prop:=∀row∈rows,row.length=n/\row.all zG=true
def Yk (L:List Blk) (s:Nat):Option Nat:=
 match L[s]? with
 | some (.cells sz _)=>some sz
 | some (.tcells _ sz _)=>some sz
 | _=>none
def ZQ (sz bytes:Nat) (s x:IV) (L:List Blk) (K:IV->List Blk->Prop):Prop:=
 match rowsOf L x with
 | none=>False
 | some rs=>yz sz rs/\
  match s with
  | .nsl | .esl=>(rs=[]->K s L)/\(rs≠[]->rs.length*bytes<=70368744177664/\K (.sl L.length 0 rs.length rs.length) (L++[.cells sz rs]))
  | .sl t off len cap=>match L[t]? with
   | some (.cells sz' rows)=>sz'=sz/\off+cap<=rows.length/\
    if len+rs.length<=cap then K (.sl t off (len+rs.length) cap) (L.set t (.cells sz (splice rows (off+len) rs)))
    else (len+rs.length)*bytes<=70368744177664/\
     K (.sl L.length 0 (len+rs.length) (len+rs.length)) (L.set t .dead++[.cells sz ((rows.drop off).take len++rs)])
   | _=>False
  | _=>False
def ZP (sz bytes:Nat) (s x:IV) (g:Nat) (lay:List Blk->Blk->List Blk) (L:List Blk) (K:IV->List Blk->Prop):Prop:=
 match rowsOf L x with
 | none=>False
 | some rs=>yz sz rs/\
  match s with
  | .nsl | .esl=>(rs=[]->K s L)/\(rs≠[]->rs.length*bytes<=70368744177664/\K (.sl g 0 rs.length rs.length) (lay L (.cells sz rs)))
  | .sl t off len cap=>match L[t]? with
   | some (.cells sz' rows)=>sz'=sz/\off+cap<=rows.length/\
    if len+rs.length<=cap then K (.sl t off (len+rs.length) cap) (L.set t (.cells sz (splice rows (off+len) rs)))
    else (len+rs.length)*bytes<=70368744177664/\
     K (.sl g 0 (len+rs.length) (len+rs.length)) (lay (L.set t .dead) (.cells sz ((rows.drop off).take len++rs)))
   | _=>False
  | _=>False
def zdH (k:Nat) (x:IV) (K:Bool->Prop):Prop:=
 match k,x with
 | 0,.nsl=>K true
 | 0,.esl=>K true/\K false
 | 0,.isl rows=>K false/\(rows=[]->K true)
 | 0,.sl _ _ _ cap=>K false/\(cap=0->K true)
 | 1,.iface _ _=>K false
 | 1,.raw .nilIface=>K true
 | 1,.raw (.iface _ _)=>K false
 | 2,.fn _ _ _=>K false
 | 2,.raw .nilFunc=>K true
 | _,_=>False
def ofInt:IV->Option Int
 | .int _ n=>some n
 | _=>none
def bnd (x:Option IV) (d:Nat) (K:Nat->Prop):Prop:=
 match x with
 | none=>K d
 | some (.int _ n)=>0<=n/\K n.toNat
 | _=>False
def zk (s:List UInt8):List (List IV):=s.map fun b=>[.int .u8 b.toNat]
def byteOf:List IV->Option UInt8
 | [.int .u8 n]=>if n=((UInt8.ofNat n.toNat).toNat:Int) then some (UInt8.ofNat n.toNat) else none
 | _=>none
def yG (L:List Blk):IV->Option (List (List IV))
 | .str _=>none
 | x=>rowsOf L x
def yx:List Nat->List IV->List IV->Option Bool
 | [],[],[]=>some true
 | 0::ks,.int k a::r,.int k' b::r'=>if k=k' then (yx ks r r').map (decide (a=b)&&·) else none
 | 1::ks,.str a::r,.str b::r'=>(yx ks r r').map (decide (a=b)&&·)
 | 2::ks,.bool a::r,.bool b::r'=>(yx ks r r').map (decide (a=b)&&·)
 | _,_,_=>none
def vI:IV->IV->Option Bool
 | .ptr s r o,.ptr s' r' o'=>if s=s'/\r=r'/\o=o' then some true else none
 | .ptr ..,.raw (.pointer none)=>some false
 | .raw (.pointer none),.ptr ..=>some false
 | .iptr ..,.raw (.pointer none)=>some false
 | .raw (.pointer none),.raw (.pointer none)=>some true
 | _,_=>none
def Z4 (L:List Blk) (g:Nat) (k:Blk):List Blk:=if g=L.length then L++[k] else L.set g k
def Yj (ty bytes:Nat) (s x:IV) (g:Nat) (L:List Blk) (K:IV->List Blk->Prop):Prop:=
 match rowsOf L x with
 | none=>False
 | some rs=>yz 1 rs/\
  match s with
  | .nsl=>(rs=[]->K s L)/\(rs≠[]->rs.length*bytes<=70368744177664/\K (.sl g 0 rs.length rs.length) (Z4 L g (.tcells ty 1 rs)))
  | .raw (.slice none 0 0)=>(rs=[]->K s L)/\(rs≠[]->rs.length*bytes<=70368744177664/\K (.sl g 0 rs.length rs.length) (Z4 L g (.tcells ty 1 rs)))
  | .sl t off len cap=>off=0/\len=cap/\match L[t]? with
   | some (.tcells ty' sz' rows)=>ty'=ty/\sz'=1/\rows.length=len/\(rs=[]->K s L)/\
     (rs≠[]->(len+rs.length)*bytes<=70368744177664/\K (.sl g 0 (len+rs.length) (len+rs.length)) (Z4 (L.set t .dead) g (.tcells ty 1 (rows++rs))))
   | some (.cells _ _)=>ZP 1 bytes s x g (fun L' k=>Z4 L' g k) L K
   | _=>False
  | _=>False
def isKey (st:Bool):IV->Bool
 | .int _ _=>!st
 | .str _=>st
 | _=>false
def kEq:IV->IV->Option Bool
 | .int k a,.int k' b=>if k=k' then some (decide (a=b)) else none
 | .str a,.str b=>some (decide (a=b))
 | _,_=>none
def yR (k:IV):List (IV × IV × Nat)->Nat->Option (Option Nat)
 | [],_=>some none
 | e::r,i=>match kEq k e.1 with
  | some true=>some (some i)
  | some false=>yR k r (i+1)
  | none=>none
def vT (st:Bool) (m k:IV) (L:List Blk) (K:Nat->List (IV × IV × Nat)->Nat->Option Nat->Prop):Prop:=
 match m with
 | .mp s=>isKey st k=true/\match L[s]? with
  | some (.map es c)=>match yR k es 0 with
   | some r=>K s es c r
   | none=>False
  | _=>False
 | _=>False
def wK (ok:Bool) (r:IV) (b:Bool):IV:=if ok then .tup [r,.bool b] else r
def jB (st:Bool) (zero:IV) (ok:Bool) (m k:IV) (L:List Blk) (K:IV->List Blk->Prop):Prop:=vT st m k L fun _ es _ r=>match r with
 | some i=>K (wK ok (es.getD i default).2.1 true) L
 | none=>K (wK ok zero false) L
def zcL (st:Bool) (m k v:IV) (L:List Blk) (K:IV->List Blk->Prop):Prop:=vT st m k L fun s es c r=>match r with
 | some i=>K .und (L.set s (.map (es.set i (k,v,(es.getD i default).2.2)) c))
 | none=>K .und (L.set s (.map (es++[(k,v,c)]) (c+1)))
def zcD (st:Bool) (m k:IV) (L:List Blk) (K:IV->List Blk->Prop):Prop:=vT st m k L fun s es c r=>match r with
 | some i=>K (.tup []) (L.set s (.map (es.eraseIdx i) c))
 | none=>K (.tup []) (L.set s (.map es c))
def z3y (sz:Nat) (d x:IV) (L:List Blk) (K:IV->List Blk->Prop):Prop:=
 match d with
 | .sl t off len _=>match rowsOf L x with
  | some rs=>rs.length<=len/\yz sz rs/\(rs=[]->K (.int .i64 0) L)/\(rs≠[]->match L[t]? with
   | some (.cells sz' rows)=>sz'=sz/\off+rs.length<=rows.length/\K (.int .i64 rs.length) (L.set t (.cells sz' (splice rows off rs)))
   | some (.tcells ty sz' rows)=>sz'=sz/\off+rs.length<=rows.length/\K (.int .i64 rs.length) (L.set t (.tcells ty sz' (splice rows off rs)))
   | _=>False)
  | none=>False
 | _=>False
def zh3 (z:List IV) (d:IV) (L:List Blk) (K:IV->List Blk->Prop):Prop:=
 match d with
 | .sl t off len _=>(len=0->K (.tup []) L)/\(len≠0->match L[t]? with
  | some (.cells sz rows)=>z.length=sz/\z.all zG=true/\off+len<=rows.length/\K (.tup []) (L.set t (.cells sz (splice rows off (List.replicate len z))))
  | _=>False)
 | _=>False
def xex (E:Env) (k:XX) (vs:List IV) (g:Nat) (L:List Blk) (K:IV->List Blk->Prop):Prop:=
 match k with
 | .panic=>match vs with
  | [.iface t v]=>E.pan (.iface t v) L
  | _=>False
 | .mkif t=>match vs with
  | [v]=>K (.iface t v) L
  | _=>False
 | .strB ty=>match vs with
  | [.str s]=>s.length<=9223372036854775807/\K (.sl g 0 s.length s.length) (Z4 L g (.tcells ty 1 (zk s)))
  | _=>False
 | .bStr=>match vs with
  | [v]=>match (yG L v).bind (zJ byteOf) with
   | some s=>K (.str s) L
   | none=>False
  | _=>False
 | .tas t=>match vs with
  | [.iface t' v]=>if t'=t then K (.tup [v,.bool true]) L else False
  | _=>False
 | .ru op=>match vs with
  | [.raw v]=>∃r,z4G op v=some r/\K r L
  | _=>False
 | .itof f=>match vs with
  | [.int _ n]=>K (.raw (.float f (floatOfInt f n))) L
  | _=>False
 | .cpx=>match vs with
  | [.raw (.float k a),.raw (.float k' b)]=>k=k'/\K (.raw (.complex k a b)) L
  | _=>False
 | .mmake=>K (.mp g) (Z4 L g (.map [] 0))
 | .mlook st zero ok=>match vs with
  | [.raw (.map none),k]=>isKey st k=true/\K (wK ok zero false) L
  | [m,k]=>jB st zero ok m k L K
  | _=>False
 | .mset st=>match vs with
  | [m,k,v]=>zcL st m k v L K
  | _=>False
 | .mdel st=>match vs with
  | [m,k]=>zcD st m k L K
  | _=>False
 | .copy sz=>match vs with
  | [d,x]=>z3y sz d x L K
  | _=>False
 | .sl3 sz=>match vs with
  | [.sl s off len cap,.int _ l,.int _ h,.int _ m]=>Yk L s=some sz/\0<=l/\l<=h/\h<=m/\m<=cap/\K (.sl s (off+l.toNat) (h - l).toNat (m - l).toNat) L
  | _=>False
 | .sla n=>match vs with
  | [.ptr s 0 0,.int _ l]=>match L[s]? with
   | some (.cells m [row])=>m=n/\(∀c∈row,∃k v,c=.int k v)/\row.length=n/\0<=l/\l<=n/\K (.isl ((row.drop l.toNat).map fun c=>[c])) (L.set s .dead)
   | _=>False
  | _=>False
 | .no=>False
 | .clr z=>match vs with
  | [d]=>zh3 z d L K
  | _=>False
 | .mrng=>match vs with
  | [.mp s]=>match L[s]? with
   | some (.map _ _)=>K (.ptr g 0 0) (Z4 L g (.mit s))
   | _=>False
  | _=>False
 | .mnxt=>match vs with
  | [.ptr t 0 0]=>match L[t]? with
   | some (.mit s)=>match L[s]? with
    | some (.map [] _)=>K (.tup [.bool false]) L
    | _=>False
   | _=>False
  | _=>False
 | .eqA neg ks=>match vs with
  | [.agg a,.agg b]=>match yx ks a b with
   | some t=>K (.bool (if neg then !t else t)) L
   | none=>False
  | _=>False
 | .eqP neg=>match vs with
  | [x,y]=>match vI x y with
   | some t=>K (.bool (if neg then !t else t)) L
   | none=>False
  | _=>False
 | .appT ty bytes=>match vs with
  | [s,x]=>Yj ty bytes s x g L K
  | _=>False
def xop (E:Env) (o:XO) (e:Opd->IV) (L:List Blk) (K:IV->List Blk->Prop):Prop:=
 match o with
 | .mov x=>K (e x) L
 | .pick c a b=>match e c with
  | .bool t=>K (if t then e a else e b) L
  | _=>False
 | .alloc zero=>K (.ptr L.length 0 0) (L++[.cells zero.length [zero]])
 | .box x=>K (.ptr L.length 0 0) (L++[.cells (cellsOf (e x)).length [cellsOf (e x)]])
 | .build zero parts=>match z0i zero (parts.map fun p=>(p.1,p.2.1,e p.2.2)) with
  | some cs=>K (.agg cs) L
  | none=>False
 | .bslice sz zero len parts=>zero.length=sz/\match Zn sz (List.replicate len zero) (parts.map fun p=>(p.1,e p.2)) with
  | some rows=>K (.sl L.length 0 len len) (L++[.cells sz rows])
  | none=>False
 | .load1 a=>match y8 E.gl L (e a) with
  | some (rows,r,o)=>r<rows.length/\o<(rows.getD r []).length/\K ((rows.getD r []).getD o .und) L
  | none=>False
 | .loadN n a=>match y8 E.gl L (e a) with
  | some (rows,r,o)=>r<rows.length/\o+n<=(rows.getD r []).length/\K (.agg (((rows.getD r []).drop o).take n)) L
  | none=>False
 | .store n a x=>match e a with
  | .ptr s r o=>match L[s]? with
   | some (.cells sz rows)=>r<rows.length/\o+n<=(rows.getD r []).length/\(cellsOf (e x)).length=n/\(cellsOf (e x)).all zG=true/\
    K .und (L.set s (.cells sz (rows.set r (splice (rows.getD r []) o (cellsOf (e x))))))
   | some (.tcells ty sz rows)=>r<rows.length/\o+n<=(rows.getD r []).length/\(cellsOf (e x)).length=n/\(cellsOf (e x)).all zG=true/\
    K .und (L.set s (.tcells ty sz (rows.set r (splice (rows.getD r []) o (cellsOf (e x))))))
   | _=>False
  | _=>False
 | .nilck x=>match e x with
  | .ptr s r o=>K (.ptr s r o) L
  | .iptr rows r o=>K (.iptr rows r o) L
  | .fn (.func f) a b=>K (.fn (.func f) a b) L
  | .raw (.pointer (some ⟨n,o,none⟩))=>K (.raw (.pointer (some ⟨n,o,none⟩))) L
  | _=>False
 | .bin op x y=>VM op (e x) (e y) fun v=>K v L
 | .eqB neg x y=>match e x,e y with
  | .bool a,.bool b=>K (.bool (if neg then !decide (a=b) else decide (a=b))) L
  | _,_=>False
 | .un op x=>xun op (e x) fun v=>K v L
 | .cvInt k x=>match e x with
  | .int _ n=>K (.int k (k.wrap n)) L
  | _=>False
 | .cvIntStr x=>match e x with
  | .int _ n=>K (.str (Utf8.encode n).data.toList) L
  | _=>False
 | .fldA off x=>match e x with
  | .ptr s r o=>K (.ptr s r (o+off)) L
  | .iptr rows r o=>K (.iptr rows r (o+off)) L
  | .raw (.pointer (some ⟨n,o,none⟩))=>K (.raw (.pointer (some ⟨n,o+off,none⟩))) L
  | _=>False
 | .idxS m x i=>match e x,e i with
  | .isl rows,.int _ n=>Rows m rows/\0<=n/\n<rows.length/\K (.iptr rows n.toNat 0) L
  | .sl s off len _,.int _ n=>Yk L s=some m/\0<=n/\n<len/\K (.ptr s (off+n.toNat) 0) L
  | _,_=>False
 | .idxA m sz x i=>match e x,e i with
  | .ptr s r o,.int _ n=>0<=n/\n<m/\K (.ptr s r (o+n.toNat*sz)) L
  | .iptr rows r o,.int _ n=>0<=n/\n<m/\K (.iptr rows r (o+n.toNat*sz)) L
  | .raw (.pointer (some ⟨b,o,none⟩)),.int _ n=>0<=n/\n<m/\K (.raw (.pointer (some ⟨b,o+n.toNat*sz,none⟩))) L
  | _,_=>False
 | .idx x i=>match e x,e i with
  | .str s,.int _ n=>0<=n/\n<s.length/\K (.int .u8 (s.getD n.toNat 0).toNat) L
  | _,_=>False
 | .slice m x lo hi=>match e x with
  | .isl rows=>Rows m rows/\bnd (lo.map e) 0 fun l=>bnd (hi.map e) rows.length fun h=>l<=h/\h<=rows.length/\K (.isl ((rows.take h).drop l)) L
  | .sl s off len cap=>Yk L s=some m/\bnd (lo.map e) 0 fun l=>bnd (hi.map e) len fun h=>l<=h/\h<=cap/\K (.sl s (off+l) (h - l) (cap - l)) L
  | .esl=>bnd (lo.map e) 0 fun l=>bnd (hi.map e) 0 fun h=>l=0/\h=0/\K .esl L
  | .nsl=>bnd (lo.map e) 0 fun l=>bnd (hi.map e) 0 fun h=>l=0/\h=0/\K .nsl L
  | _=>False
 | .sliceS x lo hi=>match e x with
  | .str s=>bnd (lo.map e) 0 fun l=>bnd (hi.map e) s.length fun h=>l<=h/\h<=s.length/\K (.str ((s.take h).drop l)) L
  | _=>False
 | .mkfn f a b=>K (.fn f (a.map e) (b.map e)) L
 | .len x=>match lenOf (e x) with
  | some n=>K (.int .i64 n) L
  | none=>False
 | .lenS x=>match e x with
  | .str s=>K (.int .i64 s.length) L
  | _=>False
 | .append sz bytes s x=>ZQ sz bytes (e s) (e x) L K
 | .max2 x y=>match e x,e y with
  | .int k a,.int _ b=>K (.int k (if b>a then b else a)) L
  | _,_=>False
 | .call f args=>match e f with
  | .fn (.func n) a b=>vJ E n (a++args.map e++b) L K
  | .yld s=>E.yl s (args.map e) L K
  | _=>False
 | .pcall f args=>match e f with
  | .fn (.func n) a b=>(∃fz args' r,zJ (conv L fuel (if fz then zF else Za)) (a++args.map e++b)=some args'/\zD E n args' r/\(fz=true->yV r=true)/\(∀m,conv [] fuel (ZR m) r=some r)/\K r L)\/
    (∃r,zJ (conv L fuel Za) (a++args.map e++b)=none/\(∀L',(∀i,i<L.length->L'[i]?=L[i]?)->XT E n (a++args.map e++b) L' fun v L''=>v=r/\L''=L')/\K r L)
  | _=>False
 | .isNil k neg x=>zdH k (e x) fun b=>K (.bool (if neg then !b else b)) L
 | .ext t i=>match e t with
  | .tup cs=>i<cs.length/\K (cs.getD i .und) L
  | _=>False
 | .ex k xs=>xex E k (xs.map e) L.length L K
def Free (L:List Blk) (g:Nat):Prop:=g=L.length\/L[g]?=some .unborn
theorem Zw (L:List Blk) (k:Blk):Z4 L L.length k=L++[k]:=if_pos rfl
def z1p (E:Env) (o:XO) (e:Opd->IV) (g:Nat) (L:List Blk) (K:IV->List Blk->Prop):Prop:=
 match o with
 | .alloc zero=>K (.ptr g 0 0) (Z4 L g (.cells zero.length [zero]))
 | .box x=>K (.ptr g 0 0) (Z4 L g (.cells (cellsOf (e x)).length [cellsOf (e x)]))
 | .bslice sz zero len parts=>zero.length=sz/\match Zn sz (List.replicate len zero) (parts.map fun p=>(p.1,e p.2)) with
  | some rows=>K (.sl g 0 len len) (Z4 L g (.cells sz rows))
  | none=>False
 | .append sz bytes s x=>ZP sz bytes (e s) (e x) g (fun L k=>Z4 L g k) L K
 | .ex k xs=>xex E k (xs.map e) g L K
 | o=>xop E o e L K
theorem zaL {n m:Nat} {s x:IV} {L:List Blk} {K:IV->List Blk->Prop} (h:ZQ n m s x L K):ZP n m s x L.length (fun L' k=>Z4 L' L.length k) L K:=by
 have e:∀(t:Nat) (k b:Blk),Z4 (L.set t k) L.length b=L.set t k++[b]:=fun t k b=>by unfold Z4;rw [if_pos (by rw [lls])]
 unfold ZQ at h
 unfold ZP
 simp only [Zw,e]
 exact h
theorem ziH {E:Env} {o:XO} {e:Opd->IV} {L:List Blk} {K:IV->List Blk->Prop} (h:xop E o e L K):z1p E o e L.length L K:=by
 cases o with
 | append sz b s x=>exact zaL h
 | alloc z=>simp only [z1p,Zw];exact h
 | box x=>simp only [z1p,Zw];exact h
 | bslice=>simp only [z1p,Zw];exact h
 | _=>exact h
def Wp (E:Env):List zq->Rho->List Blk->(Rho->List Blk->Prop)->Prop
 | [],ρ,L,K=>K ρ L
 | o::r,ρ,L,K=>match o.guard with
  | none=>xop E o.op (Opd.ev ρ) L fun v L'=>Wp E r (put ρ o.dst v) L' K
  | some (t,want)=>match ρ t with
   | .bool b=>(b=want->xop E o.op (Opd.ev ρ) L fun v L'=>Wp E r (put ρ o.dst v) L' K)/\(b≠want->Wp E r (put ρ o.dst .und) L K)
   | .und=>Wp E r (put ρ o.dst .und) L K
   | _=>False
def slP:IV->List Nat
 | .ptr s _ _=>[s]
 | _=>[]
def slS:IV->List Nat
 | .sl s _ _ _=>[s]
 | _=>[]
def slM:IV->List Nat
 | .mp s=>[s]
 | _=>[]
def XO.rd (o:XO) (e:Opd->IV) (L:List Blk):List Nat:=
 match o with
 | .pcall f as=>match e f with
  | .fn _ a b=>match zJ (conv L fuel Za) (a++as.map e++b) with
   | some _=>[]
   | none=>List.range L.length
  | _=>[]
 | .load1 a | .loadN _ a=>slP (e a)
 | .idxS _ x _ | .slice _ x _ _=>slS (e x)
 | .store _ a _=>slP (e a)
 | .append _ _ s x=>slS (e s)++slS (e x)
 | .ex .bStr xs=>xs.flatMap fun x=>slS (e x)
 | .ex (.appT ..) xs=>xs.flatMap fun x=>slS (e x)
 | .ex (.mlook ..) xs=>xs.flatMap fun x=>slM (e x)
 | _=>[]
def XO.wr (o:XO) (e:Opd->IV):List Nat:=
 match o with
 | .store _ a _=>slP (e a)
 | .append _ _ s _=>slS (e s)
 | .ex (.appT ..) (s::_)=>slS (e s)
 | _=>[]
def YR (o:XO) (L L':List Blk):List Nat:=
 match o with
 | .alloc _ | .box _ | .bslice ..=>[L.length]
 | .append ..=>if L'.length=L.length then [] else [L.length]
 | .ex (.appT ..) _=>if L'.length=L.length then [] else [L.length]
 | .ex (.strB _) _=>[L.length]
 | _=>[]
def Ap (r1 w1 r2 w2:List Nat):Prop:=(∀i∈w1,i∉r2/\i∉w2)/\∀i∈w2,i∉r1/\i∉w1
def z7J (chk:List Nat) (r w:List Nat):List (Nat × List Nat × List Nat)->Prop
 | []=>True
 | (i,r1,w1)::lg=>(i∈chk->Ap r1 w1 r w)/\z7J chk r w lg
def yg (E:Env):Nat->List (Nat × List Nat × List Nat)->List (zq × List Nat × Bool)->Rho->List Blk->(Rho->List Blk->Prop)->Prop
 | _,_,[],ρ,L,K=>K ρ L
 | i,lg,(o,chk,keep)::r,ρ,L,K=>
  match o.guard with
  | none=>xop E o.op (Opd.ev ρ) L fun v L'=>z7J chk (o.op.rd (Opd.ev ρ) L++YR o.op L L') (o.op.wr (Opd.ev ρ)++YR o.op L L') lg/\
    yg E (i+1) (if keep then (i,o.op.rd (Opd.ev ρ) L++YR o.op L L',o.op.wr (Opd.ev ρ)++YR o.op L L')::lg else lg) r (put ρ o.dst v) L' K
  | some (t,want)=>match ρ t with
   | .bool b=>(b=want->xop E o.op (Opd.ev ρ) L fun v L'=>z7J chk (o.op.rd (Opd.ev ρ) L++YR o.op L L') (o.op.wr (Opd.ev ρ)++YR o.op L L') lg/\
     yg E (i+1) (if keep then (i,o.op.rd (Opd.ev ρ) L++YR o.op L L',o.op.wr (Opd.ev ρ)++YR o.op L L')::lg else lg) r (put ρ o.dst v) L' K)/\
    (b≠want->yg E (i+1) lg r (put ρ o.dst .und) L K)
   | .und=>yg E (i+1) lg r (put ρ o.dst .und) L K
   | _=>False
abbrev Run:=Rho->List Blk->(XE->Rho->List Blk->Prop)->Prop
def Yz (g:Nat->Option Run):Nat->XE->Rho->List Blk->(XE->Rho->List Blk->Prop)->Prop
 | n,.goto l,ρ,L,K=>match g l with
  | none=>K (.goto l) ρ L
  | some f=>match n with
   | 0=>False
   | n+1=>f ρ L fun e ρ' L'=>Yz g n e ρ' L' K
 | _,e,ρ,L,K=>K e ρ L
def z7f (f:Rho->List Blk->(XE->Rho->List Blk->Prop)->Prop):Nat->Rho->List Blk->(XE->Rho->List Blk->Prop)->Prop
 | 0,_,_,_=>False
 | n+1,ρ,L,K=>f ρ L fun e ρ' L'=>match e with
  | .normal=>z7f f n ρ' L' K
  | e=>K e ρ' L'
def XE.inBlock (id:Nat) (K:XE->Rho->List Blk->Prop):XE->Rho->List Blk->Prop
 | .exit i,ρ,L=>if i=id then K .normal ρ L else K (.exit i) ρ L
 | e,ρ,L=>K e ρ L
mutual
def Zg (E:Env):XC->Rho->List Blk->(XE->Rho->List Blk->Prop)->Prop
 | .skip,ρ,L,K=>K .normal ρ L
 | .ops l,ρ,L,K=>Wp E l ρ L fun ρ' L'=>K .normal ρ' L'
 | .draw l,ρ,L,K=>l.all (fun o=>o.op.quiet)=true/\Wp E l ρ L fun ρ' L'=>K .normal ρ' L'
 | .seq a b,ρ,L,K=>Zg E a ρ L fun e ρ' L'=>match e with
  | .normal=>Zg E b ρ' L' K
  | e=>K e ρ' L'
 | .cond c t e,ρ,L,K=>match c.ev ρ with
  | .bool b=>(b=true->Zg E t ρ L K)/\(b=false->Zg E e ρ L K)
  | _=>False
 | .block id b,ρ,L,K=>Zg E b ρ L (XE.inBlock id K)
 | .loop b,ρ,L,K=>∃n,z7f (Zg E b) n ρ L K
 | .exit id,ρ,L,K=>K (.exit id) ρ L
 | .scope b ls,ρ,L,K=>∃n,Zg E b ρ L fun e ρ' L'=>Yz (Wq E ls) n e ρ' L' K
 | .label _,ρ,L,K=>K .normal ρ L
 | .goto l,ρ,L,K=>K (.goto l) ρ L
 | .ret,ρ,L,K=>K .ret ρ L
 | .drawE l,ρ,L,K=>Wp E l ρ L fun ρ' L'=>K .normal ρ' L'
 | .drawR l,ρ,L,K=>yg E 0 [] l ρ L fun ρ' L'=>K .normal ρ' L'
 | .bad,_,_,_=>False
 | .rngF g N ps asg body,ρ,L,K=>match g.ev ρ with
  | .fn (.func gf) [] caps=>∀r0:Loop,r0.state=.ready->r0.pending=none->z1V E.P N ps asg body r0->
    XT E gf (.yld L.length::caps) (L++[.lp r0 ((List.range N).map ρ)]) fun _ L'=>∃r1,L'[L.length]?=some (.lp r1 ((List.range N).map ρ))/\r1.state≠.busy/\
     match r1.pending with
     | none=>K .normal ρ (L'.set L.length .dead)
     | some .ret=>K .ret ρ (L'.set L.length .dead)
     | some (.exit i)=>K (.exit i) ρ (L'.set L.length .dead)
     | some (.goto l)=>K (.goto l) ρ (L'.set L.length .dead)
     | _=>False
  | _=>False
def Wq (E:Env):z2j->Nat->Option Run
 | .nil,_=>none
 | .cons l c r,n=>if n=l then some (Zg E c) else Wq E r n
end
abbrev Post (E:Env) (C:Ctx) (K:IV->List Blk->Prop) (v:Value) (w':World):Prop:=zcy E.g0 C K v w'
theorem ZW {E:Env} {C:Ctx} {K:IV->List Blk->Prop} {r:IV} {v:Value} (wf:Wf E.g0 C) (b:Sim C) (d:VR C r v) (h:K r C.L):Post E C K v C.w:=
 ⟨r,C.L,C.φ,h,wf,b,Ext.refl C,d⟩
def yK (w:World) (o:Obj):World:={ w with heap:=w.heap.push o }
def newφ (C:Ctx) (g sz:Nat):Nat->Loc:=fun s=>if s=g then ⟨C.w.heap.size,0,sz⟩ else C.φ s
def Yf (C:Ctx) (g:Nat) (o:Obj) (k:Blk) (sz:Nat):Ctx:=⟨yK C.w o,newφ C g sz,Z4 C.L g k,C.X⟩
theorem yt {w:World} {o:Obj} {b:Nat} (h:b<w.heap.size):(yK w o).heap[b]?=w.heap[b]?:=by
 show (w.heap.push o)[b]?=_
 rw [Array.getElem?_push,if_neg (Nat.ne_of_lt h)]
theorem ZB {w:World} {o:Obj}:(yK w o).heap[w.heap.size]?=some o:=by
 show (w.heap.push o)[w.heap.size]?=_
 rw [Array.getElem?_push,if_pos rfl]
theorem z2c {b:Type} {l:List b} {x:b} {s:Nat} (h:s<l.length):(l++[x])[s]?=l[s]?:=by
 rw [List.getElem?_append_left h]
theorem Wn {b:Type} {l:List b} {x y:b} {s:Nat} (h:(l++[x])[s]?=some y):(s<l.length/\l[s]?=some y)\/(s=l.length/\y=x):=by
 rcases Nat.lt_trichotomy s l.length with h1 | h1 | h1
 ·rw [z2c h1] at h;exact .inl ⟨h1,h⟩
 ·subst h1;simp at h;exact .inr ⟨rfl,h.symm⟩
 ·rw [List.getElem?_eq_none (by simp;omega)] at h;cases h
theorem zf {b:Type} {l:List b} {s:Nat} {x:b} (h:l[s]?=some x):s<l.length:=(List.getElem?_eq_some_iff.1 h).1
theorem Yv {L:List Blk} {g s:Nat} {k y:Blk} (hg:Free L g) (h:(Z4 L g k)[s]?=some y):(s≠g/\L[s]?=some y)\/(s=g/\y=k):=by
 unfold Z4 at h
 split at h
 ·rename_i b;subst b
  rcases Wn h with ⟨h1,h2⟩ | ⟨h1,h2⟩
  ·exact .inl ⟨od,h2⟩
  ·exact .inr ⟨h1,h2⟩
 ·rename_i b
  have d:=zf (hg.resolve_left b)
  by_cases hs:s=g
  ·subst hs;rw [List.getElem?_set_self d] at h;exact .inr ⟨rfl,(Option.some.inj h).symm⟩
  ·rw [List.getElem?_set_ne (Ne.symm hs)] at h;exact .inl ⟨hs,h⟩
theorem WW {L:List Blk} {g:Nat} {k:Blk} (hg:Free L g):(Z4 L g k)[g]?=some k:=by
 unfold Z4
 split
 ·rename_i b;subst b;simp
 ·rename_i b;exact List.getElem?_set_self (zf (hg.resolve_left b))
theorem z1Z {L:List Blk} {g s:Nat} {k y:Blk} (hs:s≠g) (h:L[s]?=some y):(Z4 L g k)[s]?=some y:=by
 unfold Z4
 split
 ·rw [List.getElem?_append_left (zf h)];exact h
 ·rw [List.getElem?_set_ne (Ne.symm hs)];exact h
theorem Vo {C:Ctx} {g s:Nat} (hg:Free C.L g) (h:C.born s):s≠g:=by
 rintro rfl
 rcases hg with hg | hg
 ·have:=h.lt;omega
 ·obtain ⟨k,h1,h2⟩:=h
  rw [hg] at h1;cases h1;cases h2
theorem z4d {L:List Blk} {g:Nat} {k:Blk}:L.length<=(Z4 L g k).length:=by
 unfold Z4;split<;>simp
theorem wG {L:List Blk} {g t:Nat} {k k0:Blk} (hg:Free L g) (b:L[t]?=some k0) (d:k0.born=true):Free (L.set t k) g:=by
 rcases hg with hg | hg
 ·exact .inl (by rw [lls];exact hg)
 ·refine .inr ?_
  rw [List.getElem?_set_ne];exact hg
  rintro rfl;rw [hg] at b;cases b;cases d
theorem z0T {C:Ctx} {g s:Nat} {k:Blk} {w:World} {j:Nat->Loc} {X:Nat->Prop} (hg:Free C.L g) (h:C.born s):(⟨w,j,Z4 C.L g k,X⟩:Ctx).born s:=by
 have b:=Vo hg h
 obtain ⟨d,h1,h2⟩:=h
 exact ⟨d,z1Z b h1,h2⟩
theorem z1R {C:Ctx} {g:Nat} {o:Obj} {k:Blk} {sz b:Nat} (hg:Free C.L g) (h:(Yf C g o k sz).mine b):C.mine b\/b=C.w.heap.size:=by
 obtain ⟨s,l,d,ha,rfl⟩:=h
 rcases Yv hg d with ⟨h1,h2⟩ | ⟨h1,h2⟩
 ·left;exact ⟨s,l,h2,ha,by simp [Yf,newφ,h1]⟩
 ·right;simp [Yf,newφ,h1]
theorem wV {C:Ctx} {g:Nat} (hg:Free C.L g) (o:Obj) (k:Blk) (sz:Nat):Ext C (Yf C g o k sz) where
 size:=by simp [Yf,yK]
 frame:=fun b d _=>yt d
 sub:=fun b h=>(z1R hg h).imp id (fun h=>by omega)
 slot:=fun s hs=>by simp [Yf,newφ,Vo hg hs]
 bo:=fun s hs=>z0T hg hs
 len:=z4d
 cap:=fun b c e j h=>⟨c,e,j,(yt (Array.getElem?_eq_some_iff.1 h).1).trans h,rfl⟩
 ex:=rfl
 os:=rfl
 tape:=rfl
 output:=rfl
theorem yS.mono {d:Bool} {C C':Ctx} (h:Ext C C') {s sz:Nat} {rows:List (List IV)} (hs:C.born s) (q:yS d C s sz rows)
  (hh:C'.w.heap[(C.φ s).blk]?=C.w.heap[(C.φ s).blk]?):yS d C' s sz rows:=by
 obtain ⟨h1,c,e,u,h2,b,D,r⟩:=q
 refine ⟨by rw [h.slot s hs];exact h1,c,e,u,by rw [h.slot s hs,hh];exact h2,b,by rw [h.slot s hs];exact D,fun i row hi=>?_⟩
 obtain ⟨A,m⟩:=r i row hi
 refine ⟨A,fun j x p=>?_⟩
 obtain ⟨v,B,l⟩:=m j x p
 exact ⟨v,by rw [h.slot s hs];exact B,l.mono h⟩
theorem Ws.mono {C C':Ctx} (h:Ext C C') {s:Nat} {k:Blk} (b:C.L[s]?=some k) (d:Ws C s k)
  (hh:C'.w.heap[(C.φ s).blk]?=C.w.heap[(C.φ s).blk]?):Ws C' s k:=by
 cases k with
 | cells sz rows=>
  have hs:C.born s:=⟨_,b,rfl⟩
  exact yS.mono h hs d hh
 | tcells ty sz rows=>
  have hs:C.born s:=⟨_,b,rfl⟩
  refine ⟨yS.mono h hs d.1 hh,?_⟩
  obtain ⟨_,h1,c,G,h2⟩:=d
  exact ⟨by rw [h.slot s hs];exact h1,c,G,by rw [h.slot s hs,hh];exact h2⟩
 | siter t pos=>
  have hs:C.born s:=⟨_,b,rfl⟩
  exact ⟨by rw [h.slot s hs];exact d.1,by rw [h.slot s hs,hh];exact d.2⟩
 | lp r l=>
  have hs:C.born s:=⟨_,b,rfl⟩
  exact ⟨by rw [h.slot s hs,hh];exact d.1,fun n=>(d.2 n).mono h⟩
 | map J c=>
  have hs:C.born s:=⟨_,b,rfl⟩
  obtain ⟨A,h1,h2,q⟩:=d
  exact ⟨A,by rw [h.slot s hs,hh];exact h1,h2,fun i e u=>by obtain ⟨m,B,D,v,I⟩:=q i e u;exact ⟨m,B,D,v.mono h,I⟩⟩
 | mit m=>
  have hs:C.born s:=⟨_,b,rfl⟩
  obtain ⟨h1,h2,j,p,q⟩:=d
  exact ⟨by rw [h.slot s hs];exact h1,h.bo m h2,j,p,by rw [h.slot s hs,hh,h.slot m h2];exact q⟩
 | dead=>trivial
 | unborn=>trivial
theorem z0u {g0 g:Nat} {C:Ctx} {o:Obj} {k:Blk} {sz:Nat} (hg:Free C.L g) (wf:Wf g0 C) (j:Sim C):Wf g0 (Yf C g o k sz) where
 inj:=fun s t ks q hs r as at_ d=>by
  rcases Yv hg hs with ⟨h1,h2⟩ | ⟨h1,h2⟩<;>rcases Yv hg r with ⟨l,p⟩ | ⟨l,p⟩
  ·simp only [Yf,newφ,h1,l,if_false] at d
   exact wf.inj s t ks q h2 p as at_ d
  ·subst l
   simp only [Yf,newφ,h1,if_false,if_true] at d
   have:=Y7 j ⟨s,ks,h2,as,rfl⟩
   omega
  ·subst h1
   simp only [Yf,newφ,l,if_false,if_true] at d
   have:=Y7 j ⟨t,q,p,at_,rfl⟩
   omega
  ·omega
 lo:=fun b h=>(z1R hg h).elim (wf.lo b) (fun h=>by rw [h];exact wf.g)
 apart:=fun b m h=>(z1R hg h).elim (wf.apart b m) (fun h=>by have:=wf.exlo b m;omega)
 exlo:=fun b m=>by have:=wf.exlo b m;simp [Yf,yK];omega
 g:=by have:=wf.g;simp [Yf,yK];omega
theorem VQ {C:Ctx} {g:Nat} {o:Obj} {k:Blk} {sz:Nat} (hg:Free C.L g) (b:Sim C) (j:Ws (Yf C g o k sz) g k):Sim (Yf C g o k sz):=by
 intro s l d
 rcases Yv hg d with ⟨h1,h2⟩ | ⟨h1,h2⟩
 ·have h:=b s l h2
  by_cases ha:l.alive=true
  ·exact h.mono (wV hg o k sz) h2 (yt (Y7 b ⟨s,l,h2,ha,rfl⟩))
  ·cases l<;>first | trivial | (exfalso;exact ha rfl)
 ·subst h1;subst h2;exact j
def Flat (C:Ctx) (c:Array Value) (base sz:Nat) (rows:List (List IV)):Prop:=
 base+rows.length*sz<=c.size/\∀(i:Nat) (row:List IV),rows[i]?=some row->row.length=sz/\
  ∀(j:Nat) (x:IV),row[j]?=some x->∃v,c[base+i*sz+j]?=some v/\VR C x v
theorem Flat.mono {C C':Ctx} (h:Ext C C') {c:Array Value} {base sz:Nat} {rows:List (List IV)} (b:Flat C c base sz rows):Flat C' c base sz rows:=
 ⟨b.1,fun i row hi=>⟨(b.2 i row hi).1,fun j x d=>let ⟨v,h1,h2⟩:=(b.2 i row hi).2 j x d;⟨v,h1,h2.mono h⟩⟩⟩
theorem z9i {E:Env} {C:Ctx} {g:Nat} (hg:Free C.L g) {K:IV->List Blk->Prop} {c:Array Value} {e:TypeId} {b:Nat × Nat} {sz:Nat} {rows:List (List IV)} {r:IV} {v:Value} (wf:Wf E.g0 C) (l:Sim C) (m:z8b false c.size b)
  (s:Flat C c 0 sz rows) (p:VR (Yf C g (.cells c e b) (.cells sz rows) sz) r v) (h:K r (Z4 C.L g (.cells sz rows))) :
  Post E C K v (yK C.w (.cells c e b)):=by
 refine ⟨r,Z4 C.L g (Blk.cells sz rows),newφ C g sz,h,z0u (o:=.cells c e b) hg wf l,VQ (o:=.cells c e b) hg l ?_,wV hg (.cells c e b) (.cells sz rows) sz,p⟩
 have d:=s.mono (wV hg (.cells c e b) (.cells sz rows) sz)
 refine ⟨by simp [Yf,newφ],c,e,b,by simp only [Yf,newφ,if_true];exact ZB,m,?_,?_⟩
 ·simpa [Yf,newφ] using d.1
 ·intro i row hi
  refine ⟨(d.2 i row hi).1,fun j x q=>?_⟩
  obtain ⟨u,h1,h2⟩:=(d.2 i row hi).2 j x q
  exact ⟨u,by simpa [Yf,newφ] using h1,h2⟩
theorem WY {E:Env} {C:Ctx} {g:Nat} (hg:Free C.L g) {K:IV->List Blk->Prop} {c:Array Value} {e:TypeId} {sz:Nat} {rows:List (List IV)} {r:IV} {v:Value} (wf:Wf E.g0 C) (b:Sim C)
  (d:Flat C c 0 sz rows) (j:VR (Yf C g (.cells c e) (.cells sz rows) sz) r v) (h:K r (Z4 C.L g (.cells sz rows))) :
  Post E C K v (yK C.w (.cells c e)):=z9i hg wf b (z3D _ _) d j h
theorem jh {C:Ctx} {g:Nat} (hg:Free C.L g) {o:Obj} {k:Blk} {sz:Nat} (b:k.born=true:=by rfl):VR (Yf C g o k sz) (.ptr g 0 0) (.pointer (some ⟨C.w.heap.size,0,none⟩)):=by
 have:=VR.ptr (C:=Yf C g o k sz) g 0 0 ⟨k,WW hg,b⟩
 simpa [Yf,newφ] using this
theorem jc {C:Ctx} {g:Nat} (hg:Free C.L g) {c:Array Value} {e:TypeId} {d:Nat × Nat} {k:Blk} {sz len cap cap':Nat} (h:len<=cap) (hc:cap<=cap') (hs:cap'*sz<=c.size) (j:cap'<=9223372036854775807) (b:k.born=true:=by rfl) :
  VR (Yf C g (.cells c e d) k sz) (.sl g 0 len cap) (.slice (some ⟨C.w.heap.size,0,none⟩) len cap'):=by
 refine VR.sl (C:=Yf C g (.cells c e d) k sz) g 0 len cap _ cap' ⟨k,WW hg,b⟩ h hc (.inr ⟨by simp [Yf,newφ],c,e,d,?_,?_⟩) j
 ·simp only [Yf,newφ,if_true];exact ZB
 ·simpa [Yf,newφ] using hs
theorem WN {C:Ctx} {g:Nat} (hg:Free C.L g) {c:Array Value} {e:TypeId} {k:Blk} {sz len cap cap':Nat} (d:len<=cap) (hc:cap<=cap') (hs:cap'*sz<=c.size) (h:cap'<=9223372036854775807) (b:k.born=true:=by rfl) :
  VR (Yf C g (.cells c e) k sz) (.sl g 0 len cap) (.slice (some ⟨C.w.heap.size,0,none⟩) len cap'):=jc hg d hc hs h b
theorem zbg {C:Ctx} {x:IV} {v:Value} (h:VR C x v):Flat C v.cells 0 (cellsOf x).length [cellsOf x]:=by
 obtain ⟨h1,h2⟩:=h.cells
 refine ⟨by simp [h1],fun i row hi=>?_⟩
 cases i with
 | zero=>
  simp at hi;subst hi
  exact ⟨rfl,fun j y b=>by simpa using h2 j y b⟩
 | succ i=>simp at hi
def setW (w:World) (b:Nat) (o:Obj):World:={ w with heap:=w.heap.setIfInBounds b o }
theorem ZO {w:World} {o:Obj} {b d:Nat} (h:d≠b):(setW w b o).heap[d]?=w.heap[d]?:=by
 show (w.heap.setIfInBounds b o)[d]?=_
 rw [Array.getElem?_setIfInBounds,if_neg (Ne.symm h)]
theorem zT {w:World} {o:Obj} {b:Nat} (h:b<w.heap.size):(setW w b o).heap[b]?=some o:=by
 show (w.heap.setIfInBounds b o)[b]?=_
 rw [Array.getElem?_setIfInBounds,if_pos rfl,if_pos h]
def jM (C:Ctx) (s:Nat) (o:Obj) (k:Blk):Ctx:=⟨setW C.w (C.φ s).blk o,C.φ,C.L.set s k,C.X⟩
theorem Zc {b:Type} {l:List b} {x y:b} {s t:Nat} (h:(l.set s x)[t]?=some y):(t≠s/\l[t]?=some y)\/(t=s/\y=x/\s<l.length):=by
 by_cases ht:t=s
 ·subst ht
  have:=zf h
  simp at this
  rw [List.getElem?_set_self this] at h
  exact .inr ⟨rfl,(Option.some.inj h).symm,this⟩
 ·rw [List.getElem?_set_ne (Ne.symm ht)] at h
  exact .inl ⟨ht,h⟩
theorem J3 {C:Ctx} {s b:Nat} {o:Obj} {k k0:Blk} (hs:C.L[s]?=some k0) (ha:k0.alive=true) (h:(jM C s o k).mine b):C.mine b:=by
 obtain ⟨t,l,j,d,rfl⟩:=h
 rcases Zc j with ⟨_,h2⟩ | ⟨h1,_,_⟩
 ·exact ⟨t,l,h2,d,rfl⟩
 ·subst h1;exact ⟨t,k0,hs,ha,rfl⟩
theorem Jb {C:Ctx} {s t:Nat} {o:Obj} {k:Blk} (b:k.born=true) (h:C.born t):(jM C s o k).born t:=by
 obtain ⟨l,h1,h2⟩:=h
 by_cases ht:t=s
 ·subst ht;exact ⟨k,List.getElem?_set_self (zf h1),b⟩
 ·exact ⟨l,(List.getElem?_set_ne (Ne.symm ht)).trans h1,h2⟩
theorem jf {C:Ctx} {s:Nat} {k k0:Blk} {c c':Array Value} {e:TypeId} {fr0:Nat × Nat} (hs:C.L[s]?=some k0) (ha:k0.alive=true)
  (hc:C.w.heap[(C.φ s).blk]?=some (.cells c e fr0)) (hsz:c'.size=c.size) (j:k.born=true:=by rfl):Ext C (jM C s (.cells c' e fr0) k) where
 size:=by simp [jM,setW]
 frame:=fun b _ m=>ZO (fun h=>m ⟨s,k0,hs,ha,h.symm⟩)
 sub:=fun b h=>.inl (J3 hs ha h)
 slot:=fun _ _=>rfl
 bo:=fun t q=>Jb j q
 len:=by simp [jM]
 cap:=fun b d l p h=>by
  by_cases hb:b=(C.φ s).blk
  ·subst hb
   rw [hc] at h
   obtain ⟨rfl,rfl,rfl⟩:=by simpa using h
   exact ⟨c',e,fr0,zT (Array.getElem?_eq_some_iff.1 hc).1,hsz⟩
  ·exact ⟨d,l,p,(ZO hb).trans h,rfl⟩
 ex:=rfl
 os:=rfl
 tape:=rfl
 output:=rfl
theorem z1f {g0:Nat} {C:Ctx} {s:Nat} {k k0:Blk} {o:Obj} (wf:Wf g0 C) (hs:C.L[s]?=some k0) (ha:k0.alive=true):Wf g0 (jM C s o k) where
 inj:=fun t u d D A r at_ B m=>by
  have f:∀{t:Nat} {d:Blk},(C.L.set s k)[t]?=some d->d.alive=true->∃l:Blk,C.L[t]?=some l/\l.alive=true:=fun {t d} h j=>by
   rcases Zc h with ⟨_,h2⟩ | ⟨h1,_,_⟩
   ·exact ⟨d,h2,j⟩
   ·subst h1;exact ⟨k0,hs,ha⟩
  obtain ⟨l,h1,h2⟩:=f A at_
  obtain ⟨q,w,v⟩:=f r B
  exact wf.inj t u l q h1 w h2 v m
 lo:=fun b h=>wf.lo b (J3 hs ha h)
 apart:=fun b p h=>wf.apart b p (J3 hs ha h)
 exlo:=fun b p=>by have:=wf.exlo b p;simpa [jM,setW] using this
 g:=by have:=wf.g;simpa [jM,setW] using this
theorem zak {g0:Nat} {C:Ctx} {s:Nat} {k k0:Blk} {c c':Array Value} {e:TypeId} {fr0:Nat × Nat} (wf:Wf g0 C) (b:Sim C) (hs:C.L[s]?=some k0) (ha:k0.alive=true)
  (hc:C.w.heap[(C.φ s).blk]?=some (.cells c e fr0)) (hsz:c'.size=c.size) (m:Ws (jM C s (.cells c' e fr0) k) s k) (d:k.born=true:=by rfl):Sim (jM C s (.cells c' e fr0) k):=by
 intro t l j
 rcases Zc j with ⟨h1,h2⟩ | ⟨h1,h2,_⟩
 ·have p:=b t l h2
  by_cases hla:l.alive=true
  ·refine p.mono (jf hs ha hc hsz d) h2 (ZO fun h=>h1 (wf.inj t s l k0 h2 hs hla ha h))
  ·cases l<;>first | trivial | (exfalso;exact hla rfl)
 ·subst h1;subst h2;exact m
theorem Vh {C:Ctx} {s:Nat} {k k0:Blk} {m o:Obj} (hs:C.L[s]?=some k0) (ha:k0.alive=true)
  (hc:C.w.heap[(C.φ s).blk]?=some m) (p:∀c e l,m≠.cells c e l) (j:k.born=true:=by rfl):Ext C (jM C s o k) where
 size:=by simp [jM,setW]
 frame:=fun b _ r=>ZO (fun h=>r ⟨s,k0,hs,ha,h.symm⟩)
 sub:=fun b h=>.inl (J3 hs ha h)
 slot:=fun _ _=>rfl
 bo:=fun t u=>Jb j u
 len:=by simp [jM]
 cap:=fun b d q l h=>by
  by_cases hb:b=(C.φ s).blk
  ·subst hb
   rw [hc] at h
   exact absurd (Option.some.inj h) (p _ _ _)
  ·exact ⟨d,q,l,(ZO hb).trans h,rfl⟩
 ex:=rfl
 os:=rfl
 tape:=rfl
 output:=rfl
theorem J7 {g0:Nat} {C:Ctx} {s:Nat} {k k0:Blk} {j o:Obj} (wf:Wf g0 C) (b:Sim C) (hs:C.L[s]?=some k0) (ha:k0.alive=true)
  (hc:C.w.heap[(C.φ s).blk]?=some j) (m:∀c e r,j≠.cells c e r) (q:Ws (jM C s o k) s k) (d:k.born=true:=by rfl):Sim (jM C s o k):=by
 intro t l p
 rcases Zc p with ⟨h1,h2⟩ | ⟨h1,h2,_⟩
 ·have u:=b t l h2
  by_cases hla:l.alive=true
  ·refine u.mono (Vh hs ha hc m d) h2 (ZO fun h=>h1 (wf.inj t s l k0 h2 hs hla ha h))
  ·cases l<;>first | trivial | (exfalso;exact hla rfl)
 ·subst h1;subst h2;exact q
theorem wU {P:Program} {w:World} {r:Nat} {b:Obj} (o:Obj) (h:w.heap[r]?=some b) (j:∀c e d,b≠.cells c e d):(setObj r o).run P w=.ok () (setW w r o):=by
 unfold setObj
 cases b with
 | cells c e d=>exact absurd rfl (j _ _ _)
 | _=>simp [Sem.run,h,setW]
theorem yO {P:Program} {w:World} {r:Nat} {b:Obj} (h:w.heap[r]?=some b) (j:∀c e d,b≠.cells c e d):(getObj r).run P w=.ok b w:=by
 unfold getObj
 cases b with
 | cells c e d=>exact absurd rfl (j _ _ _)
 | _=>simp [Sem.run,h]
theorem zQ {m j:Type} {f:m->Option j}:∀{l:List m} {b:List j},zJ f l=some b->b.length=l.length
 | [],b,h=>by simp only [zJ,sij] at h;subst h;rfl
 | x::r,b,h=>by
  simp only [zJ] at h
  split at h
  ·split at h
   ·rename_i y p q d
    simp only [sij] at h;subst h
    simp [zQ d]
   ·cases h
  ·cases h
theorem zW {p m:Type} {f:p->Option m}:∀{l:List p} {b:List m},zJ f l=some b->∀(i:Nat) (y:m),b[i]?=some y->∃x,l[i]?=some x/\f x=some y
 | [],b,h,i,y,hy=>by simp only [zJ,sij] at h;subst h;simp at hy
 | x::r,b,h,i,y,hy=>by
  simp only [zJ] at h
  split at h
  ·split at h
   ·rename_i q j _ s d
    simp only [sij] at h;subst h
    cases i with
    | zero=>simp at hy;subst hy;exact ⟨x,rfl,j⟩
    | succ i=>simp at hy;exact zW d i y hy
   ·cases h
  ·cases h
theorem ZV {m p:Type} {f:m->Option p}:∀{l:List m} {b:List p},zJ f l=some b->∀(i:Nat) (x:m),l[i]?=some x->∃y,b[i]?=some y/\f x=some y
 | [],b,h,i,y,hy=>by simp at hy
 | x::r,b,h,i,y,hy=>by
  simp only [zJ] at h
  split at h
  ·split at h
   ·rename_i q j _ s d
    simp only [sij] at h;subst h
    cases i with
    | zero=>simp at hy;subst hy;exact ⟨q,rfl,j⟩
    | succ i=>simp at hy;exact ZV d i y hy
   ·cases h
  ·cases h
theorem ZI {l:List IV}:closed.closedL l=true↔∀(i:Nat) (x:IV),l[i]?=some x->closed x=true:=by
 induction l with
 | nil=>simp [closed.closedL]
 | cons a r d=>
  simp only [closed.closedL,Bool.and_eq_true,d]
  constructor
  ·rintro ⟨h1,h2⟩ i x b
   cases i with
   | zero=>simp at b;subst b;exact h1
   | succ i=>exact h2 i x (by simpa using b)
  ·intro h
   exact ⟨h 0 a rfl,fun i x b=>h (i+1) x (by simpa using b)⟩
theorem Yw {l:List IV}:yV.noTreeL l=true↔∀(i:Nat) (x:IV),l[i]?=some x->yV x=true:=by
 induction l with
 | nil=>simp [yV.noTreeL]
 | cons a r d=>
  simp only [yV.noTreeL,Bool.and_eq_true,d]
  constructor
  ·rintro ⟨h1,h2⟩ i x b
   cases i with
   | zero=>simp at b;subst b;exact h1
   | succ i=>exact h2 i x (by simpa using b)
  ·intro h
   exact ⟨h 0 a rfl,fun i x b=>h (i+1) x (by simpa using b)⟩
theorem VR.weaken {C C':Ctx} (D:C'.w=C.w) (p:∀b,C'.own b->C.own b) {x:IV} {v:Value} (h:VR C x v):closed x=true->VR C' x v:=by
 induction h with
 | bool b=>exact fun _=>.bool b
 | int k n=>exact fun _=>.int k n
 | str s=>exact fun _=>.str s
 | raw v h=>exact fun _=>.raw v h
 | und=>exact fun _=>.und
 | ptr s r o hs=>intro h;cases h
 | sl s off len cap a cap' hs B hc ha=>intro h;cases h
 | isl rows a cap' sz vals u hsz d ha A l=>
  intro _
  refine .isl rows a cap' sz vals u hsz d ?_ (fun i row hi j x m=>l i row hi j x m (ZI.1 (d i row hi) j x m))
  rcases ha with R | ⟨b,o,ha,q,G,hc⟩
  ·exact .inl R
  ·exact .inr ⟨b,o,ha,by rw [D];exact q,fun h=>G (p b h),fun i row hi j x m=>by rw [D];exact hc i row hi j x m⟩
 | iptr rows r o b base sz vals hsz d q G ha A l=>
  intro _
  exact .iptr rows r o b base sz vals hsz d (by rw [D];exact q) (fun h=>G (p b h)) (fun i row hi j x m=>by rw [D];exact ha i row hi j x m)
   (fun i row hi j x m=>l i row hi j x m (ZI.1 (d i row hi) j x m))
 | esl a=>exact fun _=>.esl a
 | nsl=>exact fun _=>.nsl
 | agg cs vs B A l=>intro h;exact .agg cs vs B fun i x hi=>l i x hi (ZI.1 h i x hi)
 | tup cs vs B A l=>intro h;exact .tup cs vs B fun i x hi=>l i x hi (ZI.1 h i x hi)
 | fn f as bs Q S ha q O M J I=>
  intro h
  simp only [closed,Bool.and_eq_true] at h
  exact .fn f as bs Q S ha q (fun i x hi=>J i x hi (ZI.1 h.1 i x hi)) (fun i x hi=>I i x hi (ZI.1 h.2 i x hi))
 | iface t x v A l=>intro h;exact .iface t x v (l h)
 | mp s hs=>intro h;cases h
 | yld s hs=>intro h;cases h
theorem vV {L:List Blk}:∀(n:Nat) (m:Ren) (x y:IV),(∀s t,m s≠some (some t))->conv L n m x=some y->closed y=true
 | 0,m,x,y,hm,h=>by cases h
 | n+1,m,x,y,hm,h=>by
  have L1:∀{l q:List IV},zJ (conv L n m) l=some q->closed.closedL q=true:=fun {l q} j=>ZI.2 fun i u hi=>by
   obtain ⟨z,_,p⟩:=zW j i u hi
   exact vV n m z u hm p
  cases x with
  | ptr s r o=>
   simp only [conv] at h
   split at h
   ·rename_i t d;exact absurd d (hm s t)
   ·split at h
    ·rw [oms] at h;obtain ⟨rs,_,rfl⟩:=h;rfl
    ·rw [oms] at h;obtain ⟨rs,_,rfl⟩:=h;rfl
    ·cases h
   ·cases h
  | sl s off len cap=>
   simp only [conv] at h
   split at h
   ·rename_i t d;exact absurd d (hm s t)
   ·split at h
    ·split at h
     ·rw [oms] at h;obtain ⟨rs,_,rfl⟩:=h;rfl
     ·cases h
    ·split at h
     ·rw [oms] at h;obtain ⟨rs,_,rfl⟩:=h;rfl
     ·cases h
    ·cases h
   ·cases h
  | mp s=>
   simp only [conv] at h
   split at h
   ·rename_i t d;exact absurd d (hm s t)
   ·cases h
  | yld s=>
   simp only [conv] at h
   split at h
   ·rename_i t d;exact absurd d (hm s t)
   ·cases h
  | agg cs=>simp only [conv,oms] at h;obtain ⟨l,j,rfl⟩:=h;exact L1 j
  | tup cs=>simp only [conv,oms] at h;obtain ⟨l,j,rfl⟩:=h;exact L1 j
  | fn f a b=>
   simp only [conv] at h
   split at h
   ·rename_i B A ha w
    simp only [sij] at h;subst h
    simp only [closed,L1 ha,L1 w,Bool.and_self]
   ·cases h
  | iface t v=>simp only [conv,oms] at h;obtain ⟨z,p,rfl⟩:=h;exact vV n m v z hm p
  | bool b=>simp only [conv,sij] at h;subst h;rfl
  | int k i=>simp only [conv,sij] at h;subst h;rfl
  | str s=>simp only [conv,sij] at h;subst h;rfl
  | raw v=>simp only [conv,sij] at h;subst h;rfl
  | und=>simp only [conv,sij] at h;subst h;rfl
  | isl rows=>simp only [conv,sij] at h;subst h;rfl
  | iptr rows r o=>simp only [conv,sij] at h;subst h;rfl
  | esl=>simp only [conv,sij] at h;subst h;rfl
  | nsl=>simp only [conv,sij] at h;subst h;rfl
theorem z5S (m:Ren) (s t:Nat):m.inner s≠some (some t):=by
 unfold Ren.inner
 split
 ·intro h;cases h
 ·intro h;cases h
def z5x (C C':Ctx) (m:Ren):Prop:=∀s k,C.L[s]?=some k->
 (m s=some none->k.alive=true->¬C'.own (C.φ s).blk)/\(∀t,m s=some (some t)->(k.born=true->C'.born t)/\C'.φ t=C.φ s)
theorem z5x.inner {C C':Ctx} {m:Ren} (h:z5x C C' m):z5x C C' m.inner:=fun s k j=>
 ⟨fun b ha=>(h s k j).1 (by unfold Ren.inner at b;split at b<;>first | assumption | cases b) ha,fun t d=>absurd d (z5S m s t)⟩
theorem wX {b:Type} {c:Array b} {i:Nat} {v d:b} (h:c[i]?=some v):c.getD i d=v:=by
 rw [Array.getD_eq_getD_getElem?,h];rfl
theorem ZA {C C':Ctx} (M:C'.w=C.w) (I:Sim C) (d:∀b,C'.own b->C.own b) :
  ∀(n:Nat) (m:Ren) (x x':IV) (v:Value),z5x C C' m->conv C.L n m x=some x'->VR C x v->VR C' x' v
 | 0,m,x,x',v,hm,h,hx=>by cases h
 | n+1,m,x,x',v,hm,h,hx=>by
  have Lc:∀{cs l:List IV} {vs:List Value},zJ (conv C.L n m) cs=some l->(∀(i:Nat) (x:IV),cs[i]?=some x->VR C x (vs.getD i undef))->
    ∀(i:Nat) (x:IV),l[i]?=some x->VR C' x (vs.getD i undef):=fun T Z i y hi=>by
   obtain ⟨z,h1,h2⟩:=zW T i y hi
   exact ZA M I d n m z y _ hm h2 (Z i z h1)
  have Fz:∀{tc:Bool} {s:Nat} {sz:Nat} {k:Blk} {rows A rs:List (List IV)} (off:Nat),C.L[s]?=some k->k.alive=true->yS tc C s sz rows->
    (∀(i:Nat) (row:List IV),A[i]?=some row->rows[off+i]?=some row)->zJ (zJ (conv C.L n m.inner)) A=some rs->m s=some none->
    ∃(c:Array Value) (e:TypeId) (Y:Nat × Nat),C.w.heap[(C.φ s).blk]?=some (.cells c e Y)/\(C.φ s).sz=sz/\rs.length=A.length/\
     (∀(i:Nat) (row:List IV),rs[i]?=some row->row.length=sz/\closed.closedL row=true/\∀(j:Nat) (x:IV),row[j]?=some x->
      C'.w.cell? ⟨(C.φ s).blk,(C.φ s).base+(off+i)*sz+j,none⟩=some (c.getD ((C.φ s).base+(off+i)*sz+j) undef)/\
      VR C' x (c.getD ((C.φ s).base+(off+i)*sz+j) undef))/\(C.φ s).blk<C'.w.heap.size/\¬C'.own (C.φ s).blk:=by
   intro tc s sz k rows A rs off hs ai ax ag q G
   obtain ⟨h1,c,e,Y,h2,_,h3,p⟩:=ax
   refine ⟨c,e,Y,h2,h1,zQ q,fun i row hi=>?_,by rw [M];exact (Array.getElem?_eq_some_iff.1 h2).1,(hm s _ hs).1 G ai⟩
   obtain ⟨V,U,R⟩:=zW q i row hi
   obtain ⟨h7,h8⟩:=p _ V (ag i V U)
   refine ⟨(zQ R).trans h7,ZI.2 fun j y B=>?_,fun j y B=>?_⟩
   ·obtain ⟨z,_,hz⟩:=zW R j y B
    exact vV n _ z y (z5S m) hz
   ·obtain ⟨z,aj,hz⟩:=zW R j y B
    obtain ⟨u,h9,ak⟩:=h8 j z aj
    rw [wX h9]
    refine ⟨?_,ZA M I d n _ z y u hm.inner hz ak⟩
    rw [M]
    simp only [World.cell?,h2]
    simpa using h9
  cases x with
  | ptr s r o=>
   cases hx with
   | ptr _ _ _ hs=>
   simp only [conv] at h
   split at h
   ·rename_i t X
    simp only [sij] at h;subst h
    obtain ⟨ks,J,D⟩:=hs
    obtain ⟨h1,h2⟩:=(hm s _ J).2 t X
    replace h1:=h1 D
    rw [<-h2];exact .ptr t r o h1
   ·rename_i G
    split at h
    ·rename_i sz rows S
     rw [oms] at h;obtain ⟨rs,q,rfl⟩:=h
     obtain ⟨c,e,Y,h2,hsz,_,p,U,R⟩:=Fz 0 S rfl (I _ _ S) (fun i row hi=>by simpa using hi) q G
     rw [hsz]
     refine .iptr rs r o _ _ sz (fun i j=>c.getD ((C.φ s).base+(0+i)*sz+j) undef) (fun i row hi=>(p i row hi).1) (fun i row hi=>(p i row hi).2.1) U R ?_ ?_
     ·intro i row hi j x B;simpa using ((p i row hi).2.2 j x B).1
     ·intro i row hi j x B;exact ((p i row hi).2.2 j x B).2
    ·rename_i ty sz rows S
     rw [oms] at h;obtain ⟨rs,q,rfl⟩:=h
     obtain ⟨c,e,Y,h2,hsz,_,p,U,R⟩:=Fz 0 S rfl (I _ _ S).1 (fun i row hi=>by simpa using hi) q G
     rw [hsz]
     refine .iptr rs r o _ _ sz (fun i j=>c.getD ((C.φ s).base+(0+i)*sz+j) undef) (fun i row hi=>(p i row hi).1) (fun i row hi=>(p i row hi).2.1) U R ?_ ?_
     ·intro i row hi j x B;simpa using ((p i row hi).2.2 j x B).1
     ·intro i row hi j x B;exact ((p i row hi).2.2 j x B).2
    ·cases h
   ·cases h
  | sl s off len cap=>
   cases hx with
   | sl _ _ _ _ a cap' hs T hc ha ay=>
   simp only [conv] at h
   split at h
   ·rename_i t X
    simp only [sij] at h;subst h
    obtain ⟨ks,J,D⟩:=hs
    obtain ⟨h1,h2⟩:=(hm s _ J).2 t X
    replace h1:=h1 D
    exact .sl t off len cap a cap' h1 T hc (by rw [h2,M];exact ha) ay
   ·rename_i G
    split at h
    ·rename_i sz rows S
     split at h
     ·rename_i O
      rw [oms] at h;obtain ⟨rs,q,rfl⟩:=h
      obtain ⟨c,e,Y,h2,hsz,h3,p,U,R⟩:=Fz off S rfl (I _ _ S) (fun i row hi=>by
       rw [List.getElem?_take] at hi
       split at hi
       ·rw [List.getElem?_drop] at hi;exact hi
       ·cases hi) q G
      have Q:rs.length=len:=by rw [h3,List.length_take,List.length_drop];omega
      subst Q
      refine .isl rs a cap' sz (fun i j=>c.getD ((C.φ s).base+(off+i)*sz+j) undef) od (fun i row hi=>(p i row hi).1) (fun i row hi=>(p i row hi).2.1) ?_ ?_
      ·rcases ha with h0 | ⟨ha,_⟩
       ·left;exact List.eq_nil_of_length_eq_zero od
       ·refine .inr ⟨_,_,ha,U,R,fun i row hi j x B=>?_⟩
        have:=((p i row hi).2.2 j x B).1
        rw [hsz]
        rw [show (C.φ s).base+off*sz+i*sz+j=(C.φ s).base+(off+i)*sz+j by rw [Nat.add_mul];omega]
        exact this
      ·intro i row hi j x B;exact ((p i row hi).2.2 j x B).2
     ·cases h
    ·rename_i ty sz rows S
     split at h
     ·rename_i O
      rw [oms] at h;obtain ⟨rs,q,rfl⟩:=h
      obtain ⟨c,e,Y,h2,hsz,h3,p,U,R⟩:=Fz off S rfl (I _ _ S).1 (fun i row hi=>by
       rw [List.getElem?_take] at hi
       split at hi
       ·rw [List.getElem?_drop] at hi;exact hi
       ·cases hi) q G
      have Q:rs.length=len:=by rw [h3,List.length_take,List.length_drop];omega
      subst Q
      refine .isl rs a cap' sz (fun i j=>c.getD ((C.φ s).base+(off+i)*sz+j) undef) od (fun i row hi=>(p i row hi).1) (fun i row hi=>(p i row hi).2.1) ?_ ?_
      ·rcases ha with h0 | ⟨ha,_⟩
       ·left;exact List.eq_nil_of_length_eq_zero od
       ·refine .inr ⟨_,_,ha,U,R,fun i row hi j x B=>?_⟩
        have:=((p i row hi).2.2 j x B).1
        rw [hsz]
        rw [show (C.φ s).base+off*sz+i*sz+j=(C.φ s).base+(off+i)*sz+j by rw [Nat.add_mul];omega]
        exact this
      ·intro i row hi j x B;exact ((p i row hi).2.2 j x B).2
     ·cases h
    ·cases h
   ·cases h
  | mp s=>
   cases hx with
   | mp _ hs=>
   simp only [conv] at h
   split at h
   ·rename_i t X
    simp only [sij] at h;subst h
    obtain ⟨ks,J,D⟩:=hs
    obtain ⟨h1,h2⟩:=(hm s _ J).2 t X
    replace h1:=h1 D
    rw [<-h2];exact .mp t h1
   ·cases h
  | yld s=>
   cases hx with
   | yld _ hs=>
   simp only [conv] at h
   split at h
   ·rename_i t X
    simp only [sij] at h;subst h
    obtain ⟨ks,J,D⟩:=hs
    obtain ⟨h1,h2⟩:=(hm s _ J).2 t X
    replace h1:=h1 D
    rw [<-h2];exact .yld t h1
   ·cases h
  | agg cs=>simp only [conv,oms] at h;obtain ⟨l,T,rfl⟩:=h;cases hx with | agg _ vs O Z=>exact .agg l vs ((zQ T).trans O) (Lc T Z)
  | tup cs=>simp only [conv,oms] at h;obtain ⟨l,T,rfl⟩:=h;cases hx with | tup _ vs O Z=>exact .tup l vs ((zQ T).trans O) (Lc T Z)
  | fn f a b=>
   simp only [conv] at h
   split at h
   ·rename_i a' b' ae af
    simp only [sij] at h;subst h
    cases hx with
    | fn _ _ _ va vb ha hb ah au=>exact .fn f a' b' va vb ((zQ ae).trans ha) ((zQ af).trans hb) (Lc ae ah) (Lc af au)
   ·cases h
  | iface t y=>simp only [conv,oms] at h;obtain ⟨z,hz,rfl⟩:=h;cases hx with | iface _ _ u hu=>exact .iface t z u (ZA M I d n m y z u hm hz hu)
  | bool b=>simp only [conv,sij] at h;subst h;exact hx.weaken M d rfl
  | int k i=>simp only [conv,sij] at h;subst h;exact hx.weaken M d rfl
  | str s=>simp only [conv,sij] at h;subst h;exact hx.weaken M d rfl
  | raw v=>simp only [conv,sij] at h;subst h;exact hx.weaken M d rfl
  | und=>simp only [conv,sij] at h;subst h;exact hx.weaken M d rfl
  | isl rows=>simp only [conv,sij] at h;subst h;exact hx.weaken M d rfl
  | iptr rows r o=>simp only [conv,sij] at h;subst h;exact hx.weaken M d rfl
  | esl=>
   simp only [conv,sij] at h;subst h
   cases hx with
   | esl a=>exact .isl [] a 0 0 (fun _ _=>undef) (Nat.le_refl _) (fun i row hi=>by simp at hi) (fun i row hi=>by simp at hi) (.inl rfl) (fun i row hi=>by simp at hi)
  | nsl=>
   simp only [conv,sij] at h;subst h
   cases hx with
   | nsl=>exact .isl [] none 0 0 (fun _ _=>undef) (Nat.le_refl _) (fun i row hi=>by simp at hi) (fun i row hi=>by simp at hi) (.inl rfl) (fun i row hi=>by simp at hi)
theorem J6 {C C':Ctx} (O:C'.w=C.w) :
  ∀(n:Nat) (m:Ren) (x G:IV) (v:Value),(∀s,C.born s->∃t,m s=some (some t)/\C'.born t/\C'.φ t=C.φ s)->yV x=true->
   conv C.L n m x=some G->VR C x v->VR C' G v
 | 0,m,x,G,v,hm,d,h,hx=>by cases h
 | n+1,m,x,G,v,hm,d,h,hx=>by
  have Lc:∀{cs l:List IV} {vs:List Value},yV.noTreeL cs=true->zJ (conv C.L n m) cs=some l->(∀(i:Nat) (x:IV),cs[i]?=some x->VR C x (vs.getD i undef))->
    ∀(i:Nat) (x:IV),l[i]?=some x->VR C' x (vs.getD i undef):=fun d j q i y hi=>by
   obtain ⟨z,h1,h2⟩:=zW j i y hi
   exact J6 O n m z y _ hm (Yw.1 d i z h1) h2 (q i z h1)
  cases x with
  | ptr s r o=>
   cases hx with
   | ptr _ _ _ hs=>
   obtain ⟨t,p,h1,h2⟩:=hm s hs
   simp only [conv,p,sij] at h;subst h
   rw [<-h2];exact .ptr t r o h1
  | sl s off len cap=>
   cases hx with
   | sl _ _ _ _ a cap' hs j hc ha Q=>
   obtain ⟨t,p,h1,h2⟩:=hm s hs
   simp only [conv,p,sij] at h;subst h
   exact .sl t off len cap a cap' h1 j hc (by rw [h2,O];exact ha) Q
  | mp s=>
   cases hx with
   | mp _ hs=>
   obtain ⟨t,p,h1,h2⟩:=hm s hs
   simp only [conv,p,sij] at h;subst h
   rw [<-h2];exact .mp t h1
  | yld s=>
   cases hx with
   | yld _ hs=>
   obtain ⟨t,p,h1,h2⟩:=hm s hs
   simp only [conv,p,sij] at h;subst h
   rw [<-h2];exact .yld t h1
  | agg cs=>simp only [conv,oms] at h;obtain ⟨l,j,rfl⟩:=h;cases hx with | agg _ vs hle q=>exact .agg l vs ((zQ j).trans hle) (Lc d j q)
  | tup cs=>simp only [conv,oms] at h;obtain ⟨l,j,rfl⟩:=h;cases hx with | tup _ vs hle q=>exact .tup l vs ((zQ j).trans hle) (Lc d j q)
  | fn f a b=>
   simp only [conv] at h
   simp only [yV,Bool.and_eq_true] at d
   split at h
   ·rename_i X T A D
    simp only [sij] at h;subst h
    cases hx with
    | fn _ _ _ S V ha U J I=>exact .fn f X T S V ((zQ A).trans ha) ((zQ D).trans U) (Lc d.1 A J) (Lc d.2 D I)
   ·cases h
  | iface t y=>simp only [conv,oms] at h;obtain ⟨z,R,rfl⟩:=h;cases hx with | iface _ _ u hu=>exact .iface t z u (J6 O n m y z u hm d R hu)
  | bool b=>simp only [conv,sij] at h;subst h;cases hx;exact .bool b
  | int k i=>simp only [conv,sij] at h;subst h;cases hx;exact .int k i
  | str s=>simp only [conv,sij] at h;subst h;cases hx;exact .str s
  | raw v=>simp only [conv,sij] at h;subst h;cases hx with | raw _ hr=>exact .raw _ hr
  | und=>simp only [conv,sij] at h;subst h;cases hx;exact .und
  | isl rows=>
   simp only [yV,List.isEmpty_iff] at d
   subst d
   simp only [conv,sij] at h;subst h
   cases hx with
   | isl _ a cap' sz vals B hsz M ha q=>exact .isl [] a cap' sz vals B hsz M (.inl rfl) (fun i row hi=>by simp at hi)
  | iptr rows r o=>cases d
  | esl=>
   simp only [conv,sij] at h;subst h
   cases hx with
   | esl a=>exact .isl [] a 0 0 (fun _ _=>undef) (Nat.le_refl _) (fun i row hi=>by simp at hi) (fun i row hi=>by simp at hi) (.inl rfl) (fun i row hi=>by simp at hi)
  | nsl=>
   simp only [conv,sij] at h;subst h
   cases hx with
   | nsl=>exact .isl [] none 0 0 (fun _ _=>undef) (Nat.le_refl _) (fun i row hi=>by simp at hi) (fun i row hi=>by simp at hi) (.inl rfl) (fun i row hi=>by simp at hi)
def shiftφ (C:Ctx) (φ1:Nat->Loc):Nat->Loc:=fun s=>if s<C.L.length then C.φ s else φ1 (s - C.L.length)
theorem shiftφ_lt {C:Ctx} {φ1:Nat->Loc} {s:Nat} (h:s<C.L.length):shiftφ C φ1 s=C.φ s:=by simp only [shiftφ,h,if_true]
theorem shiftφ_ge {C:Ctx} {φ1:Nat->Loc} {t:Nat}:shiftφ C φ1 (C.L.length+t)=φ1 t:=by
 have h:¬C.L.length+t<C.L.length:=by omega
 simp only [shiftφ,h,if_false,Nat.add_sub_cancel_left]
theorem zV {L:List Blk} {n:Nat} {m:Ren} {k b:Blk} (h:Y4 L n m k=some b):b.alive=k.alive:=by
 cases k with
 | cells sz rows=>simp only [Y4,oms] at h;obtain ⟨l,_,rfl⟩:=h;rfl
 | siter t p=>simp only [Y4,sij] at h;subst h;rfl
 | tcells ty sz rows=>simp only [Y4,oms] at h;obtain ⟨l,_,rfl⟩:=h;rfl
 | map d c=>cases h
 | mit m=>cases h
 | lp r l=>simp only [Y4,oms] at h;obtain ⟨l,_,rfl⟩:=h;rfl
 | dead=>simp only [Y4,sij] at h;subst h;rfl
 | unborn=>simp only [Y4,sij] at h;subst h;rfl
theorem yT {L:List Blk} {n:Nat} {m:Ren} {k b:Blk} (h:Y4 L n m k=some b):b.born=k.born:=by
 cases k with
 | cells sz rows=>simp only [Y4,oms] at h;obtain ⟨l,_,rfl⟩:=h;rfl
 | siter t p=>simp only [Y4,sij] at h;subst h;rfl
 | tcells ty sz rows=>simp only [Y4,oms] at h;obtain ⟨l,_,rfl⟩:=h;rfl
 | map d c=>cases h
 | mit m=>cases h
 | lp r l=>simp only [Y4,oms] at h;obtain ⟨l,_,rfl⟩:=h;rfl
 | dead=>simp only [Y4,sij] at h;subst h;rfl
 | unborn=>simp only [Y4,sij] at h;subst h;rfl
def zio (k:Blk) (x:IV):Prop:=(∃sz rows,(k=.cells sz rows\/∃ty,k=.tcells ty sz rows)/\∃(i j:Nat) (row:List IV),rows[i]?=some row/\row[j]?=some x)\/∃(r:Loop) (l:List IV) (n:Nat),k=.lp r l/\l[n]?=some x
theorem z1g {C C':Ctx} {n:Nat} {m:Ren} {s s' sz:Nat} {rows rs:List (List IV)} (U:C'.w=C.w) (b:C'.φ s'=C.φ s)
  (hc:∀(x I:IV) (v:Value) (i j:Nat) (row:List IV),rows[i]?=some row->row[j]?=some x->conv C.L n m x=some I->VR C x v->VR C' I v)
  (h:zJ (zJ (conv C.L n m)) rows=some rs) {B:Bool} (R:yS B C s sz rows):yS B C' s' sz rs:=by
 obtain ⟨h1,c,e,Q,h2,q,T,O⟩:=R
 refine ⟨by rw [b];exact h1,c,e,Q,by rw [b,U];exact h2,q,by rw [b,zQ h];exact T,fun i row hi=>?_⟩
 obtain ⟨d,D,A⟩:=zW h i row hi
 obtain ⟨S,J⟩:=O i d D
 refine ⟨(zQ A).trans S,fun j y M=>?_⟩
 obtain ⟨z,G,r⟩:=zW A j y M
 obtain ⟨u,p,l⟩:=J j z G
 exact ⟨u,by rw [b];exact p,hc z y u i j d D G r l⟩
theorem jV {C C':Ctx} {n:Nat} {m:Ren} {s s':Nat} {k O:Blk} (G:C'.w=C.w) (b:C'.φ s'=C.φ s)
  (hc:∀x B v,zio k x->conv C.L n m x=some B->VR C x v->VR C' B v)
  (h:Y4 C.L n m k=some O) (A:Ws C s k):Ws C' s' O:=by
 cases k with
 | cells sz rows=>
  simp only [Y4,oms] at h;obtain ⟨rs,d,rfl⟩:=h
  exact z1g G b (fun x B v i j row J M=>hc x B v (.inl ⟨sz,rows,.inl rfl,i,j,row,J,M⟩)) d A
 | tcells ty sz rows=>
  simp only [Y4,oms] at h;obtain ⟨rs,d,rfl⟩:=h
  refine ⟨z1g G b (fun x B v i j row J M=>hc x B v (.inl ⟨sz,rows,.inr ⟨ty,rfl⟩,i,j,row,J,M⟩)) d A.1,?_⟩
  obtain ⟨_,h1,c,S,h2⟩:=A
  exact ⟨by rw [b];exact h1,c,S,by rw [b,G];exact h2⟩
 | siter t p=>simp only [Y4,sij] at h;subst h;exact ⟨by rw [b];exact A.1,by rw [b,G];exact A.2⟩
 | map T c=>cases h
 | mit m=>cases h
 | lp r l=>
  simp only [Y4,oms] at h;obtain ⟨R,D,rfl⟩:=h
  refine ⟨by rw [b,G];exact A.1,fun i=>?_⟩
  have q:=A.2 i
  rw [List.getD_eq_getElem?_getD] at q ⊢
  cases hy:R[i]? with
  | none=>
   have:l[i]?=none:=by rw [List.getElem?_eq_none_iff] at hy ⊢;rw [<-zQ D];exact hy
   rw [this] at q
   simp only [Option.getD_none] at q ⊢
   generalize r.tmps.getD i undef=u at q ⊢
   cases q;exact .und
  | some y=>
   obtain ⟨x,Q,I⟩:=zW D i y hy
   rw [Q] at q
   exact hc x y _ (.inr ⟨r,l,i,rfl,Q⟩) I q
 | dead=>simp only [Y4,sij] at h;subst h;trivial
 | unborn=>simp only [Y4,sij] at h;subst h;trivial
theorem Jg {E:Env} {C:Ctx} {f:FuncId} {args:List IV} {vs:List Value} {K:IV->List Blk->Prop} (wf:Wf E.g0 C) (B:Sim C) (hG:E.G C.w)
  (hl:args.length=vs.length) (ah:∀(i:Nat) (x:IV),args[i]?=some x->VR C x (vs.getD i undef)) (h:zd2 E f args C.L K) :
  Jo E.P f/\Calls E.P f vs.toArray C.w fun e w'=>∃v,e=.returned v/\Post E C K v w':=by
 obtain ⟨b,args',O,ay⟩:=h
 obtain ⟨X0,aj,af⟩:∃X0:Nat->Prop,(b=true->X0=C.X)/\(b=false->X0=C.own):=by
  cases b
  ·exact ⟨C.own,by simp,fun _=>rfl⟩
  ·exact ⟨C.X,fun _=>rfl,by simp⟩
 have ak:∀x,X0 x->C.own x:=fun x m=>by
  cases b
  ·rw [af rfl] at m;exact m
  ·rw [aj rfl] at m;exact .inl m
 have d:∀x,¬(⟨C.w,C.φ,[],X0⟩:Ctx).mine x:=fun x=>by
  rintro ⟨s,k,J,_⟩;simp at J
 have bi:Wf E.g0 ⟨C.w,C.φ,[],X0⟩:=
  ⟨fun s t k l hs _ _ _ _=>by simp at hs,fun x h=>absurd h (d x),fun x _=>d x,
   fun x m=>(ak x m).elim (wf.exlo x) (fun A=>Y7 B A),wf.g⟩
 have S:∀(i:Nat) (x:IV),args'[i]?=some x->VR ⟨C.w,C.φ,[],X0⟩ x (vs.getD i undef):=fun i y hi=>by
  obtain ⟨x,h1,h2⟩:=zW O i y hi
  refine ZA (C:=C) (C':=⟨C.w,C.φ,[],X0⟩) rfl B (fun x m=>m.elim (ak x) (fun h=>absurd h (d x))) fuel _ x y _ ?_ h2 (ah i x h1)
  intro s k J
  cases b
  ·refine ⟨fun A=>?_,fun t A=>?_⟩
   ·simp [Za] at A
   ·simp [Za] at A
  ·refine ⟨fun _ ha ai=>?_,fun t A=>?_⟩
   ·rcases ai with m | m
    ·rw [aj rfl] at m
     exact wf.apart _ m ⟨s,k,J,ha,rfl⟩
    ·exact d _ m
   ·simp [zF] at A
 refine ⟨ay.1,(ay.2 C.w C.φ _ vs bi (fun s k J=>by simp at J) hG ((zQ O).trans hl) S).mono ?_⟩
 rintro e w' ⟨r,L1,φ1,v,⟨au,r',L1',bf,M,hK⟩,rfl,bg,T,ext,hv⟩
 refine ⟨v,rfl,r',C.L++L1',shiftφ C φ1,hK,?_⟩
 have az:=zQ M
 have p:∀x,(⟨w',φ1,L1,X0⟩:Ctx).mine x->C.w.heap.size<=x:=fun x m=>
  (ext.sub x m).elim (fun h=>absurd h (d x)) id
 have I:∀s k,(C.L++L1')[s]?=some k->(s<C.L.length/\C.L[s]?=some k)\/(∃t k0,s=C.L.length+t/\L1[t]?=some k0/\Y4 L1 fuel (ZR C.L.length) k0=some k):=fun s k hs=>by
  rcases Nat.lt_or_ge s C.L.length with h1 | h1
  ·rw [List.getElem?_append_left h1] at hs;exact .inl ⟨h1,hs⟩
  ·rw [List.getElem?_append_right h1] at hs
   obtain ⟨k0,h2,R⟩:=zW M _ k hs
   exact .inr ⟨s - C.L.length,k0,od,h2,R⟩
 have q:∀x,(⟨w',shiftφ C φ1,C.L++L1',C.X⟩:Ctx).mine x->C.mine x\/(⟨w',φ1,L1,X0⟩:Ctx).mine x:=by
  rintro x ⟨s,k,J,ha,rfl⟩
  rcases I s k J with ⟨h1,h2⟩ | ⟨t,k0,rfl,h2,R⟩
  ·left;exact ⟨s,k,h2,ha,congrArg Loc.blk (shiftφ_lt h1).symm⟩
  ·right;exact ⟨t,k0,h2,by rw [<-zV R];exact ha,congrArg Loc.blk (shiftφ_ge (C:=C) (φ1:=φ1) (t:=t)).symm⟩
 have U:Ext C ⟨w',shiftφ C φ1,C.L++L1',C.X⟩:=
  ⟨ext.size,fun x m A=>ext.frame x m (d x),fun x m=>(q x m).imp id (p x),fun s hs=>shiftφ_lt hs.lt,fun s hs=>by
   obtain ⟨k,h1,h2⟩:=hs
   exact ⟨k,(List.getElem?_append_left (zf h1)).trans h1,h2⟩,by simp,ext.cap,rfl,ext.os,ext.tape,ext.output⟩
 have ae:b=false->∀x,(⟨w',shiftφ C φ1,C.L++L1',C.X⟩:Ctx).own x->(⟨w',φ1,L1,X0⟩:Ctx).own x:=by
  rintro rfl x (m | m)
  ·exact .inl (by rw [af rfl];exact .inl m)
  ·rcases q x m with h1 | h1
   ·exact .inl (by rw [af rfl];exact .inr h1)
   ·exact .inr h1
 have V:∀s,(⟨w',φ1,L1,X0⟩:Ctx).born s->∃t,ZR C.L.length s=some (some t)/\(⟨w',shiftφ C φ1,C.L++L1',C.X⟩:Ctx).born t/\shiftφ C φ1 t=φ1 s:=fun s hs=>by
  obtain ⟨k,h1,h2⟩:=hs
  obtain ⟨k',R,h4⟩:=ZV M s k h1
  exact ⟨s+C.L.length,rfl,⟨k',by
   show (C.L++L1')[s+C.L.length]?=_
   rw [List.getElem?_append_right od,Nat.add_sub_cancel];exact R,by rw [yT h4];exact h2⟩,by rw [Nat.add_comm];exact shiftφ_ge⟩
 have ax:∀x x' u,(b=true->yV x=true)->conv L1 fuel (ZR C.L.length) x=some x'->VR ⟨w',φ1,L1,X0⟩ x u->
   VR ⟨w',shiftφ C φ1,C.L++L1',C.X⟩ x' u:=fun x x' u m hc hu=>by
  cases b
  ·refine ZA (C:=⟨w',φ1,L1,X0⟩) (C':=⟨w',shiftφ C φ1,C.L++L1',C.X⟩) rfl T (ae rfl) fuel _ x x' u ?_ hc hu
   intro s k J
   refine ⟨fun A=>by simp [ZR] at A,fun t A=>⟨fun hb=>?_,?_⟩⟩
   ·obtain ⟨t',h1,h2,R⟩:=V s ⟨k,J,hb⟩
    rw [h1] at A
    obtain rfl:t'=t:=by simpa using A
    exact h2
   ·have h1:s+C.L.length=t:=by simpa [ZR] using A
    subst h1
    rw [Nat.add_comm];exact shiftφ_ge
  ·exact J6 (C:=⟨w',φ1,L1,X0⟩) (C':=⟨w',shiftφ C φ1,C.L++L1',C.X⟩) rfl fuel _ x x' u V (m rfl) hc hu
 refine ⟨⟨?_,?_,?_,?_,?_⟩,?_,U,ax r r' v (fun hb=>(au hb).1) bf hv⟩
 ·intro s t ks kt hs ht as at_ D
  rcases I s ks hs with ⟨h1,h2⟩ | ⟨s0,k0,rfl,h2,R⟩<;>rcases I t kt ht with ⟨h4,Z⟩ | ⟨t0,l0,rfl,Z,Y⟩
  ·simp only [shiftφ_lt h1,shiftφ_lt h4] at D
   exact wf.inj s t ks kt h2 Z as at_ D
  ·have Q:=Y7 B ⟨s,ks,h2,as,rfl⟩
   have ag:=p _ ⟨t0,l0,Z,by rw [<-zV Y];exact at_,rfl⟩
   simp only [shiftφ_lt h1,shiftφ_ge] at D
   rw [D] at Q;exact absurd Q (Nat.not_lt.2 ag)
  ·have Q:=Y7 B ⟨t,kt,Z,at_,rfl⟩
   have ag:=p _ ⟨s0,k0,h2,by rw [<-zV R];exact as,rfl⟩
   simp only [shiftφ_lt h4,shiftφ_ge] at D
   rw [<-D] at Q;exact absurd Q (Nat.not_lt.2 ag)
  ·have:=bg.inj s0 t0 k0 l0 h2 Z (by rw [<-zV R];exact as) (by rw [<-zV Y];exact at_) (by simpa only [shiftφ_ge] using D)
   omega
 ·exact fun x m=>(q x m).elim (wf.lo x) (fun h=>Nat.le_trans wf.g (p x h))
 ·exact fun x m A=>(q x A).elim (wf.apart x m) (fun h=>by have h1:=wf.exlo x m;have h2:=p x h;omega)
 ·exact fun x m=>Nat.lt_of_lt_of_le (wf.exlo x m) ext.size
 ·exact Nat.le_trans wf.g ext.size
 ·intro s k J
  rcases I s k J with ⟨h1,h2⟩ | ⟨t,k0,rfl,h2,R⟩
  ·have h4:=B s k h2
   by_cases ha:k.alive=true
   ·exact h4.mono U h2 (ext.frame _ (Y7 B ⟨s,k,h2,ha,rfl⟩) (d _))
   ·cases k<;>first | trivial | (exfalso;exact ha rfl)
  ·refine jV (C:=⟨w',φ1,L1,X0⟩) (s:=t) rfl shiftφ_ge ?_ R (T t k0 h2)
   intro x x' u m hc hu
   refine ax x x' u (fun hb=>?_) hc hu
   have Z:=(au hb).2
   rw [List.all_eq_true] at Z
   have Y:=Z k0 (List.mem_of_getElem? h2)
   rcases m with ⟨sz,rows,rfl | ⟨ty,rfl⟩,i,j,row,h7,h8⟩ | ⟨_,_,_,rfl,_⟩
   ·simp only [jb,List.all_eq_true] at Y
    exact Yw.1 (Y row (List.mem_of_getElem? h7)) j x h8
   ·simp only [jb,List.all_eq_true] at Y
    exact Yw.1 (Y row (List.mem_of_getElem? h7)) j x h8
   ·cases Y
theorem jW:∀(b:List Nat) (ks L:List Blk) (s:Nat),b.Nodup->b.length<=ks.length->(∀t∈b,t<L.length)->
  (zby b ks L)[s]?=match pos b s 0 with | some i=>ks[i]? | none=>L[s]?
 | [],_,_,_,_,_,_=>by simp [zby,pos]
 | t::b,[],_,_,_,h,_=>by simp at h
 | t::b,k::ks,L,s,hnd,hl,hlt=>by
  obtain ⟨h1,h2⟩:=List.nodup_cons.1 hnd
  have m:∀(l:List Nat) (i:Nat),pos l s (i+1)=(pos l s i).map (·+1):=by
   intro l
   induction l with
   | nil=>intro i;rfl
   | cons a l p=>intro i;simp only [pos];split<;>simp [p]
  rw [zby,jW b ks (L.set t k) s h2 (by simpa using hl) (fun u q=>by rw [lls];exact hlt u (List.mem_cons_of_mem _ q))]
  simp only [pos]
  by_cases hs:s=t
  ·subst hs
   have j:pos b s 0=none:=by
    cases j:pos b s 0 with
    | none=>rfl
    | some i=>
     obtain ⟨d,_,hd⟩:=wP j
     exact absurd (List.mem_of_getElem? hd) h1
   rw [if_pos rfl,j]
   simp only
   rw [List.getElem?_set_self (hlt s List.mem_cons_self)];rfl
  ·rw [if_neg hs,m]
   cases j:pos b s 0 with
   | none=>simp only [Option.map_none];rw [List.getElem?_set_ne (Ne.symm hs)]
   | some i=>simp
theorem Je:∀(b:List Nat) (ks L:List Blk),(zby b ks L).length=L.length
 | [],ks,L=>by cases ks<;>rfl
 | t::b,[],L=>rfl
 | t::b,k::ks,L=>by rw [zby,Je];simp
theorem Vm:∀(b:List Nat) (L:List Blk) (s:Nat),(z1L b L)[s]?=if s∈b/\s<L.length then some .dead else L[s]?
 | [],L,s=>by simp [z1L]
 | t::b,L,s=>by
  rw [z1L,Vm b]
  simp only [lls,List.mem_cons,List.getElem?_set]
  by_cases h1:s∈b
  ·by_cases h2:s<L.length
   ·simp [h1,h2]
   ·simp only [h1,h2,and_false,if_false]
    by_cases h3:t=s
    ·subst h3;simp [h2]
    ·rw [if_neg h3]
  ·by_cases h3:t=s
   ·subst h3
    by_cases h2:t<L.length
    ·simp [h1,h2]
    ·simp [h1,h2]
   ·simp [h1,h3,Ne.symm h3]
theorem z3r:∀(b:List Nat) (L:List Blk),(z1L b L).length=L.length
 | [],_=>rfl
 | t::b,L=>by rw [z1L,z3r];simp
theorem zaI {l:List Nat} {s:Nat} (h:s∈l):∃i,pos l s 0=some i/\l[i]?=some s:=by
 cases hp:pos l s 0 with
 | none=>exact absurd h (jU hp)
 | some i=>obtain ⟨d,h1,h2⟩:=wP hp;exact ⟨i,rfl,by simpa [h1] using h2⟩
theorem z4K {l:List Nat} (d:l.Nodup) {s i:Nat} (h:l[i]?=some s):pos l s 0=some i:=by
 obtain ⟨j,h1,h2⟩:=zaI (List.mem_of_getElem? h)
 have hi:=zf h
 have p:=zf h2
 rw [List.getElem?_eq_getElem hi] at h
 rw [List.getElem?_eq_getElem p] at h2
 have b:l[j]=l[i]:=(Option.some.inj h2).trans (Option.some.inj h).symm
 have:j=i:=by
  rcases Nat.lt_trichotomy j i with m | m | m
  ·exact absurd b (List.pairwise_iff_getElem.1 d j i p hi m)
  ·exact m
  ·exact absurd b.symm (List.pairwise_iff_getElem.1 d i j hi p m)
 rw [h1,this]
def backφ (C:Ctx) (k:Nat) (φ1:Nat->Loc):Nat->Loc:=fun s=>if s<C.L.length then C.φ s else φ1 (s - C.L.length+k)
theorem z4b {E:Env} {C:Ctx} {f:FuncId} {args:List IV} {vs:List Value} {K:IV->List Blk->Prop} (wf:Wf E.g0 C) (V:Sim C) (hG:E.G C.w)
  (hl:args.length=vs.length) (dn:∀(i:Nat) (x:IV),args[i]?=some x->VR C x (vs.getD i undef)) (h:zdg E f args C.L K) :
  Jo E.P f/\Calls E.P f vs.toArray C.w fun e w'=>∃v,(e=.returned v/\Post E C K v w')\/(e=.panicked [{ v,recovered:=false }]/\Post E C E.pan v w'):=by
 obtain ⟨m,dl,b,args',L0,ak,B,l7,ay,ax,ig⟩:=h
 have ik:L0.length=m.length:=by rw [zQ ax];simp
 have T:∀s∈m,s<C.L.length:=fun s hs=>by obtain ⟨⟨k,h1,_⟩,_⟩:=B s hs;exact zf h1
 let φ0:Nat->Loc:=fun i=>C.φ (m.getD i 0)
 let bs:Nat->Prop:=fun x=>∃s∈m,(C.φ s).blk=x
 let bd:Nat->Prop:=fun x=>∃s∈dl,∃k,C.L[s]?=some k/\k.alive=true/\(C.φ s).blk=x
 let X0:Nat->Prop:=fun x=>C.X x\/(b=false/\C.mine x/\¬bs x/\¬bd x)
 let C0:Ctx:=⟨C.w,φ0,L0,X0⟩
 have aj:∀i k,L0[i]?=some k->∃s k0,m[i]?=some s/\C.L[s]?=some k0/\k0.alive=true/\Y4 C.L fuel (JY m dl b) k0=some k/\φ0 i=C.φ s:=fun i k hi=>by
  obtain ⟨k0,h1,h2⟩:=zW ax i k hi
  rw [List.getElem?_map,oms] at h1
  obtain ⟨s,hs,rfl⟩:=h1
  obtain ⟨⟨U,M,D⟩,_⟩:=B s (List.mem_of_getElem? hs)
  have e1:C.L.getD s .dead=U:=by rw [List.getD_eq_getElem?_getD,M];rfl
  rw [e1] at h2
  exact ⟨s,U,hs,M,D,h2,by show C.φ (m.getD i 0)=_;rw [List.getD_eq_getElem?_getD,hs];rfl⟩
 have A:∀x,C0.mine x->C.mine x/\bs x:=by
  rintro x ⟨i,k,hk,ha,rfl⟩
  obtain ⟨s,k0,h1,h2,M,D,Q⟩:=aj i k hk
  have hb:(C0.φ i).blk=(C.φ s).blk:=congrArg Loc.blk Q
  exact ⟨⟨s,k0,h2,M,hb.symm⟩,s,List.mem_of_getElem? h1,hb.symm⟩
 have bs_mine:∀x,bs x->C.mine x:=by
  rintro x ⟨s,hs,rfl⟩
  obtain ⟨⟨k,h1,h2⟩,_⟩:=B s hs
  exact ⟨s,k,h1,h2,rfl⟩
 have zeZ:∀x,C0.own x->C.own x:=fun x p=>p.elim (fun h=>h.elim .inl (fun h=>.inr h.2.1)) (fun h=>.inr (A x h).1)
 have kz:Wf E.g0 C0:=by
  refine ⟨fun i j k l hi hj ha hb Z=>?_,fun x p=>wf.lo x (A x p).1,fun x p I=>?_,fun x p=>?_,wf.g⟩
  ·obtain ⟨s,k0,h1,h2,M,D,Q⟩:=aj i k hi
   obtain ⟨t,l0,R,h7,h8,h9,dm⟩:=aj j l hj
   have iq:s=t:=wf.inj s t k0 l0 h2 h7 M h8 (by rw [<-Q,<-dm];exact Z)
   subst iq
   have:=(z4K ak h1).symm.trans (z4K ak R)
   exact Option.some.inj this
  ·rcases p with p | ⟨_,_,p,_⟩
   ·exact wf.apart x p (A x I).1
   ·exact p (A x I).2
  ·rcases p with p | ⟨_,p,_⟩
   ·exact wf.exlo x p
   ·exact Y7 V p
 have cu:z5x C C0 (JY m dl b):=by
  intro s k hk
  refine ⟨fun I ha eu=>?_,fun t I=>?_⟩
  ·have lq:s∉m:=by
    intro hs
    obtain ⟨i,h1,_⟩:=zaI hs
    unfold JY at I
    rw [h1] at I;cases I
   rcases eu with (p | ⟨hb,_,_,p⟩) | lu
   ·exact wf.apart _ p ⟨s,k,hk,ha,rfl⟩
   ·refine p ⟨s,?_,k,hk,ha,rfl⟩
    unfold JY at I
    split at I
    ·cases I
    ·subst hb
     simp only [Bool.false_or] at I
     split at I
     ·rename_i hc;simpa using hc
     ·cases I
   ·obtain ⟨_,t,ht,Z⟩:=A _ lu
    obtain ⟨⟨U,h1,h2⟩,_⟩:=B t ht
    exact lq (wf.inj t s U k h1 hk h2 ha Z▸ht)
  ·unfold JY at I
   split at I
   ·rename_i i hp
    simp only [sij] at I;subst I
    obtain ⟨d,h1,h2⟩:=wP hp
    have ed:m[i]?=some s:=by rw [h1];simpa using h2
    have af:(m.map fun s=>C.L.getD s .dead)[i]?=some k:=by
     rw [List.getElem?_map,ed]
     show some (C.L.getD s .dead)=_
     rw [List.getD_eq_getElem?_getD,hk];rfl
    obtain ⟨k',M,D⟩:=ZV ax i k af
    refine ⟨fun hb=>⟨k',M,by rw [yT D];exact hb⟩,?_⟩
    show C.φ (m.getD i 0)=_
    rw [List.getD_eq_getElem?_getD,ed];rfl
   ·split at I<;>cases I
 have dw:Sim C0:=fun i k hi=>by
  obtain ⟨s,k0,h1,h2,M,D,Q⟩:=aj i k hi
  exact jV (C:=C) (C':=C0) (s:=s) (s':=i) rfl Q (fun x x' u _ hc hu=>ZA (C:=C) (C':=C0) rfl V zeZ fuel _ x x' u cu hc hu) D (V s k0 h2)
 have bf:∀(i:Nat) (x:IV),args'[i]?=some x->VR C0 x (vs.getD i undef):=fun i y hi=>by
  obtain ⟨x,h1,h2⟩:=zW ay i y hi
  exact ZA (C:=C) (C':=C0) rfl V zeZ fuel _ x y _ cu h2 (dn i x h1)
 refine ⟨ig.1,(ig.2 C.w φ0 X0 vs kz dw hG ((zQ ay).trans hl) bf).mono ?_⟩
 rintro e w' ⟨r,L1,φ1,v,gu,bg,ext,hv,hR⟩
 have bu:∀K':IV->List Blk->Prop,Back m dl b C.L K' r L1->Post E C K' v w':=by
  rintro K' ⟨gq,r',L1',iy,ae,hK⟩
  let C1:Ctx:=⟨w',φ1,L1,X0⟩
  let nL:=z1L dl (zby m L1' C.L)++L1'.drop m.length
  let C':Ctx:=⟨w',backφ C m.length φ1,nL,C.X⟩
  have di:L1'.length=L1.length:=zQ ae
  have df:m.length<=L1'.length:=by rw [di,<-ik];exact ext.len
  have O:∀s,s<C.L.length->C'.φ s=C.φ s:=fun s hs=>by show (if s<C.L.length then _ else _)=_;rw [if_pos hs]
  have au:∀t,C'.φ (C.L.length+t)=φ1 (m.length+t):=fun t=>by
   show (if C.L.length+t<C.L.length then _ else _)=_
   rw [if_neg od];congr 1;omega
  have ah:∀i s,m[i]?=some s->φ1 i=C.φ s:=fun i s hs=>by
   obtain ⟨⟨U,M,D⟩,_⟩:=B s (List.mem_of_getElem? hs)
   have af:(m.map fun s=>C.L.getD s .dead)[i]?=some U:=by
    rw [List.getElem?_map,hs]
    show some (C.L.getD s .dead)=_
    rw [List.getD_eq_getElem?_getD,M];rfl
   obtain ⟨k',Q,R⟩:=ZV ax i U af
   have hb:C0.born i:=⟨k',Q,by
    have h7:k'.alive=true:=by rw [zV R];exact D
    cases k'<;>first | rfl | cases h7⟩
   rw [show φ1 i=C0.φ i from ext.slot i hb]
   show C.φ (m.getD i 0)=_
   rw [List.getD_eq_getElem?_getD,hs];rfl
  have ag:(z1L dl (zby m L1' C.L)).length=C.L.length:=by rw [z3r,Je]
  have ai:∀s k,nL[s]?=some k->(s<C.L.length/\s∉m/\s∉dl/\C.L[s]?=some k)\/(k=.dead)\/
    (∃i k0,L1[i]?=some k0/\Y4 L1 fuel (vU m C.L.length) k0=some k/\C'.φ s=φ1 i/\((s<C.L.length/\m[i]?=some s)\/(m.length<=i/\s=C.L.length+(i - m.length)))):=fun s k hs=>by
   rcases Nat.lt_or_ge s C.L.length with h1 | h1
   ·rw [List.getElem?_append_left (by rw [ag];exact h1),Vm] at hs
    split at hs
    ·exact .inr (.inl (Option.some.inj hs).symm)
    ·rename_i hd
     rw [Je] at hd
     rw [jW m L1' C.L s ak df T] at hs
     cases hp:pos m s 0 with
     | none=>
      rw [hp] at hs
      exact .inl ⟨h1,jU hp,fun h=>hd ⟨h,h1⟩,hs⟩
     | some i=>
      rw [hp] at hs
      obtain ⟨d,h2,M⟩:=wP hp
      have gm:m[i]?=some s:=by rw [h2];simpa using M
      obtain ⟨k0,D,Q⟩:=zW ae i k hs
      exact .inr (.inr ⟨i,k0,D,Q,by rw [O s h1,ah i s gm],.inl ⟨h1,gm⟩⟩)
   ·rw [List.getElem?_append_right (by rw [ag];exact h1),ag,List.getElem?_drop] at hs
    obtain ⟨k0,D,Q⟩:=zW ae _ k hs
    refine .inr (.inr ⟨_,k0,D,Q,?_,.inr ⟨od,od⟩⟩)
    have e1:s=C.L.length+(s - C.L.length):=by omega
    rw [e1,au];congr 1;omega
  have S:∀x,C1.mine x->(C.mine x/\bs x)\/C.w.heap.size<=x:=fun x p=>(ext.sub x p).imp (A x) id
  have Y:∀x,C'.mine x->(C.mine x/\¬bs x/\¬bd x)\/C1.mine x:=by
   rintro x ⟨s,k,hk,ha,rfl⟩
   rcases ai s k hk with ⟨h1,h2,M,D⟩ | h1 | ⟨i,k0,h1,h2,M,_⟩
   ·left
    rw [O s h1]
    refine ⟨⟨s,k,D,ha,rfl⟩,?_,?_⟩
    ·rintro ⟨t,ht,Z⟩
     obtain ⟨⟨U,Q,R⟩,_⟩:=B t ht
     exact h2 (wf.inj t s U k Q D R ha Z▸ht)
    ·rintro ⟨t,ht,U,Q,R,Z⟩
     exact M (wf.inj t s U k Q D R ha Z▸ht)
   ·subst h1;cases ha
   ·right;exact ⟨i,k0,h1,by rw [<-zV h2];exact ha,congrArg Loc.blk M.symm⟩
  have bi:Ext C C':=by
   refine ⟨ext.size,fun x p I=>ext.frame x p (fun h=>I (A x h).1),fun x p=>?_,fun s hs=>O s hs.lt,fun s hs=>?_,?_,ext.cap,rfl,ext.os,ext.tape,ext.output⟩
   ·rcases Y x p with h1 | h1
    ·exact .inl h1.1
    ·exact (S x h1).imp And.left id
   ·have ku:=hs.lt
    obtain ⟨k,h1,h2⟩:=hs
    show ∃k',nL[s]?=some k'/\k'.born=true
    rw [List.getElem?_append_left (by rw [ag];exact ku),Vm,Je]
    split
    ·exact ⟨_,rfl,rfl⟩
    ·rw [jW m L1' C.L s ak df T]
     cases hp:pos m s 0 with
     | none=>exact ⟨k,h1,h2⟩
     | some i=>
      obtain ⟨d,M,D⟩:=wP hp
      have gy:m[i]?=some s:=by rw [M];simpa using D
      obtain ⟨⟨U,Q,R⟩,_⟩:=B s (List.mem_of_getElem? gy)
      have af:(m.map fun s=>C.L.getD s .dead)[i]?=some U:=by
       rw [List.getElem?_map,gy]
       show some (C.L.getD s .dead)=_
       rw [List.getD_eq_getElem?_getD,Q];rfl
      obtain ⟨k',h7,h8⟩:=ZV ax i U af
      obtain ⟨k2,h9,dm⟩:=ext.bo i ⟨k',h7,by
       have lw:k'.alive=true:=by rw [zV h8];exact R
       cases k'<;>first | rfl | cases lw⟩
      obtain ⟨k3,iw,lm⟩:=ZV ae i k2 h9
      exact ⟨k3,iw,by rw [yT lm];exact dm⟩
   ·show C.L.length<=nL.length
    simp only [nL,lla,ag];omega
  have gp:b=false->∀x,C'.own x->C1.own x:=by
   rintro hb x (p | p)
   ·exact .inl (.inl p)
   ·rcases Y x p with ⟨h1,h2,M⟩ | h1
    ·exact .inl (.inr ⟨hb,h1,h2,M⟩)
    ·exact .inr h1
  have bz:∀i,C1.born i->∃t,vU m C.L.length i=some (some t)/\C'.born t/\C'.φ t=φ1 i:=fun i hi=>by
   obtain ⟨k,h1,h2⟩:=hi
   obtain ⟨k',M,D⟩:=ZV ae i k h1
   by_cases hik:i<m.length
   ·obtain ⟨s,hs⟩:∃s,m[i]?=some s:=⟨_,List.getElem?_eq_getElem hik⟩
    have bn:=T s (List.mem_of_getElem? hs)
    refine ⟨s,?_,⟨k',?_,by rw [yT D];exact h2⟩,by rw [O s bn,ah i s hs]⟩
    ·show some (some (if i<m.length then m.getD i 0 else _))=_
     rw [if_pos hik,List.getD_eq_getElem?_getD,hs];rfl
    ·show nL[s]?=_
     rw [List.getElem?_append_left (by rw [ag];exact bn),Vm,if_neg (fun h=>(B s (List.mem_of_getElem? hs)).2 h.1),jW m L1' C.L s ak df T,z4K ak hs]
     exact M
   ·refine ⟨C.L.length+(i - m.length),?_,⟨k',?_,by rw [yT D];exact h2⟩,by rw [au];congr 1;omega⟩
    ·show some (some (if i<m.length then _ else _))=_
     rw [if_neg hik]
    ·show nL[_]?=_
     rw [List.getElem?_append_right (by rw [ag];omega),ag,List.getElem?_drop]
     have e1:m.length+(C.L.length+(i - m.length) - C.L.length)=i:=by omega
     rw [e1];exact M
  have gz:∀x x' u,(b=true->yV x=true)->conv L1 fuel (vU m C.L.length) x=some x'->VR C1 x u->VR C' x' u:=fun x x' u p hc hu=>by
   cases hb:b with
   | false=>
    refine ZA (C:=C1) (C':=C') rfl bg (gp hb) fuel _ x x' u ?_ hc hu
    intro s k hk
    refine ⟨fun I=>by simp [vU] at I,fun t I=>⟨fun lh=>?_,?_⟩⟩
    ·obtain ⟨t',h1,h2,M⟩:=bz s ⟨k,hk,lh⟩
     rw [h1] at I
     obtain rfl:t'=t:=by simpa using I
     exact h2
    ·have ht:t=if s<m.length then m.getD s 0 else C.L.length+(s - m.length):=by
      have:vU m C.L.length s=some (some (if s<m.length then m.getD s 0 else C.L.length+(s - m.length))):=rfl
      rw [this] at I
      simpa using I.symm
     by_cases hik:s<m.length
     ·rw [if_pos hik] at ht
      obtain ⟨q,hq⟩:∃q,m[s]?=some q:=⟨_,List.getElem?_eq_getElem hik⟩
      have:m.getD s 0=q:=by rw [List.getD_eq_getElem?_getD,hq];rfl
      rw [this] at ht;subst ht
      rw [O t (T t (List.mem_of_getElem? hq)),<-ah s t hq]
     ·rw [if_neg hik] at ht;subst ht
      rw [au];show φ1 _=φ1 s;congr 1;omega
   | true=>exact J6 (C:=C1) (C':=C') rfl fuel _ x x' u bz (p hb) hc hu
  refine ⟨r',nL,backφ C m.length φ1,hK,⟨?_,?_,?_,?_,?_⟩,?_,bi,gz r r' v (fun hb=>(gq hb).1) iy hv⟩
  ·intro s t ks kt hs ht as at_ Z
   have J:(C'.φ s).blk=(C'.φ t).blk:=Z
   rcases ai s ks hs with ⟨h1,h2,M,D⟩ | h1 | ⟨i,k0,h1,h2,M,D⟩<;>rcases ai t kt ht with ⟨g1,g2,g3,g4⟩ | g1 | ⟨j,l0,g1,g2,g3,g4⟩
   ·rw [O s h1,O t g1] at J
    exact wf.inj s t ks kt D g4 as at_ J
   ·subst g1;cases at_
   ·exfalso
    rw [O s h1,g3] at J
    have dh:C1.mine (φ1 j).blk:=⟨j,l0,g1,by rw [<-zV g2];exact at_,rfl⟩
    rcases S _ dh with ⟨_,u,hu,az⟩ | hf
    ·obtain ⟨⟨U,Q,R⟩,_⟩:=B u hu
     exact h2 (wf.inj u s U ks Q D R as (az.trans J.symm)▸hu)
    ·have:=Y7 V ⟨s,ks,D,as,rfl⟩
     rw [J] at this;omega
   ·subst h1;cases as
   ·subst h1;cases as
   ·subst h1;cases as
   ·exfalso
    rw [O t g1,M] at J
    have dh:C1.mine (φ1 i).blk:=⟨i,k0,h1,by rw [<-zV h2];exact as,rfl⟩
    rcases S _ dh with ⟨_,u,hu,az⟩ | hf
    ·obtain ⟨⟨U,Q,R⟩,_⟩:=B u hu
     exact g2 (wf.inj u t U kt Q g4 R at_ (az.trans J)▸hu)
    ·have:=Y7 V ⟨t,kt,g4,at_,rfl⟩
     rw [<-J] at this;omega
   ·subst g1;cases at_
   ·rw [M,g3] at J
    have kw:=gu.inj i j k0 l0 h1 g1 (by rw [<-zV h2];exact as) (by rw [<-zV g2];exact at_) J
    subst kw
    rcases D with ⟨Q,R⟩ | ⟨Q,R⟩<;>rcases g4 with ⟨g5,g6⟩ | ⟨g5,g6⟩
    ·rw [R] at g6;exact Option.some.inj g6
    ·have:=zf R;omega
    ·have:=zf g6;omega
    ·omega
  ·exact fun x p=>(Y x p).elim (fun h=>wf.lo x h.1) (fun h=>gu.lo x h)
  ·intro x p I
   rcases Y x I with h1 | h1
   ·exact wf.apart x p h1.1
   ·rcases S x h1 with h2 | h2
    ·exact wf.apart x p h2.1
    ·have:=wf.exlo x p;omega
  ·exact fun x p=>Nat.lt_of_lt_of_le (wf.exlo x p) ext.size
  ·exact Nat.le_trans wf.g ext.size
  ·intro s k hk
   rcases ai s k hk with ⟨h1,h2,M,D⟩ | h1 | ⟨i,k0,h1,h2,M,D⟩
   ·have Q:=V s k D
    by_cases ha:k.alive=true
    ·refine Q.mono bi D (ext.frame _ (Y7 V ⟨s,k,D,ha,rfl⟩) (fun I=>?_))
     obtain ⟨_,u,hu,az⟩:=A _ I
     obtain ⟨⟨U,R,h7⟩,_⟩:=B u hu
     exact h2 (wf.inj u s U k R D h7 ha az▸hu)
    ·cases k<;>first | trivial | (exfalso;exact ha rfl)
   ·subst h1;trivial
   ·refine jV (C:=C1) (C':=C') (s:=i) (s':=s) rfl M ?_ h2 (bg i k0 h1)
    intro x x' u p hc hu
    refine gz x x' u (fun hb=>?_) hc hu
    have Q:=(gq hb).2
    rw [List.all_eq_true] at Q
    have R:=Q k0 (List.mem_of_getElem? h1)
    rcases p with ⟨sz,rows,rfl | ⟨ty,rfl⟩,i',j,row,h7,h8⟩ | ⟨_,_,_,rfl,_⟩
    ·simp only [jb,List.all_eq_true] at R
     exact Yw.1 (R row (List.mem_of_getElem? h7)) j x h8
    ·simp only [jb,List.all_eq_true] at R
     exact Yw.1 (R row (List.mem_of_getElem? h7)) j x h8
    ·cases R
 rcases hR with ⟨hR,he⟩ | ⟨hR,he⟩
 ·exact ⟨v,.inl ⟨he,bu K hR⟩⟩
 ·exact ⟨v,.inr ⟨he,bu E.pan hR⟩⟩
section
variable {E:Env} {C:Ctx} {a:Act} {e:Opd->IV} {o:Oper} {K:IV->List Blk->Prop}
def Does (P:Program) (o:Oper) (a:Act) (w:World) (R RP:Value->World->Prop):Prop:=
 (∃v w',(execOp a.eval o).run P w=.ok (.value v) w'/\R v w')\/(∃w',(execOp a.eval o).run P w=.ok .skip w'/\R undef w')\/
 (∃f args w',(execOp a.eval o).run P w=.ok (.enter f args) w'/\Calls P f args w' fun e w''=>∃v,(e=.returned v/\R v w'')\/(e=.panicked [{ v,recovered:=false }]/\RP v w''))\/
 (∃l fn tmps asg body w',(execOp a.eval o).run P w=.ok (.round l fn tmps asg body) w'/\∀F,FOk F->RoundIn F 0 P l fn tmps asg body w' fun e w''=>∃v,e=.returned v/\R v w'')\/
 (∃v w',(execOp a.eval o).run P w=.halt (.panic v) w'/\RP v w')
theorem z1D {C:Ctx} {v:Value} {x:IV} (h:z9X v=some x):VR C x v:=by
 unfold z9X at h
 split at h
 ·cases h;exact .bool _
 ·cases h;exact .int _ _
 ·cases h;exact .str _
 ·cases h;exact .nsl
 ·split at h
  ·rename_i vs b
   cases h
   have:vs=#[]:=Array.eq_empty_of_size_eq_zero b
   subst this;exact .und
  ·cases h
 ·cases h
 ·rename_i h1 h2 l m j d
  cases h
  refine .raw _ ?_
  cases v<;>first | rfl | exact absurd rfl (d _)
def Y5 (C:Ctx) (a:Act) (e:Opd->IV):Prop:=∀p q,opd p=some q->VR C (e q) (a.eval p)
theorem JE {C:Ctx} {a:Act} {ρ:Rho} (h:∀n,VR C (ρ n) (a.tmps.getD n undef)):Y5 C a (Opd.ev ρ):=by
 intro p q b
 cases p with
 | tmp t=>cases b;exact h t
 | const v=>simp only [opd,oms] at b;obtain ⟨x,d,rfl⟩:=b;exact z1D d
 | global g=>cases b;exact .raw _ rfl
 | func f=>cases b;exact .fn _ [] [] [] [] rfl rfl (fun i x hi=>by simp at hi) (fun i x hi=>by simp at hi)
theorem z0G {C:Ctx} {x:IV} {v:Value} (h:VR C x v) (hc:zG x=true):v.oneCell'=true:=by
 cases h with
 | raw v h=>cases v<;>first | rfl | cases hc
 | agg=>cases hc
 | tup=>cases hc
 | und=>cases hc
 | _=>rfl
abbrev Good (E:Env) (C:Ctx) (a:Act) (o:Oper) (K:IV->List Blk->Prop):Prop:=Does E.P o a C.w (Post E C K) (Post E C E.pan)
def zeK (C:Ctx) (K:IV->List Blk->Prop) (v:Value) (w':World):Prop:=w'=C.w/\∃r,VR C r v/\K r C.L
def Zy (E:Env) (C:Ctx) (a:Act) (o:Oper) (K:IV->List Blk->Prop):Prop:=∃v r,(execOp a.eval o).run E.P C.w=.ok (.value v) C.w/\VR C r v/\K r C.L
theorem ZH {r:IV} {v:Value} (b:VR C r v) (h:K r C.L):zeK C K v C.w:=⟨rfl,r,b,h⟩
theorem z4F (h:∃v w',(execOp a.eval o).run E.P C.w=.ok (.value v) w'/\zeK C K v w'):Zy E C a o K:=by
 obtain ⟨v,w',h1,rfl,r,h2,b⟩:=h
 exact ⟨v,r,h1,h2,b⟩
theorem zu {s:Sem Value} {v:Value} {w':World} (h1:execOp a.eval o=(do pure (Next.value (<-s)))) (h2:s.run E.P C.w=.ok v w') (h:zeK C K v w'):Zy E C a o K:=
 z4F ⟨v,w',by rw [h1,Sem.run_bind,h2];rfl,h⟩
theorem Zy.good (h:Zy E C a o K) (wf:Wf E.g0 C) (b:Sim C):Good E C a o K:=by
 obtain ⟨v,r,h1,h2,d⟩:=h
 exact .inl ⟨v,C.w,h1,ZW wf b h2 d⟩
theorem yU {s:Sem Value} {v:Value} {w':World} (h1:execOp a.eval o=(do pure (Next.value (<-s)))) (h2:s.run E.P C.w=.ok v w') (h:Post E C K v w'):Good E C a o K:=
 .inl ⟨v,w',by rw [h1,Sem.run_bind,h2];rfl,h⟩
theorem z2w {s:Sem Unit} {w':World} (h1:execOp a.eval o=(do s;pure Next.skip)) (h2:s.run E.P C.w=.ok () w') (h:Post E C K undef w'):Good E C a o K:=
 .inr (.inl ⟨w',by rw [h1,Sem.run_bind,h2];rfl,h⟩)
theorem z2u (j:Sim C) (d:Y5 C a e) {x:Operand} {q:Opd} (b:o.op=.move x\/o.op=.assign x) (l:opd x=some q) (h:K (e q) C.L):Zy E C a o K:=by
 refine z4F ⟨a.eval x,C.w,?_,ZH (d x q l) h⟩
 rcases b with b | b<;>(unfold execOp;rw [b];rfl)
theorem za4 (q:Sim C) (d:Y5 C a e) {c x y:Operand} {c' l j:Opd} (m:o.op=.pick c x y) (hc:opd c=some c') (s:opd x=some l) (p:opd y=some j)
  {t:Bool} (r:e c'=.bool t) (h:K (if t then e l else e j) C.L):Zy E C a o K:=by
 have h1:=d c c' hc
 rw [r] at h1
 generalize b:a.eval c=cv at h1
 cases h1
 refine z4F ⟨if t then a.eval x else a.eval y,C.w,?_,ZH ?_ h⟩
 ·unfold execOp;rw [m];simp only [b]
  cases t<;>rfl
 ·cases t
  ·exact d y j p
  ·exact d x l s
theorem ZG {P:Program} {t:TypeId} {z:List IV} (h:zeroCells P t=some z) :
  ∃i v,P.info? t=some i/\i.zero=some v/\z.length=v.cells.size/\∀(C:Ctx) (j:Nat) (x:IV),z[j]?=some x->∃u,v.cells[j]?=some u/\VR C x u:=by
 unfold zeroCells at h
 rw [obs] at h
 obtain ⟨i,hi,h⟩:=h
 rw [obs] at h
 obtain ⟨v,b,h⟩:=h
 refine ⟨i,v,hi,b,by simpa using zQ h,fun C j x d=>?_⟩
 obtain ⟨u,h1,h2⟩:=zW h j x d
 exact ⟨u,by simpa using h1,z1D h2⟩
theorem yF {P:Program} {t:TypeId} {i:TypeInfo} {v:Value} (h1:P.info? t=some i) (h2:i.zero=some v) (w:World):(zeroValue t).run P w=.ok v w:=by
 simp [zeroValue,typeInfo,h1,h2]
theorem Zi {P:Program} {t:TypeId} {n:Nat} (h:Zx P t=some n) (w:World):(sizeOf t).run P w=.ok n w:=by
 unfold Zx at h
 rw [oms] at h
 obtain ⟨i,h1,rfl⟩:=h
 simp [sizeOf,typeInfo,h1]
theorem z3i {P:Program} {t:TypeId} {b:Bool} (h:z07 P t=some b) (w:World):(isAgg t).run P w=.ok b w:=by
 unfold z07 at h
 unfold isAgg
 have j:∀d,P.underlying t=some d->(underlying t).run P w=.ok d w:=fun d hd=>by simp [underlying,hd]
 split at h<;>rename_i hd<;>first
  | (cases h;rw [Sem.run_bind,j _ hd];rfl)
  | skip
 ·rename_i _ d h1 h2
  cases h
  rw [Sem.run_bind,j _ hd]
  cases d<;>first | rfl | exact absurd rfl (h1 _) | exact absurd rfl (h2 _ _)
 ·cases h
theorem zba {z:List IV} {v:Value} {C:Ctx} (b:z.length=v.cells.size) (h:∀(j:Nat) (x:IV),z[j]?=some x->∃u,v.cells[j]?=some u/\VR C x u) :
  Flat C v.cells 0 z.length [z]:=by
 refine ⟨by simp [b],fun i row hi=>?_⟩
 cases i with
 | zero=>simp at hi;subst hi;exact ⟨rfl,fun j y d=>by simpa using h j y d⟩
 | succ i=>simp at hi
theorem z7L {g:Nat} (hg:Free C.L g) (wf:Wf E.g0 C) (b:Sim C) {t:TypeId} {z:List IV} (j:o.op=.alloc t) (d:zeroCells E.P t=some z)
  (h:K (.ptr g 0 0) (Z4 C.L g (.cells z.length [z]))):Good E C a o K:=by
 obtain ⟨i,v,h1,h2,l,m⟩:=ZG d
 refine yU (s:=Instr.alloc t true (.tuple #[])) (v:=.pointer (some ⟨C.w.heap.size,0,none⟩)) (w':=yK C.w (.cells v.cells t)) (by unfold execOp;rw [j]) ?_ (WY hg wf b (zba l (m C)) (jh hg) h)
 unfold Instr.alloc
 rw [Sem.run_bind,yF h1 h2]
 rfl
theorem zbd {g:Nat} (hg:Free C.L g) (wf:Wf E.g0 C) (b:Sim C) (j:Y5 C a e) {t:TypeId} {x:Operand} {q:Opd} (d:o.op=.box t x) (l:opd x=some q)
  (h:K (.ptr g 0 0) (Z4 C.L g (.cells (cellsOf (e q)).length [cellsOf (e q)]))):Good E C a o K:=
 yU (s:=Instr.box t (a.eval x)) (v:=.pointer (some ⟨C.w.heap.size,0,none⟩)) (w':=yK C.w (.cells (a.eval x).cells t)) (by unfold execOp;rw [d]) rfl
  (WY hg wf b (zbg (j x q l)) (jh hg) h)
theorem jw (p:Sim C) (hG:E.G C.w) {x:IV} {v:Value} (q:VR C x v) {rows:List (List IV)} {r off:Nat} (h:y8 E.gl C.L x=some (rows,r,off)) (R:r<rows.length) :
  ∃b k,v=.pointer (some ⟨b,k,none⟩)/\∀(j:Nat) (y:IV),(rows.getD r [])[off+j]?=some y->∃u,C.w.cell? ⟨b,k+j,none⟩=some u/\VR C y u:=by
 have d:rows[r]?=some (rows.getD r []):=by simp [List.getD,List.getElem?_eq_getElem R]
 cases q with
 | ptr s O D hs=>
  simp only [y8] at h
  split at h
  ·rename_i sz rows' M
   simp only [sij,Prod.mk.injEq] at h
   obtain ⟨rfl,rfl,rfl⟩:=h
   obtain ⟨h1,c,ty,S,h2,_,T,I⟩:=p s _ M
   refine ⟨_,_,rfl,fun j y m=>?_⟩
   obtain ⟨u,J,B⟩:=(I _ _ d).2 _ y m
   refine ⟨u,?_,B⟩
   rw [h1]
   simp only [World.cell?,h2]
   simpa [Nat.add_assoc] using J
  ·rename_i V sz rows' M
   simp only [sij,Prod.mk.injEq] at h
   obtain ⟨rfl,rfl,rfl⟩:=h
   obtain ⟨⟨h1,c,ty,S,h2,_,T,I⟩,_⟩:=p s _ M
   refine ⟨_,_,rfl,fun j y m=>?_⟩
   obtain ⟨u,J,B⟩:=(I _ _ d).2 _ y m
   refine ⟨u,?_,B⟩
   rw [h1]
   simp only [World.cell?,h2]
   simpa [Nat.add_assoc] using J
  ·cases h
 | iptr rows' O D b base sz vals hsz U X Q ha q=>
  simp only [y8,sij,Prod.mk.injEq] at h
  obtain ⟨rfl,rfl,rfl⟩:=h
  refine ⟨b,base+O*sz+D,rfl,fun j y m=>?_⟩
  refine ⟨vals O (D+j),?_,q _ _ d _ _ m⟩
  rw [<-ha _ _ d _ _ m,Nat.add_assoc]
 | raw v q=>
  unfold y8 at h
  split at h
  ·rename_i n o l
   cases l
   split at h
   ·rename_i cs A
    simp only [sij,Prod.mk.injEq] at h
    obtain ⟨rfl,rfl,rfl⟩:=h
    refine ⟨n,o,rfl,fun j y m=>?_⟩
    obtain ⟨u,h1,h2⟩:=E.hgl C.w n cs hG A (o+j) y m
    exact ⟨u,h1,h2 C⟩
   ·cases h
  ·rename_i l;cases l
  ·rename_i l;cases l
  ·cases h
 | _=>cases h
theorem WO {b:Type} {l:List b} {i:Nat} {x d:b} (h:l[i]?=some x):l.getD i d=x:=by
 rw [List.getD_eq_getElem?_getD,h];rfl
theorem getD_get {b:Type} {l:List b} {i:Nat} {d:b} (h:i<l.length):l[i]?=some (l.getD i d):=by simp [List.getD,List.getElem?_eq_getElem h]
theorem z0s (l:Sim C) (hG:E.G C.w) (m:Y5 C a e) {t:TypeId} {x:Operand} {q:Opd} (B:o.op=.load t x) (I:opd x=some q) (hg:z07 E.P t=some false)
  {rows:List (List IV)} {r off:Nat} (h:y8 E.gl C.L (e q)=some (rows,r,off)) (A:r<rows.length) (j:off<(rows.getD r []).length)
  (D:K ((rows.getD r []).getD off .und) C.L):Zy E C a o K:=by
 obtain ⟨b,k,p,hc⟩:=jw l hG (m x q I) h A
 obtain ⟨u,h1,h2⟩:=hc 0 _ (getD_get (d:=.und) (by simpa using j))
 refine zu (s:=Instr.loadAt t (a.eval x)) (v:=u) (w':=C.w) (by unfold execOp;rw [B]) ?_ (ZH h2 (by simpa using D))
 rw [p]
 unfold Instr.loadAt loadVar
 rw [Sem.run_bind]
 simp only [Instr.sureAddr,Sem.run_pure,Result.andThen_ok]
 rw [Sem.run_bind,z3i hg]
 simp only [Result.andThen_ok,Bool.false_eq_true,if_false,run_load]
 simp only [Nat.add_zero] at h1
 rw [h1]
theorem z0x (p:Sim C) (hG:E.G C.w) (I:Y5 C a e) {t:TypeId} {x:Operand} {q:Opd} {n:Nat} (Q:o.op=.load t x) (S:opd x=some q) (hg:z07 E.P t=some true) (O:Zx E.P t=some n)
  {rows:List (List IV)} {r off:Nat} (h:y8 E.gl C.L (e q)=some (rows,r,off)) (M:r<rows.length) (B:off+n<=(rows.getD r []).length)
  (R:K (.agg (((rows.getD r []).drop off).take n)) C.L):Zy E C a o K:=by
 obtain ⟨b,k,J,hc⟩:=jw p hG (I x q S) h M
 have l:∀j,j<n->∃u,C.w.cell? ⟨b,k+j,none⟩=some u/\VR C ((rows.getD r []).getD (off+j) .und) u:=fun j d=>hc j _ (getD_get od)
 let f:Nat->Value:=fun j=>if d:j<n then (l j d).choose else undef
 have D:∀j,j<n->C.w.cell? ⟨b,k+j,none⟩=some (f j)/\VR C ((rows.getD r []).getD (off+j) .und) (f j):=fun j d=>by
  simp only [f,d,dif_pos];exact (l j d).choose_spec
 refine zu (s:=Instr.loadAt t (a.eval x)) (v:=.agg ((List.range n).map f).toArray) (w':=C.w) (by unfold execOp;rw [Q]) ?_ (ZH ?_ R)
 ·rw [J]
  unfold Instr.loadAt loadVar
  rw [Sem.run_bind]
  simp only [Instr.sureAddr,Sem.run_pure,Result.andThen_ok]
  rw [Sem.run_bind,z3i hg]
  simp only [Result.andThen_ok,if_true]
  rw [Sem.run_bind,Zi O]
  simp only [Result.andThen_ok]
  rw [Sem.run_bind,run_loadCells C.w _ n f (fun j d=>by
   have:(⟨b,k,none⟩:Addr).add j=⟨b,k+j,none⟩:=by unfold Addr.add;split<;>simp_all
   rw [this];exact (D j d).1)]
  rfl
 ·refine .agg _ _ (by rw [List.length_take,List.length_drop,List.length_map,List.length_range];omega) fun i y hi=>?_
  rw [List.getElem?_take] at hi
  split at hi
  ·rename_i A
   rw [List.getElem?_drop] at hi
   have m:i<n:=A
   have h1:=(D i m).2
   have T:(rows.getD r []).getD (off+i) .und=y:=WO hi
   rw [T] at h1
   simpa [List.getD,m] using h1
  ·cases hi
theorem Vk {w:World} {g:Nat} {old cs:Array Value} {t:TypeId} {d:Nat × Nat} (hg:w.heap[g]?=some (.cells old t d)):w.setRow g cs=setW w g (.cells cs t d):=by
 unfold World.setRow setW
 cases w with
 | mk heap tape drawn os output=>
  congr 1
  apply Array.ext'
  apply List.ext_getElem?
  intro i
  simp only [Array.getElem?_toList]
  rw [Array.getElem?_modify,Array.getElem?_setIfInBounds]
  by_cases h:g=i
  ·subst h
   have b:=(Array.getElem?_eq_some_iff.1 hg).1
   simp only [b]
   rw [hg];simp
  ·rw [if_neg h,if_neg h]
theorem ZC {r:Bool} (P:Program) (g o:Nat) (t:TypeId) (h:Nat × Nat):∀(vs:List Value) (i:Nat) (b:Array Value) (w:World),w.heap[g]?=some (.cells b t h)->z8b r b.size h->o+i+vs.length<=b.size->(∀v∈vs,v.oneCell'=true)->
  (storeCells ⟨g,o,none⟩ vs i).run P w=.ok () (w.setRow g (b.toList.take (o+i)++vs++b.toList.drop (o+i+vs.length)).toArray)
 | [],i,b,w,hg,_,_,_=>by
  simp only [storeCells,List.append_nil,lln,Nat.add_zero,List.take_append_drop,Array.toArray_toList]
  rw [setRow_self w g b t h hg]
  rfl
 | v::rest,i,b,w,hg,hfz,hl,h1=>by
  have hi:o+i<b.size:=by simp at hl;omega
  have l:(⟨g,o,none⟩:Addr).add i=⟨g,o+i,none⟩:=by unfold Addr.add;split<;>simp_all
  have d:w.cell? ⟨g,o+i,none⟩=some b[o+i]:=by simp [World.cell?,hg,hi]
  have j:w.frozen? ⟨g,o+i,none⟩=false:=by
   obtain ⟨lo,q⟩:=h
   have:=zbe hfz hi
   simp only [World.frozen?,hg,Bool.and_eq_false_iff,decide_eq_false_iff_not]
   simp only at this
   omega
  have m:(store ((⟨g,o,none⟩:Addr).add i) v).run P w=.ok () (w.setRow g (b.setIfInBounds (o+i) v)):=by
   rw [l,run_store P w _ v _ (h1 v (by simp)),d]
   simp [j,setCell_eq_setRow w g (o+i) b t h v hg]
  have p:=ZC P g o t h rest (i+1) (b.setIfInBounds (o+i) v) (w.setRow g (b.setIfInBounds (o+i) v)) (setRow_heap w g b _ t _ hg) (by simpa using hfz) (by simp at hl ⊢;omega) (fun x s=>h1 x (by simp [s]))
  simp only [storeCells,Sem.run_bind,m,Result.andThen_ok,p,setRow_setRow]
  congr 3
  have e:=list_seg_step b.toList (o+i) v rest (by simp at hl ⊢;omega)
  simpa [Array.toList_setIfInBounds,Nat.add_assoc] using e
def seg (c:Array Value) (k:Nat) (vs:List Value):Array Value:=(c.toList.take k++vs++c.toList.drop (k+vs.length)).toArray
theorem Zb {c:Array Value} {k:Nat} {vs:List Value} (h:k+vs.length<=c.size):(seg c k vs).size=c.size:=by
 have b:c.toList.length=c.size:=by simp
 simp only [seg,List.size_toArray,lla,List.length_take,List.length_drop,b];omega
theorem YO {c:Array Value} {k:Nat} {vs:List Value} (h:k+vs.length<=c.size) (i:Nat) :
  (seg c k vs)[i]?=if k<=i/\i<k+vs.length then vs[i - k]? else c[i]?:=by
 have b:c.toList.length=c.size:=by simp
 simp only [seg,List.getElem?_toArray]
 by_cases h1:i<k
 ·rw [if_neg od,List.append_assoc,List.getElem?_append_left (by rw [List.length_take];omega),List.getElem?_take,if_pos h1]
  simp
 ·by_cases h2:i<k+vs.length
  ·rw [if_pos ⟨od,h2⟩,List.append_assoc,List.getElem?_append_right (by rw [List.length_take];omega),List.getElem?_append_left (by rw [List.length_take];omega)]
   congr 1
   rw [List.length_take];omega
  ·rw [if_neg od,List.getElem?_append_right (by rw [lla,List.length_take];omega),List.getElem?_drop]
   rw [lla,List.length_take,<-Array.getElem?_toList]
   congr 1
   omega
theorem vk {b:Type} {l xs:List b} {i:Nat} (h:i+xs.length<=l.length):(splice l i xs).length=l.length:=by
 simp only [splice,lla,List.length_take,List.length_drop];omega
theorem VZ {b:Type} {l xs:List b} {k:Nat} (h:k<=l.length) (i:Nat) :
  (splice l k xs)[i]?=if k<=i/\i<k+xs.length then xs[i - k]? else l[i]?:=by
 simp only [splice]
 by_cases h1:i<k
 ·rw [if_neg od,List.append_assoc,List.getElem?_append_left (by rw [List.length_take];omega),List.getElem?_take,if_pos h1]
 ·by_cases h2:i<k+xs.length
  ·rw [if_pos ⟨od,h2⟩,List.append_assoc,List.getElem?_append_right (by rw [List.length_take];omega),List.getElem?_append_left (by rw [List.length_take];omega)]
   congr 1
   rw [List.length_take];omega
  ·rw [if_neg od,List.getElem?_append_right (by rw [lla,List.length_take];omega),List.getElem?_drop]
   rw [lla,List.length_take]
   congr 1
   omega
theorem jl {i r sz j:Nat} (h:i<r) (b:j<sz):i*sz+j<r*sz:=by
 have h1:(i+1)*sz<=r*sz:=Nat.mul_le_mul_right sz h
 rw [Nat.add_mul] at h1
 omega
theorem zx {b:Type} {l:List b} {i:Nat} {x:b} (h:l[i]?=some x):i<l.length:=(List.getElem?_eq_some_iff.1 h).1
theorem z0W {C:Ctx} {c:Array Value} {base sz:Nat} {rows:List (List IV)} (m:Flat C c base sz rows) {r off:Nat} {xs:List IV} {vs:List Value} (A:r<rows.length)
  (p:off+xs.length<=(rows.getD r []).length) (I:xs.length=vs.length) (D:∀(i:Nat) (x:IV),xs[i]?=some x->∃v,vs[i]?=some v/\VR C x v) :
  base+r*sz+off+vs.length<=c.size/\Flat C (seg c (base+r*sz+off) vs) base sz (rows.set r (splice (rows.getD r []) off xs)):=by
 have h:=getD_get (d:=[]) A
 have hsz:=(m.2 r _ h).1
 have b:base+r*sz+off+vs.length<=c.size:=by
  have h1:=m.1
  have h2:(r+1)*sz<=rows.length*sz:=Nat.mul_le_mul_right sz A
  rw [Nat.add_mul] at h2
  omega
 refine ⟨b,by rw [Zb b,lls];exact m.1,fun i row hi=>?_⟩
 rcases Zc hi with ⟨h1,h2⟩ | ⟨h1,h2,_⟩
 ·refine ⟨(m.2 i row h2).1,fun j x l=>?_⟩
  obtain ⟨v,s,q⟩:=(m.2 i row h2).2 j x l
  refine ⟨v,?_,q⟩
  rw [YO b,if_neg,s]
  rintro ⟨B,G⟩
  have w:j<sz:=by rw [<-(m.2 i row h2).1];exact zx l
  rcases Nat.lt_or_gt_of_ne h1 with u | u
  ·have:=jl u w;omega
  ·have:=jl u (show off+vs.length - 1<sz by omega);omega
 ·subst h1;subst h2
  refine ⟨(vk p).trans hsz,fun j x l=>?_⟩
  rw [VZ od] at l
  split at l
  ·rename_i B
   obtain ⟨v,s,q⟩:=D _ x l
   refine ⟨v,?_,q⟩
   rw [YO b,if_pos od,<-s]
   congr 1
   omega
  ·rename_i B
   obtain ⟨v,s,q⟩:=(m.2 i _ h).2 j x l
   refine ⟨v,?_,q⟩
   rw [YO b,if_neg od,s]
theorem vC {s:Nat} {sz:Nat} {rows rows':List (List IV)} {c c':Array Value} {ty:TypeId} {b:Nat × Nat} {r:IV} {v:Value} (wf:Wf E.g0 C) (d:Sim C) (hs:C.L[s]?=some (.cells sz rows))
  (hc:C.w.heap[(C.φ s).blk]?=some (.cells c ty b)) (l:z8b false c.size b) (hsz:c'.size=c.size) (p:Flat C c' (C.φ s).base sz rows')
  (m:VR (jM C s (.cells c' ty b) (.cells sz rows')) r v) (h:K r (C.L.set s (.cells sz rows'))):Post E C K v (setW C.w (C.φ s).blk (.cells c' ty b)):=by
 refine ⟨r,C.L.set s (Blk.cells sz rows'),C.φ,h,z1f (o:=.cells c' ty b) wf hs rfl,zak wf d hs rfl hc hsz ?_,jf hs rfl hc hsz,m⟩
 have j:=p.mono (jf (k:=.cells sz rows') hs rfl hc hsz)
 refine ⟨(d s _ hs).1,c',ty,b,?_,by rw [hsz];exact l,j.1,j.2⟩
 exact zT (Array.getElem?_eq_some_iff.1 hc).1
theorem z2U {s:Nat} {sz:Nat} {rows rows':List (List IV)} {c c':Array Value} {ty:TypeId} {b:Nat × Nat} {r:IV} {v:Value} (wf:Wf E.g0 C) (d:Sim C) (hs:C.L[s]?=some (.tcells ty sz rows))
  (hc:C.w.heap[(C.φ s).blk]?=some (.cells c ty b)) (l:z8b true c.size b) (hsz:c'.size=c.size) (p:Flat C c' (C.φ s).base sz rows')
  (m:VR (jM C s (.cells c' ty b) (.tcells ty sz rows')) r v) (h:K r (C.L.set s (.tcells ty sz rows'))):Post E C K v (setW C.w (C.φ s).blk (.cells c' ty b)):=by
 refine ⟨r,C.L.set s (Blk.tcells ty sz rows'),C.φ,h,z1f (o:=.cells c' ty b) wf hs rfl,zak wf d hs rfl hc hsz ?_,jf hs rfl hc hsz,m⟩
 have j:=p.mono (jf (k:=.tcells ty sz rows') hs rfl hc hsz)
 have hh:(jM C s (.cells c' ty b) (.tcells ty sz rows')).w.heap[(C.φ s).blk]?=some (.cells c' ty b):=zT (Array.getElem?_eq_some_iff.1 hc).1
 exact ⟨⟨(d s _ hs).1.1,c',ty,b,hh,by rw [hsz];exact l,j.1,j.2⟩,(d s _ hs).2.1,c',b,hh⟩
theorem z2F (Y:Sim C) (T:Y5 C a e) {t:TypeId} {p x:Operand} {O d:Opd} {n:Nat} (ho:o.op=.store t p x) (hp:opd p=some O) (hx:opd x=some d)
  (hn:Zx E.P t=some n) {s r off sz:Nat} {rows:List (List IV)} (h1:e O=.ptr s r off) {V:Bool} (R:yS V C s sz rows) (Z:r<rows.length) (l:off+n<=(rows.getD r []).length)
  (X:(cellsOf (e d)).length=n) (hc:(cellsOf (e d)).all zG=true)
  (hK:∀(c c':Array Value) (ty:TypeId) (h:Nat × Nat),C.w.heap[(C.φ s).blk]?=some (.cells c ty h)->z8b V c.size h->c'.size=c.size->
   Flat C c' (C.φ s).base sz (rows.set r (splice (rows.getD r []) off (cellsOf (e d))))->Post E C K undef (setW C.w (C.φ s).blk (.cells c' ty h))):Good E C a o K:=by
 have q:=T p O hp
 rw [h1] at q
 generalize I:a.eval p=pv at q
 cases q with
 | ptr _ _ _ hs=>
 obtain ⟨hsz,c,ty,h,M,D,hf⟩:=R
 obtain ⟨b,Q⟩:=(T x d hx).cells
 have j:∀(i:Nat) (y:IV),(cellsOf (e d))[i]?=some y->∃v,(a.eval x).cells.toList[i]?=some v/\VR C y v:=fun i y hi=>by
  obtain ⟨v,G,J⟩:=Q i y hi;exact ⟨v,by simpa using G,J⟩
 obtain ⟨B,S⟩:=z0W (C:=C) hf Z (by rw [X];exact l) (vs:=(a.eval x).cells.toList) (by simpa using b) j
 have A:∀v∈(a.eval x).cells.toList,v.oneCell'=true:=fun v q=>by
  obtain ⟨i,hi,rfl⟩:=List.getElem_of_mem q
  have m:i<(cellsOf (e d)).length:=by rw [b];simpa using hi
  obtain ⟨u,G,J⟩:=j i _ (List.getElem?_eq_getElem m)
  rw [List.getElem?_eq_getElem hi] at G
  rw [Option.some.inj G]
  exact z0G J (List.all_eq_true.1 hc _ (List.getElem_mem m))
 refine z2w (s:=Instr.storeAt t (a.eval p) (a.eval x)) (by unfold execOp;rw [ho]) ?_ (hK c _ ty h M D (Zb B) S)
 rw [I]
 unfold Instr.storeAt storeVar
 rw [Sem.run_bind]
 simp only [Instr.sureAddr,Sem.run_pure,Result.andThen_ok]
 rw [Sem.run_bind,Zi hn]
 simp only [Result.andThen_ok]
 rw [if_neg (by rw [<-b,X];simp)]
 have U:=ZC E.P (C.φ s).blk ((C.φ s).base+r*sz+off) ty h (a.eval x).cells.toList 0 c C.w M D (by simpa using B) A
 simp only [Nat.add_zero] at U
 rw [hsz]
 rw [<-Vk M]
 exact U
theorem z7e (wf:Wf E.g0 C) (b:Sim C) (m:Y5 C a e) {t:TypeId} {p x:Operand} {l h:Opd} {n:Nat} (w:o.op=.store t p x) (G:opd p=some l) (I:opd x=some h)
  (u:Zx E.P t=some n) {s r off sz:Nat} {rows:List (List IV)} (h1:e l=.ptr s r off) (h2:C.L[s]?=some (.cells sz rows)) (q:r<rows.length) (d:off+n<=(rows.getD r []).length)
  (v:(cellsOf (e h)).length=n) (hc:(cellsOf (e h)).all zG=true)
  (D:K .und (C.L.set s (.cells sz (rows.set r (splice (rows.getD r []) off (cellsOf (e h))))))):Good E C a o K:=
 z2F b m w G I u h1 (b s _ h2) q d v hc fun _ _ _ _ B j hsz A=>vC wf b h2 B j hsz A (by exact .und) D
theorem z5m (wf:Wf E.g0 C) (b:Sim C) (v:Y5 C a e) {t:TypeId} {p x:Operand} {u h:Opd} {n:Nat} (D:o.op=.store t p x) (J:opd p=some u) (M:opd x=some h)
  (A:Zx E.P t=some n) {s r off ty sz:Nat} {rows:List (List IV)} (h1:e u=.ptr s r off) (h2:C.L[s]?=some (.tcells ty sz rows)) (w:r<rows.length) (d:off+n<=(rows.getD r []).length)
  (B:(cellsOf (e h)).length=n) (hc:(cellsOf (e h)).all zG=true)
  (I:K .und (C.L.set s (.tcells ty sz (rows.set r (splice (rows.getD r []) off (cellsOf (e h))))))):Good E C a o K:=
 z2F b v D J M A h1 (b s _ h2).1 w d B hc fun c c' j O q l hsz G=>by
  obtain ⟨_,_,c0,fr0,m⟩:=b s _ h2
  have:j=ty:=by rw [q] at m;cases m;rfl
  subst this
  exact z2U wf b h2 q l hsz G (by exact .und) I
theorem z8m (cs:List Value):∀(off k:Nat) (c:Array Value),off+k+cs.length<=c.size->
  (cs.zipIdx k).foldl (fun a (x:Value × Nat)=>a.setIfInBounds (off+x.2) x.1) c=seg c (off+k) cs:=by
 induction cs with
 | nil=>intro off k c h;simp [seg]
 | cons v r b=>
  intro off k c h
  simp only [llc] at h
  rw [List.zipIdx_cons,List.foldl_cons,show k+1=k+1 from rfl,b off (k+1) _ (by rw [Array.size_setIfInBounds];omega)]
  apply Array.ext_getElem?
  intro i
  rw [YO (by rw [Array.size_setIfInBounds];omega),YO (by simp only [llc];omega),Array.getElem?_setIfInBounds]
  simp only [llc]
  by_cases h1:i=off+k
  ·subst h1
   rw [if_neg od,if_pos rfl,if_pos od,if_pos ⟨od,od⟩]
   simp
  ·by_cases h2:off+k<i/\i<off+k+(r.length+1)
   ·rw [if_pos ⟨od,od⟩,if_pos ⟨od,od⟩]
    have:i - (off+k)=(i - (off+(k+1)))+1:=by omega
    rw [this,List.getElem?_cons_succ]
   ·rw [if_neg od,if_neg od,if_neg od]
theorem z3T (c:Array Value) (off:Nat) (vs:Array Value) (h:off+vs.size<=c.size) :
  vs.zipIdx.foldl (fun cs (x:Value × Nat)=>cs.setIfInBounds (off+x.2) x.1) c=seg c off vs.toList:=by
 rw [<-Array.foldl_toList,Array.toList_zipIdx]
 have:=z8m vs.toList off 0 c (by simpa using h)
 simpa using this
def Row (C:Ctx) (zs:List IV) (c:Array Value):Prop:=zs.length=c.size/\∀(j:Nat) (x:IV),zs[j]?=some x->∃u,c[j]?=some u/\VR C x u
theorem z7g {C:Ctx} {m:List IV} {c:Array Value} (h:Row C m c) {off:Nat} {xs:List IV} {vs:List Value} (p:xs.length=vs.length) (d:off+xs.length<=m.length)
  (q:∀(i:Nat) (x:IV),xs[i]?=some x->∃v,vs[i]?=some v/\VR C x v):Row C (splice m off xs) (seg c off vs):=by
 have b:off+vs.length<=c.size:=by rw [<-h.1,<-p];exact d
 refine ⟨by rw [vk d,Zb b];exact h.1,fun j x l=>?_⟩
 rw [VZ od] at l
 rw [YO b]
 split at l
 ·rename_i h1
  rw [if_pos od]
  exact q _ x l
 ·rename_i h1
  rw [if_neg od]
  exact h.2 j x l
theorem VO {C:Ctx} {place:Nat->Option (Nat × Nat)}:∀(ps:List (Nat × Value)) (b:List (Nat × Nat × IV)) (d cs:List IV) (c:Array Value),Row C d c->z0i d b=some cs->
  ps.length=b.length->(∀(i:Nat) q,b[i]?=some q->∃p,ps[i]?=some p/\place p.1=some (q.1,q.2.1)/\VR C q.2.2 p.2)->
  ∃c',Instr.fill place c ps=some c'/\Row C cs c'
 | [],[],d,cs,c,hr,hf,_,_=>by
  simp only [z0i,sij] at hf;subst hf
  exact ⟨c,rfl,hr⟩
 | [],q::b,_,_,_,_,_,hl,_=>by simp at hl
 | p::ps,[],_,_,_,_,_,hl,_=>by simp at hl
 | (i,v)::ps,(off,n,x)::b,d,cs,c,hr,hf,hl,h=>by
  obtain ⟨p,m,j,w⟩:=h 0 _ rfl
  simp only [List.getElem?_cons_zero,sij] at m;subst m
  simp only [z0i] at hf
  split at hf
  ·rename_i hc
   obtain ⟨h1,h2⟩:=w.cells
   dsimp only at h1 h2
   have r:v.cells.size=n:=by rw [<-h1];exact hc.1
   have l:Row C (splice d off (cellsOf x)) (seg c off v.cells.toList):=z7g hr (by simpa using h1) (by rw [hc.1];exact hc.2)
    (fun i y hi=>by obtain ⟨u,G,A⟩:=h2 i y hi;exact ⟨u,by simpa using G,A⟩)
   obtain ⟨c',B,s⟩:=VO ps b _ cs _ l hf (by simpa using hl) (fun i q hi=>h (i+1) q (by simpa using hi))
   refine ⟨c',?_,s⟩
   simp only [Instr.fill,j]
   have D:off+n<=c.size:=by rw [<-hr.1];exact hc.2
   rw [if_neg (by simp only [Bool.or_eq_true,decide_eq_true_eq];omega),z3T c off v.cells od]
   exact B
  ·cases hf
theorem jI {P:Program} {b d:Type} {f:b->Sem d} {g:b->d} {w:World}:∀(l:List b),(∀x∈l,(f x).run P w=.ok (g x) w)->(l.mapM f).run P w=.ok (l.map g) w
 | [],_=>rfl
 | x::r,h=>by
  rw [List.mapM_cons,Sem.run_bind,h x (by simp)]
  simp only [Result.andThen_ok]
  rw [Sem.run_bind,jI r (fun y j=>h y (by simp [j]))]
  rfl
theorem z8t {cs:List IV} {c:Array Value} (h:Row C cs c):VR C (.agg cs) (.agg c):=by
 have:=VR.agg (C:=C) cs c.toList (by simpa using h.1) (fun i x hi=>by
  obtain ⟨u,h1,h2⟩:=h.2 i x hi
  have:c.toList.getD i undef=u:=WO (by simpa using h1)
  rw [this];exact h2)
 simpa using this
theorem VX (J:Sim C) (I:Y5 C a e) {t:TypeId} {ps:Array (Nat × Operand)} {d:Array Field} {z:List IV} {r:List (Nat × Nat × Opd)} (O:o.op=.build t ps)
  (V:E.P.underlying t=some (.struct d)) (G:zeroCells E.P t=some z)
  (D:zJ (fun (p:Nat × Operand)=>(d[p.1]?).bind fun f=>(Zx E.P f.type).bind fun n=>(opd p.2).map fun x=>(f.offset,n,x)) ps.toList=some r)
  (A:d.toList.all (fun f=>(E.P.info? f.type).isSome)=true) {cs:List IV} (Y:z0i z (r.map fun p=>(p.1,p.2.1,e p.2.2))=some cs) (X:K (.agg cs) C.L):Zy E C a o K:=by
 obtain ⟨i,v,h1,h2,U,S⟩:=ZG G
 let g:Field->Nat × Nat:=fun f=>(f.offset,((E.P.info? f.type).map (·.size)).getD 0)
 have u:(d.mapM fun f=>(do pure (f.offset,<-sizeOf f.type):Sem (Nat × Nat))).run E.P C.w=.ok (d.toList.map g).toArray C.w:=by
  rw [Array.mapM_eq_mapM_toList,Sem.run_map,jI (g:=g) d.toList]
  ·rfl
  ·intro f R
   have:=List.all_eq_true.1 A f R
   obtain ⟨i,hi⟩:=Option.isSome_iff_exists.1 this
   rw [Sem.run_bind,Zi (n:=i.size) (by simp [Zx,hi])]
   simp [g,hi]
 obtain ⟨c',T,M⟩:=VO (C:=C) (place:=fun j=>(d.toList.map g).toArray[j]?) (ps.toList.map fun p=>(p.1,a.eval p.2)) (r.map fun p=>(p.1,p.2.1,e p.2.2)) z cs v.cells ⟨U,S C⟩ Y
  (by simp [zQ D]) (fun j q m=>by
   rw [List.getElem?_map,oms] at m
   obtain ⟨Z,m,rfl⟩:=m
   obtain ⟨p,B,l⟩:=zW D j Z m
   rw [obs] at l
   obtain ⟨f,l,h⟩:=l
   rw [obs] at h
   obtain ⟨n,h,b⟩:=h
   rw [oms] at b
   obtain ⟨x,b,rfl⟩:=b
   refine ⟨(p.1,a.eval p.2),by rw [List.getElem?_map,B];rfl,?_,I _ _ b⟩
   simp only [List.getElem?_toArray,List.getElem?_map,Array.getElem?_toList,l,Option.map_some,g]
   unfold Zx at h
   rw [h];rfl)
 refine zu (s:=Instr.build t (ps.map fun (i,x)=>(i,a.eval x))) (v:=.agg c') (w':=C.w) (by unfold execOp;rw [O]) ?_ (ZH (z8t M) X)
 unfold Instr.build
 rw [Sem.run_bind,yF h1 h2]
 simp only [Result.andThen_ok]
 rw [Sem.run_bind]
 have Q:(underlying t).run E.P C.w=.ok (.struct d) C.w:=by simp [underlying,V]
 rw [Q]
 simp only [Result.andThen_ok]
 rw [Sem.run_bind,u]
 simp only [Result.andThen_ok]
 have B:(ps.map fun (x:Nat × Operand)=>(x.1,a.eval x.2)).toList=ps.toList.map fun p=>(p.1,a.eval p.2):=by simp
 rw [B,T]
 rfl
theorem jQ (G:Sim C) (D:Y5 C a e) {t h:TypeId} {ps:Array (Nat × Operand)} {m n:Nat} {z:List IV} {d:List (Nat × Nat × Opd)} (M:o.op=.build t ps)
  (T:E.P.underlying t=some (.array m h)) (B:zeroCells E.P t=some z) (J:Zx E.P h=some n)
  (A:zJ (fun (p:Nat × Operand)=>(opd p.2).map fun x=>(p.1*n,n,x)) ps.toList=some d)
  {cs:List IV} (V:z0i z (d.map fun p=>(p.1,p.2.1,e p.2.2))=some cs) (U:K (.agg cs) C.L):Zy E C a o K:=by
 obtain ⟨i,v,h1,h2,S,Q⟩:=ZG B
 obtain ⟨c',R,I⟩:=VO (C:=C) (place:=fun j=>some (j*n,n)) (ps.toList.map fun p=>(p.1,a.eval p.2)) (d.map fun p=>(p.1,p.2.1,e p.2.2)) z cs v.cells ⟨S,Q C⟩ V
  (by simp [zQ A]) (fun j q b=>by
   rw [List.getElem?_map,oms] at b
   obtain ⟨X,b,rfl⟩:=b
   obtain ⟨p,l,u⟩:=zW A j X b
   rw [oms] at u
   obtain ⟨x,r,rfl⟩:=u
   exact ⟨(p.1,a.eval p.2),by rw [List.getElem?_map,l];rfl,rfl,D _ _ r⟩)
 refine zu (s:=Instr.build t (ps.map fun (i,x)=>(i,a.eval x))) (v:=.agg c') (w':=C.w) (by unfold execOp;rw [M]) ?_ (ZH (z8t I) U)
 unfold Instr.build
 rw [Sem.run_bind,yF h1 h2]
 simp only [Result.andThen_ok]
 rw [Sem.run_bind]
 have O:(underlying t).run E.P C.w=.ok (.array m h) C.w:=by simp [underlying,T]
 rw [O]
 simp only [Result.andThen_ok]
 rw [Sem.run_bind,Zi J]
 simp only [Result.andThen_ok]
 have l:(ps.map fun (x:Nat × Operand)=>(x.1,a.eval x.2)).toList=ps.toList.map fun p=>(p.1,a.eval p.2):=by simp
 rw [l,R]
 rfl
theorem vM {C:Ctx} {z:List IV} {v:Value} {m:Nat} (A:z.length=v.cells.size) (h:∀(j:Nat) (x:IV),z[j]?=some x->∃u,v.cells[j]?=some u/\VR C x u)
  (zero:Array Value) (w:m*z.length=0\/zero=v.cells) :
  ((Array.range (m*z.length)).map (zero[·%zero.size]!)).size=m*z.length/\Flat C ((Array.range (m*z.length)).map (zero[·%zero.size]!)) 0 z.length (List.replicate m z):=by
 refine ⟨by simp,by simp,fun i row hi=>?_⟩
 rw [List.getElem?_replicate] at hi
 split at hi
 ·rename_i q
  simp only [sij] at hi;subst hi
  refine ⟨rfl,fun j x s=>?_⟩
  obtain ⟨u,h1,h2⟩:=h j x s
  have l:j<z.length:=zx s
  refine ⟨u,?_,h2⟩
  have b:i*z.length+j<m*z.length:=jl q l
  have r:zero=v.cells:=w.resolve_left od
  subst r
  have p:j<v.cells.size:=by omega
  have d:(i*z.length+j)%v.cells.size=j:=by rw [<-A,Nat.mul_comm,Nat.mul_add_mod,Nat.mod_eq_of_lt l]
  simp only [Nat.zero_add,Array.getElem?_map,Array.getElem?_range,b,if_true,Option.map_some,d]
  rw [getElem!_pos v.cells j p,<-h1,Array.getElem?_eq_getElem p]
 ·cases hi
theorem vP {C:Ctx} {sz:Nat}:∀(ps:List (Nat × Value)) (m:List (Nat × IV)) (rows rows':List (List IV)) (c:Array Value),c.size=rows.length*sz->Flat C c 0 sz rows->Zn sz rows m=some rows'->
  ps.length=m.length->(∀(i:Nat) (q:Nat × IV),m[i]?=some q->∃p,ps[i]?=some p/\p.1=q.1/\VR C q.2 p.2)->
  ∃c',Instr.fill (fun i=>some (i*sz,sz)) c ps=some c'/\c'.size=c.size/\rows'.length=rows.length/\Flat C c' 0 sz rows'
 | [],[],rows,rows',c,hs,hr,hf,_,_=>by
  simp only [Zn,sij] at hf;subst hf
  exact ⟨c,rfl,rfl,rfl,hr⟩
 | [],q::m,_,_,_,_,_,_,hl,_=>by simp at hl
 | p::ps,[],_,_,_,_,_,_,hl,_=>by simp at hl
 | (i,v)::ps,(k,x)::m,rows,rows',c,hs,hr,hf,hl,h=>by
  obtain ⟨p,D,r,B⟩:=h 0 _ rfl
  simp only [List.getElem?_cons_zero,sij] at D;subst D
  dsimp only at r B;subst r
  simp only [Zn] at hf
  split at hf
  ·rename_i hc
   obtain ⟨h1,h2⟩:=B.cells
   have w:=getD_get (d:=[]) hc.2
   have s:=(hr.2 _ _ w).1
   have A:splice (rows.getD i []) 0 (cellsOf x)=cellsOf x:=by
    simp only [splice,List.take_zero,List.nil_append,Nat.zero_add]
    rw [List.drop_eq_nil_of_le (by rw [s,hc.1];exact Nat.le_refl _),List.append_nil]
   obtain ⟨b,l⟩:=z0W hr hc.2 (off:=0) (xs:=cellsOf x) (vs:=v.cells.toList) (by rw [s,hc.1];omega) (by simpa using h1)
    (fun i y hi=>by obtain ⟨u,S,O⟩:=h2 i y hi;exact ⟨u,by simpa using S,O⟩)
   rw [A] at l
   simp only [Nat.zero_add,Nat.add_zero] at b l
   obtain ⟨c',Q,J,R,I⟩:=vP ps m _ rows' _ (by rw [Zb (by simpa using b),lls];exact hs) l hf (by simpa using hl) (fun j q M=>h (j+1) q (by simpa using M))
   refine ⟨c',?_,by rw [J,Zb (by simpa using b)],by rw [R,lls],I⟩
   simp only [Instr.fill]
   have G:v.cells.size=sz:=by rw [<-h1];exact hc.1
   simp only [Array.length_toList] at b
   rw [if_neg (by simp only [Bool.or_eq_true,decide_eq_true_eq];omega),z3T c (i*sz) v.cells b]
   exact Q
  ·cases hf
theorem z4H {g:Nat} (hg:Free C.L g) (wf:Wf E.g0 C) (D:Sim C) (V:Y5 C a e) {t l:TypeId} {ps:Array (Nat × Operand)} {len n:Nat} {z:List IV} {B:List (Nat × Opd)} (Z:o.op=.buildSlice t len ps)
  (ht:E.P.underlying t=some (.slice l)) (Y:Zx E.P l=some n) (U:zeroCells E.P l=some z)
  (T:zJ (fun (p:Nat × Operand)=>(opd p.2).map fun x=>(p.1,x)) ps.toList=some B) (hb:len*n<=2^24) (h0:0<n) (G:z.length=n)
  {rows:List (List IV)} (hx:Zn n (List.replicate len z) (B.map fun p=>(p.1,e p.2))=some rows) (hK:K (.sl g 0 len len) (Z4 C.L g (.cells n rows))):Good E C a o K:=by
 obtain ⟨i,v,h1,h2,h3,h4⟩:=ZG U
 subst G
 let zero:Array Value:=if len*z.length=0 then #[] else v.cells
 have b:len*z.length=0\/zero=v.cells:=by
  by_cases h:len*z.length=0
  ·exact .inl h
  ·exact .inr (by simp only [zero,h,if_false])
 obtain ⟨d,M⟩:=vM (C:=C) (m:=len) h3 (h4 C) zero b
 obtain ⟨c',A,X,S,r⟩:=vP (C:=C) (ps.toList.map fun p=>(p.1,a.eval p.2)) (B.map fun p=>(p.1,e p.2)) (List.replicate len z) rows _ (by rw [d];simp) M hx
  (by simp [zQ T]) (fun j q u=>by
   rw [List.getElem?_map,oms] at u
   obtain ⟨q0,u,rfl⟩:=u
   obtain ⟨p,S,r⟩:=zW T j q0 u
   rw [oms] at r
   obtain ⟨x,Q,rfl⟩:=r
   exact ⟨(p.1,a.eval p.2),by rw [List.getElem?_map,S];rfl,rfl,V _ _ Q⟩)
 have I:len<=9223372036854775807:=by
  have:=Nat.mul_le_mul_left len h0
  omega
 refine yU (s:=Instr.buildSlice t len (ps.map fun (i,x)=>(i,a.eval x))) (v:=.slice (some ⟨C.w.heap.size,0,none⟩) len len) (w':=yK C.w (.cells c' l)) (by unfold execOp;rw [Z]) ?_
  (WY hg wf D r (WN hg (Nat.le_refl _) (Nat.le_refl _) (by rw [X,d];exact Nat.le_refl _) I) hK)
 unfold Instr.buildSlice
 rw [Sem.run_bind]
 have hu:(underlying t).run E.P C.w=.ok (.slice l) C.w:=by simp [underlying,ht]
 rw [hu]
 simp only [Result.andThen_ok]
 rw [Sem.run_bind,Zi Y]
 simp only [Result.andThen_ok]
 have O:¬(len*z.length>2^24):=by omega
 rw [if_neg O]
 have R:(ps.map fun (x:Nat × Operand)=>(x.1,a.eval x.2)).toList=ps.toList.map fun p=>(p.1,a.eval p.2):=by simp
 by_cases h:len*z.length=0
 ·rw [if_pos h,Sem.run_bind]
  simp only [Sem.run_pure,Result.andThen_ok]
  have J:zero=#[]:=if_pos h
  rw [J] at A
  rw [R,A]
  rfl
 ·rw [if_neg h,Sem.run_bind,yF h1 h2]
  simp only [Result.andThen_ok]
  rw [Sem.run_bind]
  simp only [Sem.run_pure,Result.andThen_ok]
  have J:zero=v.cells:=if_neg h
  rw [J] at A
  rw [R,A]
  rfl
def Wv (C:Ctx) (news:List Value) (sz:Nat) (rs:List (List IV)):Prop:=news.length=rs.length*sz/\
 ∀(i:Nat) (row:List IV),rs[i]?=some row->row.length=sz/\∀(j:Nat) (x:IV),row[j]?=some x->∃u,news[i*sz+j]?=some u/\VR C x u
theorem Wv.one {b:List Value} {sz:Nat} {rs:List (List IV)} (h:Wv C b sz rs) (hc:∀row∈rs,row.all zG=true):∀v∈b,v.oneCell'=true:=by
 intro v q
 obtain ⟨k,d,rfl⟩:=List.getElem_of_mem q
 have hsz:0<sz:=by
  rcases Nat.eq_zero_or_pos sz with j | j
  ·have:=h.1;rw [j] at this;simp at this;rw [this] at d;simp at d
  ·exact j
 have hi:k / sz<rs.length:=by rw [Nat.div_lt_iff_lt_mul hsz,<-h.1];exact d
 obtain ⟨h1,h2⟩:=h.2 (k / sz) _ (List.getElem?_eq_getElem hi)
 have p:k%sz<(rs[k / sz]).length:=by rw [h1];exact Nat.mod_lt _ hsz
 obtain ⟨u,m,r⟩:=h2 (k%sz) _ (List.getElem?_eq_getElem p)
 have l:k / sz*sz+k%sz=k:=by rw [Nat.mul_comm];exact Nat.div_add_mod k sz
 rw [l,List.getElem?_eq_getElem d] at m
 rw [Option.some.inj m]
 exact z0G r (List.all_eq_true.1 (hc _ (List.getElem_mem hi)) _ (List.getElem_mem p))
theorem yL {P:Program} {w:World} {sz n:Nat} {b k:Nat} {f:Nat->Value} (h:∀j,j<n*sz->w.cell? ⟨b,k+j,none⟩=some (f j)) (l c:Nat) :
  (Builtin.firstCells sz n (.slice (some ⟨b,k,none⟩) l c)).run P w=.ok ((List.range (n*sz)).map f).toArray w:=by
 show (loadCells ⟨b,k,none⟩ (n*sz)).run P w=_
 refine run_loadCells w _ _ f fun j d=>?_
 have:(⟨b,k,none⟩:Addr).add j=⟨b,k+j,none⟩:=by unfold Addr.add;split<;>simp_all
 rw [this];exact h j d
theorem wS {sz:Nat} {rs:List (List IV)} {f:Nat->Value} (hsz:∀(i:Nat) (row:List IV),rs[i]?=some row->row.length=sz)
  (h:∀(i:Nat) (row:List IV),rs[i]?=some row->∀(j:Nat) (x:IV),row[j]?=some x->VR C x (f (i*sz+j))):Wv C ((List.range (rs.length*sz)).map f) sz rs:=by
 refine ⟨by simp,fun i row hi=>⟨hsz i row hi,fun j x d=>⟨f (i*sz+j),?_,h i row hi j x d⟩⟩⟩
 have b:j<sz:=by rw [<-hsz i row hi];exact zx d
 have:=jl (zx hi) b
 simp [this]
theorem z92 {k sz i j:Nat} (b:j<sz):(i*sz+j) / sz=i/\(i*sz+j)%sz=j:=by
 have d:0<sz:=by omega
 constructor
 ·rw [Nat.mul_comm,Nat.mul_add_div d,Nat.div_eq_of_lt b];rfl
 ·rw [Nat.mul_comm,Nat.mul_add_mod,Nat.mod_eq_of_lt b]
theorem VF (Q:Sim C) {x:IV} {X:Value} (hv:VR C x X) {rs:List (List IV)} {sz:Nat} (h:rowsOf C.L x=some rs) (hsz:∀row∈rs,row.length=sz) :
  ∃G,Wv C G sz rs/\(Builtin.lenOf X=pure rs.length)/\
   ∀w':World,w'.heap=C.w.heap->(Builtin.firstCells sz rs.length X).run E.P w'=.ok G.toArray w':=by
 have m:∀(i:Nat) (row:List IV),rs[i]?=some row->row.length=sz:=fun i row hi=>hsz row (List.mem_of_getElem? hi)
 cases hv with
 | str s=>
  simp only [rowsOf,sij] at h;subst h
  have h1:s=[]\/sz=1:=by
   cases s with
   | nil=>exact .inl rfl
   | cons c r=>right;have:=hsz [.int .u8 c.toNat] (by simp);simpa using this.symm
  refine ⟨s.map fun b=>.int .u8 b.toNat,⟨?_,fun i row hi=>⟨m i row hi,fun j y B=>?_⟩⟩,?_,fun w' _=>?_⟩
  ·rcases h1 with h1 | h1
   ·subst h1;simp
   ·subst h1;simp
  ·rw [List.getElem?_map,oms] at hi
   obtain ⟨b,Y,rfl⟩:=hi
   have h2:sz=1:=h1.resolve_left (fun h=>by subst h;simp at Y)
   subst h2
   cases j with
   | zero=>simp at B;subst B;exact ⟨_,by simp [Y],.int _ _⟩
   | succ j=>simp at B
  ·show pure (ByteArray.size _)=_
   simp [ByteArray.size]
  ·show (pure ((ByteArray.extract _ 0 _).data.map _):Sem (Array Value)).run E.P w'=_
   rw [Sem.run_pure]
   congr 1
   apply Array.ext'
   simp [ByteArray.extract,ByteArray.copySlice]
 | isl rows A cap' q vals ag T ah ha af=>
  simp only [rowsOf,sij] at h;subst h
  rcases ha with V | ⟨b,k,rfl,Y,hn,hc⟩
  ·subst V
   refine ⟨[],⟨by simp,fun i row hi=>by simp at hi⟩,rfl,fun w' _=>?_⟩
   cases A with
   | none=>rfl
   | some A=>show (loadCells A (0*sz)).run E.P w'=_;rw [Nat.zero_mul];rfl
  ·by_cases hr:rows=[]
   ·subst hr
    refine ⟨[],⟨by simp,fun i row hi=>by simp at hi⟩,rfl,fun w' _=>?_⟩
    show (loadCells _ (0*sz)).run E.P w'=_;rw [Nat.zero_mul];rfl
   ·have D:q=sz:=by
     obtain ⟨row,r,rfl⟩:=List.exists_cons_of_ne_nil hr
     rw [<-T 0 row rfl,<-m 0 row rfl]
    subst D
    refine ⟨_,wS (f:=fun k=>vals (k / q) (k%q)) m (fun i row hi j x B=>?_),rfl,fun w' R=>yL (fun k I=>?_) _ _⟩
    ·have U:j<q:=by rw [<-m i row hi];exact zx B
     rw [(z92 (k:=0) U).1,(z92 (k:=0) U).2];exact af i row hi j x B
    ·have V:0<q:=Nat.pos_of_ne_zero fun h=>by rw [h] at I;simp at I
     have hi:k / q<rows.length:=by rw [Nat.div_lt_iff_lt_mul V];exact I
     have p:=List.getElem?_eq_getElem hi
     have B:k%q<(rows[k / q]).length:=by rw [m _ _ p];exact Nat.mod_lt _ V
     have:=hc _ _ p _ _ (List.getElem?_eq_getElem B)
     rename_i kk
     have ae:k / q*q+k%q=k:=by rw [Nat.mul_comm];exact Nat.div_add_mod k q
     rw [Nat.add_assoc,ae] at this
     simp only [World.cell?,R] at this ⊢
     exact this
 | sl s off len cap A cap' hs hl hc ha=>
  simp only [rowsOf] at h
  split at h
  ·rename_i l rows hL
   split at h
   ·rename_i M
    simp only [sij] at h;subst h
    have d:((rows.drop off).take len).length=len:=by rw [List.length_take,List.length_drop];omega
    obtain ⟨h1,c,ty,fr,h2,_,h3,S⟩:=Q s _ hL
    by_cases hl0:len=0
    ·subst hl0
     refine ⟨[],⟨by simp,fun i row hi=>by simp at hi⟩,by rw [d];rfl,fun w' _=>?_⟩
     rw [d]
     cases A with
     | none=>rfl
     | some A=>show (loadCells A (0*sz)).run E.P w'=_;rw [Nat.zero_mul];rfl
    ·have v:∀(i:Nat) (row:List IV),((rows.drop off).take len)[i]?=some row->rows[off+i]?=some row:=fun i row hi=>by
      rw [List.getElem?_take] at hi
      split at hi
      ·rwa [List.getElem?_drop] at hi
      ·cases hi
     have D:l=sz:=by
      obtain ⟨row,p⟩:∃row,((rows.drop off).take len)[0]?=some row:=⟨_,List.getElem?_eq_getElem (by rw [d];omega)⟩
      rw [<-(S _ row (v 0 row p)).1,m 0 row p]
     subst D
     obtain ⟨rfl,_⟩:=ha.resolve_left od
     refine ⟨_,wS (f:=fun k=>c.getD ((C.φ s).base+off*l+k) undef) m (fun i row hi j x B=>?_),by rw [d];rfl,fun w' R=>yL (fun k I=>?_) _ _⟩
     ·obtain ⟨u,J,Z⟩:=(S _ row (v i row hi)).2 j x B
      rw [show (C.φ s).base+off*l+(i*l+j)=(C.φ s).base+(off+i)*l+j by rw [Nat.add_mul];omega,wX J]
      exact Z
     ·rw [d] at I
      have J:(off+len)*l<=rows.length*l:=Nat.mul_le_mul_right _ M
      rw [Nat.add_mul] at J
      have O:(C.φ s).base+off*l+k<c.size:=by omega
      rw [h1]
      simp only [World.cell?,R,h2]
      simp [O]
   ·cases h
  ·rename_i ai l rows hL
   split at h
   ·rename_i M
    simp only [sij] at h;subst h
    have d:((rows.drop off).take len).length=len:=by rw [List.length_take,List.length_drop];omega
    obtain ⟨h1,c,ty,fr,h2,_,h3,S⟩:=(Q s _ hL).1
    by_cases hl0:len=0
    ·subst hl0
     refine ⟨[],⟨by simp,fun i row hi=>by simp at hi⟩,by rw [d];rfl,fun w' _=>?_⟩
     rw [d]
     cases A with
     | none=>rfl
     | some A=>show (loadCells A (0*sz)).run E.P w'=_;rw [Nat.zero_mul];rfl
    ·have v:∀(i:Nat) (row:List IV),((rows.drop off).take len)[i]?=some row->rows[off+i]?=some row:=fun i row hi=>by
      rw [List.getElem?_take] at hi
      split at hi
      ·rwa [List.getElem?_drop] at hi
      ·cases hi
     have D:l=sz:=by
      obtain ⟨row,p⟩:∃row,((rows.drop off).take len)[0]?=some row:=⟨_,List.getElem?_eq_getElem (by rw [d];omega)⟩
      rw [<-(S _ row (v 0 row p)).1,m 0 row p]
     subst D
     obtain ⟨rfl,_⟩:=ha.resolve_left od
     refine ⟨_,wS (f:=fun k=>c.getD ((C.φ s).base+off*l+k) undef) m (fun i row hi j x B=>?_),by rw [d];rfl,fun w' R=>yL (fun k I=>?_) _ _⟩
     ·obtain ⟨u,J,Z⟩:=(S _ row (v i row hi)).2 j x B
      rw [show (C.φ s).base+off*l+(i*l+j)=(C.φ s).base+(off+i)*l+j by rw [Nat.add_mul];omega,wX J]
      exact Z
     ·rw [d] at I
      have J:(off+len)*l<=rows.length*l:=Nat.mul_le_mul_right _ M
      rw [Nat.add_mul] at J
      have O:(C.φ s).base+off*l+k<c.size:=by omega
      rw [h1]
      simp only [World.cell?,R,h2]
      simp [O]
   ·cases h
  ·cases h
 | esl A=>
  simp only [rowsOf,sij] at h;subst h
  refine ⟨[],⟨by simp,fun i row hi=>by simp at hi⟩,rfl,fun w' _=>?_⟩
  cases A with
  | none=>rfl
  | some A=>show (loadCells A (0*sz)).run E.P w'=_;rw [Nat.zero_mul];rfl
 | nsl=>
  simp only [rowsOf,sij] at h;subst h
  exact ⟨[],⟨by simp,fun i row hi=>by simp at hi⟩,rfl,fun w' _=>rfl⟩
 | _=>cases h
end
theorem JL {C:Ctx} {c:Array Value} {base sz:Nat} {rows rs:List (List IV)} {b:List Value} (p:Flat C c base sz rows) (m:Wv C b sz rs) {k:Nat} (v:k+rs.length<=rows.length) :
  base+k*sz+b.length<=c.size/\Flat C (seg c (base+k*sz) b) base sz (splice rows k rs):=by
 have d:base+k*sz+b.length<=c.size:=by
  have h1:=p.1
  have h2:(k+rs.length)*sz<=rows.length*sz:=Nat.mul_le_mul_right sz v
  rw [Nat.add_mul] at h2
  rw [m.1];omega
 refine ⟨d,by rw [Zb d,vk v];exact p.1,fun i row hi=>?_⟩
 rw [VZ od] at hi
 split at hi
 ·rename_i h1
  obtain ⟨h2,s⟩:=m.2 _ row hi
  refine ⟨h2,fun j x l=>?_⟩
  obtain ⟨u,q,r⟩:=s j x l
  refine ⟨u,?_,r⟩
  have h:j<sz:=by rw [<-h2];exact zx l
  have w:=jl (zx hi) h
  have e1:i*sz=k*sz+(i - k)*sz:=by rw [<-Nat.add_mul];congr 1;omega
  rw [YO d,if_pos (by rw [m.1];omega),<-q]
  congr 1
  omega
 ·rename_i h1
  obtain ⟨h2,s⟩:=p.2 i row hi
  refine ⟨h2,fun j x l=>?_⟩
  obtain ⟨u,q,r⟩:=s j x l
  refine ⟨u,?_,r⟩
  have h:j<sz:=by rw [<-h2];exact zx l
  rw [YO d,if_neg,q]
  rintro ⟨D,B⟩
  by_cases h8:i<k
  ·have:=jl h8 h;omega
  ·have A:(k+rs.length)*sz<=i*sz:=Nat.mul_le_mul_right sz od
   rw [Nat.add_mul] at A
   rw [m.1] at B
   omega
theorem z3g {C:Ctx} {c:Array Value} {base sz:Nat} {rows rs:List (List IV)} {b:List Value} (w:Flat C c base sz rows) (m:Wv C b sz rs)
  (s:base+(rows.length+rs.length)*sz<=c.size):Flat C (seg c (base+rows.length*sz) b) base sz (rows++rs):=by
 have d:base+rows.length*sz+b.length<=c.size:=by rw [Nat.add_mul] at s;rw [m.1];omega
 refine ⟨by rw [Zb d,lla];exact s,fun i row hi=>?_⟩
 rcases Nat.lt_or_ge i rows.length with h1 | h1
 ·rw [List.getElem?_append_left h1] at hi
  obtain ⟨h2,r⟩:=w.2 i row hi
  refine ⟨h2,fun j x l=>?_⟩
  obtain ⟨u,p,q⟩:=r j x l
  refine ⟨u,?_,q⟩
  have h:j<sz:=by rw [<-h2];exact zx l
  have:=jl h1 h
  rw [YO d,if_neg od,p]
 ·rw [List.getElem?_append_right h1] at hi
  obtain ⟨h2,r⟩:=m.2 _ row hi
  refine ⟨h2,fun j x l=>?_⟩
  obtain ⟨u,p,q⟩:=r j x l
  refine ⟨u,?_,q⟩
  have h:j<sz:=by rw [<-h2];exact zx l
  have v:=jl (zx hi) h
  have e1:i*sz=rows.length*sz+(i - rows.length)*sz:=by rw [<-Nat.add_mul];congr 1;omega
  rw [YO d,if_pos (by rw [m.1];omega),<-p]
  congr 1
  omega
def VN (C:Ctx) (s:Nat):Ctx:=⟨C.w,C.φ,C.L.set s .dead,C.X⟩
theorem Ji {C:Ctx} {s b:Nat} (h:(VN C s).mine b):C.mine b/\∃t k,t≠s/\C.L[t]?=some k/\k.alive=true/\(C.φ t).blk=b:=by
 obtain ⟨t,l,d,ha,rfl⟩:=h
 rcases Zc d with ⟨h1,h2⟩ | ⟨_,h2,_⟩
 ·exact ⟨⟨t,l,h2,ha,rfl⟩,t,l,h1,h2,ha,rfl⟩
 ·subst h2;cases ha
theorem Vx (C:Ctx) (s:Nat):Ext C (VN C s) where
 size:=Nat.le_refl _
 frame:=fun _ _ _=>rfl
 sub:=fun b h=>.inl (Ji h).1
 slot:=fun _ _=>rfl
 bo:=fun t d=>by
  obtain ⟨l,h1,h2⟩:=d
  by_cases hts:t=s
  ·subst hts;exact ⟨.dead,List.getElem?_set_self (zf h1),rfl⟩
  ·exact ⟨l,(List.getElem?_set_ne (Ne.symm hts)).trans h1,h2⟩
 len:=by simp [VN]
 cap:=fun b c e j h=>⟨c,e,j,h,rfl⟩
 ex:=rfl
 os:=rfl
 tape:=rfl
 output:=rfl
theorem z1l {g0:Nat} {C:Ctx} {s:Nat} (wf:Wf g0 C):Wf g0 (VN C s) where
 inj:=fun t u m q p l at_ j d=>by
  rcases Zc p with ⟨_,h1⟩ | ⟨_,h1,_⟩
  ·rcases Zc l with ⟨_,h2⟩ | ⟨_,h2,_⟩
   ·exact wf.inj t u m q h1 h2 at_ j d
   ·subst h2;cases j
  ·subst h1;cases at_
 lo:=fun b h=>wf.lo b (Ji h).1
 apart:=fun b r h=>wf.apart b r (Ji h).1
 exlo:=wf.exlo
 g:=wf.g
theorem jY {C:Ctx} {s:Nat} (b:Sim C):Sim (VN C s):=by
 intro t l d
 rcases Zc d with ⟨_,h2⟩ | ⟨_,h2,_⟩
 ·exact (b t l h2).mono (Vx C s) h2 rfl
 ·subst h2;trivial
def yP (C:Ctx):Ctx:=⟨C.w.drew,C.φ,C.L,C.X⟩
theorem Ze (C:Ctx):Ext C (yP C):=⟨Nat.le_refl _,fun _ _ _=>rfl,fun _ h=>.inl h,fun _ _=>rfl,fun _ h=>h,Nat.le_refl _,fun b c e d h=>⟨c,e,d,h,rfl⟩,rfl,rfl,rfl,rfl⟩
theorem y9 {g0:Nat} {C:Ctx} (wf:Wf g0 C):Wf g0 (yP C):=⟨wf.inj,wf.lo,wf.apart,wf.exlo,wf.g⟩
theorem ZE {C:Ctx} (b:Sim C):Sim (yP C):=fun s k d=>(b s k d).mono (Ze C) d rfl
theorem Post.of_ext {E:Env} {C C1:Ctx} {K:IV->List Blk->Prop} {v:Value} {w':World} (h:Ext C C1) (p:C1.X=C.X) (m:Post E C1 K v w'):Post E C K v w':=by
 obtain ⟨r,L',b,h1,h2,j,l,d⟩:=m
 rw [p] at h2 j l d
 exact ⟨r,L',b,h1,h2,j,h.trans l,d⟩
def moveφ (C:Ctx) (t g base sz:Nat):Nat->Loc:=fun s=>if s=g then ⟨(C.φ t).blk,base,sz⟩ else C.φ s
def moveC (C:Ctx) (t g base sz:Nat) (o:Obj) (k:Blk):Ctx:=⟨setW C.w (C.φ t).blk o,moveφ C t g base sz,Z4 (C.L.set t .dead) g k,C.X⟩
theorem Ja {C:Ctx} {t g s:Nat} {k k0 l:Blk} (hg:Free C.L g) (hs:C.L[t]?=some k0) (b:k0.alive=true) (h:(Z4 (C.L.set t .dead) g k)[s]?=some l) (ha:l.alive=true) :
  (s≠g/\s≠t/\C.L[s]?=some l)\/(s=g/\l=k):=by
 have j:k0.born=true:=by cases k0<;>first | rfl | cases b
 rcases Yv (wG hg hs j) h with ⟨h1,h2⟩ | ⟨h1,h2⟩
 ·rcases Zc h2 with ⟨m,d⟩ | ⟨_,d,_⟩
  ·exact .inl ⟨h1,m,d⟩
  ·subst d;cases ha
 ·exact .inr ⟨h1,h2⟩
section
variable {C:Ctx} {t g base sz:Nat} {k k0:Blk} {c c':Array Value} {ty:TypeId} {fr0:Nat × Nat} (hg:Free C.L g) (hs:C.L[t]?=some k0) (ha:k0.alive=true) (hc:C.w.heap[(C.φ t).blk]?=some (.cells c ty fr0)) (hsz:c'.size=c.size)
include hg hs ha hc hsz
theorem z0b {o:Obj} {b:Nat} (h:(moveC C t g base sz o k).mine b):C.mine b:=by
 obtain ⟨s,l,j,d,rfl⟩:=h
 rcases Ja hg hs ha j d with ⟨h1,_,m⟩ | ⟨h1,_⟩
 ·exact ⟨s,l,m,d,by simp [moveC,moveφ,h1]⟩
 ·exact ⟨t,k0,hs,ha,by simp [moveC,moveφ,h1]⟩
theorem VD:Ext C (moveC C t g base sz (.cells c' ty fr0) k) where
 size:=by simp [moveC,setW]
 frame:=fun b _ q=>ZO (fun h=>q ⟨t,k0,hs,ha,h.symm⟩)
 sub:=fun b h=>.inl (z0b hg hs ha hc hsz h)
 slot:=fun s h=>by simp [moveC,moveφ,Vo hg h]
 bo:=fun s h=>by
  have j:=Vo hg h
  obtain ⟨l,h1,h2⟩:=h
  by_cases hst:s=t
  ·subst hst;exact ⟨.dead,z1Z j (List.getElem?_set_self (zf h1)),rfl⟩
  ·exact ⟨l,z1Z j ((List.getElem?_set_ne (Ne.symm hst)).trans h1),h2⟩
 len:=by
  have:=z4d (L:=C.L.set t .dead) (g:=g) (k:=k)
  rw [lls] at this
  exact this
 cap:=fun b d m p h=>by
  by_cases hb:b=(C.φ t).blk
  ·subst hb
   rw [hc] at h
   obtain ⟨rfl,rfl,rfl⟩:=by simpa using h
   exact ⟨c',ty,fr0,zT (Array.getElem?_eq_some_iff.1 hc).1,hsz⟩
  ·exact ⟨d,m,p,(ZO hb).trans h,rfl⟩
 ex:=rfl
 os:=rfl
 tape:=rfl
 output:=rfl
theorem z9A {g0:Nat} {o:Obj} (wf:Wf g0 C):Wf g0 (moveC C t g base sz o k) where
 inj:=fun s u ks v l w as p d=>by
  rcases Ja hg hs ha l as with ⟨h1,h2,r⟩ | ⟨h1,_⟩<;>rcases Ja hg hs ha w p with ⟨j,A,q⟩ | ⟨j,_⟩
  ·simp only [moveC,moveφ,h1,j,if_false] at d
   exact wf.inj s u ks v r q as p d
  ·subst j
   simp only [moveC,moveφ,h1,if_false,if_true] at d
   exact absurd (wf.inj s t ks k0 r hs as ha d) h2
  ·subst h1
   simp only [moveC,moveφ,j,if_false,if_true] at d
   exact absurd (wf.inj u t v k0 q hs p ha d.symm) A
  ·omega
 lo:=fun b h=>wf.lo b (z0b hg hs ha hc hsz h)
 apart:=fun b m h=>wf.apart b m (z0b hg hs ha hc hsz h)
 exlo:=fun b m=>by have:=wf.exlo b m;simpa [moveC,setW] using this
 g:=by have:=wf.g;simpa [moveC,setW] using this
theorem z5O {g0:Nat} (wf:Wf g0 C) (d:Sim C) (m:Ws (moveC C t g base sz (.cells c' ty fr0) k) g k):Sim (moveC C t g base sz (.cells c' ty fr0) k):=by
 intro s l j
 by_cases hla:l.alive=true
 ·rcases Ja hg hs ha j hla with ⟨h1,h2,b⟩ | ⟨h1,h2⟩
  ·exact (d s l b).mono (VD hg hs ha hc hsz) b (ZO fun h=>h2 (wf.inj s t l k0 b hs hla ha h))
  ·subst h1;subst h2;exact m
 ·cases l<;>first | trivial | (exfalso;exact hla rfl)
end
section
variable {E:Env} {C:Ctx} {a:Act} {e:Opd->IV} {o:Oper} {K:IV->List Blk->Prop}
theorem z19 {b:List Value} {sz:Nat} {rs:List (List IV)} (h:Wv C b sz rs) (rest:Array Value):Flat C (b.toArray++rest) 0 sz rs:=by
 refine ⟨by simp [h.1],fun i row hi=>⟨(h.2 i row hi).1,fun j x d=>?_⟩⟩
 obtain ⟨u,h1,h2⟩:=(h.2 i row hi).2 j x d
 refine ⟨u,?_,h2⟩
 rw [Nat.zero_add,Array.getElem?_append_left (by simpa using zx h1)]
 simpa using h1
theorem Wv.mono {C':Ctx} (h:Ext C C') {b:List Value} {sz:Nat} {rs:List (List IV)} (d:Wv C b sz rs):Wv C' b sz rs:=
 ⟨d.1,fun i row hi=>⟨(d.2 i row hi).1,fun j x l=>let ⟨u,h1,h2⟩:=(d.2 i row hi).2 j x l;⟨u,h1,h2.mono h⟩⟩⟩
theorem run_append_grow' {P:Program} {t1 t2 ty j:TypeId} {i:TypeInfo} {z:Value} {w:World} (A:P.underlying t1=some (.slice j)) (p:∃d,P.underlying t2=some d/\∀k,d≠.int k)
  (hi:P.info? j=some i) (r:i.zero=some z) {base:Option Addr} {sLen sCap n:Nat} {q:Value} {olds b:List Value} (s:Builtin.lenOf q=pure n)
  (hold:(Builtin.firstCells i.size sLen (.slice base sLen sCap)).run P w.drew=.ok olds.toArray w.drew) (h:(Builtin.firstCells i.size n q).run P w.drew=.ok b.toArray w.drew)
  (hg:sCap<sLen+n) (m:0<i.bytes) (D:(sLen+n)*i.bytes<=70368744177664) :
  ∃cap,(sLen+n<=cap/\cap<=9223372036854775807)/\(Builtin.append_ #[t1,t2] ty #[.slice base sLen sCap,q]).run P w =
   .ok (.slice (some ⟨w.heap.size,0,none⟩) (sLen+n) cap) (yK w.drew (.cells ((olds++b).toArray++Builtin.zeroCells z.cells (cap - (sLen+n))) j)):=by
 have h1:¬(sLen+n<=sCap):=by omega
 have h2:(sLen+n)*1<=(sLen+n)*i.bytes:=Nat.mul_le_mul_left _ m
 have v:¬(9223372036854775807<((sLen:Int)+(n:Int))):=by omega
 have u:¬(281474976710656<Builtin.nextslicecap (sLen+n) sCap*i.bytes):=by
  have:=growslice_fits (need:=sLen+n) (old:=sCap) (bytes:=i.bytes) hg od
  omega
 obtain ⟨d,hd,B⟩:=p
 refine ⟨grownCap w (sLen+n) sCap j,⟨grownCap_ge w _ _ _,grownCap_le_maxLen w _ _ _ (by show _<=2^63 - 1;omega)⟩,?_⟩
 have l:(underlying t2).run P w=.ok d w:=by simp [underlying,hd]
 simp only [Builtin.append_]
 simp [run_underlying A,sizeOf,typeInfo,zeroValue,hi,r,s,h1,v,u,Question.forced,newRow,grownCap,l]
 rw [hold]
 simp only [Result.andThen_ok]
 rw [h]
 simp only [Result.andThen_ok]
 have e:olds.toArray++b.toArray=(olds++b).toArray:=by simp
 rw [<-Array.append_assoc,e]
 rfl
theorem run_append_room' {P:Program} {t1 t2 ty B:TypeId} {i:TypeInfo} {w:World} (J:P.underlying t1=some (.slice B)) (u:∃d,P.underlying t2=some d/\∀k,d≠.int k)
  (hi:P.info? B=some i) {b k sLen sCap n:Nat} {A:Value} {h:List Value} (G:Builtin.lenOf A=pure n) (m:(Builtin.firstCells i.size n A).run P w=.ok h.toArray w)
  (hg:sLen+n<=sCap) {c:Array Value} {e:TypeId} {fr0:Nat × Nat} (hc:w.heap[b]?=some (.cells c e fr0)) {D:Bool} (p:z8b D c.size fr0) (s:k+sLen*i.size+h.length<=c.size) (l:∀v∈h,v.oneCell'=true) :
  (Builtin.append_ #[t1,t2] ty #[.slice (some ⟨b,k,none⟩) sLen sCap,A]).run P w=.ok (.slice (some ⟨b,k,none⟩) (sLen+n) sCap) (setW w b (.cells (seg c (k+sLen*i.size) h) e fr0)):=by
 obtain ⟨d,hd,M⟩:=u
 have r:(underlying t2).run P w=.ok d w:=by simp [underlying,hd]
 have j:=ZC P b (k+sLen*i.size) e fr0 h 0 c w hc p (by simpa using s) l
 simp only [Nat.add_zero] at j
 have q:(⟨b,k,none⟩:Addr).add (sLen*i.size)=⟨b,k+sLen*i.size,none⟩:=by
  unfold Addr.add;split
  ·rename_i I;rw [I];rfl
  ·rfl
 simp only [Builtin.append_]
 simp [run_underlying J,sizeOf,typeInfo,hi,G,hg,r,m,q,j]
 rw [<-List.append_assoc]
 exact Vk hc
theorem ZU {P:Program} {t1 t2 ty m:TypeId} {i:TypeInfo} {w:World} (q:P.underlying t1=some (.slice m)) (j:∃d,P.underlying t2=some d/\∀k,d≠.int k)
  (hi:P.info? m=some i) {base:Option Addr} {cap:Nat} {l:Value} (p:Builtin.lenOf l=pure 0) (b:(Builtin.firstCells i.size 0 l).run P w=.ok #[] w) :
  (Builtin.append_ #[t1,t2] ty #[.slice base 0 cap,l]).run P w=.ok (.slice base 0 cap) w:=by
 obtain ⟨d,hd,r⟩:=j
 have h:(underlying t2).run P w=.ok d w:=by simp [underlying,hd]
 simp only [Builtin.append_]
 cases base<;>simp [run_underlying q,sizeOf,typeInfo,hi,p,h,b,storeCells]
theorem YJ {P:Program} {c:Call} {b:Builtin} (h:o.op=.call c) (d:c.callee=.builtin b) (w:World) :
  (execOp a.eval o).run P w=(builtin b c.argTypes o.type (c.args.map fun | .const _=>true | _=>false) (c.args.map a.eval)).run P w:=by
 unfold execOp
 rw [h]
 simp only [resolve,d]
 rfl
theorem V4 {g:Nat} (hg:Free C.L g) (wf:Wf E.g0 C) (Q:Sim C) (he:Y5 C a e) {c:Call} {s x:Operand} {s' x':Opd} {el:TypeId} {n m:Nat} {z:List IV} (ho:o.op=.call c) (kz:c.callee=.builtin .append)
  (dh:c.args.toList=[s,x]) (h1:(c.argTypes[0]?).bind E.P.underlying=some (.slice el)) (h2:∃d,(c.argTypes[1]?).bind E.P.underlying=some d/\∀k,d≠.int k)
  (hs:opd s=some s') (hx:opd x=some x') (hn:Zx E.P el=some n) (hm:z1c E.P el=some m) (hz:zeroCells E.P el=some z) (l9:0<m) (mi:0<n) (l7:z.length=n)
  (h:ZP n m (e s') (e x') g (fun L k=>Z4 L g k) C.L K):Good E C a o K:=by
 obtain ⟨i,zv,hi,ik,lq,ni⟩:=ZG hz
 have A:i.size=n:=by unfold Zx at hn;rw [hi] at hn;exact Option.some.inj hn
 have bg:i.bytes=m:=by unfold z1c at hm;rw [hi] at hm;exact Option.some.inj hm
 rw [obs] at h1
 obtain ⟨t1,kw,ay⟩:=h1
 obtain ⟨d,h2,hd⟩:=h2
 rw [obs] at h2
 obtain ⟨t2,iw,lw⟩:=h2
 have V:∃d,E.P.underlying t2=some d/\∀k,d≠.int k:=⟨d,lw,hd⟩
 have I:=he s s' hs
 have iq:=he x x' hx
 unfold ZP at h
 split at h
 ·exact h.elim
 ·rename_i rs ku
  obtain ⟨aj,h⟩:=h
  obtain ⟨B,R,Y,D⟩:=VF (E:=E) Q iq ku (fun row hr=>(aj row hr).1)
  have bi:=R.one (fun row hr=>(aj row hr).2)
  have U:∀{v:Value} {w':World},(Builtin.append_ #[t1,t2] o.type #[a.eval s,a.eval x]).run E.P C.w=.ok v w'->Post E C K v w'->Good E C a o K:=by
   intro v w' hr hp
   refine .inl ⟨v,w',?_,hp⟩
   rw [YJ ho kz]
   have e1:c.args.map a.eval=#[a.eval s,a.eval x]:=by
    apply Array.ext';simp [dh]
   have e2:(Builtin.append_ c.argTypes o.type #[a.eval s,a.eval x])=(Builtin.append_ #[t1,t2] o.type #[a.eval s,a.eval x]):=by
    unfold Builtin.append_
    rw [kw,iw]
    rfl
   rw [e1]
   show (do pure (Next.value (<-Builtin.append_ c.argTypes o.type #[a.eval s,a.eval x])):Sem Next).run E.P C.w=_
   rw [e2,Sem.run_bind,hr]
   rfl
  have af:∀{base:Option Addr} {sCap:Nat} {t:Nat} {olds:List Value} {C1:Ctx},a.eval s=.slice base t sCap->Ext C C1->C1.X=C.X->C1.w=C.w.drew->Wf E.g0 C1->Sim C1->
    (Builtin.firstCells n t (.slice base t sCap)).run E.P C.w.drew=.ok olds.toArray C.w.drew->sCap<t+rs.length->(t+rs.length)*m<=70368744177664->
    ∀{rows':List (List IV)},Wv C olds n rows'->rows'.length=t->Free C1.L g->K (.sl g 0 (t+rs.length) (t+rs.length)) (Z4 C1.L g (.cells n (rows'++rs)))->Good E C a o K:=by
   intro base sCap t olds C1 gq bn hX hw lh dw hold au T rows' ae S gy hK
   obtain ⟨cap,⟨gz,dm⟩,hr⟩:=run_append_grow' (P:=E.P) (t1:=t1) (t2:=t2) (ty:=o.type) (w:=C.w) ay V hi ik (base:=base) (sLen:=t) (sCap:=sCap) Y (by rw [A];exact hold)
    (by rw [A];exact D _ rfl) au (by rw [bg];exact l9) (by rw [bg];exact T)
   rw [<-gq] at hr
   refine U hr (Post.of_ext bn hX ?_)
   have gp:Wv C (olds++B) n (rows'++rs):=by
    refine ⟨by simp [ae.1,R.1,Nat.add_mul],fun i row q=>?_⟩
    rcases Nat.lt_or_ge i rows'.length with h5 | h5
    ·rw [List.getElem?_append_left h5] at q
     obtain ⟨h6,Z⟩:=ae.2 i row q
     refine ⟨h6,fun j y hj=>?_⟩
     obtain ⟨u,h8,h9⟩:=Z j y hj
     exact ⟨u,by rw [List.getElem?_append_left (zx h8)];exact h8,h9⟩
    ·rw [List.getElem?_append_right h5] at q
     obtain ⟨h6,Z⟩:=R.2 _ row q
     refine ⟨h6,fun j y hj=>?_⟩
     obtain ⟨u,h8,h9⟩:=Z j y hj
     refine ⟨u,?_,h9⟩
     have e1:i*n=rows'.length*n+(i - rows'.length)*n:=by rw [<-Nat.add_mul];congr 1;omega
     rw [List.getElem?_append_right (by rw [ae.1];omega),<-h8]
     congr 1
     rw [ae.1];omega
   have O:=z19 (gp.mono bn) (Builtin.zeroCells zv.cells (cap - (t+rs.length)))
   have hsz:((olds++B).toArray++Builtin.zeroCells zv.cells (cap - (t+rs.length))).size=cap*n:=by
    have e1:zv.cells.size=n:=by rw [<-lq,l7]
    have e2:cap*n=(t+rs.length)*n+(cap - (t+rs.length))*n:=by rw [<-Nat.add_mul];congr 1;omega
    rw [Array.size_append,size_zeroCells,e1,e2]
    simp [ae.1,R.1,S,Nat.add_mul]
   have bz:=WY (E:=E) (C:=C1) (K:=K) (c:=(olds++B).toArray++Builtin.zeroCells zv.cells (cap - (t+rs.length))) (e:=el) gy lh dw O
    (WN (C:=C1) gy (e:=el) (k:=.cells n (rows'++rs)) (sz:=n) (Nat.le_refl _) gz (by rw [hsz];exact Nat.le_refl _) dm) hK
   rw [hw] at bz
   exact bz
  have bu:∀{base:Option Addr},a.eval s=.slice base 0 0->(rs=[]->VR C (e s') (.slice base 0 0)->K (e s') C.L)->
    (rs≠[]->rs.length*m<=70368744177664/\K (.sl g 0 rs.length rs.length) (Z4 C.L g (.cells n rs)))->Good E C a o K:=by
   intro base T h5 h6
   by_cases hr:rs=[]
   ·subst hr
    have Z:B=[]:=List.eq_nil_of_length_eq_zero (by rw [R.1];simp)
    subst Z
    have M:=ZU (P:=E.P) (t1:=t1) (t2:=t2) (ty:=o.type) (w:=C.w) ay V hi (base:=base) (cap:=0) Y (by rw [A];exact D _ rfl)
    rw [<-T] at M
    rw [T] at I
    refine U M (ZW wf Q ?_ (h5 rfl I))
    rw [T];exact I
   ·obtain ⟨Z,h8⟩:=h6 hr
    have h9:0<rs.length:=List.length_pos_iff.2 hr
    refine af (C1:=yP C) (olds:=[]) (rows':=[]) T (Ze C) rfl rfl (y9 wf) (ZE Q) ?_ od (by rw [Nat.zero_add];exact Z) ⟨by simp,fun i row hi=>by simp at hi⟩ rfl hg (by simpa [yP] using h8)
    cases base with
    | none=>rfl
    | some b=>show (loadCells b (0*n)).run E.P _=_;rw [Nat.zero_mul];rfl
  split at h
  ·rename_i az
   rw [az] at I
   generalize T:a.eval s=sv at I
   cases I
   exact bu T (fun h5 _=>h.1 h5) h.2
  ·rename_i az
   rw [az] at I
   generalize T:a.eval s=sv at I
   cases I
   exact bu T (fun h5 _=>h.1 h5) h.2
  ·rename_i t off len cap az
   rw [az] at I
   generalize T:a.eval s=sv at I
   cases I with
   | sl _ _ _ _ av cap' gm mr iy ha ig=>
   split at h
   ·rename_i l rows hL
    obtain ⟨rfl,mf,h⟩:=h
    obtain ⟨di,c0,ty,fr0,G,ah,O⟩:=Q t _ hL
    have S:((rows.drop off).take len).length=len:=by rw [List.length_take,List.length_drop];omega
    by_cases hcap0:cap'=0
    ·subst hcap0
     have eu:cap=0:=by omega
     have lu:len=0:=by omega
     subst eu lu
     split at h
     ·rename_i cu
      have hr:rs=[]:=List.eq_nil_of_length_eq_zero od
      subst hr
      have Z:B=[]:=List.eq_nil_of_length_eq_zero (by rw [R.1];simp)
      subst Z
      have M:=ZU (P:=E.P) (t1:=t1) (t2:=t2) (ty:=o.type) (w:=C.w) ay V hi (base:=av) (cap:=0) Y (by rw [A];exact D _ rfl)
      rw [<-T] at M
      refine U M (ZW wf Q (r:=.sl t off 0 0) ?_ ?_)
      ·rw [T];exact .sl t off 0 0 av 0 gm (Nat.le_refl _) (Nat.le_refl _) (.inl rfl) (by decide)
      ·have e1:splice rows (off+0) ([]:List (List IV))=rows:=by simp [splice]
       rw [e1] at h
       have e2:C.L.set t (.cells l rows)=C.L:=by
        apply List.ext_getElem?
        intro j
        rw [List.getElem?_set]
        split
        ·rename_i h8;subst h8;rw [hL,if_pos (zf hL)]
        ·rfl
       rw [e2] at h
       simpa using h
     ·rename_i cu
      obtain ⟨df,hK⟩:=h
      refine af (C1:=VN (yP C) t) (olds:=[]) (rows':=[]) T ((Ze C).trans (Vx _ t)) rfl rfl (z1l (y9 wf)) (jY (ZE Q)) ?_ od df ⟨by simp,fun i row hi=>by simp at hi⟩ rfl (wG hg hL rfl) ?_
      ·cases av with
       | none=>rfl
       | some b=>show (loadCells b (0*_)).run E.P _=_;rw [Nat.zero_mul];rfl
      ·simpa [VN,yP] using hK
    ·obtain ⟨rfl,c1,e1,ng,gu,ag⟩:=ha.resolve_left hcap0
     rw [G] at gu
     obtain ⟨rfl,rfl,rfl⟩:=by simpa using gu
     rw [di] at ag T
     have ai:(C.φ t).base+off*l+len*l=(C.φ t).base+(off+len)*l:=by rw [Nat.add_mul];omega
     split at h
     ·rename_i cu
      obtain ⟨p,bf⟩:=JL (C:=C) O R (k:=off+len) od
      have M:=run_append_room' (P:=E.P) (t1:=t1) (t2:=t2) (ty:=o.type) (w:=C.w) ay V hi (b:=(C.φ t).blk) (k:=(C.φ t).base+off*l) (sLen:=len) (sCap:=cap') Y
       (by rw [A];exact D _ rfl) od G ah (by rw [A,ai];exact p) bi
      rw [A,ai,<-T] at M
      refine U M (vC wf Q hL G ah (Zb p) bf ?_ h)
      refine .sl t off (len+rs.length) cap _ cap' (Jb (k:=.cells _ _) rfl gm) cu iy (.inr ⟨by simp [jM,di],seg c0 ((C.φ t).base+(off+len)*l) B,ty,fr0,?_,?_⟩) ig
      ·exact zT (Array.getElem?_eq_some_iff.1 G).1
      ·rw [Zb p];show (C.φ t).base+(off+cap')*(C.φ t).sz<=_;rw [di];exact ag
     ·rename_i mg
      obtain ⟨df,hK⟩:=h
      have J:Flat C c0 ((C.φ t).base+off*l) l ((rows.drop off).take len):=by
       refine ⟨?_,fun i row q=>?_⟩
       ·rw [S]
        have h5:=O.1
        have h6:(off+len)*l<=rows.length*l:=Nat.mul_le_mul_right _ od
        rw [Nat.add_mul] at h6;omega
       ·rw [List.getElem?_take] at q
        split at q
        ·rw [List.getElem?_drop] at q
         obtain ⟨h5,h6⟩:=O.2 _ row q
         refine ⟨h5,fun j y hj=>?_⟩
         obtain ⟨u,Z,h8⟩:=h6 j y hj
         refine ⟨u,?_,h8⟩
         rw [<-Z];congr 1;rw [Nat.add_mul];omega
        ·cases q
      by_cases au:len+rs.length<=cap'
      ·have ax:(C.φ t).base+off*l+(((rows.drop off).take len).length+rs.length)*l<=c0.size:=by
        rw [S]
        have h6:(len+rs.length)*l<=cap'*l:=Nat.mul_le_mul_right _ au
        rw [Nat.add_mul off] at ag
        omega
       have ed:=z3g J R ax
       rw [S,ai] at ed
       have p:(C.φ t).base+(off+len)*l+B.length<=c0.size:=by
        rw [S,Nat.add_mul] at ax
        rw [R.1,<-ai];omega
       have M:=run_append_room' (P:=E.P) (t1:=t1) (t2:=t2) (ty:=o.type) (w:=C.w) ay V hi (b:=(C.φ t).blk) (k:=(C.φ t).base+off*l) (sLen:=len) (sCap:=cap') Y
        (by rw [A];exact D _ rfl) au G ah (by rw [A,ai];exact p) bi
       rw [A,ai,<-T] at M
       refine U M ⟨.sl g 0 (len+rs.length) (len+rs.length),Z4 (C.L.set t .dead) g (Blk.cells l ((rows.drop off).take len++rs)),moveφ C t g ((C.φ t).base+off*l) l,hK,
        z9A hg hL rfl G (Zb p) wf,z5O hg hL rfl G (Zb p) wf Q ?_,VD hg hL rfl G (Zb p),?_⟩
       ·have ak:=ed.mono (VD (base:=(C.φ t).base+off*l) (sz:=l) (k:=.cells l ((rows.drop off).take len++rs)) hg hL rfl G (Zb p))
        refine ⟨by simp [moveC,moveφ],seg c0 ((C.φ t).base+(off+len)*l) B,ty,fr0,?_,by rw [Zb p];exact ah,?_,?_⟩
        ·simp only [moveC,moveφ,if_true];exact zT (Array.getElem?_eq_some_iff.1 G).1
        ·simpa [moveC,moveφ] using ak.1
        ·intro i row q
         refine ⟨(ak.2 i row q).1,fun j y hj=>?_⟩
         obtain ⟨u,Z,h8⟩:=(ak.2 i row q).2 j y hj
         exact ⟨u,by simpa [moveC,moveφ] using Z,h8⟩
       ·refine .sl g 0 _ _ _ cap' ⟨_,WW (wG hg hL rfl),rfl⟩ (Nat.le_refl _) au (.inr ⟨by simp [moveφ],seg c0 ((C.φ t).base+(off+len)*l) B,ty,fr0,?_,?_⟩) ig
        ·simp only [moveφ,if_true];exact zT (Array.getElem?_eq_some_iff.1 G).1
        ·rw [Zb p]
         simp only [moveφ,if_true,Nat.zero_add]
         rw [Nat.add_mul] at ag;omega
      ·have ae:Wv C ((List.range (len*l)).map fun k=>c0.getD ((C.φ t).base+off*l+k) undef) l ((rows.drop off).take len):=by
        have:=wS (C:=C) (sz:=l) (rs:=(rows.drop off).take len) (f:=fun k=>c0.getD ((C.φ t).base+off*l+k) undef) (fun i row q=>(J.2 i row q).1)
         (fun i row q j y hj=>by
          obtain ⟨u,Z,h8⟩:=(J.2 i row q).2 j y hj
          rw [<-Nat.add_assoc,wX Z];exact h8)
        rw [S] at this
        exact this
       refine af (C1:=VN (yP C) t) (rows':=(rows.drop off).take len) T ((Ze C).trans (Vx _ t)) rfl rfl (z1l (y9 wf)) (jY (ZE Q)) ?_ od df ae S (wG hg hL rfl)
        (by simpa [VN,yP] using hK)
       refine yL (fun k hk=>?_) _ _
       have lm:(C.φ t).base+off*l+k<c0.size:=by
        have h6:=J.1
        rw [S] at h6;omega
       have dn:C.w.drew.heap[(C.φ t).blk]?=some (.cells c0 ty fr0):=G
       simp only [World.cell?,dn]
       simp [lm]
   ·exact h.elim
  ·exact h.elim
end
section
variable {E:Env} {C:Ctx} {a:Act} {e:Opd->IV} {o:Oper} {K:IV->List Blk->Prop}
theorem z4s (P:Program) (op:BinOp) (t:TypeId) (x y:Operand) (v u:Value) (w:World) (h:match v with | .int _ _ | .bool _ | .string _=>True | _=>False) :
  (eqGuard op t x y v u).run P w=.ok () w:=by
 cases v<;>first
  | exact h.elim
  | (rw [eqGuard_at_int];rfl)
  | (rw [eqGuard_at_bool];rfl)
  | (rw [eqGuard_at_string];rfl)
theorem zX (h:Sim C) {op:BinOp} {t ty:TypeId} {x y:Operand} (d:o.op=.binOp op t x y ty) {r:IV} {v:Value}
  (hg:match a.eval x with | .int _ _ | .bool _ | .string _=>True | _=>False) (l:(binOp op t (a.eval x) (a.eval y)).run E.P C.w=.ok v C.w) (b:VR C r v) (j:K r C.L):Zy E C a o K:=by
 refine zu (s:=do eqGuard op t x y (a.eval x) (a.eval y);binOp op t (a.eval x) (a.eval y)) (v:=v) (w':=C.w) (by unfold execOp;rw [d]) ?_ (ZH b j)
 rw [Sem.run_bind,z4s _ _ _ _ _ _ _ _ hg]
 exact l
theorem zgI {a b:List UInt8}:(a==b)=decide (a=b):=by
 by_cases h:a=b
 ·subst h;simp
 ·simp [h]
theorem zl2 {a b:Bool}:(a==b)=decide (a=b):=by cases a<;>cases b<;>rfl
theorem run_eql_bool {P:Program} {t:TypeId} (d:P.underlying t=some .bool) (a b:Bool) (w:World):(binOp .eql t (.bool a) (.bool b)).run P w=.ok (.bool (decide (a=b))) w:=by
 have h:(underlying t).run P w=.ok .bool w:=by simp [underlying,d]
 have:binOp .eql t (.bool a) (.bool b)=(do pure (.bool (<-Op.equal t (.bool a) (.bool b)))):=by simp [binOp]
 rw [this,Sem.run_bind]
 unfold Op.equal Op.maxDepth Op.equalIn
 rw [Sem.run_bind,h]
 simp only [Result.andThen_ok,Sem.run_pure,zl2]
theorem run_neq_bool {P:Program} {t:TypeId} (d:P.underlying t=some .bool) (a b:Bool) (w:World):(binOp .neq t (.bool a) (.bool b)).run P w=.ok (.bool (!decide (a=b))) w:=by
 have h:(underlying t).run P w=.ok .bool w:=by simp [underlying,d]
 have:binOp .neq t (.bool a) (.bool b)=(do pure (.bool (!(<-Op.equal t (.bool a) (.bool b))))):=by simp [binOp]
 rw [this,Sem.run_bind]
 unfold Op.equal Op.maxDepth Op.equalIn
 rw [Sem.run_bind,h]
 simp only [Result.andThen_ok,Sem.run_pure,zl2]
theorem zbi (j:Sim C) (G:Y5 C a e) {op:BinOp} {t ty:TypeId} {x y:Operand} {B A:Opd} (l:o.op=.binOp op t x y ty) (O:zdf E.P op t=true)
  (D:opd x=some B) (M:opd y=some A) (h:VM op (e B) (e A) fun v=>K v C.L):Zy E C a o K:=by
 have u:=G x B D
 have m:=G y A M
 generalize b:a.eval x=xv at u
 generalize d:a.eval y=yv at m
 generalize e B=ex at *
 generalize e A=ey at *
 unfold VM at h
 split at h
 case h_26=>exact h.elim
 all_goals (cases u;cases m)
 case h_1=>
  obtain ⟨h1,h2⟩:=h
  refine zX j l (by rw [b];trivial) (v:=.int _ _) ?_ (.int _ _) h2
  rw [b,d,binOp_shl]
  unfold Op.shift
  rw [if_neg od]
  rfl
 case h_2=>
  obtain ⟨h1,h2⟩:=h
  refine zX j l (by rw [b];trivial) (v:=.int _ _) ?_ (.int _ _) h2
  rw [b,d,binOp_shr]
  unfold Op.shift
  rw [if_neg od]
  rfl
 case h_6=>
  obtain ⟨rfl,h1,h2⟩:=h
  refine zX j l (by rw [b];trivial) (v:=.int _ _) ?_ (.int _ _) h2
  rw [b,d,binOp_quo]
  unfold Op.intDiv
  rw [if_neg h1]
  rfl
 case h_7=>
  obtain ⟨rfl,h1,h2⟩:=h
  refine zX j l (by rw [b];trivial) (v:=.int _ _) ?_ (.int _ _) h2
  rw [b,d,binOp_rem]
  unfold Op.intDiv
  rw [if_neg h1]
  rfl
 case h_17=>
  obtain ⟨h1,h2⟩:=h
  refine zX j l (by rw [b];trivial) (v:=.string _) ?_ (.str _) h2
  rw [b,d,binOp_string_add,run_string_add_sum _ _ _ (by simpa [ByteArray.size] using h1)]
  congr 2
 case h_18=>exact zX j l (by rw [b];trivial) (v:=.bool _) (by rw [b,d,binOp_string_eql,ByteArray.toList_mk,ByteArray.toList_mk,zgI];rfl) (.bool _) h
 case h_19=>exact zX j l (by rw [b];trivial) (v:=.bool _) (by rw [b,d,binOp_string_neq,ByteArray.toList_mk,ByteArray.toList_mk,zgI];rfl) (.bool _) h
 case h_20=>exact zX j l (by rw [b];trivial) (v:=.bool _) (by rw [b,d,binOp_string_lss,ByteArray.toList_mk,ByteArray.toList_mk];rfl) (.bool _) h
 case h_21=>exact zX j l (by rw [b];trivial) (v:=.bool _) (by rw [b,d,binOp_string_geq,ByteArray.toList_mk,ByteArray.toList_mk];rfl) (.bool _) h
 case h_22=>exact zX j l (by rw [b];trivial) (v:=.bool _) (by rw [b,d,binOp_string_gtr,ByteArray.toList_mk,ByteArray.toList_mk,zgI];rfl) (.bool _) h
 case h_23=>exact zX j l (by rw [b];trivial) (v:=.bool _) (by rw [b,d,binOp_string_leq,ByteArray.toList_mk,ByteArray.toList_mk,zgI];rfl) (.bool _) h
 case h_25=>
  obtain ⟨r,h1,h2⟩:=h
  have key:∀v:Value,(binOp op t (a.eval x) (a.eval y)).run E.P C.w=.ok v C.w->(match a.eval x with | .float _ _ | .complex _ _ _=>True | _=>False)->VR C r v->Zy E C a o K:=fun v I D J=>by
   refine zu (s:=do eqGuard op t x y (a.eval x) (a.eval y);binOp op t (a.eval x) (a.eval y)) (v:=v) (w':=C.w) (by unfold execOp;rw [l]) ?_ (ZH J h2)
   rw [Sem.run_bind]
   have hg:(eqGuard op t x y (a.eval x) (a.eval y)).run E.P C.w=.ok () C.w:=by
    generalize a.eval x=xv at D
    generalize a.eval y=yv
    unfold eqGuard
    cases xv<;>first | exact D.elim | (cases op<;>rfl)
   rw [hg]
   exact I
  rw [b,d] at key
  unfold wE at h1
  split at h1
  ·split at h1
   ·rename_i p;subst p
    split at h1
    case h_11=>cases h1
    case h_1=>simp only [oms] at h1;obtain ⟨q,hs,rfl⟩:=h1;exact key _ (run_float_arith _ _ _ _ _ _ _ hs) trivial (.raw _ rfl)
    case h_2=>simp only [oms] at h1;obtain ⟨q,hs,rfl⟩:=h1;exact key _ (run_float_arith _ _ _ _ _ _ _ hs) trivial (.raw _ rfl)
    case h_3=>simp only [oms] at h1;obtain ⟨q,hs,rfl⟩:=h1;exact key _ (run_float_arith _ _ _ _ _ _ _ hs) trivial (.raw _ rfl)
    case h_4=>simp only [oms] at h1;obtain ⟨q,hs,rfl⟩:=h1;exact key _ (run_float_arith _ _ _ _ _ _ _ hs) trivial (.raw _ rfl)
    all_goals (cases h1;refine key (.bool _) ?_ trivial (.bool _);simp [binOp,Op.floatCmp])
   ·cases h1
  ·split at h1
   ·rename_i p;subst p
    split at h1
    ·simp only [oms] at h1
     obtain ⟨⟨re,im⟩,hs,rfl⟩:=h1
     exact key _ (run_complex_sum C.w .add (.inl rfl) t _ _ _ _ _ re im hs) trivial (.raw _ rfl)
    ·split at h1
     ·rename_i p;subst p
      simp only [oms] at h1
      obtain ⟨⟨re,im⟩,hs,rfl⟩:=h1
      exact key _ (run_complex_mul C.w t _ _ _ _ re im hs) trivial (.raw _ rfl)
     ·cases h1
    ·cases h1
     refine key (.bool _) ?_ trivial (.bool _)
     simp [binOp,Op.complexOp,Op.Complex.cmp,Op.floatCmp,asBool]
    ·cases h1
     refine key (.bool _) ?_ trivial (.bool _)
     simp [binOp,Op.complexOp,Op.Complex.cmp,Op.floatCmp,asBool]
    ·cases h1
   ·cases h1
  ·cases h1
 all_goals (obtain ⟨rfl,h2⟩:=h)
 case h_3=>exact zX j l (by rw [b];trivial) (v:=.int _ _) (by rw [b,d,binOp_add];rfl) (.int _ _) h2
 case h_4=>exact zX j l (by rw [b];trivial) (v:=.int _ _) (by rw [b,d,binOp_sub];rfl) (.int _ _) h2
 case h_5=>exact zX j l (by rw [b];trivial) (v:=.int _ _) (by rw [b,d,binOp_mul];rfl) (.int _ _) h2
 case h_8=>exact zX j l (by rw [b];trivial) (v:=.int _ _) (by rw [b,d,binOp_and];rfl) (.int _ _) h2
 case h_9=>exact zX j l (by rw [b];trivial) (v:=.int _ _) (by rw [b,d,binOp_or];rfl) (.int _ _) h2
 case h_24=>exact zX j l (by rw [b];trivial) (v:=.int _ _) (by rw [b,d];simp [binOp,Op.intBits]) (.int _ _) h2
 case h_10=>exact zX j l (by rw [b];trivial) (v:=.int _ _) (by rw [b,d,binOp_xor];rfl) (.int _ _) h2
 all_goals (refine zX j l (by rw [b];trivial) (v:=.bool _) ?_ (.bool _) h2;rw [b,d])
 case h_11=>rw [binOp_eql];rfl
 case h_12=>rw [binOp_neq];rfl
 case h_13=>rw [binOp_lss];rfl
 case h_14=>rw [binOp_leq];rfl
 case h_15=>rw [binOp_gtr];rfl
 case h_16=>rw [binOp_geq];rfl
theorem z6O (d:Sim C) (s:Y5 C a e) {op:BinOp} {t ty:TypeId} {x y:Operand} {r q:Opd} {neg:Bool} (u:o.op=.binOp op t x y ty) (p:op=if neg then .neq else .eql) (w:E.P.underlying t=some .bool)
  (B:opd x=some r) (A:opd y=some q) (h:xop E (.eqB neg r q) e C.L K):Zy E C a o K:=by
 have m:=s x r B
 have j:=s y q A
 generalize b:a.eval x=xv at m
 generalize l:a.eval y=yv at j
 simp only [xop] at h
 generalize e r=ex at *
 generalize e q=ey at *
 split at h
 ·cases m;cases j
  cases neg
  ·subst p
   exact zX d u (by rw [b];trivial) (v:=.bool _) (by rw [b,l];exact run_eql_bool w _ _ _) (.bool _) h
  ·subst p
   exact zX d u (by rw [b];trivial) (v:=.bool _) (by rw [b,l];exact run_neq_bool w _ _ _) (.bool _) h
 ·exact h.elim
theorem zeE (p:Sim C) (m:Y5 C a e) {op:UnOp} {t:TypeId} {x:Operand} {l:Opd} (j:o.op=.unOp op t x) (q:opd x=some l) (h:xun op (e l) fun v=>K v C.L):Zy E C a o K:=by
 have b:=m x l q
 generalize d:a.eval x=xv at b
 generalize e l=ex at *
 unfold xun at h
 split at h
 ·cases b;exact zu (s:=Op.unary .not (a.eval x)) (by unfold execOp;rw [j]) (by rw [d];rfl) (ZH (.bool _) h)
 ·cases b;exact zu (s:=Op.unary .neg (a.eval x)) (by unfold execOp;rw [j]) (by rw [d];rfl) (ZH (.int _ _) h)
 ·cases b;exact zu (s:=Op.unary .xor (a.eval x)) (by unfold execOp;rw [j]) (by rw [d];rfl) (ZH (.int _ _) h)
 ·cases b
  obtain ⟨r,h1,h2⟩:=h
  unfold zb2 at h1
  split at h1
  ·cases h1;exact zu (s:=Op.unary .neg (a.eval x)) (by unfold execOp;rw [j]) (by rw [d];rfl) (ZH (.raw _ rfl) h2)
  ·cases h1
 ·exact h.elim
theorem Zl {P:Program} {t:TypeId} {d:TypeDesc} (h:P.underlying t=some d) (w:World):(underlying t).run P w=.ok d w:=by simp [underlying,h]
theorem z7r (p:Sim C) (m:Y5 C a e) {s d:TypeId} {x:Operand} {j:Opd} {k k0:IntKind} (r:o.op=.convert s d x) (hs:E.P.underlying s=some (.int k0)) (hd:E.P.underlying d=some (.int k))
  (u:opd x=some j) {q:IntKind} {n:Int} (h1:e j=.int q n) (h:K (.int k (k.wrap n)) C.L):Zy E C a o K:=by
 have b:=m x j u
 rw [h1] at b
 generalize l:a.eval x=xv at b
 cases b
 refine zu (s:=convert s d (a.eval x)) (by unfold execOp;rw [r]) (v:=.int k (k.wrap n)) (w':=C.w) ?_ (ZH (.int _ _) h)
 rw [l]
 unfold convert
 rw [Sem.run_bind,Zl hs]
 simp only [Result.andThen_ok]
 rw [Sem.run_bind,Zl hd]
 rfl
theorem z1Y (p:Sim C) (m:Y5 C a e) {s d:TypeId} {x:Operand} {j:Opd} {k0:IntKind} (r:o.op=.convert s d x) (hs:E.P.underlying s=some (.int k0)) (hd:E.P.underlying d=some .string)
  (u:opd x=some j) {q:IntKind} {n:Int} (h1:e j=.int q n) (h:K (.str (Utf8.encode n).data.toList) C.L):Zy E C a o K:=by
 have b:=m x j u
 rw [h1] at b
 generalize l:a.eval x=xv at b
 cases b
 refine zu (s:=convert s d (a.eval x)) (by unfold execOp;rw [r]) (v:=.string (Utf8.encode n)) (w':=C.w) ?_ (ZH (.str _) h)
 rw [l]
 unfold convert
 rw [Sem.run_bind,Zl hs]
 simp only [Result.andThen_ok]
 rw [Sem.run_bind,Zl hd]
 rfl
theorem JW (b k n:Nat):(⟨b,k,none⟩:Addr).add n=⟨b,k+n,none⟩:=by unfold Addr.add;split<;>simp_all
theorem z99 (G:Sim C) (D:Y5 C a e) {s:TypeId} {x:Operand} {m:Opd} {f:Nat} {B:Array Field} {g:Field} {n:Nat} (p:o.op=.fieldAddr s x f) (hs:E.P.underlying s=some (.struct B)) (hg:B[f]?=some g)
  (J:Zx E.P g.type=some n) (u:n≠0) (Q:opd x=some m)
  (h:xop E (.fldA g.offset m) e C.L K):Zy E C a o K:=by
 have j:=D x m Q
 generalize A:a.eval x=xv at j
 have d:∀b k,xv=.pointer (some ⟨b,k,none⟩)->(Instr.fieldAt s (a.eval x) f).run E.P C.w=.ok (.pointer (some ⟨b,k+g.offset,none⟩)) C.w:=by
  rintro b k rfl
  rw [A]
  unfold Instr.fieldAt
  rw [Sem.run_bind,Zl hs]
  simp only [Result.andThen_ok,hg]
  rw [Sem.run_bind]
  simp only [Instr.sureAddr,Sem.run_pure,Result.andThen_ok]
  rw [Sem.run_bind]
  unfold fieldPlace
  rw [Sem.run_bind,Zi J]
  simp only [Result.andThen_ok,u,if_false,Sem.run_pure,JW]
 simp only [xop] at h
 generalize e m=ex at *
 split at h
 ·cases j with
  | ptr s' r M q=>
   refine zu (by unfold execOp;rw [p]) (d _ _ rfl) (ZH ?_ h)
   rw [Nat.add_assoc];exact .ptr _ _ _ q
 ·cases j with
  | iptr rows r M b base sz vals hsz v O l ha I=>
   refine zu (by unfold execOp;rw [p]) (d _ _ rfl) (ZH ?_ h)
   rw [Nat.add_assoc];exact .iptr _ _ _ b base sz vals hsz v O l ha I
 ·rename_i b k
  cases j
  exact zu (by unfold execOp;rw [p]) (d b k rfl) (ZH (.raw _ rfl) h)
 ·exact h.elim
theorem zaq (d:Sim C) {s n:Nat} (b:Yk C.L s=some n):(C.φ s).sz=n:=by
 unfold Yk at b
 split at b
 ·rename_i sz rows h
  obtain rfl:sz=n:=by simpa using b
  exact (d s _ h).1
 ·rename_i ty sz rows h
  obtain rfl:sz=n:=by simpa using b
  exact (d s _ h).1.1
 ·cases b
theorem z9K (A:Sim C) (O:Y5 C a e) {t R:TypeId} {x i:Operand} {v u:Opd} {n:Nat} (Q:o.op=.indexAddr t x i) (ht:E.P.underlying t=some (.slice R)) (X:Zx E.P R=some n)
  (hx:opd x=some v) (hi:opd i=some u) (h:xop E (.idxS n v u) e C.L K):Zy E C a o K:=by
 have m:=O x v hx
 have l:=O i u hi
 generalize M:a.eval x=xv at m
 generalize I:a.eval i=iv at l
 simp only [xop] at h
 generalize e v=ex at *
 generalize e u=ei at *
 have d:∀(b k len cap:Nat) (q:IntKind) (j:Int),xv=.slice (some ⟨b,k,none⟩) len cap->iv=.int q j->0<=j->j<len->
   (Instr.indexAt t (a.eval x) (a.eval i)).run E.P C.w=.ok (.pointer (some ⟨b,k+j.toNat*n,none⟩)) C.w:=by
  rintro b k len cap q j rfl rfl r h1
  rw [M,I]
  unfold Instr.indexAt
  simp only [asIntOf,Sem.run_bind,Sem.run_pure,Result.andThen_ok,Zl ht,JW]
  rw [if_pos ⟨r,h1⟩]
  simp only [Sem.run_bind,Sem.run_pure,Result.andThen_ok,Zi X]
 split at h
 ·rename_i rows q j
  obtain ⟨U,r,h1,h⟩:=h
  cases l
  cases m with
  | isl _ Y cap' sz vals S hsz G ha V=>
   rcases ha with ha | ⟨b,k,rfl,hb,D,hc⟩
   ·subst ha;simp at h1;omega
   ·have p:j.toNat<rows.length:=by omega
    have J:sz=n:=by
     have:=List.getElem?_eq_getElem p
     rw [<-hsz _ _ this,U _ (List.getElem_mem p)]
    subst J
    refine zu (by unfold execOp;rw [Q]) (d b k _ cap' q j rfl rfl r h1) (ZH ?_ h)
    exact .iptr rows _ 0 b k sz vals hsz G hb D hc V
 ·rename_i s off len cap q j
  obtain ⟨T,r,h1,h⟩:=h
  cases l
  cases m with
  | sl _ _ _ _ Y cap' hs hl hc ha=>
   obtain ⟨rfl,_⟩:=ha.resolve_left od
   refine zu (by unfold execOp;rw [Q]) (d _ _ len cap' q j rfl rfl r h1) (ZH ?_ h)
   have Z:=zaq A T
   have B:=VR.ptr (C:=C) s (off+j.toNat) 0 hs
   rw [Z] at B ⊢
   rw [Nat.add_mul,Nat.add_zero,<-Nat.add_assoc] at B
   exact B
 ·exact h.elim
theorem z03 {P:Program} {t:TypeId} {v c:Value} {b:Bool} {w:World} (neg:Bool) (x y:Operand) (hg:(eqGuard (if neg then .neq else .eql) t x y v c).run P w=.ok () w)
  (d:binOp (if neg then .neq else .eql) t v c=(do let r <-Op.equal t v c;pure (.bool (if neg then !r else r)))) (h:(Op.equal t v c).run P w=.ok b w) :
  (do eqGuard (if neg then .neq else .eql) t x y v c;binOp (if neg then .neq else .eql) t v c:Sem Value).run P w=.ok (.bool (if neg then !b else b)) w:=by
 rw [Sem.run_bind,hg]
 simp only [Result.andThen_ok]
 rw [d,Sem.run_bind,h]
 simp only [Result.andThen_ok,Sem.run_pure]
theorem z3Y {P:Program} {t b:TypeId} (d:P.underlying t=some (.slice b)) (a:Option Addr) (l k:Nat) (w:World):(Op.equal t (.slice a l k) (.slice none 0 0)).run P w=.ok a.isNone w:=by
 have h:(underlying t).run P w=.ok (.slice b) w:=by simp [underlying,d]
 unfold Op.equal Op.maxDepth Op.equalIn
 rw [Sem.run_bind,h]
 cases a<;>rfl
theorem z2t {P:Program} {t:TypeId} {ms} (b:P.underlying t=some (.interface ms)) (w:World):(Op.equal t .nilIface .nilIface).run P w=.ok true w:=by
 have d:(underlying t).run P w=.ok (.interface ms) w:=by simp [underlying,b]
 unfold Op.equal Op.maxDepth Op.equalIn
 rw [Sem.run_bind,d];rfl
theorem z2l {P:Program} {t t':TypeId} {u:Value} {ms} (b:P.underlying t=some (.interface ms)) (w:World):(Op.equal t (.iface t' u) .nilIface).run P w=.ok false w:=by
 have d:(underlying t).run P w=.ok (.interface ms) w:=by simp [underlying,b]
 unfold Op.equal Op.maxDepth Op.equalIn
 rw [Sem.run_bind,d];rfl
theorem z4q {P:Program} {t:TypeId} {p q r} (b:P.underlying t=some (.func p q r)) (w:World):(Op.equal t .nilFunc .nilFunc).run P w=.ok true w:=by
 have d:(underlying t).run P w=.ok (.func p q r) w:=by simp [underlying,b]
 unfold Op.equal Op.maxDepth Op.equalIn
 rw [Sem.run_bind,d];rfl
theorem z2D {P:Program} {t:TypeId} {f:Fn} {x y:Array Value} {p q r} (b:P.underlying t=some (.func p q r)) (w:World):(Op.equal t (.func f x y) .nilFunc).run P w=.ok false w:=by
 have d:(underlying t).run P w=.ok (.func p q r) w:=by simp [underlying,b]
 unfold Op.equal Op.maxDepth Op.equalIn
 rw [Sem.run_bind,d];rfl
theorem je (U:Sim C) (T:Y5 C a e) {op:BinOp} {t ty:TypeId} {x y:Operand} {J:Opd} {k:Nat} {neg:Bool} (Y:o.op=.binOp op t x y ty) (O:op=if neg then .neq else .eql) (D:z2T E.P t y=some k)
  (hx:opd x=some J) (h:xop E (.isNil k neg J) e C.L K):Zy E C a o K:=by
 have A:=T x J hx
 subst O
 simp only [xop] at h
 have key:∀(c:Value) (b:Bool),y=.const c->(eqGuard (if neg then .neq else .eql) t x y (a.eval x) c).run E.P C.w=.ok () C.w->
   binOp (if neg then .neq else .eql) t (a.eval x) c=(do let r <-Op.equal t (a.eval x) c;pure (.bool (if neg then !r else r)))->
   (Op.equal t (a.eval x) c).run E.P C.w=.ok b C.w->K (.bool (if neg then !b else b)) C.L->Zy E C a o K:=fun c b hy hg Z h1 j=>by
  refine zu (s:=do eqGuard (if neg then .neq else .eql) t x y (a.eval x) (a.eval y);binOp (if neg then .neq else .eql) t (a.eval x) (a.eval y)) (v:=.bool (if neg then !b else b)) (w':=C.w) (by unfold execOp;rw [Y]) ?_ (ZH (.bool _) j)
  subst hy
  exact z03 neg x _ hg Z h1
 unfold z2T at D
 generalize Q:a.eval x=xv at A
 generalize e J=ex at *
 rw [Q] at key
 split at D
 ·rename_i el B
  cases D
  have ks:=fun (m:Option Addr) (l k:Nat) (d:xv=.slice m l k) (j:K (.bool (if neg then !m.isNone else m.isNone)) C.L)=>
   key _ m.isNone rfl (by subst d;cases neg<;>rfl) (by subst d;cases neg<;>simp [binOp]) (by subst d;exact z3Y B _ _ _ _) j
  unfold zdH at h
  cases A<;>simp only at h
  case nsl=>exact ks _ _ _ rfl h
  case esl m=>cases m with
    | none=>exact ks _ _ _ rfl h.1
    | some p=>exact ks _ _ _ rfl h.2
  case isl rows m cap' sz vals S hsz ae ha d=>cases m with
    | none=>
     refine ks _ _ _ rfl (h.2 ?_)
     rcases ha with G | ⟨_,_,G,_⟩
     ·exact G
     ·cases G
    | some p=>exact ks _ _ _ rfl h.1
  case sl s off len cap m cap' hs hl hc ha af=>cases m with
    | none=>
     refine ks _ _ _ rfl (h.2 ?_)
     rcases ha with G | ⟨G,_⟩
     ·omega
     ·cases G
    | some p=>exact ks _ _ _ rfl h.1
 ·rename_i ms B
  cases D
  have M:=fun (d:xv=.nilIface) (j:K (.bool (if neg then !true else true)) C.L)=>key _ true rfl (by subst d;cases neg<;>cases x<;>rfl) (by subst d;cases neg<;>simp [binOp]) (by subst d;exact z2t B _) j
  have I:=fun (t':TypeId) (u:Value) (d:xv=.iface t' u) (j:K (.bool (if neg then !false else false)) C.L)=>key _ false rfl (by subst d;cases neg<;>rfl) (by subst d;cases neg<;>simp [binOp]) (by subst d;exact z2l B _) j
  unfold zdH at h
  cases A<;>simp only at h
  case raw X=>cases xv<;>simp only at h<;>first | exact M rfl h | exact I _ _ rfl h
  case iface t' R u hu=>exact I _ _ rfl h
 ·rename_i p q r B
  cases D
  have M:=fun (d:xv=.nilFunc) (j:K (.bool (if neg then !true else true)) C.L)=>key _ true rfl (by subst d;cases neg<;>cases x<;>rfl) (by subst d;cases neg<;>simp [binOp]) (by subst d;exact z4q B _) j
  have I:=fun (f:Fn) (R V:Array Value) (d:xv=.func f R V) (j:K (.bool (if neg then !false else false)) C.L)=>key _ false rfl (by subst d;cases neg<;>rfl) (by subst d;cases neg<;>simp [binOp]) (by subst d;exact z2D B _) j
  unfold zdH at h
  cases A<;>simp only at h
  case raw X=>cases xv<;>simp only at h<;>exact M rfl h
  case fn f as bs va vb _ _ _ _=>exact I _ _ _ rfl h
 ·cases D
end
end Go.X
end
