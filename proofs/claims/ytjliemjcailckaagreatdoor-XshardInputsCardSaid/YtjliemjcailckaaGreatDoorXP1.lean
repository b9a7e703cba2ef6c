/- Parts of the proof: XBase, XForm, XComp, XRun, XCtx, XConv, XCall, XOps, XOps2, XOps3, XOps4, XOps5, XOps6, XNil. -/
import Derived.CallsIn
import Derived.Below
import Derived.Laws.ComplexArith
import Derived.Still
import Derived.Laws.Build
import Derived.Laws.StructEq
import Derived.Laws.AppendOwn
import Derived.Laws.Strings
import Derived.Laws.Concat
import Derived.Laws.Cover1
import Derived.WalkSpells
set_option linter.unusedVariables false
set_option linter.unusedSimpArgs false
set_option linter.unusedSectionVars false
section
namespace Go.X
open Go
theorem oms {α β} {f:α→β} {o:Option α} {b:β}:o.map f=some b↔∃a,o=some a∧f a=b:=Option.map_eq_some_iff
theorem obs {α β} {b:β} {o:Option α} {f:α→Option β}:o.bind f=some b↔∃a,o=some a∧f a=some b:=Option.bind_eq_some_iff
theorem lla {α} {a b:List α}:(a++b).length=a.length+b.length:=List.length_append
theorem lls {α} {l:List α} {i:Nat} {a:α}:(l.set i a).length=l.length:=List.length_set
theorem llc {α} {l:List α} {a:α}:(a::l).length=l.length+1:=List.length_cons
theorem lln {α}:([]:List α).length=0:=List.length_nil
theorem sij {α} {a b:α}:(some a=some b)=(a=b):=Option.some.injEq a b
theorem od {p:Prop} (h:p:=by omega):p:=h
theorem tO {p:Prop} (h:p:=by omega):p=True:=eq_true h
theorem fO {p:Prop} (h:¬p:=by omega):p=False:=eq_false h
inductive IV where
 | bool (b:Bool)
 | int (k:IntKind) (n:Int)
 | str (s:List UInt8)
 | raw (v:Value)
 | und
 | ptr (s row off:Nat)
 | sl (s off len cap:Nat)
 | isl (rows:List (List IV))
 | iptr (rows:List (List IV)) (row off:Nat)
 | esl
 | nsl
 | agg (cs:List IV)
 | tup (cs:List IV)
 | fn (f:Fn) (first captured:List IV)
 | iface (t:TypeId) (v:IV)
 | mp (s:Nat)
 | yld (s:Nat)
 deriving Inhabited
inductive Blk where
 | cells (sz:Nat) (rows:List (List IV))
 | siter (s:List UInt8) (pos:Nat)
 | tcells (ty sz:Nat) (rows:List (List IV))
 | map (es:List (IV × IV × Nat)) (clock:Nat)
 | mit (m:Nat)
 | lp (r:Loop) (l:List IV)
 | dead
 | unborn
 deriving Inhabited
def Blk.alive:Blk->Bool
 | .dead | .unborn=>false
 | _=>true
def Blk.born:Blk->Bool
 | .unborn=>false
 | _=>true
structure Loc where
 blk:Nat
 base:Nat
 sz:Nat
structure Ctx where
 w:World
 φ:Nat->Loc
 L:List Blk
 X:Nat->Prop
def Ctx.mine (C:Ctx) (b:Nat):Prop:=∃s k,C.L[s]?=some k/\k.alive=true/\(C.φ s).blk=b
def Ctx.born (C:Ctx) (s:Nat):Prop:=∃k,C.L[s]?=some k/\k.born=true
theorem Ctx.born.lt {C:Ctx} {s:Nat} (h:C.born s):s<C.L.length:=by
 obtain ⟨k,b,_⟩:=h
 exact (List.getElem?_eq_some_iff.1 b).1
def Ctx.own (C:Ctx) (b:Nat):Prop:=C.X b\/C.mine b
def closed:IV->Bool
 | .ptr .. | .sl .. | .mp _ | .yld _=>false
 | .agg cs | .tup cs=>closedL cs
 | .fn _ a b=>closedL a&&closedL b
 | .iface _ v=>closed v
 | _=>true
 where
 closedL:List IV->Bool
  | []=>true
  | x::r=>closed x&&closedL r
def zU:IV->Bool
 | .agg _ | .tup _ | .und=>false
 | .raw v=>match v with | .agg _ | .tuple _=>false | _=>true
 | _=>true
def zca:Value->Bool
 | .agg _=>false
 | _=>true
inductive VR (C:Ctx):IV->Value->Prop
 | bool (b:Bool):VR C (.bool b) (.bool b)
 | int (k:IntKind) (n:Int):VR C (.int k n) (.int k n)
 | str (s:List UInt8):VR C (.str s) (.string ⟨s.toArray⟩)
 | raw (v:Value) (h:zca v=true):VR C (.raw v) v
 | und:VR C .und undef
 | ptr (s r o:Nat) (hs:C.born s) :
   VR C (.ptr s r o) (.pointer (some ⟨(C.φ s).blk,(C.φ s).base+r*(C.φ s).sz+o,none⟩))
 | sl (s off len cap:Nat) (a:Option Addr) (cap':Nat) (hs:C.born s) (hl:len<=cap) (hc:cap<=cap')
   (ha:cap'=0\/(a=some ⟨(C.φ s).blk,(C.φ s).base+off*(C.φ s).sz,none⟩/\
    ∃c e fr,C.w.heap[(C.φ s).blk]?=some (.cells c e fr)/\(C.φ s).base+(off+cap')*(C.φ s).sz<=c.size)) (hm:cap'<=9223372036854775807) :
   VR C (.sl s off len cap) (.slice a len cap')
 | isl (rows:List (List IV)) (a:Option Addr) (cap' sz:Nat) (vals:Nat->Nat->Value) (hcap:rows.length<=cap')
   (hsz:∀(i:Nat) (row:List IV),rows[i]?=some row->row.length=sz)
   (hcl:∀(i:Nat) (row:List IV),rows[i]?=some row->closed.closedL row=true)
   (ha:rows=[]\/∃b o,a=some ⟨b,o,none⟩/\b<C.w.heap.size/\¬C.own b/\
    ∀(i:Nat) (row:List IV),rows[i]?=some row->∀(j:Nat) (x:IV),row[j]?=some x->C.w.cell? ⟨b,o+i*sz+j,none⟩=some (vals i j))
   (hv:∀(i:Nat) (row:List IV),rows[i]?=some row->∀(j:Nat) (x:IV),row[j]?=some x->VR C x (vals i j)) :
   VR C (.isl rows) (.slice a rows.length cap')
 | iptr (rows:List (List IV)) (r o b base sz:Nat) (vals:Nat->Nat->Value)
   (hsz:∀(i:Nat) (row:List IV),rows[i]?=some row->row.length=sz)
   (hcl:∀(i:Nat) (row:List IV),rows[i]?=some row->closed.closedL row=true)
   (hb:b<C.w.heap.size) (hown:¬C.own b)
   (ha:∀(i:Nat) (row:List IV),rows[i]?=some row->∀(j:Nat) (x:IV),row[j]?=some x->C.w.cell? ⟨b,base+i*sz+j,none⟩=some (vals i j))
   (hv:∀(i:Nat) (row:List IV),rows[i]?=some row->∀(j:Nat) (x:IV),row[j]?=some x->VR C x (vals i j)) :
   VR C (.iptr rows r o) (.pointer (some ⟨b,base+r*sz+o,none⟩))
 | esl (a:Option Addr):VR C .esl (.slice a 0 0)
 | nsl:VR C .nsl (.slice none 0 0)
 | agg (cs:List IV) (vs:List Value) (hl:cs.length=vs.length) (hv:∀i x,cs[i]?=some x->VR C x (vs.getD i undef)) :
   VR C (.agg cs) (.agg vs.toArray)
 | tup (cs:List IV) (vs:List Value) (hl:cs.length=vs.length) (hv:∀i x,cs[i]?=some x->VR C x (vs.getD i undef)) :
   VR C (.tup cs) (.tuple vs.toArray)
 | fn (f:Fn) (as bs:List IV) (va vb:List Value) (ha:as.length=va.length) (hb:bs.length=vb.length)
   (hva:∀i x,as[i]?=some x->VR C x (va.getD i undef)) (hvb:∀i x,bs[i]?=some x->VR C x (vb.getD i undef)) :
   VR C (.fn f as bs) (.func f va.toArray vb.toArray)
 | iface (t:TypeId) (x:IV) (v:Value) (h:VR C x v):VR C (.iface t x) (.iface t v)
 | mp (s:Nat) (hs:C.born s):VR C (.mp s) (.map (some (C.φ s).blk))
 | yld (s:Nat) (hs:C.born s):VR C (.yld s) (.func (.yield (C.φ s).blk) #[] #[])
structure Ext (C C':Ctx):Prop where
 size:C.w.heap.size<=C'.w.heap.size
 frame:∀b,b<C.w.heap.size->¬C.mine b->C'.w.heap[b]?=C.w.heap[b]?
 sub:∀b,C'.mine b->C.mine b\/C.w.heap.size<=b
 slot:∀s,C.born s->C'.φ s=C.φ s
 bo:∀s,C.born s->C'.born s
 len:C.L.length<=C'.L.length
 cap:∀(b:Nat) c e fr,C.w.heap[b]?=some (.cells c e fr)->∃c' e' fr',C'.w.heap[b]?=some (.cells c' e' fr')/\c'.size=c.size
 ex:C'.X=C.X
 os:C'.w.os=C.w.os
 tape:C'.w.tape=C.w.tape
 output:C'.w.output=C.w.output
theorem Ext.refl (C:Ctx):Ext C C:=
 ⟨Nat.le_refl _,fun _ _ _=>rfl,fun _ h=>.inl h,fun _ _=>rfl,fun _ h=>h,Nat.le_refl _,fun _ c e fr h=>⟨c,e,fr,h,rfl⟩,rfl,rfl,rfl,rfl⟩
theorem Ext.trans {A B C:Ctx} (h:Ext A B) (k:Ext B C):Ext A C where
 size:=Nat.le_trans h.size k.size
 frame:=fun b j l=>(k.frame b (Nat.lt_of_lt_of_le j h.size) (fun Q=>(h.sub b Q).elim l (fun d=>absurd j (Nat.not_lt.2 d)))).trans (h.frame b j l)
 sub:=fun b w=>(k.sub b w).elim (h.sub b) (fun d=>.inr (Nat.le_trans h.size d))
 slot:=fun s hs=>(k.slot s (h.bo s hs)).trans (h.slot s hs)
 bo:=fun s hs=>k.bo s (h.bo s hs)
 len:=Nat.le_trans h.len k.len
 cap:=fun b c e fr hc=>by
  obtain ⟨G,r,J,I,m⟩:=h.cap b c e fr hc
  obtain ⟨M,O,D,q,u⟩:=k.cap b G r J I
  exact ⟨M,O,D,q,u.trans m⟩
 ex:=k.ex.trans h.ex
 os:=k.os.trans h.os
 tape:=k.tape.trans h.tape
 output:=k.output.trans h.output
theorem cell_of_heap {w w':World} {b:Nat} (h:w'.heap[b]?=w.heap[b]?) (o:Nat):w'.cell? ⟨b,o,none⟩=w.cell? ⟨b,o,none⟩:=by
 simp only [World.cell?,h]
theorem Ext.own {C C':Ctx} (h:Ext C C') {b:Nat} (q:b<C.w.heap.size) (d:¬C.own b):¬C'.own b:=by
 rintro (l | m)
 ·exact d (.inl (by rw [<-h.ex];exact l))
 ·rcases h.sub b m with j | j
  ·exact d (.inr j)
  ·omega
theorem Ext.heap {C C':Ctx} (h:Ext C C') {b:Nat} (l:b<C.w.heap.size) (d:¬C.own b):C'.w.heap[b]?=C.w.heap[b]?:=
 h.frame b l (fun j=>d (.inr j))
theorem VR.mono {C C':Ctx} (h:Ext C C') {x:IV} {v:Value} (S:VR C x v):VR C' x v:=by
 induction S with
 | bool b=>exact .bool b
 | int k n=>exact .int k n
 | str s=>exact .str s
 | raw v h=>exact .raw v h
 | und=>exact .und
 | ptr s r o hs=>rw [<-h.slot s hs];exact .ptr s r o (h.bo s hs)
 | sl s off len cap a cap' hs A hc ha hm=>
  refine .sl s off len cap a cap' (h.bo s hs) A hc ?_ hm
  rcases ha with J | ⟨ha,c,e,fr,hh,U⟩
  ·exact .inl J
  ·obtain ⟨c',T,fr',I,V⟩:=h.cap _ c e fr hh
   rw [h.slot s hs]
   exact .inr ⟨ha,c',T,fr',I,by omega⟩
 | isl rows a cap' sz vals w hsz q ha B d=>
  refine .isl rows a cap' sz vals w hsz q ?_ d
  rcases ha with J | ⟨b,o,ha,l,O,hc⟩
  ·exact .inl J
  ·exact .inr ⟨b,o,ha,Nat.lt_of_lt_of_le l h.size,h.own l O,fun i u hi j x M=>by rw [cell_of_heap (h.heap l O)];exact hc i u hi j x M⟩
 | iptr rows r o b base sz vals hsz q l m ha B d=>
  exact .iptr rows r o b base sz vals hsz q (Nat.lt_of_lt_of_le l h.size) (h.own l m)
   (fun i u hi j x M=>by rw [cell_of_heap (h.heap l m)];exact ha i u hi j x M) d
 | esl a=>exact .esl a
 | nsl=>exact .nsl
 | agg cs vs A B d=>exact .agg cs vs A d
 | tup cs vs A B d=>exact .tup cs vs A d
 | fn f as Z X vb ha l Y Q D G=>exact .fn f as Z X vb ha l D G
 | iface t x v B d=>exact .iface t x v d
 | mp s hs=>rw [<-h.slot s hs];exact .mp s (h.bo s hs)
 | yld s hs=>rw [<-h.slot s hs];exact .yld s (h.bo s hs)
def z01 (tc:Bool) (n:Nat) (fr:Nat × Nat):Prop:=fr=(0,0)\/(tc=true/\n<=fr.1)
theorem WL (b:Bool) (n:Nat):z01 b n (0,0):=.inl rfl
theorem z8v {b:Bool} {n:Nat} {fr:Nat × Nat} (h:z01 b n fr) {i:Nat} (hi:i<n):¬(fr.1<=i/\i<fr.2):=by
 rcases h with rfl | ⟨_,h⟩
 ·simp
 ·omega
def Z9 (tc:Bool) (C:Ctx) (s sz:Nat) (rows:List (List IV)):Prop:=(C.φ s).sz=sz/\∃c e fr,C.w.heap[(C.φ s).blk]?=some (.cells c e fr)/\z01 tc c.size fr/\
   (C.φ s).base+rows.length*sz<=c.size/\
   ∀(i:Nat) (row:List IV),rows[i]?=some row->row.length=sz/\∀j x,row[j]?=some x->∃v,c[(C.φ s).base+i*sz+j]?=some v/\VR C x v
def zjc (C:Ctx) (s ty:Nat):Prop:=(C.φ s).base=0/\∃c fr,C.w.heap[(C.φ s).blk]?=some (.cells c ty fr)
def jU:IV->Option Value
 | .int k n=>some (.int k n)
 | .str s=>some (.string ⟨s.toArray⟩)
 | _=>none
def zfo (C:Ctx) (s:Nat) (es:List (IV × IV × Nat)) (clock:Nat):Prop:=∃ms:Array MapEntry,C.w.heap[(C.φ s).blk]?=some (.map ms clock)/\ms.size=es.length/\
 ∀(i:Nat) (e:IV × IV × Nat),es[i]?=some e->∃m,ms[i]?=some m/\jU e.1=some m.key/\VR C e.2.1 m.val/\m.born=e.2.2
def Zp (C:Ctx) (s:Nat):Blk->Prop
 | .cells sz rows=>Z9 false C s sz rows
 | .tcells ty sz rows=>Z9 true C s sz rows/\zjc C s ty
 | .siter t pos=>(C.φ s).base=0/\C.w.heap[(C.φ s).blk]?=some (.stringIter ⟨t.toArray⟩ pos)
 | .map es c=>zfo C s es c
 | .mit m=>(C.φ s).base=0/\C.born m/\∃since last,C.w.heap[(C.φ s).blk]?=some (.mapIter (some (C.φ m).blk) since #[] last)
 | .lp r l=>C.w.heap[(C.φ s).blk]?=some (.loop r)/\∀n,VR C (l.getD n .und) (r.tmps.getD n undef)
 | .dead=>True
 | .unborn=>True
def Sim (C:Ctx):Prop:=∀s k,C.L[s]?=some k->Zp C s k
structure Wf (g0:Nat) (C:Ctx):Prop where
 inj:∀s t k l,C.L[s]?=some k->C.L[t]?=some l->k.alive=true->l.alive=true->(C.φ s).blk=(C.φ t).blk->s=t
 lo:∀b,C.mine b->g0<=b
 apart:∀b,C.X b->¬C.mine b
 exlo:∀b,C.X b->b<C.w.heap.size
 g:g0<=C.w.heap.size
theorem ZF {C:Ctx} (hs:Sim C) {b:Nat} (h:C.mine b):b<C.w.heap.size:=by
 obtain ⟨s,k,d,ha,rfl⟩:=h
 have:=hs s k d
 cases k with
 | cells sz rows=>obtain ⟨_,c,e,fr,hh,_⟩:=this;exact (Array.getElem?_eq_some_iff.1 hh).1
 | siter t pos=>exact (Array.getElem?_eq_some_iff.1 this.2).1
 | tcells ty sz rows=>obtain ⟨_,_,c,fr,hh⟩:=this;exact (Array.getElem?_eq_some_iff.1 hh).1
 | map A c=>obtain ⟨j,hh,_⟩:=this;exact (Array.getElem?_eq_some_iff.1 hh).1
 | mit m=>obtain ⟨_,_,q,u,hh⟩:=this;exact (Array.getElem?_eq_some_iff.1 hh).1
 | lp r l=>exact (Array.getElem?_eq_some_iff.1 this.1).1
 | dead=>cases ha
 | unborn=>cases ha
def cellsOf:IV->List IV
 | .agg cs=>cs
 | x=>[x]
theorem VR.cells {C:Ctx} {x:IV} {v:Value} (h:VR C x v) :
  (cellsOf x).length=v.cells.size/\∀(i:Nat) (y:IV),(cellsOf x)[i]?=some y->∃u,v.cells[i]?=some u/\VR C y u:=by
 have one:∀{x:IV} {v:Value},VR C x v->v.cells=#[v]->cellsOf x=[x]->
   (cellsOf x).length=v.cells.size/\∀(i:Nat) (y:IV),(cellsOf x)[i]?=some y->∃u,v.cells[i]?=some u/\VR C y u:=by
  intro x v h d G
  rw [d,G]
  refine ⟨rfl,fun i y hi=>?_⟩
  cases i with
  | zero=>simp at hi;subst hi;exact ⟨v,rfl,h⟩
  | succ i=>simp at hi
 cases h with
 | agg cs vs l d=>
  refine ⟨by simpa [cellsOf,Value.cells] using l,fun i y hi=>?_⟩
  have:=d i y hi
  have A:i<vs.length:=by rw [<-l];exact (List.getElem?_eq_some_iff.1 hi).1
  refine ⟨vs.getD i undef,?_,this⟩
  simp [Value.cells,List.getD,A]
 | raw v h=>
  refine one (.raw v h) ?_ rfl
  cases v<;>first | rfl | cases h
 | bool b=>exact one (.bool b) rfl rfl
 | int k n=>exact one (.int k n) rfl rfl
 | str s=>exact one (.str s) rfl rfl
 | und=>exact one .und rfl rfl
 | ptr s r o hs=>exact one (.ptr s r o hs) rfl rfl
 | sl s off len cap a cap' hs l hc ha O=>exact one (.sl s off len cap a cap' hs l hc ha O) rfl rfl
 | isl rows a cap' sz vals m hsz j ha d=>exact one (.isl rows a cap' sz vals m hsz j ha d) rfl rfl
 | iptr rows r o b base sz vals hsz j D q ha d=>exact one (.iptr rows r o b base sz vals hsz j D q ha d) rfl rfl
 | esl a=>exact one (.esl a) rfl rfl
 | nsl=>exact one .nsl rfl rfl
 | tup cs vs l d=>exact one (.tup cs vs l d) rfl rfl
 | fn f as J I M ha D B w=>exact one (.fn f as J I M ha D B w) rfl rfl
 | iface t x v d=>exact one (.iface t x v d) rfl rfl
 | mp s hs=>exact one (.mp s hs) rfl rfl
 | yld s hs=>exact one (.yld s hs) rfl rfl
inductive RU where
 | re
 | im
 | toInt (k:IntKind)
 deriving Inhabited
def z2f:RU->Value->Option IV
 | .re,.complex k a _=>some (.raw (.float k a))
 | .im,.complex k _ b=>some (.raw (.float k b))
 | .toInt k,.float s b=>(floatToIntVal s b k).map (.int k)
 | _,_=>none
def JE (op:BinOp):Value->Value->Option IV
 | .float k a,.float k' b=>if k=k' then match op with
   | .add=>(floatBits .add k a b).map fun r=>.raw (.float k r)
   | .sub=>(floatBits .sub k a b).map fun r=>.raw (.float k r)
   | .mul=>(floatBits .mul k a b).map fun r=>.raw (.float k r)
   | .quo=>(floatBits .quo k a b).map fun r=>.raw (.float k r)
   | .eql=>some (.bool (k.format.order a b==some .eq))
   | .neq=>some (.bool (k.format.order a b !=some .eq))
   | .lss=>some (.bool (k.format.order a b==some .lt))
   | .leq=>some (.bool (k.format.order a b==some .lt||k.format.order a b==some .eq))
   | .gtr=>some (.bool (k.format.order a b==some .gt))
   | .geq=>some (.bool (k.format.order a b==some .gt||k.format.order a b==some .eq))
   | _=>none
  else none
 | .complex k a b,.complex k' c d=>if k=k' then match op with
   | .add=>(cSumBits .add k a b c d).map fun r=>.raw (.complex k r.1 r.2)
   | .mul=>if k=.f64 then (cMulBits a b c d).map fun r=>.raw (.complex .f64 r.1 r.2) else none
   | .eql=>some (.bool ((k.format.order a c==some .eq)&&(k.format.order b d==some .eq)))
   | .neq=>some (.bool !((k.format.order a c==some .eq)&&(k.format.order b d==some .eq)))
   | _=>none
  else none
 | _,_=>none
def z5I:Value->Option Value
 | .float k b=>some (.float k (Op.negFloat k b))
 | _=>none
inductive Opd where
 | t (n:Nat)
 | c (v:IV)
 | g (n:Nat)
 | f (n:Nat)
 deriving Inhabited
inductive XX where
 | panic
 | mkif (t:Nat)
 | strB (ty:Nat)
 | bStr
 | rStr
 | slId
 | eqA (neg:Bool) (ks:List Nat)
 | eqP (neg:Bool)
 | allocT (ty:Nat) (zero:List IV)
 | appT (ty bytes:Nat)
 | sdata
 | ustr (ty:Nat)
 | toU (ty n:Nat)
 | ofU (ty n:Nat)
 | tas (t:Nat)
 | ru (op:RU)
 | itof (f:FloatKind)
 | cpx
 | mmake
 | mlook (st:Bool) (zero:IV) (ok:Bool)
 | mset (st:Bool)
 | mdel (st:Bool)
 | ment (st:Bool) (zero:IV)
 | msto
 | copy (sz:Nat)
 | clr (z:List IV)
 | no
 | sl3 (sz:Nat)
 | sla (n:Nat)
 | mrng
 | mnxt
 deriving Inhabited
inductive XO where
 | mov (x:Opd)
 | pick (c a b:Opd)
 | alloc (zero:List IV)
 | box (x:Opd)
 | build (zero:List IV) (parts:List (Nat × Nat × Opd))
 | bslice (sz:Nat) (zero:List IV) (len:Nat) (parts:List (Nat × Opd))
 | load1 (a:Opd)
 | loadN (n:Nat) (a:Opd)
 | store (n:Nat) (a x:Opd)
 | nilck (x:Opd)
 | bin (op:BinOp) (x y:Opd)
 | eqB (neg:Bool) (x y:Opd)
 | un (op:UnOp) (x:Opd)
 | cvInt (k:IntKind) (x:Opd)
 | cvIntStr (x:Opd)
 | cvStr (x:Opd)
 | fldA (off:Nat) (x:Opd)
 | fld (off n:Nat) (agg:Bool) (x:Opd)
 | idxS (n:Nat) (x i:Opd)
 | idxA (n sz:Nat) (x i:Opd)
 | idx (x i:Opd)
 | slice (n:Nat) (x:Opd) (lo hi:Option Opd)
 | sliceS (x:Opd) (lo hi:Option Opd)
 | slice0 (x:Opd)
 | mkfn (f:Fn) (first cap:List Opd)
 | mkslice (zero:List IV) (bytes:Nat) (len cap:Opd)
 | len (x:Opd)
 | lenS (x:Opd)
 | append (sz bytes:Nat) (s x:Opd)
 | max2 (x y:Opd)
 | min2 (x y:Opd)
 | call (f:Opd) (args:List Opd)
 | pcall (f:Opd) (args:List Opd)
 | isNil (kd:Nat) (neg:Bool) (x:Opd)
 | rng (x:Opd)
 | nxt (t:Opd)
 | ext (t:Opd) (i:Nat)
 | ex (k:XX) (xs:List Opd)
 deriving Inhabited
structure zg where
 dst:Option Nat
 op:XO
 guard:Option (Nat × Bool)
 deriving Inhabited
mutual
inductive XC where
 | skip
 | ops (l:List zg)
 | draw (l:List zg)
 | drawE (l:List zg)
 | drawR (l:List (zg × List Nat × Bool))
 | bad
 | rngF (g:Opd) (n:Nat) (ps:List Nat) (asg body:XC)
 | seq (a b:XC)
 | cond (c:Opd) (t e:XC)
 | block (id:Nat) (b:XC)
 | loop (b:XC)
 | exit (id:Nat)
 | scope (b:XC) (ls:vI)
 | label (l:Nat)
 | goto (l:Nat)
 | ret
inductive vI where
 | nil
 | cons (l:Nat) (c:XC) (r:vI)
end
instance:Inhabited XC:=⟨.skip⟩
inductive XE where
 | normal
 | exit (id:Nat)
 | goto (l:Nat)
 | ret
 deriving DecidableEq
def zF {α β:Type} (f:α->Option β):List α->Option (List β)
 | []=>some []
 | x::r=>match f x with
  | some y=>match zF f r with
   | some ys=>some (y::ys)
   | none=>none
  | none=>none
def z5J:Value->Option IV
 | .bool b=>some (.bool b)
 | .int k n=>some (.int k n)
 | .string s=>some (.str s.data.toList)
 | .slice none 0 0=>some .nsl
 | .tuple vs=>if vs.size=0 then some .und else none
 | .agg _=>none
 | v=>some (.raw v)
def opd:Operand->Option Opd
 | .tmp t=>some (.t t)
 | .const v=>(z5J v).map .c
 | .global g=>some (.g g)
 | .func f=>some (.f f)
def zeroCells (P:Program) (t:TypeId):Option (List IV):=(P.info? t).bind fun i=>i.zero.bind fun z=>zF z5J z.cells.toList
def wU (P:Program) (t:TypeId):Option Bool:=
 match P.underlying t with
 | some (.struct _)=>some true
 | some (.array _ _)=>some true
 | some _=>some false
 | none=>none
def zI (P:Program) (t:TypeId):Option Nat:=(P.info? t).map (·.size)
def Ws (P:Program) (t:TypeId):Option Nat:=(P.info? t).map (·.bytes)
def Jk:Option Operand->Option (Option Opd)
 | none=>some none
 | some x=>(opd x).map some
def zaD (P:Program) (t:TypeId):Bool:=match P.underlying t with
 | some (.int .u8)=>true
 | _=>false
def z9I (P:Program) (t:TypeId):Bool:=match P.underlying t with
 | some (.int .i32)=>true
 | _=>false
def V7 (P:Program):List Field→Nat→Option (List Nat)
 | [],_=>some []
 | f :: fs, k => if f.name != "_" && f.offset == k then
   (match P.underlying f.type with
   | some (.int _)=>(V7 P fs (k+1)).map (0::·)
   | some .string=>(V7 P fs (k+1)).map (1::·)
   | some .bool=>(V7 P fs (k+1)).map (2::·)
   | _=>none) else none
def Yb (P:Program):List Field→Nat→Option (List Nat)
 | [],_=>some []
 | f :: fs, k => if f.name != "_" && f.offset == k then
   (match P.underlying f.type with
   | some (.int _)=>(Yb P fs (k+1)).map (0::·)
   | some .string=>(Yb P fs (k+1)).map (1::·)
   | some .bool=>(Yb P fs (k+1)).map (2::·)
   | some (.struct _)=>if P.stoodInHeld f.type=false then (V7 P (P.fieldsOf f.type).toList 0).bind fun ks=>if zI P f.type=some ks.length then (Yb P fs (k+ks.length)).map (ks++·) else none else none
   | _=>none) else none
def z2O (P:Program) (t:TypeId):Option (List Nat):=if P.stoodInHeld t=false/\P.eqGuardType P.depth t=false then Yb P (P.fieldsOf t).toList 0 else none
def z3M (P:Program) (t:TypeId):Bool:=match P.underlying t with
 | some (.struct fs) => fs.toList.map (·.name) == ["addr", "buf"]
 | _=>false
def z6Q (P:Program) (t:TypeId):Option Bool:=match P.underlying t with
 | some (.int _)=>some false
 | some .string=>some true
 | _=>none
def z3C (P:Program) (t:TypeId):Option IV:=(P.info? t).bind fun i=>i.zero.bind fun z=>match z with
 | .agg _=>none
 | z=>z5J z
def z0K:IV->IV
 | .nsl=>.raw (.slice none 0 0)
 | x=>x
def z02 (P:Program) (c:Call):Option XO:=
 match c.callee with
 | .value f=>(opd f).bind fun f'=>(zF opd c.args.toList).map fun as=>.call f' as
 | .builtin .len=>match c.args.toList,(c.argTypes[0]?).bind P.underlying with
  | [x],some .string=>(opd x).map .lenS
  | [x],some (.slice _)=>(opd x).map .len
  | _,_=>none
 | .builtin .append=>match c.args.toList,(c.argTypes[0]?).bind P.underlying,(c.argTypes[1]?).bind P.underlying with
  | [s,x],some (.slice e),some (.slice _)=>(opd s).bind fun s'=>(opd x).bind fun x'=>(zI P e).bind fun n=>(Ws P e).bind fun m=>(zeroCells P e).bind fun z=>if 0<m/\0<n/\z.length=n then (if zaD P e then (if n=1 then some (.ex (.appT e m) [s',x']) else none) else some (.append n m s' x')) else none
  | [s,x],some (.slice e),some .string=>(opd s).bind fun s'=>(opd x).bind fun x'=>(zI P e).bind fun n=>(Ws P e).bind fun m=>(zeroCells P e).bind fun z=>if 0<m/\0<n/\z.length=n then (if zaD P e then (if n=1 then some (.ex (.appT e m) [s',x']) else none) else some (.append n m s' x')) else none
  | _,_,_=>none
 | .builtin .copy=>match c.args.toList,(c.argTypes[0]?).bind P.underlying with
  | [d,x],some (.slice e)=>(zI P e).bind fun n=>(opd d).bind fun d'=>(opd x).map fun x'=>.ex (.copy n) [d',x']
  | _,_=>none
 | .builtin .clear=>match c.args.toList,(c.argTypes[0]?).bind P.underlying with
  | [d],some (.slice e)=>(zeroCells P e).bind fun z=>(opd d).map fun d'=>.ex (.clr z) [d']
  | _,_=>none
 | .builtin .unsafeSliceData=>match c.args.toList with
  | [x]=>(opd x).map fun x'=>.ex .sdata [x']
  | _=>none
 | .builtin .unsafeString=>match c.args.toList,c.argTypes.toList with
  | [x,y],[pt,_]=>match P.underlying pt with
   | some (.pointer e)=>(opd x).bind fun x'=>(opd y).bind fun y'=>if P.cellsOf e=1 then some (.ex (.ustr e) [x',y']) else none
   | _=>none
  | _,_=>none
 | .builtin .real=>match c.args.toList with
  | [x]=>(opd x).map fun x'=>.ex (.ru .re) [x']
  | _=>none
 | .builtin .imag=>match c.args.toList with
  | [x]=>(opd x).map fun x'=>.ex (.ru .im) [x']
  | _=>none
 | .builtin .delete=>match c.args.toList,c.argTypes[0]? with
  | [m,k],some t=>match P.underlying t with
   | some (.map kt _)=>(z6Q P kt).bind fun st=>(opd m).bind fun m'=>(opd k).map fun k'=>.ex (.mdel st) [m',k']
   | _=>none
  | _,_=>none
 | .builtin .complex=>match c.args.toList with
  | [x,y]=>(opd x).bind fun x'=>(opd y).map fun y'=>.ex .cpx [x',y']
  | _=>none
 | .builtin .max=>match c.args.toList with
  | [x,y]=>(opd x).bind fun x'=>(opd y).map fun y'=>.max2 x' y'
  | _=>none
 | .builtin .min=>match c.args.toList with
  | [x,y]=>(opd x).bind fun x'=>(opd y).map fun y'=>.min2 x' y'
  | _=>none
 | _=>none
def z8U (P:Program) (op:BinOp) (t:TypeId):Bool:=
 match op with
 | .eql | .neq=>match P.underlying t with
  | some (.int _) | some .string | some (.float _) | some (.complex _)=>true
  | _=>false
 | _=>true
def z0W (P:Program) (t:TypeId) (y:Operand):Option Nat:=
 match P.underlying t,y with
 | some (.slice _),.const (.slice none 0 0)=>some 0
 | some (.interface _),.const .nilIface=>some 1
 | some (.func ..),.const .nilFunc=>some 2
 | _,_=>none
def VF:Option Operand->Bool
 | some (.const (.int _ 0))=>true
 | _=>false
def VU (P:Program) (t:TypeId) (x:Operand) (lo hi mx:Option Operand):Option XO:=
 match mx with
 | none=>match P.underlying t with
  | some .string=>(opd x).bind fun x'=>(Jk lo).bind fun l=>(Jk hi).map fun h=>.sliceS x' l h
  | some (.slice e)=>(zI P e).bind fun n=>if n=0 then none else (opd x).bind fun x'=>(Jk lo).bind fun l=>(Jk hi).map fun h=>.slice n x' l h
  | some (.array m e)=>if zI P e=some 1/\hi.isNone=true then (opd x).bind fun x'=>(Jk lo).map fun l=>.ex (.sla m) [x',l.getD (.c (.int .i64 0))] else none
  | _=>none
 | some m=>match P.underlying t with
  | some (.slice e)=>(zI P e).bind fun n=>if VF (some m)&&VF hi&&lo.isNone then (opd x).map .slice0 else match hi with
   | some h=>if n=0 then none else (opd x).bind fun x'=>(Jk lo).bind fun l=>(opd h).bind fun h'=>(opd m).map fun m'=>.ex (.sl3 n) [x',l.getD (.c (.int .i64 0)),h',m']
   | none=>none
  | _=>none
def Y3 (P:Program):Op->Option XO
 | .move x=>(opd x).map .mov
 | .assign x=>(opd x).map .mov
 | .pick c a b=>(opd c).bind fun c'=>(opd a).bind fun a'=>(opd b).map fun b'=>.pick c' a' b'
 | .alloc t=>(zeroCells P t).map fun z=>if z3M P t then .ex (.allocT t (z.map z0K)) [] else .alloc z
 | .box _ x=>(opd x).map .box
 | .build t ps=>match P.underlying t with
  | some (.struct fs)=>(zeroCells P t).bind fun z=>(zF (fun (p:Nat × Operand)=>(fs[p.1]?).bind fun f=>(zI P f.type).bind fun n=>(opd p.2).map fun x=>(f.offset,n,x)) ps.toList).bind fun qs=>
    if fs.toList.all (fun f=>(P.info? f.type).isSome) then some (.build z qs) else none
  | some (.array _ e)=>(zeroCells P t).bind fun z=>(zI P e).bind fun n=>(zF (fun (p:Nat × Operand)=>(opd p.2).map fun x=>(p.1*n,n,x)) ps.toList).map fun qs=>.build z qs
  | _=>none
 | .buildSlice t len ps=>match P.underlying t with
  | some (.slice e)=>(zI P e).bind fun n=>(zeroCells P e).bind fun z=>(zF (fun (p:Nat × Operand)=>(opd p.2).map fun x=>(p.1,x)) ps.toList).bind fun qs=>
    if len*n<=2^24/\0<n/\z.length=n then some (.bslice n z len qs) else none
  | _=>none
 | .load t a=>(wU P t).bind fun g=>(zI P t).bind fun n=>(opd a).map fun a'=>if g then .loadN n a' else .load1 a'
 | .store t a x=>(wU P t).bind fun _=>(zI P t).bind fun n=>(opd a).bind fun a'=>(opd x).map fun x'=>.store n a' x'
 | .nilCheck x=>(opd x).map .nilck
 | .binOp op t x y _=>if z8U P op t then (opd x).bind fun x'=>(opd y).map fun y'=>.bin op x' y' else
  match op,P.underlying t with
  | .eql,some .bool=>(opd x).bind fun x'=>(opd y).map fun y'=>.eqB false x' y'
  | .neq,some .bool=>(opd x).bind fun x'=>(opd y).map fun y'=>.eqB true x' y'
  | .eql,some (.pointer e)=>(zI P e).bind fun n=>if n=0 then none else (opd x).bind fun x'=>(opd y).map fun y'=>.ex (.eqP false) [x',y']
  | .neq,some (.pointer e)=>(zI P e).bind fun n=>if n=0 then none else (opd x).bind fun x'=>(opd y).map fun y'=>.ex (.eqP true) [x',y']
  | .eql,some (.struct _)=>(z2O P t).bind fun ks=>(opd x).bind fun x'=>(opd y).map fun y'=>.ex (.eqA false ks) [x',y']
  | .neq,some (.struct _)=>(z2O P t).bind fun ks=>(opd x).bind fun x'=>(opd y).map fun y'=>.ex (.eqA true ks) [x',y']
  | .neq,some (.interface _)=>match z0W P t y with
   | some k=>(opd x).map (.isNil k true)
   | none=>some (.ex .no [])
  | .eql,_=>(z0W P t y).bind fun k=>(opd x).map (.isNil k false)
  | .neq,_=>(z0W P t y).bind fun k=>(opd x).map (.isNil k true)
  | _,_=>none
 | .unOp op _ x=>(opd x).map fun x'=>.un op x'
 | .convert s d x=>match P.underlying s,P.underlying d with
  | some (.int _),some (.int k)=>(opd x).map (.cvInt k)
  | some (.int _),some .string=>(opd x).map .cvIntStr
  | some (.int _),some (.float f)=>(opd x).map fun x'=>.ex (.itof f) [x']
  | some (.float _),some (.int k)=>(opd x).map fun x'=>.ex (.ru (.toInt k)) [x']
  | some .string,some .string=>(opd x).map .cvStr
  | some (.slice e),some .string=>if zaD P e then (opd x).map fun x'=>.ex .bStr [x'] else if z9I P e then (opd x).map fun x'=>.ex .rStr [x'] else none
  | some .string,some (.slice e)=>if zaD P e then (opd x).map fun x'=>.ex (.strB e) [x'] else none
  | some (.slice e),some (.slice _)=>if s=d/\zaD P e=true then (opd x).map fun x'=>.ex .slId [x'] else none
  | some (.pointer t),some .unsafePointer=>(zI P t).bind fun n=>if n=0 then none else (opd x).map fun x'=>.ex (.toU t 1) [x']
  | some .unsafePointer,some (.pointer u)=>(zI P u).bind fun n=>if n=0\/P.cellsOf u≠n then none else (opd x).map fun x'=>.ex (.ofU u n) [x']
  | _,_=>none
 | .fieldAddr s x f=>match P.underlying s with
  | some (.struct fs)=>(fs[f]?).bind fun g=>(zI P g.type).bind fun n=>if n=0 then none else (opd x).map (.fldA g.offset)
  | _=>none
 | .field s x f=>match P.underlying s with
  | some (.struct fs)=>(fs[f]?).bind fun g=>(zI P g.type).bind fun n=>(wU P g.type).bind fun b=>(opd x).map fun x'=>.fld g.offset n b x'
  | _=>none
 | .indexAddr t x i=>match P.underlying t with
  | some (.slice e)=>(zI P e).bind fun n=>if n=0 then none else (opd x).bind fun x'=>(opd i).map fun i'=>.idxS n x' i'
  | some (.array m e)=>(zI P e).bind fun n=>(opd x).bind fun x'=>(opd i).map fun i'=>.idxA m n x' i'
  | _=>none
 | .index t x i=>match P.underlying t with
  | some .string=>(opd x).bind fun x'=>(opd i).map fun i'=>.idx x' i'
  | _=>none
 | .slice t x lo hi mx=>VU P t x lo hi mx
 | .makeFunc f a b=>(zF opd a.toList).bind fun a'=>(zF opd b.toList).map fun b'=>.mkfn f a' b'
 | .makeSlice t l c=>match P.underlying t with
  | some (.slice e)=>(zI P e).bind fun n=>(zeroCells P e).bind fun z=>(Ws P e).bind fun m=>(opd l).bind fun l'=>(opd c).bind fun c'=>
    if 0<n/\z.length=n then some (.mkslice z m l' c') else none
  | _=>none
 | .extract t i=>(opd t).map fun t'=>.ext t' i
 | .makeInterface t x=>if P.concrete t then (opd x).map fun x'=>.ex (.mkif t) [x'] else none
 | .panic x=>(opd x).map fun x'=>.ex .panic [x']
 | .typeAssert x _ t ok=>match P.underlying t with
  | some (.interface _)=>none
  | some _=>if ok then (opd x).map fun x'=>.ex (.tas t) [x'] else none
  | none=>none
 | .call c=>z02 P c
 | .makeMap _ none=>some (.ex .mmake [])
 | .lookup t x i ok=>match P.underlying t with
  | some (.map kt el)=>(z6Q P kt).bind fun st=>(z3C P el).bind fun z=>(opd x).bind fun x'=>(opd i).map fun i'=>.ex (.mlook st z ok) [x',i']
  | _=>none
 | .mapUpdate t m k v=>match P.underlying t with
  | some (.map kt _)=>(z6Q P kt).bind fun st=>(opd m).bind fun m'=>(opd k).bind fun k'=>(opd v).map fun v'=>.ex (.mset st) [m',k',v']
  | _=>none
 | .insert t m k v=>match P.underlying t with
  | some (.map kt _)=>(z6Q P kt).bind fun st=>(opd m).bind fun m'=>(opd k).bind fun k'=>(opd v).map fun v'=>.ex (.mset st) [m',k',v']
  | _=>none
 | .mapEntry t m k=>match P.underlying t with
  | some (.map kt el)=>(z6Q P kt).bind fun st=>(z3C P el).bind fun z=>(opd m).bind fun m'=>(opd k).map fun k'=>.ex (.ment st z) [m',k']
  | _=>none
 | .entryStore _ m s v=>(opd m).bind fun m'=>(opd s).bind fun s'=>(opd v).map fun v'=>.ex .msto [m',s',v']
 | .range t x=>match P.underlying t with
  | some .string=>(opd x).map .rng
  | some (.map _ _)=>(opd x).map fun x'=>.ex .mrng [x']
  | _=>none
 | .next t s=>if s then (opd t).map .nxt else (opd t).map fun t'=>.ex .mnxt [t']
 | _=>none
def zc2 (N:Nat):Option Tmp->Bool
 | none=>true
 | some d=>decide (d<N)
def Zk (P:Program) (N:Nat) (ops:List Oper) (o:Oper):Option zg:=
 (Y3 P o.op).bind fun x=>
  if zc2 N o.dst then
   match o.guard with
   | none=>some ⟨o.dst,x,none⟩
   | some (j,b)=>((ops[j]?).bind (·.dst)).map fun t=>⟨o.dst,x,some (t,b)⟩
  else none
def Opd.us:Opd->List Nat
 | .t n=>[n]
 | _=>[]
def usL (l:List Opd):List Nat:=l.flatMap Opd.us
def usO:Option Opd->List Nat
 | none=>[]
 | some x=>x.us
def XO.us:XO->List Nat
 | .mov x | .box x | .load1 x | .loadN _ x | .nilck x | .un _ x | .cvInt _ x | .cvIntStr x | .cvStr x | .fldA _ x | .fld _ _ _ x | .slice0 x | .len x | .lenS x | .isNil _ _ x | .rng x | .nxt x | .ext x _=>x.us
 | .pick c x y=>c.us++x.us++y.us
 | .alloc _=>[]
 | .build _ ps=>ps.flatMap fun p=>p.2.2.us
 | .bslice _ _ _ ps=>ps.flatMap fun p=>p.2.us
 | .store _ x y | .bin _ x y | .eqB _ x y | .idxS _ x y | .idxA _ _ x y | .idx x y | .mkslice _ _ x y | .append _ _ x y | .max2 x y | .min2 x y=>x.us++y.us
 | .slice _ x lo hi | .sliceS x lo hi=>x.us++usO lo++usO hi
 | .mkfn _ a b=>usL a++usL b
 | .call f as | .pcall f as=>f.us++usL as
 | .ex _ xs=>usL xs
def XX.kd:XX->Nat
 | .mkif _ | .eqA .. | .eqP _ | .sdata | .ru _ | .itof _ | .cpx=>0
 | .bStr | .mlook ..=>1
 | .strB _=>2
 | .ustr _=>3
 | _=>4
def XO.kd:XO->Nat
 | .mov _ | .pick .. | .build .. | .bin .. | .eqB .. | .un .. | .cvInt .. | .cvIntStr _ | .cvStr _ | .fldA .. | .fld .. | .idxA .. | .idx ..
 | .sliceS .. | .slice0 .. | .mkfn .. | .nilck _ | .len _ | .lenS _ | .max2 .. | .min2 .. | .ext ..=>0
 | .load1 _ | .loadN .. | .idxS .. | .slice .. | .pcall ..=>1
 | .alloc _ | .box _=>2
 | .store ..=>3
 | .ex k _=>k.kd
 | .isNil k _ _=>if k=1 then 0 else 4
 | _=>4
def zg.rds (o:zg):List Nat:=o.op.us++match o.guard with | none=>[] | some (t,_)=>[t]
def z0I (d:Option Nat) (l:List Nat):Bool:=match d with | none=>true | some d=>!l.contains d
def neO (d d':Option Nat):Bool:=match d,d' with | some d,some d'=>!(d==d') | _,_=>true
def zaX (a b:Nat):Bool:=a==0||(a<4&&b<4&&(b==0||(a==1&&b<3)))
def xap (o p:zg):Bool:=z0I o.dst p.rds&&z0I p.dst o.rds&&neO o.dst p.dst&&zaX o.op.kd p.op.kd
def ZU (ops:Array Oper) (i:Nat):List Nat:=
 (List.range ops.size).foldl (fun acc j=>if ((ops[j]?).map fun o=>o.after.any fun e=>Region.binds .any e&&acc.contains e.on).getD false then j::acc else acc) [i]
def zcI (ops:Array Oper) (xs:List zg) (listed:Array Bool) (k:Nat):Bool:=
 let W:=ZU ops k
 W.all (fun j=>!(listed.getD j true))&&(List.range ops.size).all fun j=>j==k||listed.getD j true||W.contains j||(match xs[k]?,xs[j]? with | some o,some p=>xap o p | _,_=>false)
def z6c (ops:Array Oper) (xs:List zg):Nat->Nat->Array Bool->Bool
 | 0,_,listed=>(Region.ready .any ops listed).isEmpty
 | f+1,k,listed=>(Region.ready .any ops listed).contains k&&(zcI ops xs listed k&&z6c ops xs f (k+1) (listed.setIfInBounds k true))
def z8a (ops:Array Oper) (xs:List zg):Bool:=xs.all (fun o=>o.op.kd<4)&&z6c ops xs ops.size 0 (Array.replicate ops.size false)
def z6y (ops:Array Oper) (xs:List zg):Bool:=z6c ops xs ops.size 0 (Array.replicate ops.size false)
def XO.kd2:XO->Nat
 | .bslice ..=>2
 | o=>o.kd
def z95 (o p:zg):Bool:=z0I o.dst p.rds&&z0I p.dst o.rds&&neO o.dst p.dst&&zaX o.op.kd2 p.op.kd2
def xmv (o p:zg):Bool:=z0I o.dst p.rds&&z0I p.dst o.rds&&neO o.dst p.dst&&(match p.op,p.guard with | .mov _,none=>true | _,_=>false)
def z5P (ops:Array Oper) (xs:List zg) (listed:Array Bool) (k:Nat):Bool:=
 let W:=ZU ops k
 W.all (fun j=>!(listed.getD j true))&&(List.range ops.size).all fun j=>j==k||listed.getD j true||W.contains j||(match xs[k]?,xs[j]? with | some o,some p=>z95 o p||xmv o p | _,_=>false)
def jE (ops:Array Oper) (xs:List zg):Nat->Nat->Array Bool->Bool
 | 0,_,listed=>(Region.ready .any ops listed).isEmpty
 | f+1,k,listed=>(Region.ready .any ops listed).contains k&&(z5P ops xs listed k&&jE ops xs f (k+1) (listed.setIfInBounds k true))
def z1S (ops:Array Oper) (xs:List zg):Bool:=jE ops xs ops.size 0 (Array.replicate ops.size false)
def z1W (P:Program):XO->Bool
 | .call (.f n) _=>match P.funcs[n]? with
  | some fn=>match fn.params[0]? with
   | some t=>match P.underlying t with
    | some (.pointer _)=>true
    | some (.slice _)=>fn.resultTypes[0]?==some t
    | _=>decide (2<=(fn.params.toList.filter fun u=>match P.underlying u with | some (.pointer _)=>true | _=>false).length)
   | none=>false
  | none=>false
 | _=>false
def z4K (xs:List zg):Bool:=xs.any fun o=>match o.op with
 | .ex (.appT ..) (.t s::_)=>xs.any fun p=>p.dst==some s&&(match p.op with | .call ..=>true | _=>false)
 | _=>false
def zfM (xs:List zg) (d:Option Nat):Bool:=xs.any fun o=>match o.op with
 | .ex (.appT ..) (.t s::_)=>d==some s
 | _=>false
def XO.toP:XO->XO
 | .call f as=>.pcall f as
 | o=>o
def zg.toP (o:zg):zg:={ o with op:=o.op.toP }
def z3n (xs:List zg):List zg:=xs.map fun o=>if zfM xs o.dst then o else o.toP
def XO.isCall:XO->Bool
 | .call ..=>true
 | _=>false
def Wh:List zg->List zg
 | []=>[]
 | o::r=>(if r.any (fun p=>p.op.isCall) then o.toP else o)::Wh r
def XO.quiet:XO->Bool
 | .mov _ | .pick .. | .build .. | .load1 _ | .loadN .. | .bin .. | .eqB .. | .un .. | .cvInt .. | .cvIntStr _ | .cvStr _ | .fldA .. | .fld .. | .idxS .. | .idxA .. | .idx ..
 | .slice .. | .sliceS .. | .slice0 .. | .mkfn .. | .nilck _ | .len _ | .lenS _ | .max2 .. | .min2 .. | .ext ..=>true
 | _=>false
def XO.rk:XO->Nat
 | .bslice .. | .mkslice ..=>2
 | .append ..=>3
 | .ex (.ustr _) _=>4
 | .ex (.appT ..) _=>3
 | o=>o.kd
def racy (o p:zg):Bool:=!(o.op.rk==0)&&!(p.op.rk==0)&&!(o.op.rk==1&&p.op.rk==1)
def z5V (ops:Array Oper) (xs:List zg):List (Nat × Nat):=
 (List.range ops.size).flatMap fun i=>let W:=ZU ops i
  (List.range ops.size).filterMap fun j=>if decide (i<j)&&!W.contains j&&(match xs[i]?,xs[j]? with | some o,some p=>racy o p | _,_=>true) then some (i,j) else none
def Jw (ops:Array Oper) (xs:List zg):List (zg × List Nat × Bool):=
 let ps:=z5V ops xs
 xs.zipIdx.map fun p=>(p.1,ps.filterMap (fun q=>if q.2==p.2 then some q.1 else none),ps.any fun q=>q.1==p.2)
def z7Q (ops:Array Oper) (xs:List (zg × List Nat × Bool)):Bool:=
 xs.all (fun x=>decide (x.1.op.rk<4))&&(xs.length==ops.size)&&
 ((List.range ops.size).all (fun j=>match ops[j]? with | some o=>o.after.all fun e=>!(Region.binds .any e)||decide (e.on<j) | none=>true))&&
 (List.range ops.size).all fun i=>let W:=ZU ops i
  (List.range ops.size).all fun j=>!decide (i<j)||W.contains j||(match xs[i]?,xs[j]? with
   | some (o,_,keep),some (p,chk,_)=>z0I o.dst p.rds&&z0I p.dst o.rds&&neO o.dst p.dst&&(!racy o p||(keep&&chk.contains i))
   | _,_=>false)
def Yw (ops:Array Oper) (j k:Nat):Array Oper:=match ops[j]? with
 | some o=>ops.setIfInBounds j { o with after:=o.after.push ⟨k,.data⟩ }
 | none=>ops
def JK (o:Oper):Bool:=match o.op with
 | .alloc _=>true
 | _=>false
def z8N (ops:Array Oper) (xs:List zg) (j k:Nat):Bool:=match xs[j]? with
 | some ⟨some d,.alloc _,none⟩=>let W:=ZU ops k
  decide (k<j)&&(match ops[j]? with | some o=>JK o | none=>false)&&!W.contains j&&
  ((List.range ops.size).all fun i=>i==j||(W.contains i&&i !=k)||(match xs[i]? with | some o=>z0I (some d) o.rds&&neO (some d) o.dst | none=>false))&&
  ((List.range ops.size).all fun i=>match ops[i]? with | some o=>o.after.all fun e=>!(Region.binds .any e)||(decide (e.on<i)&&(e.on !=j||(W.contains i&&i !=k))) | none=>true)&&
  z1S (Yw ops j k) xs
 | _=>false
def zac (o:zg):Bool:=match o.op with
 | .call ..=>true
 | _=>false
def z5W (ops:Array Oper) (xs:List zg):Bool:=(List.range ops.size).any fun k=>(match xs[k]? with | some o=>zac o | none=>false)&&(List.range ops.size).any fun j=>z8N ops xs j k
def VC (P:Program) (N:Nat) (ops:Array Oper):XC:=
 if P.follows .mixedOrders then
  match zF (Zk P N ops.toList) ops.toList with
  | some xs=>if xs.all (fun o=>o.op.quiet)&&z8a ops xs then .draw xs
   else if (xs.any (fun o=>z1W P o.op)||z4K xs)&&z6y ops xs then .drawE xs
   else if z4K xs&&z1S ops (z3n xs) then .drawE (z3n xs)
   else if xs.any (fun o=>z1W P o.op)&&z1S ops (Wh xs) then .drawE (Wh xs)
   else if xs.any (fun o=>z1W P o.op)&&z5W ops xs then .drawE xs
   else if z8a ops (xs.map zg.toP) then .drawE (xs.map zg.toP)
   else if z7Q ops (Jw ops (xs.map zg.toP)) then .drawR (Jw ops (xs.map zg.toP))
   else if z6y ops xs then .drawE xs
   else if z6y ops (xs.map zg.toP) then .drawE (xs.map zg.toP) else .bad
  | none=>.bad
 else .bad
def labels:Code->List Nat
 | .seq a b=>labels a++labels b
 | .label l=>[l]
 | _=>[]
def XC.find:XC->Nat->Option XC
 | .seq a b,l=>match a.find l with
  | some r=>some (.seq r b)
  | none=>b.find l
 | .label l',l=>if l'==l then some .skip else none
 | _,_=>none
def jK (b:XC):List Nat->vI
 | []=>.nil
 | l::r=>match b.find l with
  | some c=>.cons l c (jK b r)
  | none=>jK b r
def comp (P:Program) (N:Nat):Code->Option XC
 | .skip=>some .skip
 | .region _ ops false=>match zF (Zk P N ops.toList) ops.toList with
  | some xs=>some (.ops xs)
  | none=>some .bad
 | .region _ ops true=>some (VC P N ops)
 | .seq a b=>(comp P N a).bind fun a'=>(comp P N b).map fun b'=>.seq a' b'
 | .cond c t e=>(opd c).bind fun c'=>(comp P N t).bind fun t'=>(comp P N e).map fun e'=>.cond c' t' e'
 | .block id b=>(comp P N b).map (.block id)
 | .loop b=>(comp P N b).map .loop
 | .exit id=>some (.exit id)
 | .scope b=>(comp P N b).map fun b'=>.scope b' (jK b' (labels b))
 | .label l=>some (.label l)
 | .goto l=>some (.goto l)
 | .ret=>some .ret
 | .rangeFunc g ps a b=>match opd g,comp P N a,comp P N b with
  | some g',some a',some b'=>some (.rngF g' N ps.toList a' b')
  | _,_,_=>some .bad
 | .refuse _=>some .bad
def FOk (F:Fence):Prop:=F=Fence.wide\/∃l,F=Fence.wide.inRound l
def z8i (g0:Nat) (C:Ctx) (K:IV->List Blk->Prop) (v:Value) (w':World):Prop:=
 ∃r L' φ',K r L'/\Wf g0 ⟨w',φ',L',C.X⟩/\Sim ⟨w',φ',L',C.X⟩/\Ext C ⟨w',φ',L',C.X⟩/\VR ⟨w',φ',L',C.X⟩ r v
abbrev zbS:=Nat->List IV->List Blk->(IV->List Blk->Prop)->Prop
structure Env where
 /-- Slots below that are not written;what they hold;what has been deferred ('none':nothing but the marks of loops over functions). -/
 lo:Nat:=0
 kept:Nat->Value:=fun _=>undef
 base:Option (List Deferred):=none
 /-- What is to hold where the function panics. -/
 pan:IV->List Blk->Prop
 P:Program
 g0:Nat
 G:World->Prop
 hG:∀w w':World,(∀b,b<g0->w'.heap[b]?=w.heap[b]?)->G w->G w'
 /-- What a package-level variable holds,as far as it is known:plain cells. -/
 gl:Nat->Option (List IV)
 hgl:∀(w:World) (n:Nat) (cs:List IV),G w->gl n=some cs->∀(j:Nat) (y:IV),cs[j]?=some y->∃u,w.cell? ⟨n,j,none⟩=some u/\∀C:Ctx,VR C y u
 yl:zbS
 hylm:∀(s:Nat) (args:List IV) (L:List Blk) (K K':IV->List Blk->Prop),(∀v L',K v L'->K' v L')->yl s args L K->yl s args L K'
 hyl:∀(C:Ctx) (s:Nat) (args:List IV) (vs:List Value) (K:IV->List Blk->Prop),Wf g0 C->Sim C->G C.w->args.length=vs.length->
  (∀(i:Nat) (x:IV),args[i]?=some x->VR C x (vs.getD i undef))->yl s args C.L K->
  ∃fn tmps asg body,(Instr.yield (C.φ s).blk vs.toArray).run P C.w=.ok (.round (C.φ s).blk fn tmps asg body) C.w/\
   ∀F,FOk F->RoundIn F 0 P (C.φ s).blk fn tmps asg body C.w fun e w'=>∃v,e=.returned v/\z8i g0 C K v w'
abbrev Ren:=Nat->Option (Option Nat)
def Ren.inner (m:Ren):Ren:=fun s=>match m s with | some none=>some none | _=>none
def conv (L:List Blk):Nat->Ren->IV->Option IV
 | 0,_,_=>none
 | n+1,m,.ptr s r o=>match m s with
  | some (some t)=>some (.ptr t r o)
  | some none=>match L[s]? with
   | some (.cells _ rows)=>(zF (zF (conv L n m.inner)) rows).map fun rs=>.iptr rs r o
   | some (.tcells _ _ rows)=>(zF (zF (conv L n m.inner)) rows).map fun rs=>.iptr rs r o
   | _=>none
  | none=>none
 | n+1,m,.sl s off len cap=>match m s with
  | some (some t)=>some (.sl t off len cap)
  | some none=>match L[s]? with
   | some (.cells _ rows)=>if off+len<=rows.length then (zF (zF (conv L n m.inner)) ((rows.drop off).take len)).map .isl else none
   | some (.tcells _ _ rows)=>if off+len<=rows.length then (zF (zF (conv L n m.inner)) ((rows.drop off).take len)).map .isl else none
   | _=>none
  | none=>none
 | _+1,m,.mp s=>match m s with
  | some (some t)=>some (.mp t)
  | _=>none
 | _+1,m,.yld s=>match m s with
  | some (some t)=>some (.yld t)
  | _=>none
 | _+1,_,.nsl=>some (.isl [])
 | _+1,_,.esl=>some (.isl [])
 | n+1,m,.agg cs=>(zF (conv L n m) cs).map .agg
 | n+1,m,.tup cs=>(zF (conv L n m) cs).map .tup
 | n+1,m,.fn f a b=>match zF (conv L n m) a,zF (conv L n m) b with
  | some a',some b'=>some (.fn f a' b')
  | _,_=>none
 | n+1,m,.iface t v=>(conv L n m v).map (.iface t)
 | _+1,_,x=>some x
def ZT (L:List Blk) (n:Nat) (m:Ren):Blk->Option Blk
 | .cells sz rows=>(zF (zF (conv L n m)) rows).map (.cells sz)
 | .siter s p=>some (.siter s p)
 | .tcells ty sz rows=>(zF (zF (conv L n m)) rows).map (.tcells ty sz)
 | .dead=>some .dead
 | .unborn=>some .unborn
 | .map _ _=>none
 | .mit _=>none
 | .lp r l=>(zF (conv L n m) l).map (.lp r)
def yg:IV->Bool
 | .isl rows=>rows.isEmpty
 | .iptr ..=>false
 | .agg cs | .tup cs=>noTreeL cs
 | .fn _ a b=>noTreeL a&&noTreeL b
 | .iface _ v=>yg v
 | _=>true
 where
 noTreeL:List IV->Bool
  | []=>true
  | x::r=>yg x&&noTreeL r
def vG:Blk->Bool
 | .cells _ rows=>rows.all yg.noTreeL
 | .tcells _ _ rows=>rows.all yg.noTreeL
 | .map _ _=>false
 | .mit _=>false
 | .lp ..=>false
 | _=>true
def vY (P : Program) (f : FuncId) : Prop := ∃ fn, P.funcs[f]? = some fn ∧ fn.name ≠ "runtime.NumGoroutine" ∧ fn.body.isNone = false
def XT (E:Env) (f:FuncId) (args:List IV) (L:List Blk) (R:IV->List Blk->Prop):Prop:=
 vY E.P f/\∀(w:World) (φ:Nat->Loc) (X:Nat->Prop) (vs:List Value),Wf E.g0 ⟨w,φ,L,X⟩->Sim ⟨w,φ,L,X⟩->E.G w->args.length=vs.length->
  (∀(i:Nat) (x:IV),args[i]?=some x->VR ⟨w,φ,L,X⟩ x (vs.getD i undef))->
  Calls E.P f vs.toArray w fun e w'=>∃r L' φ' v,R r L'/\e=.returned v/\Wf E.g0 ⟨w',φ',L',X⟩/\Sim ⟨w',φ',L',X⟩/\
   Ext ⟨w,φ,L,X⟩ ⟨w',φ',L',X⟩/\VR ⟨w',φ',L',X⟩ r v
def JG (P:Program) (N:Nat) (ps:List Nat) (asg body:XC) (r:Loop):Prop:=
 r.params.toList=ps/\comp P N r.assign=some asg/\comp P N r.body=some body/\r.tmps.size=N
def XTP (E:Env) (f:FuncId) (args:List IV) (L:List Blk) (R Q:IV->List Blk->Prop):Prop:=
 vY E.P f/\∀(w:World) (φ:Nat->Loc) (X:Nat->Prop) (vs:List Value),Wf E.g0 ⟨w,φ,L,X⟩->Sim ⟨w,φ,L,X⟩->E.G w->args.length=vs.length->
  (∀(i:Nat) (x:IV),args[i]?=some x->VR ⟨w,φ,L,X⟩ x (vs.getD i undef))->
  Calls E.P f vs.toArray w fun e w'=>∃r L' φ' v,Wf E.g0 ⟨w',φ',L',X⟩/\Sim ⟨w',φ',L',X⟩/\Ext ⟨w,φ,L,X⟩ ⟨w',φ',L',X⟩/\VR ⟨w',φ',L',X⟩ r v/\
   ((R r L'/\e=.returned v)\/(Q r L'/\e=.panicked [{ v,recovered:=false }]))
def ZH (E:Env) (f:FuncId) (args:List IV) (r:IV):Prop:=XT E f args [] fun r' L'=>r'=r/\L'=[]
def fuel:Nat:=12
def zt:Ren:=fun _=>none
def zW:Ren:=fun _=>some none
def yx (n:Nat):Ren:=fun s=>some (some (s+n))
def z8I (E:Env) (f:FuncId) (args:List IV) (L:List Blk) (K:IV->List Blk->Prop):Prop:=
 ∃b args',zF (conv L fuel (if b then zW else zt)) args=some args'/\
  XT E f args' [] fun r L1=>(b=true->yg r=true/\L1.all vG=true)/\
   ∃r' L1',conv L1 fuel (yx L.length) r=some r'/\zF (ZT L1 fuel (yx L.length)) L1=some L1'/\K r' (L++L1')
def z4q (E:Env) (f:FuncId) (args:List IV) (r:IV):Prop:=
 ∀(C:Ctx) (vs:List Value),E.G C.w->args.length=vs.length->(∀(i:Nat) (x:IV),args[i]?=some x->VR C x (vs.getD i undef))->
  ∃v,(callFunc f vs.toArray).run E.P C.w=.ok (.value v) C.w/\VR C r v
def pos:List Nat->Nat->Nat->Option Nat
 | [],_,_=>none
 | k::r,s,i=>if s=k then some i else pos r s (i+1)
theorem Yi:∀{l:List Nat} {s i j:Nat},pos l s i=some j->∃d,j=i+d/\l[d]?=some s
 | [],_,_,_,h=>by cases h
 | k::r,s,i,j,h=>by
  simp only [pos] at h
  split at h
  ·rename_i m;subst m;simp only [sij] at h;subst h;exact ⟨0,rfl,rfl⟩
  ·obtain ⟨d,q,b⟩:=Yi h
   exact ⟨d+1,od,by simpa using b⟩
theorem Vp:∀{l:List Nat} {s i:Nat},pos l s i=none->s∉l
 | [],_,_,_=>by simp
 | k::r,s,i,h=>by
  simp only [pos] at h
  split at h
  ·cases h
  ·rename_i b
   have:=Vp h
   simp [b,this]
def jM (sel dl:List Nat) (b:Bool):Ren:=fun s=>match pos sel s 0 with
 | some i=>some (some i)
 | none=>if b||dl.contains s then some none else none
def wG (sel:List Nat) (n:Nat):Ren:=fun i=>some (some (if i<sel.length then sel.getD i 0 else n+(i - sel.length)))
def z7c:List Nat->List Blk->List Blk->List Blk
 | s::ss,k::ks,L=>z7c ss ks (L.set s k)
 | _,_,L=>L
def z0a:List Nat->List Blk->List Blk
 | [],L=>L
 | s::ss,L=>z0a ss (L.set s .dead)
def za4 (L:List Blk) (s:Nat):Prop:=∃k,L[s]?=some k/\k.alive=true
def Back (sel dl:List Nat) (b:Bool) (L:List Blk) (K:IV->List Blk->Prop) (r:IV) (L1:List Blk):Prop:=
 (b=true->yg r=true/\L1.all vG=true)/\
  ∃r' L1',conv L1 fuel (wG sel L.length) r=some r'/\zF (ZT L1 fuel (wG sel L.length)) L1=some L1'/\K r' (z0a dl (z7c sel L1' L)++L1'.drop sel.length)
def z97 (E:Env) (f:FuncId) (args:List IV) (L:List Blk) (K:IV->List Blk->Prop):Prop:=
 ∃sel dl b args' L0,sel.Nodup/\(∀s∈sel,za4 L s/\s∉dl)/\(b=true->dl=[])/\zF (conv L fuel (jM sel dl b)) args=some args'/\
  zF (ZT L fuel (jM sel dl b)) (sel.map fun s=>L.getD s .dead)=some L0/\XTP E f args' L0 (Back sel dl b L K) (Back sel dl b L E.pan)
def XTX (E:Env) (f:FuncId) (args:List IV) (L:List Blk) (K:IV->List Blk->Prop):Prop:=
 ∀(w:World) (φ:Nat->Loc) (X:Nat->Prop) (vs:List Value),Wf E.g0 ⟨w,φ,L,X⟩->Sim ⟨w,φ,L,X⟩->E.G w->args.length=vs.length->
  (∀(i:Nat) (x:IV),args[i]?=some x->VR ⟨w,φ,L,X⟩ x (vs.getD i undef))->
  ∃r L' φ' v w',(callFunc f vs.toArray).run E.P w=.ok (.value v) w'/\K r L'/\Wf E.g0 ⟨w',φ',L',X⟩/\Sim ⟨w',φ',L',X⟩/\Ext ⟨w,φ,L,X⟩ ⟨w',φ',L',X⟩/\VR ⟨w',φ',L',X⟩ r v
def WU (E:Env) (f:FuncId) (args:List IV) (L:List Blk) (K:IV->List Blk->Prop):Prop:=
 z8I E f args L K\/(∃r,z4q E f args r/\K r L)\/z97 E f args L K\/XTP E f args L K E.pan\/XTX E f args L K
abbrev Rho:=Nat->IV
def put (ρ:Rho) (d:Option Nat) (v:IV):Rho:=
 match d with
 | none=>ρ
 | some d=>fun n=>if n=d then v else ρ n
def Opd.ev (ρ:Rho):Opd->IV
 | .t n=>ρ n
 | .c v=>v
 | .g n=>.raw (.pointer (some ⟨n,0,none⟩))
 | .f n=>.fn (.func n) [] []
def splice {α:Type} (l:List α) (i:Nat) (xs:List α):List α:=l.take i++xs++l.drop (i+xs.length)
def Va:List IV->List (Nat × Nat × IV)->Option (List IV)
 | cs,[]=>some cs
 | cs,(off,n,v)::r=>if (cellsOf v).length=n/\off+n<=cs.length then Va (splice cs off (cellsOf v)) r else none
def zO (sz:Nat):List (List IV)->List (Nat × IV)->Option (List (List IV))
 | rows,[]=>some rows
 | rows,(i,v)::r=>if (cellsOf v).length=sz/\i<rows.length then zO sz (rows.set i (cellsOf v)) r else none
def Zj (gl:Nat->Option (List IV)) (L:List Blk):IV->Option (List (List IV) × Nat × Nat)
 | .raw (.pointer (some ⟨n,o,none⟩))=>match gl n with
  | some cs=>some ([cs],0,o)
  | none=>none
 | .ptr s r o=>match L[s]? with
  | some (.cells _ rows)=>some (rows,r,o)
  | some (.tcells _ _ rows)=>some (rows,r,o)
  | _=>none
 | .iptr rows r o=>some (rows,r,o)
 | _=>none
def lenOf:IV->Option Nat
 | .isl rows=>some rows.length
 | .sl _ _ len _=>some len
 | .esl=>some 0
 | .nsl=>some 0
 | .raw (.slice none 0 0)=>some 0
 | _=>none
def rowsOf (L:List Blk):IV->Option (List (List IV))
 | .str s=>some (s.map fun b=>[.int .u8 b.toNat])
 | .isl rows=>some rows
 | .sl s off len _=>match L[s]? with
  | some (.cells _ rows)=>if off+len<=rows.length then some ((rows.drop off).take len) else none
  | some (.tcells _ _ rows)=>if off+len<=rows.length then some ((rows.drop off).take len) else none
  | _=>none
 | .esl=>some []
 | .nsl=>some []
 | _=>none
def vU (op:BinOp) (x y:IV) (K:IV->Prop):Prop:=
 match op,x,y with
 | .shl,.int k a,.int _ b=>0<=b/\K (.int k (k.wrap (a*2^min b.toNat k.bits)))
 | .shr,.int k a,.int _ b=>0<=b/\K (.int k (a.fdiv (2^min b.toNat k.bits)))
 | .add,.int k a,.int k' b=>k=k'/\K (.int k (k.wrap (a+b)))
 | .sub,.int k a,.int k' b=>k=k'/\K (.int k (k.wrap (a - b)))
 | .mul,.int k a,.int k' b=>k=k'/\K (.int k (k.wrap (a*b)))
 | .quo,.int k a,.int k' b=>k=k'/\b≠0/\K (.int k (k.wrap (a.tdiv b)))
 | .rem,.int k a,.int k' b=>k=k'/\b≠0/\K (.int k (a.tmod b))
 | .and,.int k a,.int k' b=>k=k'/\K (.int k (k.wrap (BitVec.ofInt k.bits a&&&BitVec.ofInt k.bits b).toNat))
 | .or,.int k a,.int k' b=>k=k'/\K (.int k (k.wrap (BitVec.ofInt k.bits a|||BitVec.ofInt k.bits b).toNat))
 | .xor,.int k a,.int k' b=>k=k'/\K (.int k (k.wrap (BitVec.ofInt k.bits a^^^BitVec.ofInt k.bits b).toNat))
 | .eql,.int k a,.int k' b=>k=k'/\K (.bool (decide (a=b)))
 | .neq,.int k a,.int k' b=>k=k'/\K (.bool (!decide (a=b)))
 | .lss,.int k a,.int k' b=>k=k'/\K (.bool (decide (a<b)))
 | .leq,.int k a,.int k' b=>k=k'/\K (.bool (decide (a<=b)))
 | .gtr,.int k a,.int k' b=>k=k'/\K (.bool (decide (b<a)))
 | .geq,.int k a,.int k' b=>k=k'/\K (.bool (decide (b<=a)))
 | .add,.str a,.str b=>a.length+b.length<=9223372036854775807/\K (.str (a++b))
 | .eql,.str a,.str b=>K (.bool (decide (a=b)))
 | .neq,.str a,.str b=>K (.bool (!decide (a=b)))
 | .lss,.str a,.str b=>K (.bool (Op.bytesLess a b))
 | .geq,.str a,.str b=>K (.bool (!Op.bytesLess a b))
 | .gtr,.str a,.str b=>K (.bool (!(Op.bytesLess a b||decide (a=b))))
 | .leq,.str a,.str b=>K (.bool (Op.bytesLess a b||decide (a=b)))
 | .andNot,.int k a,.int k' b=>k=k'/\K (.int k (k.wrap (BitVec.ofInt k.bits a&&&~~~BitVec.ofInt k.bits b).toNat))
 | op,.raw u,.raw v=>∃r,JE op u v=some r/\K r
 | _,_,_=>False
theorem z2W {op:BinOp} {u v:Value} {K:IV->Prop}:vU op (.raw u) (.raw v) K=∃r,JE op u v=some r/\K r:=by cases op<;>rfl
def xun (op:UnOp) (x:IV) (K:IV->Prop):Prop:=
 match op,x with
 | .not,.bool b=>K (.bool !b)
 | .neg,.int k n=>K (.int k (k.wrap (0 - n)))
 | .xor,.int k n=>K (.int k (k.wrap (BitVec.ofInt k.bits (if k.signed then -1 else k.max)^^^BitVec.ofInt k.bits n).toNat))
 | .neg,.raw v=>∃r,z5I v=some r/\K (.raw r)
 | _,_=>False
def Rows (n:Nat) (rows:List (List IV)):Prop:=∀row∈rows,row.length=n
def yc (n:Nat) (rows:List (List IV)):Prop:=∀row∈rows,row.length=n/\row.all zU=true
def vJ (L:List Blk) (s:Nat):Option Nat:=
 match L[s]? with
 | some (.cells sz _)=>some sz
 | some (.tcells _ sz _)=>some sz
 | _=>none
def ZN (sz bytes:Nat) (s x:IV) (L:List Blk) (K:IV->List Blk->Prop):Prop:=
 match rowsOf L x with
 | none=>False
 | some rs=>yc sz rs/\
  match s with
  | .nsl | .esl=>(rs=[]->K s L)/\(rs≠[]->rs.length*bytes<=70368744177664/\K (.sl L.length 0 rs.length rs.length) (L++[.cells sz rs]))
  | .sl t off len cap=>match L[t]? with
   | some (.cells sz' rows)=>sz'=sz/\off+cap<=rows.length/\
    if len+rs.length<=cap then K (.sl t off (len+rs.length) cap) (L.set t (.cells sz (splice rows (off+len) rs)))
    else (len+rs.length)*bytes<=70368744177664/\
     K (.sl L.length 0 (len+rs.length) (len+rs.length)) (L.set t .dead++[.cells sz ((rows.drop off).take len++rs)])
   | _=>False
  | _=>False
def Zl (sz bytes:Nat) (s x:IV) (g:Nat) (lay:List Blk->Blk->List Blk) (L:List Blk) (K:IV->List Blk->Prop):Prop:=
 match rowsOf L x with
 | none=>False
 | some rs=>yc sz rs/\
  match s with
  | .nsl | .esl=>(rs=[]->K s L)/\(rs≠[]->rs.length*bytes<=70368744177664/\K (.sl g 0 rs.length rs.length) (lay L (.cells sz rs)))
  | .sl t off len cap=>match L[t]? with
   | some (.cells sz' rows)=>sz'=sz/\off+cap<=rows.length/\
    if len+rs.length<=cap then K (.sl t off (len+rs.length) cap) (L.set t (.cells sz (splice rows (off+len) rs)))
    else (len+rs.length)*bytes<=70368744177664/\
     K (.sl g 0 (len+rs.length) (len+rs.length)) (lay (L.set t .dead) (.cells sz ((rows.drop off).take len++rs)))
   | _=>False
  | _=>False
def z9O (k:Nat) (x:IV) (K:Bool->Prop):Prop:=
 match k,x with
 | 0,.nsl=>K true
 | 0,.esl=>K true/\K false
 | 0,.isl rows=>K false/\(rows=[]->K true)
 | 0,.sl _ _ _ cap=>K false/\(cap=0->K true)
 | 1,.iface _ _=>K false
 | 1,.raw .nilIface=>K true
 | 1,.raw (.iface _ _)=>K false
 | 2,.fn _ _ _=>K false
 | 2,.raw .nilFunc=>K true
 | _,_=>False
def ofInt:IV->Option Int
 | .int _ n=>some n
 | _=>none
def bnd (x:Option IV) (d:Nat) (K:Nat->Prop):Prop:=
 match x with
 | none=>K d
 | some (.int _ n)=>0<=n/\K n.toNat
 | _=>False
def Zq (s:List UInt8):List (List IV):=s.map fun b=>[.int .u8 b.toNat]
def byteOf:List IV->Option UInt8
 | [.int .u8 n]=>if n=((UInt8.ofNat n.toNat).toNat:Int) then some (UInt8.ofNat n.toNat) else none
 | _=>none
def runeOf:List IV->Option Int
 | [.int .i32 n]=>some n
 | _=>none
def runesL (ns:List Int):List UInt8:=ns.flatMap fun n=>(Utf8.encode n).data.toList
def yu (L:List Blk):IV->Option (List (List IV))
 | .str _=>none
 | x=>rowsOf L x
def zM:List Nat->List IV->List IV->Option Bool
 | [],[],[]=>some true
 | 0::ks,.int k a::r,.int k' b::r'=>if k=k' then (zM ks r r').map (decide (a=b)&&·) else none
 | 1::ks,.str a::r,.str b::r'=>(zM ks r r').map (decide (a=b)&&·)
 | 2::ks,.bool a::r,.bool b::r'=>(zM ks r r').map (decide (a=b)&&·)
 | _,_,_=>none
def jW:IV->IV->Option Bool
 | .ptr s r o,.ptr s' r' o'=>if s=s'/\r=r'/\o=o' then some true else none
 | .ptr ..,.raw (.pointer none)=>some false
 | .raw (.pointer none),.ptr ..=>some false
 | .iptr ..,.raw (.pointer none)=>some false
 | .raw (.pointer none),.raw (.pointer none)=>some true
 | _,_=>none
def zy (L:List Blk) (g:Nat) (k:Blk):List Blk:=if g=L.length then L++[k] else L.set g k
def YG (ty bytes:Nat) (s x:IV) (g:Nat) (L:List Blk) (K:IV->List Blk->Prop):Prop:=
 match rowsOf L x with
 | none=>False
 | some rs=>yc 1 rs/\
  match s with
  | .nsl=>(rs=[]->K s L)/\(rs≠[]->rs.length*bytes<=70368744177664/\K (.sl g 0 rs.length rs.length) (zy L g (.tcells ty 1 rs)))
  | .raw (.slice none 0 0)=>(rs=[]->K s L)/\(rs≠[]->rs.length*bytes<=70368744177664/\K (.sl g 0 rs.length rs.length) (zy L g (.tcells ty 1 rs)))
  | .sl t off len cap=>off=0/\len=cap/\match L[t]? with
   | some (.tcells ty' sz' rows)=>ty'=ty/\sz'=1/\rows.length=len/\(rs=[]->K s L)/\
     (rs≠[]->(len+rs.length)*bytes<=70368744177664/\K (.sl g 0 (len+rs.length) (len+rs.length)) (zy (L.set t .dead) g (.tcells ty 1 (rows++rs))))
   | some (.cells _ _)=>Zl 1 bytes s x g (fun L' k=>zy L' g k) L K
   | _=>False
  | _=>False
def zcc (ty:Nat) (s r o:Nat) (n:Int) (L:List Blk) (K:IV->List Blk->Prop):Prop:=r=0/\o=0/\match L[s]? with
 | some (.tcells ty' sz rows)=>ty'=ty/\sz=1/\n=rows.length/\n≠0/\n<=9223372036854775807/\match zF byteOf rows with
  | some bs=>K (.str bs) (L.set s .dead)
  | none=>False
 | _=>False
def z4l (ty n:Nat) (s r o:Nat) (L:List Blk) (K:IV->List Blk->Prop):Prop:=r=0/\o=0/\match L[s]? with
 | some (.tcells ty' sz [_])=>ty'=ty/\n<=sz/\0<sz/\K (.ptr s 0 0) L
 | _=>False
def zaK (s off len cap:Nat) (L:List Blk) (K:IV->List Blk->Prop):Prop:=0<cap/\match L[s]? with
 | some (.tcells _ _ _)=>K (.sl s off len cap) L
 | _=>False
def isKey (st:Bool):IV->Bool
 | .int _ _=>!st
 | .str _=>st
 | _=>false
def kEq:IV->IV->Option Bool
 | .int k a,.int k' b=>if k=k' then some (decide (a=b)) else none
 | .str a,.str b=>some (decide (a=b))
 | _,_=>none
def Yc (k:IV):List (IV × IV × Nat)->Nat->Option (Option Nat)
 | [],_=>some none
 | e::r,i=>match kEq k e.1 with
  | some true=>some (some i)
  | some false=>Yc k r (i+1)
  | none=>none
def Y9 (st:Bool) (m k:IV) (L:List Blk) (K:Nat->List (IV × IV × Nat)->Nat->Option Nat->Prop):Prop:=
 match m with
 | .mp s=>isKey st k=true/\match L[s]? with
  | some (.map es c)=>match Yc k es 0 with
   | some r=>K s es c r
   | none=>False
  | _=>False
 | _=>False
def Yy (ok:Bool) (r:IV) (b:Bool):IV:=if ok then .tup [r,.bool b] else r
def V4 (st:Bool) (zero:IV) (ok:Bool) (m k:IV) (L:List Blk) (K:IV->List Blk->Prop):Prop:=Y9 st m k L fun _ es _ r=>match r with
 | some i=>K (Yy ok (es.getD i default).2.1 true) L
 | none=>K (Yy ok zero false) L
def z3H (st:Bool) (m k v:IV) (L:List Blk) (K:IV->List Blk->Prop):Prop:=Y9 st m k L fun s es c r=>match r with
 | some i=>K .und (L.set s (.map (es.set i (k,v,(es.getD i default).2.2)) c))
 | none=>K .und (L.set s (.map (es++[(k,v,c)]) (c+1)))
def z8A (st:Bool) (m k:IV) (L:List Blk) (K:IV->List Blk->Prop):Prop:=Y9 st m k L fun s es c r=>match r with
 | some i=>K (.tup []) (L.set s (.map (es.eraseIdx i) c))
 | none=>K (.tup []) (L.set s (.map es c))
def z7h (st:Bool) (zero:IV) (m k:IV) (L:List Blk) (K:IV->List Blk->Prop):Prop:=Y9 st m k L fun s es c r=>match r with
 | some i=>K (.tup [(es.getD i default).2.1,.int .i64 (es.getD i default).2.2]) (L.set s (.map (es.set i (k,(es.getD i default).2.1,(es.getD i default).2.2)) c))
 | none=>K (.tup [zero,.int .i64 c]) (L.set s (.map (es++[(k,zero,c)]) (c+1)))
def z6Z (s:Nat) (b:Int) (v:IV) (L:List Blk) (K:IV->List Blk->Prop):Prop:=
 match L[s]? with
 | some (.map es c)=>match es.findIdx? (fun e=>(e.2.2:Int)==b) with
  | some i=>K .und (L.set s (.map (es.set i ((es.getD i default).1,v,(es.getD i default).2.2)) c))
  | none=>False
 | _=>False
def JH (sz:Nat) (d x:IV) (L:List Blk) (K:IV->List Blk->Prop):Prop:=
 match d with
 | .sl t off len _=>match rowsOf L x with
  | some rs=>rs.length<=len/\yc sz rs/\(rs=[]->K (.int .i64 0) L)/\(rs≠[]->match L[t]? with
   | some (.cells sz' rows)=>sz'=sz/\off+rs.length<=rows.length/\K (.int .i64 rs.length) (L.set t (.cells sz' (splice rows off rs)))
   | some (.tcells ty sz' rows)=>sz'=sz/\off+rs.length<=rows.length/\K (.int .i64 rs.length) (L.set t (.tcells ty sz' (splice rows off rs)))
   | _=>False)
  | none=>False
 | _=>False
def zfG (z:List IV) (d:IV) (L:List Blk) (K:IV->List Blk->Prop):Prop:=
 match d with
 | .sl t off len _=>(len=0->K (.tup []) L)/\(len≠0->match L[t]? with
  | some (.cells sz rows)=>z.length=sz/\z.all zU=true/\off+len<=rows.length/\K (.tup []) (L.set t (.cells sz (splice rows off (List.replicate len z))))
  | _=>False)
 | _=>False
def xex (E:Env) (k:XX) (vs:List IV) (g:Nat) (L:List Blk) (K:IV->List Blk->Prop):Prop:=
 match k with
 | .panic=>match vs with
  | [.iface t v]=>E.pan (.iface t v) L
  | _=>False
 | .mkif t=>match vs with
  | [v]=>K (.iface t v) L
  | _=>False
 | .strB ty=>match vs with
  | [.str s]=>s.length<=9223372036854775807/\K (.sl g 0 s.length s.length) (zy L g (.tcells ty 1 (Zq s)))
  | _=>False
 | .bStr=>match vs with
  | [v]=>match (yu L v).bind (zF byteOf) with
   | some s=>K (.str s) L
   | none=>False
  | _=>False
 | .rStr=>match vs with
  | [v]=>match (yu L v).bind (zF runeOf) with
   | some ns=>K (.str (runesL ns)) L
   | none=>False
  | _=>False
 | .tas t=>match vs with
  | [.iface t' v]=>if t'=t then K (.tup [v,.bool true]) L else False
  | _=>False
 | .ru op=>match vs with
  | [.raw v]=>∃r,z2f op v=some r/\K r L
  | _=>False
 | .itof f=>match vs with
  | [.int _ n]=>K (.raw (.float f (floatOfInt f n))) L
  | _=>False
 | .cpx=>match vs with
  | [.raw (.float k a),.raw (.float k' b)]=>k=k'/\K (.raw (.complex k a b)) L
  | _=>False
 | .mmake=>K (.mp g) (zy L g (.map [] 0))
 | .mlook st zero ok=>match vs with
  | [.raw (.map none),k]=>isKey st k=true/\K (Yy ok zero false) L
  | [m,k]=>V4 st zero ok m k L K
  | _=>False
 | .mset st=>match vs with
  | [m,k,v]=>z3H st m k v L K
  | _=>False
 | .mdel st=>match vs with
  | [m,k]=>z8A st m k L K
  | _=>False
 | .ment st zero=>match vs with
  | [m,k]=>z7h st zero m k L K
  | _=>False
 | .msto=>match vs with
  | [.mp s,.int _ b,v]=>z6Z s b v L K
  | _=>False
 | .copy sz=>match vs with
  | [d,x]=>JH sz d x L K
  | _=>False
 | .sl3 sz=>match vs with
  | [.sl s off len cap,.int _ l,.int _ h,.int _ m]=>vJ L s=some sz/\0<=l/\l<=h/\h<=m/\m<=cap/\K (.sl s (off+l.toNat) (h - l).toNat (m - l).toNat) L
  | _=>False
 | .sla n=>match vs with
  | [.ptr s 0 0,.int _ l]=>match L[s]? with
   | some (.cells m [row])=>m=n/\(∀c∈row,∃k v,c=.int k v)/\row.length=n/\0<=l/\l<=n/\K (.isl ((row.drop l.toNat).map fun c=>[c])) (L.set s .dead)
   | _=>False
  | _=>False
 | .no=>False
 | .clr z=>match vs with
  | [d]=>zfG z d L K
  | _=>False
 | .mrng=>match vs with
  | [.mp s]=>match L[s]? with
   | some (.map _ _)=>K (.ptr g 0 0) (zy L g (.mit s))
   | _=>False
  | _=>False
 | .mnxt=>match vs with
  | [.ptr t 0 0]=>match L[t]? with
   | some (.mit s)=>match L[s]? with
    | some (.map [] _)=>K (.tup [.bool false]) L
    | _=>False
   | _=>False
  | _=>False
 | .slId=>match vs with
  | [.sl s off len cap]=>zaK s off len cap L K
  | _=>False
 | .eqA neg ks=>match vs with
  | [.agg a,.agg b]=>match zM ks a b with
   | some t=>K (.bool (if neg then !t else t)) L
   | none=>False
  | _=>False
 | .eqP neg=>match vs with
  | [x,y]=>match jW x y with
   | some t=>K (.bool (if neg then !t else t)) L
   | none=>False
  | _=>False
 | .allocT ty zero=>K (.ptr g 0 0) (zy L g (.tcells ty zero.length [zero]))
 | .appT ty bytes=>match vs with
  | [s,x]=>YG ty bytes s x g L K
  | _=>False
 | .sdata=>match vs with
  | [.nsl]=>K (.raw (.pointer none)) L
  | [.raw (.slice none 0 0)]=>K (.raw (.pointer none)) L
  | [.sl s off _ cap]=>0<cap/\K (.ptr s off 0) L
  | _=>False
 | .ustr ty=>match vs with
  | [.raw (.pointer none),.int .i64 n]=>n=0/\K (.str []) L
  | [.ptr s r o,.int .i64 n]=>zcc ty s r o n L K
  | _=>False
 | .toU ty n | .ofU ty n=>match vs with
  | [.ptr s r o]=>z4l ty n s r o L K
  | _=>False
def xop (E:Env) (o:XO) (e:Opd->IV) (L:List Blk) (K:IV->List Blk->Prop):Prop:=
 match o with
 | .mov x=>K (e x) L
 | .pick c a b=>match e c with
  | .bool t=>K (if t then e a else e b) L
  | _=>False
 | .alloc zero=>K (.ptr L.length 0 0) (L++[.cells zero.length [zero]])
 | .box x=>K (.ptr L.length 0 0) (L++[.cells (cellsOf (e x)).length [cellsOf (e x)]])
 | .build zero parts=>match Va zero (parts.map fun p=>(p.1,p.2.1,e p.2.2)) with
  | some cs=>K (.agg cs) L
  | none=>False
 | .bslice sz zero len parts=>zero.length=sz/\match zO sz (List.replicate len zero) (parts.map fun p=>(p.1,e p.2)) with
  | some rows=>K (.sl L.length 0 len len) (L++[.cells sz rows])
  | none=>False
 | .load1 a=>match Zj E.gl L (e a) with
  | some (rows,r,o)=>r<rows.length/\o<(rows.getD r []).length/\K ((rows.getD r []).getD o .und) L
  | none=>False
 | .loadN n a=>match Zj E.gl L (e a) with
  | some (rows,r,o)=>r<rows.length/\o+n<=(rows.getD r []).length/\K (.agg (((rows.getD r []).drop o).take n)) L
  | none=>False
 | .store n a x=>match e a with
  | .ptr s r o=>match L[s]? with
   | some (.cells sz rows)=>r<rows.length/\o+n<=(rows.getD r []).length/\(cellsOf (e x)).length=n/\(cellsOf (e x)).all zU=true/\
    K .und (L.set s (.cells sz (rows.set r (splice (rows.getD r []) o (cellsOf (e x))))))
   | some (.tcells ty sz rows)=>r<rows.length/\o+n<=(rows.getD r []).length/\(cellsOf (e x)).length=n/\(cellsOf (e x)).all zU=true/\
    K .und (L.set s (.tcells ty sz (rows.set r (splice (rows.getD r []) o (cellsOf (e x))))))
   | _=>False
  | _=>False
 | .nilck x=>match e x with
  | .ptr s r o=>K (.ptr s r o) L
  | .iptr rows r o=>K (.iptr rows r o) L
  | .fn (.func f) a b=>K (.fn (.func f) a b) L
  | .raw (.pointer (some ⟨n,o,none⟩))=>K (.raw (.pointer (some ⟨n,o,none⟩))) L
  | _=>False
 | .bin op x y=>vU op (e x) (e y) fun v=>K v L
 | .eqB neg x y=>match e x,e y with
  | .bool a,.bool b=>K (.bool (if neg then !decide (a=b) else decide (a=b))) L
  | _,_=>False
 | .un op x=>xun op (e x) fun v=>K v L
 | .cvInt k x=>match e x with
  | .int _ n=>K (.int k (k.wrap n)) L
  | _=>False
 | .cvIntStr x=>match e x with
  | .int _ n=>K (.str (Utf8.encode n).data.toList) L
  | _=>False
 | .cvStr x=>match e x with
  | .str s=>K (.str s) L
  | _=>False
 | .fldA off x=>match e x with
  | .ptr s r o=>K (.ptr s r (o+off)) L
  | .iptr rows r o=>K (.iptr rows r (o+off)) L
  | .raw (.pointer (some ⟨n,o,none⟩))=>K (.raw (.pointer (some ⟨n,o+off,none⟩))) L
  | _=>False
 | .fld off n agg x=>match e x with
  | .agg cs=>off+n<=cs.length/\if agg then K (.agg ((cs.drop off).take n)) L else off<cs.length/\K (cs.getD off .und) L
  | _=>False
 | .idxS m x i=>match e x,e i with
  | .isl rows,.int _ n=>Rows m rows/\0<=n/\n<rows.length/\K (.iptr rows n.toNat 0) L
  | .sl s off len _,.int _ n=>vJ L s=some m/\0<=n/\n<len/\K (.ptr s (off+n.toNat) 0) L
  | _,_=>False
 | .idxA m sz x i=>match e x,e i with
  | .ptr s r o,.int _ n=>0<=n/\n<m/\K (.ptr s r (o+n.toNat*sz)) L
  | .iptr rows r o,.int _ n=>0<=n/\n<m/\K (.iptr rows r (o+n.toNat*sz)) L
  | .raw (.pointer (some ⟨b,o,none⟩)),.int _ n=>0<=n/\n<m/\K (.raw (.pointer (some ⟨b,o+n.toNat*sz,none⟩))) L
  | _,_=>False
 | .idx x i=>match e x,e i with
  | .str s,.int _ n=>0<=n/\n<s.length/\K (.int .u8 (s.getD n.toNat 0).toNat) L
  | _,_=>False
 | .slice m x lo hi=>match e x with
  | .isl rows=>Rows m rows/\bnd (lo.map e) 0 fun l=>bnd (hi.map e) rows.length fun h=>l<=h/\h<=rows.length/\K (.isl ((rows.take h).drop l)) L
  | .sl s off len cap=>vJ L s=some m/\bnd (lo.map e) 0 fun l=>bnd (hi.map e) len fun h=>l<=h/\h<=cap/\K (.sl s (off+l) (h - l) (cap - l)) L
  | .esl=>bnd (lo.map e) 0 fun l=>bnd (hi.map e) 0 fun h=>l=0/\h=0/\K .esl L
  | .nsl=>bnd (lo.map e) 0 fun l=>bnd (hi.map e) 0 fun h=>l=0/\h=0/\K .nsl L
  | _=>False
 | .sliceS x lo hi=>match e x with
  | .str s=>bnd (lo.map e) 0 fun l=>bnd (hi.map e) s.length fun h=>l<=h/\h<=s.length/\K (.str ((s.take h).drop l)) L
  | _=>False
 | .slice0 x=>match e x with
  | .isl _ | .sl .. | .esl | .nsl=>K .esl L
  | _=>False
 | .mkfn f a b=>K (.fn f (a.map e) (b.map e)) L
 | .mkslice zero bytes len cap=>match e len,e cap with
  | .int _ n,.int _ m=>0<=n/\n<=m/\m<=9223372036854775807/\m*bytes<=281474976710656/\
   K (.sl L.length 0 n.toNat m.toNat) (L++[.cells zero.length (List.replicate m.toNat zero)])
  | _,_=>False
 | .len x=>match lenOf (e x) with
  | some n=>K (.int .i64 n) L
  | none=>False
 | .lenS x=>match e x with
  | .str s=>K (.int .i64 s.length) L
  | _=>False
 | .append sz bytes s x=>ZN sz bytes (e s) (e x) L K
 | .max2 x y=>match e x,e y with
  | .int k a,.int _ b=>K (.int k (if b>a then b else a)) L
  | _,_=>False
 | .min2 x y=>match e x,e y with
  | .int k a,.int _ b=>K (.int k (if b<a then b else a)) L
  | _,_=>False
 | .call f args=>match e f with
  | .fn (.func n) a b=>WU E n (a++args.map e++b) L K
  | .yld s=>E.yl s (args.map e) L K
  | _=>False
 | .pcall f args=>match e f with
  | .fn (.func n) a b=>(∃fz args' r,zF (conv L fuel (if fz then zW else zt)) (a++args.map e++b)=some args'/\ZH E n args' r/\(fz=true->yg r=true)/\(∀m,conv [] fuel (yx m) r=some r)/\K r L)\/
    (∃r,zF (conv L fuel zt) (a++args.map e++b)=none/\(∀L',(∀i,i<L.length->L'[i]?=L[i]?)->XT E n (a++args.map e++b) L' fun v L''=>v=r/\L''=L')/\K r L)
  | _=>False
 | .isNil k neg x=>z9O k (e x) fun b=>K (.bool (if neg then !b else b)) L
 | .rng x=>match e x with
  | .str s=>K (.ptr L.length 0 0) (L++[.siter s 0])
  | _=>False
 | .nxt t=>match e t with
  | .ptr s 0 0=>match L[s]? with
   | some (.siter str pos)=>if pos<str.length then K (.tup [.bool true,.int .i64 pos,.int .i32 (Utf8.decode ⟨str.toArray⟩ pos).1]) (L.set s (.siter str (pos+(Utf8.decode ⟨str.toArray⟩ pos).2)))
     else K (.tup [.bool false]) L
   | _=>False
  | _=>False
 | .ext t i=>match e t with
  | .tup cs=>i<cs.length/\K (cs.getD i .und) L
  | _=>False
 | .ex k xs=>xex E k (xs.map e) L.length L K
def Free (L:List Blk) (g:Nat):Prop:=g=L.length\/L[g]?=some .unborn
theorem zB (L:List Blk) (k:Blk):zy L L.length k=L++[k]:=if_pos rfl
def jc (E:Env) (o:XO) (e:Opd->IV) (g:Nat) (L:List Blk) (K:IV->List Blk->Prop):Prop:=
 match o with
 | .alloc zero=>K (.ptr g 0 0) (zy L g (.cells zero.length [zero]))
 | .box x=>K (.ptr g 0 0) (zy L g (.cells (cellsOf (e x)).length [cellsOf (e x)]))
 | .bslice sz zero len parts=>zero.length=sz/\match zO sz (List.replicate len zero) (parts.map fun p=>(p.1,e p.2)) with
  | some rows=>K (.sl g 0 len len) (zy L g (.cells sz rows))
  | none=>False
 | .mkslice zero bytes len cap=>match e len,e cap with
  | .int _ n,.int _ m=>0<=n/\n<=m/\m<=9223372036854775807/\m*bytes<=281474976710656/\
   K (.sl g 0 n.toNat m.toNat) (zy L g (.cells zero.length (List.replicate m.toNat zero)))
  | _,_=>False
 | .append sz bytes s x=>Zl sz bytes (e s) (e x) g (fun L k=>zy L g k) L K
 | .ex k xs=>xex E k (xs.map e) g L K
 | o=>xop E o e L K
theorem z0V {n m:Nat} {s x:IV} {L:List Blk} {K:IV->List Blk->Prop} (h:ZN n m s x L K):Zl n m s x L.length (fun L' k=>zy L' L.length k) L K:=by
 have e:∀(t:Nat) (k b:Blk),zy (L.set t k) L.length b=L.set t k++[b]:=fun t k b=>by unfold zy;rw [if_pos (by rw [lls])]
 unfold ZN at h
 unfold Zl
 simp only [zB,e]
 exact h
theorem zeK {E:Env} {o:XO} {e:Opd->IV} {L:List Blk} {K:IV->List Blk->Prop} (h:xop E o e L K):jc E o e L.length L K:=by
 cases o with
 | append sz b s x=>exact z0V h
 | alloc z=>simp only [jc,zB];exact h
 | box x=>simp only [jc,zB];exact h
 | bslice=>simp only [jc,zB];exact h
 | mkslice=>simp only [jc,zB];exact h
 | _=>exact h
def Y7 (E:Env):List zg->Rho->List Blk->(Rho->List Blk->Prop)->Prop
 | [],ρ,L,K=>K ρ L
 | o::r,ρ,L,K=>match o.guard with
  | none=>xop E o.op (Opd.ev ρ) L fun v L'=>Y7 E r (put ρ o.dst v) L' K
  | some (t,want)=>match ρ t with
   | .bool b=>(b=want->xop E o.op (Opd.ev ρ) L fun v L'=>Y7 E r (put ρ o.dst v) L' K)/\(b≠want->Y7 E r (put ρ o.dst .und) L K)
   | .und=>Y7 E r (put ρ o.dst .und) L K
   | _=>False
def slP:IV->List Nat
 | .ptr s _ _=>[s]
 | _=>[]
def slS:IV->List Nat
 | .sl s _ _ _=>[s]
 | _=>[]
def slM:IV->List Nat
 | .mp s=>[s]
 | _=>[]
def XO.rd (o:XO) (e:Opd->IV) (L:List Blk):List Nat:=
 match o with
 | .pcall f as=>match e f with
  | .fn _ a b=>match zF (conv L fuel zt) (a++as.map e++b) with
   | some _=>[]
   | none=>List.range L.length
  | _=>[]
 | .load1 a | .loadN _ a=>slP (e a)
 | .idxS _ x _ | .slice _ x _ _=>slS (e x)
 | .store _ a _=>slP (e a)
 | .append _ _ s x=>slS (e s)++slS (e x)
 | .ex .bStr xs=>xs.flatMap fun x=>slS (e x)
 | .ex (.appT ..) xs=>xs.flatMap fun x=>slS (e x)
 | .ex (.mlook ..) xs=>xs.flatMap fun x=>slM (e x)
 | _=>[]
def XO.wr (o:XO) (e:Opd->IV):List Nat:=
 match o with
 | .store _ a _=>slP (e a)
 | .append _ _ s _=>slS (e s)
 | .ex (.appT ..) (s::_)=>slS (e s)
 | _=>[]
def yQ (o:XO) (L L':List Blk):List Nat:=
 match o with
 | .alloc _ | .box _ | .bslice .. | .mkslice ..=>[L.length]
 | .append ..=>if L'.length=L.length then [] else [L.length]
 | .ex (.appT ..) _=>if L'.length=L.length then [] else [L.length]
 | .ex (.strB _) _=>[L.length]
 | _=>[]
def Ap (r1 w1 r2 w2:List Nat):Prop:=(∀i∈w1,i∉r2/\i∉w2)/\∀i∈w2,i∉r1/\i∉w1
def z3f (chk:List Nat) (r w:List Nat):List (Nat × List Nat × List Nat)->Prop
 | []=>True
 | (i,r1,w1)::lg=>(i∈chk->Ap r1 w1 r w)/\z3f chk r w lg
def Zo (E:Env):Nat->List (Nat × List Nat × List Nat)->List (zg × List Nat × Bool)->Rho->List Blk->(Rho->List Blk->Prop)->Prop
 | _,_,[],ρ,L,K=>K ρ L
 | i,lg,(o,chk,keep)::r,ρ,L,K=>
  match o.guard with
  | none=>xop E o.op (Opd.ev ρ) L fun v L'=>z3f chk (o.op.rd (Opd.ev ρ) L++yQ o.op L L') (o.op.wr (Opd.ev ρ)++yQ o.op L L') lg/\
    Zo E (i+1) (if keep then (i,o.op.rd (Opd.ev ρ) L++yQ o.op L L',o.op.wr (Opd.ev ρ)++yQ o.op L L')::lg else lg) r (put ρ o.dst v) L' K
  | some (t,want)=>match ρ t with
   | .bool b=>(b=want->xop E o.op (Opd.ev ρ) L fun v L'=>z3f chk (o.op.rd (Opd.ev ρ) L++yQ o.op L L') (o.op.wr (Opd.ev ρ)++yQ o.op L L') lg/\
     Zo E (i+1) (if keep then (i,o.op.rd (Opd.ev ρ) L++yQ o.op L L',o.op.wr (Opd.ev ρ)++yQ o.op L L')::lg else lg) r (put ρ o.dst v) L' K)/\
    (b≠want->Zo E (i+1) lg r (put ρ o.dst .und) L K)
   | .und=>Zo E (i+1) lg r (put ρ o.dst .und) L K
   | _=>False
abbrev Run:=Rho->List Blk->(XE->Rho->List Blk->Prop)->Prop
def yG (g:Nat->Option Run):Nat->XE->Rho->List Blk->(XE->Rho->List Blk->Prop)->Prop
 | n,.goto l,ρ,L,K=>match g l with
  | none=>K (.goto l) ρ L
  | some f=>match n with
   | 0=>False
   | n+1=>f ρ L fun e ρ' L'=>yG g n e ρ' L' K
 | _,e,ρ,L,K=>K e ρ L
def z3T (f:Rho->List Blk->(XE->Rho->List Blk->Prop)->Prop):Nat->Rho->List Blk->(XE->Rho->List Blk->Prop)->Prop
 | 0,_,_,_=>False
 | n+1,ρ,L,K=>f ρ L fun e ρ' L'=>match e with
  | .normal=>z3T f n ρ' L' K
  | e=>K e ρ' L'
def XE.inBlock (id:Nat) (K:XE->Rho->List Blk->Prop):XE->Rho->List Blk->Prop
 | .exit i,ρ,L=>if i=id then K .normal ρ L else K (.exit i) ρ L
 | e,ρ,L=>K e ρ L
mutual
def Za (E:Env):XC->Rho->List Blk->(XE->Rho->List Blk->Prop)->Prop
 | .skip,ρ,L,K=>K .normal ρ L
 | .ops l,ρ,L,K=>Y7 E l ρ L fun ρ' L'=>K .normal ρ' L'
 | .draw l,ρ,L,K=>l.all (fun o=>o.op.quiet)=true/\Y7 E l ρ L fun ρ' L'=>K .normal ρ' L'
 | .seq a b,ρ,L,K=>Za E a ρ L fun e ρ' L'=>match e with
  | .normal=>Za E b ρ' L' K
  | e=>K e ρ' L'
 | .cond c t e,ρ,L,K=>match c.ev ρ with
  | .bool b=>(b=true->Za E t ρ L K)/\(b=false->Za E e ρ L K)
  | _=>False
 | .block id b,ρ,L,K=>Za E b ρ L (XE.inBlock id K)
 | .loop b,ρ,L,K=>∃n,z3T (Za E b) n ρ L K
 | .exit id,ρ,L,K=>K (.exit id) ρ L
 | .scope b ls,ρ,L,K=>∃n,Za E b ρ L fun e ρ' L'=>yG (Yx E ls) n e ρ' L' K
 | .label _,ρ,L,K=>K .normal ρ L
 | .goto l,ρ,L,K=>K (.goto l) ρ L
 | .ret,ρ,L,K=>K .ret ρ L
 | .drawE l,ρ,L,K=>Y7 E l ρ L fun ρ' L'=>K .normal ρ' L'
 | .drawR l,ρ,L,K=>Zo E 0 [] l ρ L fun ρ' L'=>K .normal ρ' L'
 | .bad,_,_,_=>False
 | .rngF g N ps asg body,ρ,L,K=>match g.ev ρ with
  | .fn (.func gf) [] caps=>∀r0:Loop,r0.state=.ready->r0.pending=none->JG E.P N ps asg body r0->
    XT E gf (.yld L.length::caps) (L++[.lp r0 ((List.range N).map ρ)]) fun _ L'=>∃r1,L'[L.length]?=some (.lp r1 ((List.range N).map ρ))/\r1.state≠.busy/\
     match r1.pending with
     | none=>K .normal ρ (L'.set L.length .dead)
     | some .ret=>K .ret ρ (L'.set L.length .dead)
     | some (.exit i)=>K (.exit i) ρ (L'.set L.length .dead)
     | some (.goto l)=>K (.goto l) ρ (L'.set L.length .dead)
     | _=>False
  | _=>False
def Yx (E:Env):vI->Nat->Option Run
 | .nil,_=>none
 | .cons l c r,n=>if n=l then some (Za E c) else Yx E r n
end
abbrev Post (E:Env) (C:Ctx) (K:IV->List Blk->Prop) (v:Value) (w':World):Prop:=z8i E.g0 C K v w'
theorem Zf {E:Env} {C:Ctx} {K:IV->List Blk->Prop} {r:IV} {v:Value} (wf:Wf E.g0 C) (b:Sim C) (d:VR C r v) (h:K r C.L):Post E C K v C.w:=
 ⟨r,C.L,C.φ,h,wf,b,Ext.refl C,d⟩
def Zm (w:World) (o:Obj):World:={ w with heap:=w.heap.push o }
def newφ (C:Ctx) (g sz:Nat):Nat->Loc:=fun s=>if s=g then ⟨C.w.heap.size,0,sz⟩ else C.φ s
def y8 (C:Ctx) (g:Nat) (o:Obj) (k:Blk) (sz:Nat):Ctx:=⟨Zm C.w o,newφ C g sz,zy C.L g k,C.X⟩
theorem ZA {w:World} {o:Obj} {b:Nat} (h:b<w.heap.size):(Zm w o).heap[b]?=w.heap[b]?:=by
 show (w.heap.push o)[b]?=_
 rw [Array.getElem?_push,if_neg (Nat.ne_of_lt h)]
theorem zX {w:World} {o:Obj}:(Zm w o).heap[w.heap.size]?=some o:=by
 show (w.heap.push o)[w.heap.size]?=_
 rw [Array.getElem?_push,if_pos rfl]
theorem z0d {α:Type} {l:List α} {x:α} {s:Nat} (h:s<l.length):(l++[x])[s]?=l[s]?:=by
 rw [List.getElem?_append_left h]
theorem Yu {α:Type} {l:List α} {x y:α} {s:Nat} (h:(l++[x])[s]?=some y):(s<l.length/\l[s]?=some y)\/(s=l.length/\y=x):=by
 rcases Nat.lt_trichotomy s l.length with b | b | b
 ·rw [z0d b] at h;exact .inl ⟨b,h⟩
 ·subst b;simp at h;exact .inr ⟨rfl,h.symm⟩
 ·rw [List.getElem?_eq_none (by simp;omega)] at h;cases h
theorem zk {α:Type} {l:List α} {s:Nat} {x:α} (h:l[s]?=some x):s<l.length:=(List.getElem?_eq_some_iff.1 h).1
theorem yE {L:List Blk} {g s:Nat} {k y:Blk} (hg:Free L g) (h:(zy L g k)[s]?=some y):(s≠g/\L[s]?=some y)\/(s=g/\y=k):=by
 unfold zy at h
 split at h
 ·rename_i b;subst b
  rcases Yu h with ⟨l,d⟩ | ⟨l,d⟩
  ·exact .inl ⟨od,d⟩
  ·exact .inr ⟨l,d⟩
 ·rename_i b
  have j:=zk (hg.resolve_left b)
  by_cases hs:s=g
  ·subst hs;rw [List.getElem?_set_self j] at h;exact .inr ⟨rfl,(Option.some.inj h).symm⟩
  ·rw [List.getElem?_set_ne (Ne.symm hs)] at h;exact .inl ⟨hs,h⟩
theorem YE {L:List Blk} {g:Nat} {k:Blk} (hg:Free L g):(zy L g k)[g]?=some k:=by
 unfold zy
 split
 ·rename_i b;subst b;simp
 ·rename_i b;exact List.getElem?_set_self (zk (hg.resolve_left b))
theorem z0j {L:List Blk} {g s:Nat} {k y:Blk} (hs:s≠g) (h:L[s]?=some y):(zy L g k)[s]?=some y:=by
 unfold zy
 split
 ·rw [List.getElem?_append_left (zk h)];exact h
 ·rw [List.getElem?_set_ne (Ne.symm hs)];exact h
theorem WM {C:Ctx} {g s:Nat} (hg:Free C.L g) (h:C.born s):s≠g:=by
 rintro rfl
 rcases hg with hg | hg
 ·have:=h.lt;omega
 ·obtain ⟨k,b,d⟩:=h
  rw [hg] at b;cases b;cases d
theorem z1e {L:List Blk} {g:Nat} {k:Blk}:L.length<=(zy L g k).length:=by
 unfold zy;split<;>simp
theorem Yp {L:List Blk} {g t:Nat} {k k0:Blk} (hg:Free L g) (b:L[t]?=some k0) (d:k0.born=true):Free (L.set t k) g:=by
 rcases hg with hg | hg
 ·exact .inl (by rw [lls];exact hg)
 ·refine .inr ?_
  rw [List.getElem?_set_ne];exact hg
  rintro rfl;rw [hg] at b;cases b;cases d
theorem JC {C:Ctx} {g s:Nat} {k:Blk} {w:World} {j:Nat->Loc} {X:Nat->Prop} (hg:Free C.L g) (h:C.born s):(⟨w,j,zy C.L g k,X⟩:Ctx).born s:=by
 have b:=WM hg h
 obtain ⟨l,m,d⟩:=h
 exact ⟨l,z0j b m,d⟩
theorem z0c {C:Ctx} {g:Nat} {o:Obj} {k:Blk} {sz b:Nat} (hg:Free C.L g) (h:(y8 C g o k sz).mine b):C.mine b\/b=C.w.heap.size:=by
 obtain ⟨s,l,m,ha,rfl⟩:=h
 rcases yE hg m with ⟨d,j⟩ | ⟨d,j⟩
 ·left;exact ⟨s,l,j,ha,by simp [y8,newφ,d]⟩
 ·right;simp [y8,newφ,d]
theorem yN {C:Ctx} {g:Nat} (hg:Free C.L g) (o:Obj) (k:Blk) (sz:Nat):Ext C (y8 C g o k sz) where
 size:=by simp [y8,Zm]
 frame:=fun b d _=>ZA d
 sub:=fun b h=>(z0c hg h).imp id (fun h=>by omega)
 slot:=fun s hs=>by simp [y8,newφ,WM hg hs]
 bo:=fun s hs=>JC hg hs
 len:=z1e
 cap:=fun b c e fr h=>⟨c,e,fr,(ZA (Array.getElem?_eq_some_iff.1 h).1).trans h,rfl⟩
 ex:=rfl
 os:=rfl
 tape:=rfl
 output:=rfl
theorem Z9.mono {l:Bool} {C C':Ctx} (h:Ext C C') {s sz:Nat} {rows:List (List IV)} (hs:C.born s) (I:Z9 l C s sz rows)
  (hh:C'.w.heap[(C.φ s).blk]?=C.w.heap[(C.φ s).blk]?):Z9 l C' s sz rows:=by
 obtain ⟨G,c,e,fr,u,b,B,m⟩:=I
 refine ⟨by rw [h.slot s hs];exact G,c,e,fr,by rw [h.slot s hs,hh];exact u,b,by rw [h.slot s hs];exact B,fun i d hi=>?_⟩
 obtain ⟨J,q⟩:=m i d hi
 refine ⟨J,fun j x D=>?_⟩
 obtain ⟨v,A,r⟩:=q j x D
 exact ⟨v,by rw [h.slot s hs];exact A,r.mono h⟩
theorem Zp.mono {C C':Ctx} (h:Ext C C') {s:Nat} {k:Blk} (b:C.L[s]?=some k) (d:Zp C s k)
  (hh:C'.w.heap[(C.φ s).blk]?=C.w.heap[(C.φ s).blk]?):Zp C' s k:=by
 cases k with
 | cells sz rows=>
  have hs:C.born s:=⟨_,b,rfl⟩
  exact Z9.mono h hs d hh
 | tcells ty sz rows=>
  have hs:C.born s:=⟨_,b,rfl⟩
  refine ⟨Z9.mono h hs d.1 hh,?_⟩
  obtain ⟨_,A,c,fr,q⟩:=d
  exact ⟨by rw [h.slot s hs];exact A,c,fr,by rw [h.slot s hs,hh];exact q⟩
 | siter t pos=>
  have hs:C.born s:=⟨_,b,rfl⟩
  exact ⟨by rw [h.slot s hs];exact d.1,by rw [h.slot s hs,hh];exact d.2⟩
 | lp r l=>
  have hs:C.born s:=⟨_,b,rfl⟩
  exact ⟨by rw [h.slot s hs,hh];exact d.1,fun n=>(d.2 n).mono h⟩
 | map Q c=>
  have hs:C.born s:=⟨_,b,rfl⟩
  obtain ⟨D,A,q,B⟩:=d
  exact ⟨D,by rw [h.slot s hs,hh];exact A,q,fun i e G=>by obtain ⟨m,I,O,J,M⟩:=B i e G;exact ⟨m,I,O,J.mono h,M⟩⟩
 | mit m=>
  have hs:C.born s:=⟨_,b,rfl⟩
  obtain ⟨A,q,j,u,B⟩:=d
  exact ⟨by rw [h.slot s hs];exact A,h.bo m q,j,u,by rw [h.slot s hs,hh,h.slot m q];exact B⟩
 | dead=>trivial
 | unborn=>trivial
theorem jH {g0 g:Nat} {C:Ctx} {o:Obj} {k:Blk} {sz:Nat} (hg:Free C.L g) (wf:Wf g0 C) (j:Sim C):Wf g0 (y8 C g o k sz) where
 inj:=fun s t w A hs B as at_ d=>by
  rcases yE hg hs with ⟨q,u⟩ | ⟨q,u⟩<;>rcases yE hg B with ⟨m,r⟩ | ⟨m,r⟩
  ·simp only [y8,newφ,q,m,if_false] at d
   exact wf.inj s t w A u r as at_ d
  ·subst m
   simp only [y8,newφ,q,if_false,if_true] at d
   have:=ZF j ⟨s,w,u,as,rfl⟩
   omega
  ·subst q
   simp only [y8,newφ,m,if_false,if_true] at d
   have:=ZF j ⟨t,A,r,at_,rfl⟩
   omega
  ·omega
 lo:=fun b h=>(z0c hg h).elim (wf.lo b) (fun h=>by rw [h];exact wf.g)
 apart:=fun b l h=>(z0c hg h).elim (wf.apart b l) (fun h=>by have:=wf.exlo b l;omega)
 exlo:=fun b l=>by have:=wf.exlo b l;simp [y8,Zm];omega
 g:=by have:=wf.g;simp [y8,Zm];omega
theorem wB {C:Ctx} {g:Nat} {o:Obj} {k:Blk} {sz:Nat} (hg:Free C.L g) (d:Sim C) (m:Zp (y8 C g o k sz) g k):Sim (y8 C g o k sz):=by
 intro s l j
 rcases yE hg j with ⟨h,b⟩ | ⟨h,b⟩
 ·have q:=d s l b
  by_cases ha:l.alive=true
  ·exact q.mono (yN hg o k sz) b (ZA (ZF d ⟨s,l,b,ha,rfl⟩))
  ·cases l<;>first | trivial | (exfalso;exact ha rfl)
 ·subst h;subst b;exact m
def Flat (C:Ctx) (c:Array Value) (base sz:Nat) (rows:List (List IV)):Prop:=
 base+rows.length*sz<=c.size/\∀(i:Nat) (row:List IV),rows[i]?=some row->row.length=sz/\
  ∀(j:Nat) (x:IV),row[j]?=some x->∃v,c[base+i*sz+j]?=some v/\VR C x v
theorem Flat.mono {C C':Ctx} (h:Ext C C') {c:Array Value} {base sz:Nat} {rows:List (List IV)} (d:Flat C c base sz rows):Flat C' c base sz rows:=
 ⟨d.1,fun i b hi=>⟨(d.2 i b hi).1,fun j x l=>let ⟨v,h1,h2⟩:=(d.2 i b hi).2 j x l;⟨v,h1,h2.mono h⟩⟩⟩
theorem z6A {E:Env} {C:Ctx} {g:Nat} (hg:Free C.L g) {K:IV->List Blk->Prop} {c:Array Value} {e:TypeId} {fr:Nat × Nat} {sz:Nat} {rows:List (List IV)} {r:IV} {v:Value} (wf:Wf E.g0 C) (d:Sim C) (m:z01 false c.size fr)
  (B:Flat C c 0 sz rows) (s:VR (y8 C g (.cells c e fr) (.cells sz rows) sz) r v) (h:K r (zy C.L g (.cells sz rows))) :
  Post E C K v (Zm C.w (.cells c e fr)):=by
 refine ⟨r,zy C.L g (Blk.cells sz rows),newφ C g sz,h,jH (o:=.cells c e fr) hg wf d,wB (o:=.cells c e fr) hg d ?_,yN hg (.cells c e fr) (.cells sz rows) sz,s⟩
 have b:=B.mono (yN hg (.cells c e fr) (.cells sz rows) sz)
 refine ⟨by simp [y8,newφ],c,e,fr,by simp only [y8,newφ,if_true];exact zX,m,?_,?_⟩
 ·simpa [y8,newφ] using b.1
 ·intro i l hi
  refine ⟨(b.2 i l hi).1,fun j x A=>?_⟩
  obtain ⟨u,D,q⟩:=(b.2 i l hi).2 j x A
  exact ⟨u,by simpa [y8,newφ] using D,q⟩
theorem YQ {E:Env} {C:Ctx} {g:Nat} (hg:Free C.L g) {K:IV->List Blk->Prop} {c:Array Value} {e:TypeId} {sz:Nat} {rows:List (List IV)} {r:IV} {v:Value} (wf:Wf E.g0 C) (b:Sim C)
  (j:Flat C c 0 sz rows) (d:VR (y8 C g (.cells c e) (.cells sz rows) sz) r v) (h:K r (zy C.L g (.cells sz rows))) :
  Post E C K v (Zm C.w (.cells c e)):=z6A hg wf b (WL _ _) j d h
theorem yY {C:Ctx} {g:Nat} (hg:Free C.L g) {o:Obj} {k:Blk} {sz:Nat} (b:k.born=true:=by rfl):VR (y8 C g o k sz) (.ptr g 0 0) (.pointer (some ⟨C.w.heap.size,0,none⟩)):=by
 have:=VR.ptr (C:=y8 C g o k sz) g 0 0 ⟨k,YE hg,b⟩
 simpa [y8,newφ] using this
theorem vw {C:Ctx} {g:Nat} (hg:Free C.L g) {c:Array Value} {e:TypeId} {fr:Nat × Nat} {k:Blk} {sz len cap cap':Nat} (d:len<=cap) (hc:cap<=cap') (hs:cap'*sz<=c.size) (h:cap'<=9223372036854775807) (b:k.born=true:=by rfl) :
  VR (y8 C g (.cells c e fr) k sz) (.sl g 0 len cap) (.slice (some ⟨C.w.heap.size,0,none⟩) len cap'):=by
 refine VR.sl (C:=y8 C g (.cells c e fr) k sz) g 0 len cap _ cap' ⟨k,YE hg,b⟩ d hc (.inr ⟨by simp [y8,newφ],c,e,fr,?_,?_⟩) h
 ·simp only [y8,newφ,if_true];exact zX
 ·simpa [y8,newφ] using hs
theorem YK {C:Ctx} {g:Nat} (hg:Free C.L g) {c:Array Value} {e:TypeId} {k:Blk} {sz len cap cap':Nat} (d:len<=cap) (hc:cap<=cap') (hs:cap'*sz<=c.size) (h:cap'<=9223372036854775807) (b:k.born=true:=by rfl) :
  VR (y8 C g (.cells c e) k sz) (.sl g 0 len cap) (.slice (some ⟨C.w.heap.size,0,none⟩) len cap'):=vw hg d hc hs h b
theorem z6T {C:Ctx} {x:IV} {v:Value} (h:VR C x v):Flat C v.cells 0 (cellsOf x).length [cellsOf x]:=by
 obtain ⟨m,b⟩:=h.cells
 refine ⟨by simp [m],fun i d hi=>?_⟩
 cases i with
 | zero=>
  simp at hi;subst hi
  exact ⟨rfl,fun j y l=>by simpa using b j y l⟩
 | succ i=>simp at hi
def setW (w:World) (b:Nat) (o:Obj):World:={ w with heap:=w.heap.setIfInBounds b o }
theorem zS {w:World} {o:Obj} {b d:Nat} (h:d≠b):(setW w b o).heap[d]?=w.heap[d]?:=by
 show (w.heap.setIfInBounds b o)[d]?=_
 rw [Array.getElem?_setIfInBounds,if_neg (Ne.symm h)]
theorem zo {w:World} {o:Obj} {b:Nat} (h:b<w.heap.size):(setW w b o).heap[b]?=some o:=by
 show (w.heap.setIfInBounds b o)[b]?=_
 rw [Array.getElem?_setIfInBounds,if_pos rfl,if_pos h]
def Vb (C:Ctx) (s:Nat) (o:Obj) (k:Blk):Ctx:=⟨setW C.w (C.φ s).blk o,C.φ,C.L.set s k,C.X⟩
theorem zL {α:Type} {l:List α} {x y:α} {s t:Nat} (h:(l.set s x)[t]?=some y):(t≠s/\l[t]?=some y)\/(t=s/\y=x/\s<l.length):=by
 by_cases ht:t=s
 ·subst ht
  have:=zk h
  simp at this
  rw [List.getElem?_set_self this] at h
  exact .inr ⟨rfl,(Option.some.inj h).symm,this⟩
 ·rw [List.getElem?_set_ne (Ne.symm ht)] at h
  exact .inl ⟨ht,h⟩
theorem Vt {C:Ctx} {s b:Nat} {o:Obj} {k k0:Blk} (hs:C.L[s]?=some k0) (ha:k0.alive=true) (h:(Vb C s o k).mine b):C.mine b:=by
 obtain ⟨t,l,m,d,rfl⟩:=h
 rcases zL m with ⟨_,j⟩ | ⟨q,_,_⟩
 ·exact ⟨t,l,j,d,rfl⟩
 ·subst q;exact ⟨t,k0,hs,ha,rfl⟩
theorem VD {C:Ctx} {s t:Nat} {o:Obj} {k:Blk} (b:k.born=true) (h:C.born t):(Vb C s o k).born t:=by
 obtain ⟨l,d,j⟩:=h
 by_cases ht:t=s
 ·subst ht;exact ⟨k,List.getElem?_set_self (zk d),b⟩
 ·exact ⟨l,(List.getElem?_set_ne (Ne.symm ht)).trans d,j⟩
theorem jq {C:Ctx} {s:Nat} {k k0:Blk} {c c':Array Value} {e:TypeId} {fr0:Nat × Nat} (hs:C.L[s]?=some k0) (ha:k0.alive=true)
  (hc:C.w.heap[(C.φ s).blk]?=some (.cells c e fr0)) (hsz:c'.size=c.size) (j:k.born=true:=by rfl):Ext C (Vb C s (.cells c' e fr0) k) where
 size:=by simp [Vb,setW]
 frame:=fun b _ m=>zS (fun h=>m ⟨s,k0,hs,ha,h.symm⟩)
 sub:=fun b h=>.inl (Vt hs ha h)
 slot:=fun _ _=>rfl
 bo:=fun t q=>VD j q
 len:=by simp [Vb]
 cap:=fun b d l fr h=>by
  by_cases hb:b=(C.φ s).blk
  ·subst hb
   rw [hc] at h
   obtain ⟨rfl,rfl,rfl⟩:=by simpa using h
   exact ⟨c',e,fr0,zo (Array.getElem?_eq_some_iff.1 hc).1,hsz⟩
  ·exact ⟨d,l,fr,(zS hb).trans h,rfl⟩
 ex:=rfl
 os:=rfl
 tape:=rfl
 output:=rfl
theorem jG {g0:Nat} {C:Ctx} {s:Nat} {k k0:Blk} {o:Obj} (wf:Wf g0 C) (hs:C.L[s]?=some k0) (ha:k0.alive=true):Wf g0 (Vb C s o k) where
 inj:=fun t u d M J B at_ I q=>by
  have f:∀{t:Nat} {d:Blk},(C.L.set s k)[t]?=some d->d.alive=true->∃l:Blk,C.L[t]?=some l/\l.alive=true:=fun {t d} h w=>by
   rcases zL h with ⟨_,m⟩ | ⟨r,_,_⟩
   ·exact ⟨d,m,w⟩
   ·subst r;exact ⟨k0,hs,ha⟩
  obtain ⟨l,r,m⟩:=f J at_
  obtain ⟨G,D,A⟩:=f B I
  exact wf.inj t u l G r D m A q
 lo:=fun b h=>wf.lo b (Vt hs ha h)
 apart:=fun b j h=>wf.apart b j (Vt hs ha h)
 exlo:=fun b j=>by have:=wf.exlo b j;simpa [Vb,setW] using this
 g:=by have:=wf.g;simpa [Vb,setW] using this
theorem z6N {g0:Nat} {C:Ctx} {s:Nat} {k k0:Blk} {c c':Array Value} {e:TypeId} {fr0:Nat × Nat} (wf:Wf g0 C) (j:Sim C) (hs:C.L[s]?=some k0) (ha:k0.alive=true)
  (hc:C.w.heap[(C.φ s).blk]?=some (.cells c e fr0)) (hsz:c'.size=c.size) (u:Zp (Vb C s (.cells c' e fr0) k) s k) (d:k.born=true:=by rfl):Sim (Vb C s (.cells c' e fr0) k):=by
 intro t l r
 rcases zL r with ⟨m,b⟩ | ⟨m,b,_⟩
 ·have q:=j t l b
  by_cases hla:l.alive=true
  ·refine q.mono (jq hs ha hc hsz d) b (zS fun h=>m (wf.inj t s l k0 b hs hla ha h))
  ·cases l<;>first | trivial | (exfalso;exact hla rfl)
 ·subst m;subst b;exact u
theorem YY {C:Ctx} {s:Nat} {k k0:Blk} {l o:Obj} (hs:C.L[s]?=some k0) (ha:k0.alive=true)
  (hc:C.w.heap[(C.φ s).blk]?=some l) (q:∀c e fr,l≠.cells c e fr) (j:k.born=true:=by rfl):Ext C (Vb C s o k) where
 size:=by simp [Vb,setW]
 frame:=fun b _ r=>zS (fun h=>r ⟨s,k0,hs,ha,h.symm⟩)
 sub:=fun b h=>.inl (Vt hs ha h)
 slot:=fun _ _=>rfl
 bo:=fun t u=>VD j u
 len:=by simp [Vb]
 cap:=fun b d m fr h=>by
  by_cases hb:b=(C.φ s).blk
  ·subst hb
   rw [hc] at h
   exact absurd (Option.some.inj h) (q _ _ _)
  ·exact ⟨d,m,fr,(zS hb).trans h,rfl⟩
 ex:=rfl
 os:=rfl
 tape:=rfl
 output:=rfl
theorem Wv {g0:Nat} {C:Ctx} {s:Nat} {k k0:Blk} {q o:Obj} (wf:Wf g0 C) (j:Sim C) (hs:C.L[s]?=some k0) (ha:k0.alive=true)
  (hc:C.w.heap[(C.φ s).blk]?=some q) (u:∀c e fr,q≠.cells c e fr) (B:Zp (Vb C s o k) s k) (d:k.born=true:=by rfl):Sim (Vb C s o k):=by
 intro t l A
 rcases zL A with ⟨m,b⟩ | ⟨m,b,_⟩
 ·have r:=j t l b
  by_cases hla:l.alive=true
  ·refine r.mono (YY hs ha hc u d) b (zS fun h=>m (wf.inj t s l k0 b hs hla ha h))
  ·cases l<;>first | trivial | (exfalso;exact hla rfl)
 ·subst m;subst b;exact B
theorem Zx {P:Program} {w:World} {r:Nat} {b:Obj} (o:Obj) (h:w.heap[r]?=some b) (d:∀c e fr,b≠.cells c e fr):(setObj r o).run P w=.ok () (setW w r o):=by
 unfold setObj
 cases b with
 | cells c e fr=>exact absurd rfl (d _ _ _)
 | _=>simp [Sem.run,h,setW]
theorem Z7 {P:Program} {w:World} {r:Nat} {b:Obj} (h:w.heap[r]?=some b) (d:∀c e fr,b≠.cells c e fr):(getObj r).run P w=.ok b w:=by
 unfold getObj
 cases b with
 | cells c e fr=>exact absurd rfl (d _ _ _)
 | _=>simp [Sem.run,h]
theorem zu {α j:Type} {f:α->Option j}:∀{l:List α} {b:List j},zF f l=some b->b.length=l.length
 | [],b,h=>by simp only [zF,sij] at h;subst h;rfl
 | x::r,b,h=>by
  simp only [zF] at h
  split at h
  ·split at h
   ·rename_i y m q d
    simp only [sij] at h;subst h
    simp [zu d]
   ·cases h
  ·cases h
theorem zq {α d:Type} {f:α->Option d}:∀{l:List α} {b:List d},zF f l=some b->∀(i:Nat) (y:d),b[i]?=some y->∃x,l[i]?=some x/\f x=some y
 | [],b,h,i,y,hy=>by simp only [zF,sij] at h;subst h;simp at hy
 | x::r,b,h,i,y,hy=>by
  simp only [zF] at h
  split at h
  ·split at h
   ·rename_i q j _ s m
    simp only [sij] at h;subst h
    cases i with
    | zero=>simp at hy;subst hy;exact ⟨x,rfl,j⟩
    | succ i=>simp at hy;exact zq m i y hy
   ·cases h
  ·cases h
theorem Zd {α m:Type} {f:α->Option m}:∀{l:List α} {b:List m},zF f l=some b->∀(i:Nat) (x:α),l[i]?=some x->∃y,b[i]?=some y/\f x=some y
 | [],b,h,i,y,hy=>by simp at hy
 | x::r,b,h,i,y,hy=>by
  simp only [zF] at h
  split at h
  ·split at h
   ·rename_i q d _ s j
    simp only [sij] at h;subst h
    cases i with
    | zero=>simp at hy;subst hy;exact ⟨q,rfl,d⟩
    | succ i=>simp at hy;exact Zd j i y hy
   ·cases h
  ·cases h
theorem Zh {l:List IV}:closed.closedL l=true↔∀(i:Nat) (x:IV),l[i]?=some x->closed x=true:=by
 induction l with
 | nil=>simp [closed.closedL]
 | cons a r m=>
  simp only [closed.closedL,Bool.and_eq_true,m]
  constructor
  ·rintro ⟨j,d⟩ i x b
   cases i with
   | zero=>simp at b;subst b;exact j
   | succ i=>exact d i x (by simpa using b)
  ·intro h
   exact ⟨h 0 a rfl,fun i x b=>h (i+1) x (by simpa using b)⟩
theorem yF {l:List IV}:yg.noTreeL l=true↔∀(i:Nat) (x:IV),l[i]?=some x->yg x=true:=by
 induction l with
 | nil=>simp [yg.noTreeL]
 | cons a r m=>
  simp only [yg.noTreeL,Bool.and_eq_true,m]
  constructor
  ·rintro ⟨j,d⟩ i x b
   cases i with
   | zero=>simp at b;subst b;exact j
   | succ i=>exact d i x (by simpa using b)
  ·intro h
   exact ⟨h 0 a rfl,fun i x b=>h (i+1) x (by simpa using b)⟩
theorem VR.weaken {C C':Ctx} (D:C'.w=C.w) (u:∀b,C'.own b->C.own b) {x:IV} {v:Value} (h:VR C x v):closed x=true->VR C' x v:=by
 induction h with
 | bool b=>exact fun _=>.bool b
 | int k n=>exact fun _=>.int k n
 | str s=>exact fun _=>.str s
 | raw v h=>exact fun _=>.raw v h
 | und=>exact fun _=>.und
 | ptr s r o hs=>intro h;cases h
 | sl s off len cap a cap' hs I hc ha=>intro h;cases h
 | isl rows a cap' sz vals A hsz l ha G m=>
  intro _
  refine .isl rows a cap' sz vals A hsz l ?_ (fun i d hi j x q=>m i d hi j x q (Zh.1 (l i d hi) j x q))
  rcases ha with U | ⟨b,o,ha,B,O,hc⟩
  ·exact .inl U
  ·exact .inr ⟨b,o,ha,by rw [D];exact B,fun h=>O (u b h),fun i d hi j x q=>by rw [D];exact hc i d hi j x q⟩
 | iptr rows r o b base sz vals hsz l B O ha G m=>
  intro _
  exact .iptr rows r o b base sz vals hsz l (by rw [D];exact B) (fun h=>O (u b h)) (fun i d hi j x q=>by rw [D];exact ha i d hi j x q)
   (fun i d hi j x q=>m i d hi j x q (Zh.1 (l i d hi) j x q))
 | esl a=>exact fun _=>.esl a
 | nsl=>exact fun _=>.nsl
 | agg cs vs I G m=>intro h;exact .agg cs vs I fun i x hi=>m i x hi (Zh.1 h i x hi)
 | tup cs vs I G m=>intro h;exact .tup cs vs I fun i x hi=>m i x hi (Zh.1 h i x hi)
 | fn f as V S X ha B T Q J M=>
  intro h
  simp only [closed,Bool.and_eq_true] at h
  exact .fn f as V S X ha B (fun i x hi=>J i x hi (Zh.1 h.1 i x hi)) (fun i x hi=>M i x hi (Zh.1 h.2 i x hi))
 | iface t x v G m=>intro h;exact .iface t x v (m h)
 | mp s hs=>intro h;cases h
 | yld s hs=>intro h;cases h
theorem ww {L:List Blk}:∀(n:Nat) (m:Ren) (x y:IV),(∀s t,m s≠some (some t))->conv L n m x=some y->closed y=true
 | 0,m,x,y,hm,h=>by cases h
 | n+1,m,x,y,hm,h=>by
  have L1:∀{l u:List IV},zF (conv L n m) l=some u->closed.closedL u=true:=fun {l u} j=>Zh.2 fun i w hi=>by
   obtain ⟨z,_,q⟩:=zq j i w hi
   exact ww n m z w hm q
  cases x with
  | ptr s r o=>
   simp only [conv] at h
   split at h
   ·rename_i t d;exact absurd d (hm s t)
   ·split at h
    ·rw [oms] at h;obtain ⟨rs,_,rfl⟩:=h;rfl
    ·rw [oms] at h;obtain ⟨rs,_,rfl⟩:=h;rfl
    ·cases h
   ·cases h
  | sl s off len cap=>
   simp only [conv] at h
   split at h
   ·rename_i t d;exact absurd d (hm s t)
   ·split at h
    ·split at h
     ·rw [oms] at h;obtain ⟨rs,_,rfl⟩:=h;rfl
     ·cases h
    ·split at h
     ·rw [oms] at h;obtain ⟨rs,_,rfl⟩:=h;rfl
     ·cases h
    ·cases h
   ·cases h
  | mp s=>
   simp only [conv] at h
   split at h
   ·rename_i t d;exact absurd d (hm s t)
   ·cases h
  | yld s=>
   simp only [conv] at h
   split at h
   ·rename_i t d;exact absurd d (hm s t)
   ·cases h
  | agg cs=>simp only [conv,oms] at h;obtain ⟨l,j,rfl⟩:=h;exact L1 j
  | tup cs=>simp only [conv,oms] at h;obtain ⟨l,j,rfl⟩:=h;exact L1 j
  | fn f a b=>
   simp only [conv] at h
   split at h
   ·rename_i B D ha A
    simp only [sij] at h;subst h
    simp only [closed,L1 ha,L1 A,Bool.and_self]
   ·cases h
  | iface t v=>simp only [conv,oms] at h;obtain ⟨z,q,rfl⟩:=h;exact ww n m v z hm q
  | bool b=>simp only [conv,sij] at h;subst h;rfl
  | int k i=>simp only [conv,sij] at h;subst h;rfl
  | str s=>simp only [conv,sij] at h;subst h;rfl
  | raw v=>simp only [conv,sij] at h;subst h;rfl
  | und=>simp only [conv,sij] at h;subst h;rfl
  | isl rows=>simp only [conv,sij] at h;subst h;rfl
  | iptr rows r o=>simp only [conv,sij] at h;subst h;rfl
  | esl=>simp only [conv,sij] at h;subst h;rfl
  | nsl=>simp only [conv,sij] at h;subst h;rfl
theorem z2K (m:Ren) (s t:Nat):m.inner s≠some (some t):=by
 unfold Ren.inner
 split
 ·intro h;cases h
 ·intro h;cases h
def z1I (C C':Ctx) (m:Ren):Prop:=∀s k,C.L[s]?=some k->
 (m s=some none->k.alive=true->¬C'.own (C.φ s).blk)/\(∀t,m s=some (some t)->(k.born=true->C'.born t)/\C'.φ t=C.φ s)
theorem z1I.inner {C C':Ctx} {m:Ren} (h:z1I C C' m):z1I C C' m.inner:=fun s k j=>
 ⟨fun b ha=>(h s k j).1 (by unfold Ren.inner at b;split at b<;>first | assumption | cases b) ha,fun t d=>absurd d (z2K m s t)⟩
theorem Yg {α:Type} {c:Array α} {i:Nat} {v d:α} (h:c[i]?=some v):c.getD i d=v:=by
 rw [Array.getD_eq_getD_getElem?,h];rfl
theorem Zi {C C':Ctx} (T:C'.w=C.w) (M:Sim C) (q:∀b,C'.own b->C.own b) :
  ∀(n:Nat) (m:Ren) (x x':IV) (v:Value),z1I C C' m->conv C.L n m x=some x'->VR C x v->VR C' x' v
 | 0,m,x,x',v,hm,h,hx=>by cases h
 | n+1,m,x,x',v,hm,h,hx=>by
  have Lc:∀{cs l:List IV} {vs:List Value},zF (conv C.L n m) cs=some l->(∀(i:Nat) (x:IV),cs[i]?=some x->VR C x (vs.getD i undef))->
    ∀(i:Nat) (x:IV),l[i]?=some x->VR C' x (vs.getD i undef):=fun hl hv i y hi=>by
   obtain ⟨z,I,J⟩:=zq hl i y hi
   exact Zi T M q n m z y _ hm J (hv i z I)
  have Fz:∀{tc:Bool} {s:Nat} {sz:Nat} {k:Blk} {rows G rs:List (List IV)} (off:Nat),C.L[s]?=some k->k.alive=true->Z9 tc C s sz rows->
    (∀(i:Nat) (d:List IV),G[i]?=some d->rows[off+i]?=some d)->zF (zF (conv C.L n m.inner)) G=some rs->m s=some none->
    ∃(c:Array Value) (e:TypeId) (fr:Nat × Nat),C.w.heap[(C.φ s).blk]?=some (.cells c e fr)/\(C.φ s).sz=sz/\rs.length=G.length/\
     (∀(i:Nat) (d:List IV),rs[i]?=some d->d.length=sz/\closed.closedL d=true/\∀(j:Nat) (x:IV),d[j]?=some x->
      C'.w.cell? ⟨(C.φ s).blk,(C.φ s).base+(off+i)*sz+j,none⟩=some (c.getD ((C.φ s).base+(off+i)*sz+j) undef)/\
      VR C' x (c.getD ((C.φ s).base+(off+i)*sz+j) undef))/\(C.φ s).blk<C'.w.heap.size/\¬C'.own (C.φ s).blk:=by
   intro tc s sz k rows G rs off hs au az ag A S
   obtain ⟨I,c,e,fr,J,_,h3,B⟩:=az
   refine ⟨c,e,fr,J,I,zu A,fun i d hi=>?_,by rw [T];exact (Array.getElem?_eq_some_iff.1 J).1,(hm s _ hs).1 S au⟩
   obtain ⟨ae,Z,V⟩:=zq A i d hi
   obtain ⟨h7,h8⟩:=B _ ae (ag i ae Z)
   refine ⟨(zu V).trans h7,Zh.2 fun j y D=>?_,fun j y D=>?_⟩
   ·obtain ⟨z,_,hz⟩:=zq V j y D
    exact ww n _ z y (z2K m) hz
   ·obtain ⟨z,ak,hz⟩:=zq V j y D
    obtain ⟨u,h9,ax⟩:=h8 j z ak
    rw [Yg h9]
    refine ⟨?_,Zi T M q n _ z y u hm.inner hz ax⟩
    rw [T]
    simp only [World.cell?,J]
    simpa using h9
  cases x with
  | ptr s r o=>
   cases hx with
   | ptr _ _ _ hs=>
   simp only [conv] at h
   split at h
   ·rename_i t ht
    simp only [sij] at h;subst h
    obtain ⟨ks,Q,O⟩:=hs
    obtain ⟨I,J⟩:=(hm s _ Q).2 t ht
    replace I:=I O
    rw [<-J];exact .ptr t r o I
   ·rename_i S
    split at h
    ·rename_i sz rows U
     rw [oms] at h;obtain ⟨rs,A,rfl⟩:=h
     obtain ⟨c,e,fr,J,hsz,_,B,Z,V⟩:=Fz 0 U rfl (M _ _ U) (fun i d hi=>by simpa using hi) A S
     rw [hsz]
     refine .iptr rs r o _ _ sz (fun i j=>c.getD ((C.φ s).base+(0+i)*sz+j) undef) (fun i d hi=>(B i d hi).1) (fun i d hi=>(B i d hi).2.1) Z V ?_ ?_
     ·intro i d hi j x D;simpa using ((B i d hi).2.2 j x D).1
     ·intro i d hi j x D;exact ((B i d hi).2.2 j x D).2
    ·rename_i ty sz rows U
     rw [oms] at h;obtain ⟨rs,A,rfl⟩:=h
     obtain ⟨c,e,fr,J,hsz,_,B,Z,V⟩:=Fz 0 U rfl (M _ _ U).1 (fun i d hi=>by simpa using hi) A S
     rw [hsz]
     refine .iptr rs r o _ _ sz (fun i j=>c.getD ((C.φ s).base+(0+i)*sz+j) undef) (fun i d hi=>(B i d hi).1) (fun i d hi=>(B i d hi).2.1) Z V ?_ ?_
     ·intro i d hi j x D;simpa using ((B i d hi).2.2 j x D).1
     ·intro i d hi j x D;exact ((B i d hi).2.2 j x D).2
    ·cases h
   ·cases h
  | sl s off len cap=>
   cases hx with
   | sl _ _ _ _ a cap' hs hl hc ha ai=>
   simp only [conv] at h
   split at h
   ·rename_i t ht
    simp only [sij] at h;subst h
    obtain ⟨ks,Q,O⟩:=hs
    obtain ⟨I,J⟩:=(hm s _ Q).2 t ht
    replace I:=I O
    exact .sl t off len cap a cap' I hl hc (by rw [J,T];exact ha) ai
   ·rename_i S
    split at h
    ·rename_i sz rows U
     split at h
     ·rename_i X
      rw [oms] at h;obtain ⟨rs,A,rfl⟩:=h
      obtain ⟨c,e,fr,J,hsz,h3,B,Z,V⟩:=Fz off U rfl (M _ _ U) (fun i d hi=>by
       rw [List.getElem?_take] at hi
       split at hi
       ·rw [List.getElem?_drop] at hi;exact hi
       ·cases hi) A S
      have Y:rs.length=len:=by rw [h3,List.length_take,List.length_drop];omega
      subst Y
      refine .isl rs a cap' sz (fun i j=>c.getD ((C.φ s).base+(off+i)*sz+j) undef) od (fun i d hi=>(B i d hi).1) (fun i d hi=>(B i d hi).2.1) ?_ ?_
      ·rcases ha with h0 | ⟨ha,_⟩
       ·left;exact List.eq_nil_of_length_eq_zero od
       ·refine .inr ⟨_,_,ha,Z,V,fun i d hi j x D=>?_⟩
        have:=((B i d hi).2.2 j x D).1
        rw [hsz]
        rw [show (C.φ s).base+off*sz+i*sz+j=(C.φ s).base+(off+i)*sz+j by rw [Nat.add_mul];omega]
        exact this
      ·intro i d hi j x D;exact ((B i d hi).2.2 j x D).2
     ·cases h
    ·rename_i ty sz rows U
     split at h
     ·rename_i X
      rw [oms] at h;obtain ⟨rs,A,rfl⟩:=h
      obtain ⟨c,e,fr,J,hsz,h3,B,Z,V⟩:=Fz off U rfl (M _ _ U).1 (fun i d hi=>by
       rw [List.getElem?_take] at hi
       split at hi
       ·rw [List.getElem?_drop] at hi;exact hi
       ·cases hi) A S
      have Y:rs.length=len:=by rw [h3,List.length_take,List.length_drop];omega
      subst Y
      refine .isl rs a cap' sz (fun i j=>c.getD ((C.φ s).base+(off+i)*sz+j) undef) od (fun i d hi=>(B i d hi).1) (fun i d hi=>(B i d hi).2.1) ?_ ?_
      ·rcases ha with h0 | ⟨ha,_⟩
       ·left;exact List.eq_nil_of_length_eq_zero od
       ·refine .inr ⟨_,_,ha,Z,V,fun i d hi j x D=>?_⟩
        have:=((B i d hi).2.2 j x D).1
        rw [hsz]
        rw [show (C.φ s).base+off*sz+i*sz+j=(C.φ s).base+(off+i)*sz+j by rw [Nat.add_mul];omega]
        exact this
      ·intro i d hi j x D;exact ((B i d hi).2.2 j x D).2
     ·cases h
    ·cases h
   ·cases h
  | mp s=>
   cases hx with
   | mp _ hs=>
   simp only [conv] at h
   split at h
   ·rename_i t ht
    simp only [sij] at h;subst h
    obtain ⟨ks,Q,O⟩:=hs
    obtain ⟨I,J⟩:=(hm s _ Q).2 t ht
    replace I:=I O
    rw [<-J];exact .mp t I
   ·cases h
  | yld s=>
   cases hx with
   | yld _ hs=>
   simp only [conv] at h
   split at h
   ·rename_i t ht
    simp only [sij] at h;subst h
    obtain ⟨ks,Q,O⟩:=hs
    obtain ⟨I,J⟩:=(hm s _ Q).2 t ht
    replace I:=I O
    rw [<-J];exact .yld t I
   ·cases h
  | agg cs=>simp only [conv,oms] at h;obtain ⟨l,hl,rfl⟩:=h;cases hx with | agg _ vs X hv=>exact .agg l vs ((zu hl).trans X) (Lc hl hv)
  | tup cs=>simp only [conv,oms] at h;obtain ⟨l,hl,rfl⟩:=h;cases hx with | tup _ vs X hv=>exact .tup l vs ((zu hl).trans X) (Lc hl hv)
  | fn f a b=>
   simp only [conv] at h
   split at h
   ·rename_i a' b' af ah
    simp only [sij] at h;subst h
    cases hx with
    | fn _ _ _ va vb ha hb ay aj=>exact .fn f a' b' va vb ((zu af).trans ha) ((zu ah).trans hb) (Lc af ay) (Lc ah aj)
   ·cases h
  | iface t y=>simp only [conv,oms] at h;obtain ⟨z,hz,rfl⟩:=h;cases hx with | iface _ _ u hu=>exact .iface t z u (Zi T M q n m y z u hm hz hu)
  | bool b=>simp only [conv,sij] at h;subst h;exact hx.weaken T q rfl
  | int k i=>simp only [conv,sij] at h;subst h;exact hx.weaken T q rfl
  | str s=>simp only [conv,sij] at h;subst h;exact hx.weaken T q rfl
  | raw v=>simp only [conv,sij] at h;subst h;exact hx.weaken T q rfl
  | und=>simp only [conv,sij] at h;subst h;exact hx.weaken T q rfl
  | isl rows=>simp only [conv,sij] at h;subst h;exact hx.weaken T q rfl
  | iptr rows r o=>simp only [conv,sij] at h;subst h;exact hx.weaken T q rfl
  | esl=>
   simp only [conv,sij] at h;subst h
   cases hx with
   | esl a=>exact .isl [] a 0 0 (fun _ _=>undef) (Nat.le_refl _) (fun i d hi=>by simp at hi) (fun i d hi=>by simp at hi) (.inl rfl) (fun i d hi=>by simp at hi)
  | nsl=>
   simp only [conv,sij] at h;subst h
   cases hx with
   | nsl=>exact .isl [] none 0 0 (fun _ _=>undef) (Nat.le_refl _) (fun i d hi=>by simp at hi) (fun i d hi=>by simp at hi) (.inl rfl) (fun i d hi=>by simp at hi)
theorem Vk {C C':Ctx} (T:C'.w=C.w) :
  ∀(n:Nat) (m:Ren) (x O:IV) (v:Value),(∀s,C.born s->∃t,m s=some (some t)/\C'.born t/\C'.φ t=C.φ s)->yg x=true->
   conv C.L n m x=some O->VR C x v->VR C' O v
 | 0,m,x,O,v,hm,j,h,hx=>by cases h
 | n+1,m,x,O,v,hm,j,h,hx=>by
  have Lc:∀{cs l:List IV} {vs:List Value},yg.noTreeL cs=true->zF (conv C.L n m) cs=some l->(∀(i:Nat) (x:IV),cs[i]?=some x->VR C x (vs.getD i undef))->
    ∀(i:Nat) (x:IV),l[i]?=some x->VR C' x (vs.getD i undef):=fun j B G i y hi=>by
   obtain ⟨z,q,A⟩:=zq B i y hi
   exact Vk T n m z y _ hm (yF.1 j i z q) A (G i z q)
  cases x with
  | ptr s r o=>
   cases hx with
   | ptr _ _ _ hs=>
   obtain ⟨t,D,q,A⟩:=hm s hs
   simp only [conv,D,sij] at h;subst h
   rw [<-A];exact .ptr t r o q
  | sl s off len cap=>
   cases hx with
   | sl _ _ _ _ a cap' hs B hc ha V=>
   obtain ⟨t,D,q,A⟩:=hm s hs
   simp only [conv,D,sij] at h;subst h
   exact .sl t off len cap a cap' q B hc (by rw [A,T];exact ha) V
  | mp s=>
   cases hx with
   | mp _ hs=>
   obtain ⟨t,D,q,A⟩:=hm s hs
   simp only [conv,D,sij] at h;subst h
   rw [<-A];exact .mp t q
  | yld s=>
   cases hx with
   | yld _ hs=>
   obtain ⟨t,D,q,A⟩:=hm s hs
   simp only [conv,D,sij] at h;subst h
   rw [<-A];exact .yld t q
  | agg cs=>simp only [conv,oms] at h;obtain ⟨l,B,rfl⟩:=h;cases hx with | agg _ vs hle G=>exact .agg l vs ((zu B).trans hle) (Lc j B G)
  | tup cs=>simp only [conv,oms] at h;obtain ⟨l,B,rfl⟩:=h;cases hx with | tup _ vs hle G=>exact .tup l vs ((zu B).trans hle) (Lc j B G)
  | fn f a b=>
   simp only [conv] at h
   simp only [yg,Bool.and_eq_true] at j
   split at h
   ·rename_i a' b' M J
    simp only [sij] at h;subst h
    cases hx with
    | fn _ _ _ Y vb ha Z U Q=>exact .fn f a' b' Y vb ((zu M).trans ha) ((zu J).trans Z) (Lc j.1 M U) (Lc j.2 J Q)
   ·cases h
  | iface t y=>simp only [conv,oms] at h;obtain ⟨z,X,rfl⟩:=h;cases hx with | iface _ _ u hu=>exact .iface t z u (Vk T n m y z u hm j X hu)
  | bool b=>simp only [conv,sij] at h;subst h;cases hx;exact .bool b
  | int k i=>simp only [conv,sij] at h;subst h;cases hx;exact .int k i
  | str s=>simp only [conv,sij] at h;subst h;cases hx;exact .str s
  | raw v=>simp only [conv,sij] at h;subst h;cases hx with | raw _ hr=>exact .raw _ hr
  | und=>simp only [conv,sij] at h;subst h;cases hx;exact .und
  | isl rows=>
   simp only [yg,List.isEmpty_iff] at j
   subst j
   simp only [conv,sij] at h;subst h
   cases hx with
   | isl _ a cap' sz vals I hsz S ha G=>exact .isl [] a cap' sz vals I hsz S (.inl rfl) (fun i d hi=>by simp at hi)
  | iptr rows r o=>cases j
  | esl=>
   simp only [conv,sij] at h;subst h
   cases hx with
   | esl a=>exact .isl [] a 0 0 (fun _ _=>undef) (Nat.le_refl _) (fun i d hi=>by simp at hi) (fun i d hi=>by simp at hi) (.inl rfl) (fun i d hi=>by simp at hi)
  | nsl=>
   simp only [conv,sij] at h;subst h
   cases hx with
   | nsl=>exact .isl [] none 0 0 (fun _ _=>undef) (Nat.le_refl _) (fun i d hi=>by simp at hi) (fun i d hi=>by simp at hi) (.inl rfl) (fun i d hi=>by simp at hi)
def shiftφ (C:Ctx) (φ1:Nat->Loc):Nat->Loc:=fun s=>if s<C.L.length then C.φ s else φ1 (s - C.L.length)
theorem shiftφ_lt {C:Ctx} {φ1:Nat->Loc} {s:Nat} (h:s<C.L.length):shiftφ C φ1 s=C.φ s:=by simp only [shiftφ,h,if_true]
theorem shiftφ_ge {C:Ctx} {φ1:Nat->Loc} {t:Nat}:shiftφ C φ1 (C.L.length+t)=φ1 t:=by
 have h:¬C.L.length+t<C.L.length:=by omega
 simp only [shiftφ,h,if_false,Nat.add_sub_cancel_left]
theorem zD {L:List Blk} {n:Nat} {m:Ren} {k b:Blk} (h:ZT L n m k=some b):b.alive=k.alive:=by
 cases k with
 | cells sz rows=>simp only [ZT,oms] at h;obtain ⟨l,_,rfl⟩:=h;rfl
 | siter t p=>simp only [ZT,sij] at h;subst h;rfl
 | tcells ty sz rows=>simp only [ZT,oms] at h;obtain ⟨l,_,rfl⟩:=h;rfl
 | map d c=>cases h
 | mit m=>cases h
 | lp r l=>simp only [ZT,oms] at h;obtain ⟨l,_,rfl⟩:=h;rfl
 | dead=>simp only [ZT,sij] at h;subst h;rfl
 | unborn=>simp only [ZT,sij] at h;subst h;rfl
theorem ZO {L:List Blk} {n:Nat} {m:Ren} {k b:Blk} (h:ZT L n m k=some b):b.born=k.born:=by
 cases k with
 | cells sz rows=>simp only [ZT,oms] at h;obtain ⟨l,_,rfl⟩:=h;rfl
 | siter t p=>simp only [ZT,sij] at h;subst h;rfl
 | tcells ty sz rows=>simp only [ZT,oms] at h;obtain ⟨l,_,rfl⟩:=h;rfl
 | map d c=>cases h
 | mit m=>cases h
 | lp r l=>simp only [ZT,oms] at h;obtain ⟨l,_,rfl⟩:=h;rfl
 | dead=>simp only [ZT,sij] at h;subst h;rfl
 | unborn=>simp only [ZT,sij] at h;subst h;rfl
def zft (k:Blk) (x:IV):Prop:=(∃sz rows,(k=.cells sz rows\/∃ty,k=.tcells ty sz rows)/\∃(i j:Nat) (row:List IV),rows[i]?=some row/\row[j]?=some x)\/∃(r:Loop) (l:List IV) (n:Nat),k=.lp r l/\l[n]?=some x
theorem Jr {C C':Ctx} {n:Nat} {m:Ren} {s s' sz:Nat} {rows rs:List (List IV)} (U:C'.w=C.w) (d:C'.φ s'=C.φ s)
  (hc:∀(x I:IV) (v:Value) (i j:Nat) (b:List IV),rows[i]?=some b->b[j]?=some x->conv C.L n m x=some I->VR C x v->VR C' I v)
  (l:zF (zF (conv C.L n m)) rows=some rs) {G:Bool} (Z:Z9 G C s sz rows):Z9 G C' s' sz rs:=by
 obtain ⟨Y,c,e,fr,S,q,V,O⟩:=Z
 refine ⟨by rw [d];exact Y,c,e,fr,by rw [d,U];exact S,q,by rw [d,zu l];exact V,fun i b hi=>?_⟩
 obtain ⟨h,M,D⟩:=zq l i b hi
 obtain ⟨T,Q⟩:=O i h M
 refine ⟨(zu D).trans T,fun j y X=>?_⟩
 obtain ⟨z,J,A⟩:=zq D j y X
 obtain ⟨u,B,r⟩:=Q j z J
 exact ⟨u,by rw [d];exact B,hc z y u i j h M J A r⟩
theorem Vs {C C':Ctx} {n:Nat} {m:Ren} {s s':Nat} {k S:Blk} (I:C'.w=C.w) (b:C'.φ s'=C.φ s)
  (hc:∀x D v,zft k x->conv C.L n m x=some D->VR C x v->VR C' D v)
  (h:ZT C.L n m k=some S) (B:Zp C s k):Zp C' s' S:=by
 cases k with
 | cells sz rows=>
  simp only [ZT,oms] at h;obtain ⟨rs,A,rfl⟩:=h
  exact Jr I b (fun x D v i j d O M=>hc x D v (.inl ⟨sz,rows,.inl rfl,i,j,d,O,M⟩)) A B
 | tcells ty sz rows=>
  simp only [ZT,oms] at h;obtain ⟨rs,A,rfl⟩:=h
  refine ⟨Jr I b (fun x D v i j d O M=>hc x D v (.inl ⟨sz,rows,.inr ⟨ty,rfl⟩,i,j,d,O,M⟩)) A B.1,?_⟩
  obtain ⟨_,V,c,fr,T⟩:=B
  exact ⟨by rw [b];exact V,c,fr,by rw [b,I];exact T⟩
 | siter t p=>simp only [ZT,sij] at h;subst h;exact ⟨by rw [b];exact B.1,by rw [b,I];exact B.2⟩
 | map X c=>cases h
 | mit m=>cases h
 | lp r l=>
  simp only [ZT,oms] at h;obtain ⟨U,G,rfl⟩:=h
  refine ⟨by rw [b,I];exact B.1,fun i=>?_⟩
  have q:=B.2 i
  rw [List.getD_eq_getElem?_getD] at q ⊢
  cases hy:U[i]? with
  | none=>
   have:l[i]?=none:=by rw [List.getElem?_eq_none_iff] at hy ⊢;rw [<-zu G];exact hy
   rw [this] at q
   simp only [Option.getD_none] at q ⊢
   generalize r.tmps.getD i undef=u at q ⊢
   cases q;exact .und
  | some y=>
   obtain ⟨x,Q,J⟩:=zq G i y hy
   rw [Q] at q
   exact hc x y _ (.inr ⟨r,l,i,rfl,Q⟩) J q
 | dead=>simp only [ZT,sij] at h;subst h;trivial
 | unborn=>simp only [ZT,sij] at h;subst h;trivial
theorem VO {E:Env} {C:Ctx} {f:FuncId} {args:List IV} {vs:List Value} {K:IV->List Blk->Prop} (wf:Wf E.g0 C) (J:Sim C) (hG:E.G C.w)
  (hl:args.length=vs.length) (ai:∀(i:Nat) (x:IV),args[i]?=some x->VR C x (vs.getD i undef)) (h:z8I E f args C.L K) :
  vY E.P f/\Calls E.P f vs.toArray C.w fun e w'=>∃v,e=.returned v/\Post E C K v w':=by
 obtain ⟨b,args',V,bg⟩:=h
 obtain ⟨X0,az,aj⟩:∃X0:Nat->Prop,(b=true->X0=C.X)/\(b=false->X0=C.own):=by
  cases b
  ·exact ⟨C.own,by simp,fun _=>rfl⟩
  ·exact ⟨C.X,fun _=>rfl,by simp⟩
 have ay:∀x,X0 x->C.own x:=fun x m=>by
  cases b
  ·rw [aj rfl] at m;exact m
  ·rw [az rfl] at m;exact .inl m
 have d:∀x,¬(⟨C.w,C.φ,[],X0⟩:Ctx).mine x:=fun x=>by
  rintro ⟨s,k,U,_⟩;simp at U
 have bz:Wf E.g0 ⟨C.w,C.φ,[],X0⟩:=
  ⟨fun s t k l hs _ _ _ _=>by simp at hs,fun x h=>absurd h (d x),fun x _=>d x,
   fun x m=>(ay x m).elim (wf.exlo x) (fun I=>ZF J I),wf.g⟩
 have Y:∀(i:Nat) (x:IV),args'[i]?=some x->VR ⟨C.w,C.φ,[],X0⟩ x (vs.getD i undef):=fun i y hi=>by
  obtain ⟨x,B,A⟩:=zq V i y hi
  refine Zi (C:=C) (C':=⟨C.w,C.φ,[],X0⟩) rfl J (fun x m=>m.elim (ay x) (fun h=>absurd h (d x))) fuel _ x y _ ?_ A (ai i x B)
  intro s k U
  cases b
  ·refine ⟨fun I=>?_,fun t I=>?_⟩
   ·simp [zt] at I
   ·simp [zt] at I
  ·refine ⟨fun _ ha au=>?_,fun t I=>?_⟩
   ·rcases au with m | m
    ·rw [az rfl] at m
     exact wf.apart _ m ⟨s,k,U,ha,rfl⟩
    ·exact d _ m
   ·simp [zW] at I
 refine ⟨bg.1,(bg.2 C.w C.φ _ vs bz (fun s k U=>by simp at U) hG ((zu V).trans hl) Y).mono ?_⟩
 rintro e w' ⟨r,L1,φ1,v,⟨ak,r',L1',bu,Q,hK⟩,rfl,bi,af,ext,hv⟩
 refine ⟨v,rfl,r',C.L++L1',shiftφ C φ1,hK,?_⟩
 have bn:=zu Q
 have q:∀x,(⟨w',φ1,L1,X0⟩:Ctx).mine x->C.w.heap.size<=x:=fun x m=>
  (ext.sub x m).elim (fun h=>absurd h (d x)) id
 have O:∀s k,(C.L++L1')[s]?=some k->(s<C.L.length/\C.L[s]?=some k)\/(∃t k0,s=C.L.length+t/\L1[t]?=some k0/\ZT L1 fuel (yx C.L.length) k0=some k):=fun s k hs=>by
  rcases Nat.lt_or_ge s C.L.length with B | B
  ·rw [List.getElem?_append_left B] at hs;exact .inl ⟨B,hs⟩
  ·rw [List.getElem?_append_right B] at hs
   obtain ⟨k0,A,S⟩:=zq Q _ k hs
   exact .inr ⟨s - C.L.length,k0,od,A,S⟩
 have D:∀x,(⟨w',shiftφ C φ1,C.L++L1',C.X⟩:Ctx).mine x->C.mine x\/(⟨w',φ1,L1,X0⟩:Ctx).mine x:=by
  rintro x ⟨s,k,U,ha,rfl⟩
  rcases O s k U with ⟨B,A⟩ | ⟨t,k0,rfl,A,S⟩
  ·left;exact ⟨s,k,A,ha,congrArg Loc.blk (shiftφ_lt B).symm⟩
  ·right;exact ⟨t,k0,A,by rw [<-zD S];exact ha,congrArg Loc.blk (shiftφ_ge (C:=C) (φ1:=φ1) (t:=t)).symm⟩
 have Z:Ext C ⟨w',shiftφ C φ1,C.L++L1',C.X⟩:=
  ⟨ext.size,fun x m I=>ext.frame x m (d x),fun x m=>(D x m).imp id (q x),fun s hs=>shiftφ_lt hs.lt,fun s hs=>by
   obtain ⟨k,B,A⟩:=hs
   exact ⟨k,(List.getElem?_append_left (zk B)).trans B,A⟩,by simp,ext.cap,rfl,ext.os,ext.tape,ext.output⟩
 have ag:b=false->∀x,(⟨w',shiftφ C φ1,C.L++L1',C.X⟩:Ctx).own x->(⟨w',φ1,L1,X0⟩:Ctx).own x:=by
  rintro rfl x (m | m)
  ·exact .inl (by rw [aj rfl];exact .inl m)
  ·rcases D x m with B | B
   ·exact .inl (by rw [aj rfl];exact .inr B)
   ·exact .inr B
 have ae:∀s,(⟨w',φ1,L1,X0⟩:Ctx).born s->∃t,yx C.L.length s=some (some t)/\(⟨w',shiftφ C φ1,C.L++L1',C.X⟩:Ctx).born t/\shiftφ C φ1 t=φ1 s:=fun s hs=>by
  obtain ⟨k,B,A⟩:=hs
  obtain ⟨k',S,h4⟩:=Zd Q s k B
  exact ⟨s+C.L.length,rfl,⟨k',by
   show (C.L++L1')[s+C.L.length]?=_
   rw [List.getElem?_append_right od,Nat.add_sub_cancel];exact S,by rw [ZO h4];exact A⟩,by rw [Nat.add_comm];exact shiftφ_ge⟩
 have bf:∀x x' u,(b=true->yg x=true)->conv L1 fuel (yx C.L.length) x=some x'->VR ⟨w',φ1,L1,X0⟩ x u->
   VR ⟨w',shiftφ C φ1,C.L++L1',C.X⟩ x' u:=fun x x' u m hc hu=>by
  cases b
  ·refine Zi (C:=⟨w',φ1,L1,X0⟩) (C':=⟨w',shiftφ C φ1,C.L++L1',C.X⟩) rfl af (ag rfl) fuel _ x x' u ?_ hc hu
   intro s k U
   refine ⟨fun I=>by simp [yx] at I,fun t I=>⟨fun hb=>?_,?_⟩⟩
   ·obtain ⟨t',B,A,S⟩:=ae s ⟨k,U,hb⟩
    rw [B] at I
    obtain rfl:t'=t:=by simpa using I
    exact A
   ·have B:s+C.L.length=t:=by simpa [yx] using I
    subst B
    rw [Nat.add_comm];exact shiftφ_ge
  ·exact Vk (C:=⟨w',φ1,L1,X0⟩) (C':=⟨w',shiftφ C φ1,C.L++L1',C.X⟩) rfl fuel _ x x' u ae (m rfl) hc hu
 refine ⟨⟨?_,?_,?_,?_,?_⟩,?_,Z,bf r r' v (fun hb=>(ak hb).1) bu hv⟩
 ·intro s t ks kt hs ht as at_ M
  rcases O s ks hs with ⟨B,A⟩ | ⟨s0,k0,rfl,A,S⟩<;>rcases O t kt ht with ⟨h4,h5⟩ | ⟨t0,l0,rfl,h5,h6⟩
  ·simp only [shiftφ_lt B,shiftφ_lt h4] at M
   exact wf.inj s t ks kt A h5 as at_ M
  ·have T:=ZF J ⟨s,ks,A,as,rfl⟩
   have ah:=q _ ⟨t0,l0,h5,by rw [<-zD h6];exact at_,rfl⟩
   simp only [shiftφ_lt B,shiftφ_ge] at M
   rw [M] at T;exact absurd T (Nat.not_lt.2 ah)
  ·have T:=ZF J ⟨t,kt,h5,at_,rfl⟩
   have ah:=q _ ⟨s0,k0,A,by rw [<-zD S];exact as,rfl⟩
   simp only [shiftφ_lt h4,shiftφ_ge] at M
   rw [<-M] at T;exact absurd T (Nat.not_lt.2 ah)
  ·have:=bi.inj s0 t0 k0 l0 A h5 (by rw [<-zD S];exact as) (by rw [<-zD h6];exact at_) (by simpa only [shiftφ_ge] using M)
   omega
 ·exact fun x m=>(D x m).elim (wf.lo x) (fun h=>Nat.le_trans wf.g (q x h))
 ·exact fun x m I=>(D x I).elim (wf.apart x m) (fun h=>by have B:=wf.exlo x m;have A:=q x h;omega)
 ·exact fun x m=>Nat.lt_of_lt_of_le (wf.exlo x m) ext.size
 ·exact Nat.le_trans wf.g ext.size
 ·intro s k U
  rcases O s k U with ⟨B,A⟩ | ⟨t,k0,rfl,A,S⟩
  ·have h4:=J s k A
   by_cases ha:k.alive=true
   ·exact h4.mono Z A (ext.frame _ (ZF J ⟨s,k,A,ha,rfl⟩) (d _))
   ·cases k<;>first | trivial | (exfalso;exact ha rfl)
  ·refine Vs (C:=⟨w',φ1,L1,X0⟩) (s:=t) rfl shiftφ_ge ?_ S (af t k0 A)
   intro x x' u m hc hu
   refine bf x x' u (fun hb=>?_) hc hu
   have h5:=(ak hb).2
   rw [List.all_eq_true] at h5
   have h6:=h5 k0 (List.mem_of_getElem? A)
   rcases m with ⟨sz,rows,rfl | ⟨ty,rfl⟩,i,j,ax,h7,h8⟩ | ⟨_,_,_,rfl,_⟩
   ·simp only [vG,List.all_eq_true] at h6
    exact yF.1 (h6 ax (List.mem_of_getElem? h7)) j x h8
   ·simp only [vG,List.all_eq_true] at h6
    exact yF.1 (h6 ax (List.mem_of_getElem? h7)) j x h8
   ·cases h6
theorem Vm:∀(b:List Nat) (j L:List Blk) (s:Nat),b.Nodup->b.length<=j.length->(∀t∈b,t<L.length)->
  (z7c b j L)[s]?=match pos b s 0 with | some i=>j[i]? | none=>L[s]?
 | [],_,_,_,_,_,_=>by simp [z7c,pos]
 | t::b,[],_,_,_,h,_=>by simp at h
 | t::b,k::j,L,s,hnd,hl,hlt=>by
  obtain ⟨w,r⟩:=List.nodup_cons.1 hnd
  have q:∀(l:List Nat) (i:Nat),pos l s (i+1)=(pos l s i).map (·+1):=by
   intro l
   induction l with
   | nil=>intro i;rfl
   | cons a l A=>intro i;simp only [pos];split<;>simp [A]
  rw [z7c,Vm b j (L.set t k) s r (by simpa using hl) (fun u B=>by rw [lls];exact hlt u (List.mem_cons_of_mem _ B))]
  simp only [pos]
  by_cases hs:s=t
  ·subst hs
   have m:pos b s 0=none:=by
    cases m:pos b s 0 with
    | none=>rfl
    | some i=>
     obtain ⟨d,_,hd⟩:=Yi m
     exact absurd (List.mem_of_getElem? hd) w
   rw [if_pos rfl,m]
   simp only
   rw [List.getElem?_set_self (hlt s List.mem_cons_self)];rfl
  ·rw [if_neg hs,q]
   cases m:pos b s 0 with
   | none=>simp only [Option.map_none];rw [List.getElem?_set_ne (Ne.symm hs)]
   | some i=>simp
theorem Vh:∀(b:List Nat) (d L:List Blk),(z7c b d L).length=L.length
 | [],d,L=>by cases d<;>rfl
 | t::b,[],L=>rfl
 | t::b,k::d,L=>by rw [z7c,Vh];simp
theorem wQ:∀(b:List Nat) (L:List Blk) (s:Nat),(z0a b L)[s]?=if s∈b/\s<L.length then some .dead else L[s]?
 | [],L,s=>by simp [z0a]
 | t::b,L,s=>by
  rw [z0a,wQ b]
  simp only [lls,List.mem_cons,List.getElem?_set]
  by_cases h1:s∈b
  ·by_cases h2:s<L.length
   ·simp [h1,h2]
   ·simp only [h1,h2,and_false,if_false]
    by_cases h3:t=s
    ·subst h3;simp [h2]
    ·rw [if_neg h3]
  ·by_cases h3:t=s
   ·subst h3
    by_cases h2:t<L.length
    ·simp [h1,h2]
    ·simp [h1,h2]
   ·simp [h1,h3,Ne.symm h3]
theorem z0T:∀(b:List Nat) (L:List Blk),(z0a b L).length=L.length
 | [],_=>rfl
 | t::b,L=>by rw [z0a,z0T];simp
theorem z4C {l:List Nat} {s:Nat} (h:s∈l):∃i,pos l s 0=some i/\l[i]?=some s:=by
 cases hp:pos l s 0 with
 | none=>exact absurd h (Vp hp)
 | some i=>obtain ⟨d,j,b⟩:=Yi hp;exact ⟨i,rfl,by simpa [j] using b⟩
theorem z2g {l:List Nat} (m:l.Nodup) {s i:Nat} (h:l[i]?=some s):pos l s 0=some i:=by
 obtain ⟨j,u,q⟩:=z4C (List.mem_of_getElem? h)
 have hi:=zk h
 have r:=zk q
 rw [List.getElem?_eq_getElem hi] at h
 rw [List.getElem?_eq_getElem r] at q
 have b:l[j]=l[i]:=(Option.some.inj q).trans (Option.some.inj h).symm
 have:j=i:=by
  rcases Nat.lt_trichotomy j i with d | d | d
  ·exact absurd b (List.pairwise_iff_getElem.1 m j i r hi d)
  ·exact d
  ·exact absurd b.symm (List.pairwise_iff_getElem.1 m i j hi r d)
 rw [u,this]
def backφ (C:Ctx) (k:Nat) (φ1:Nat->Loc):Nat->Loc:=fun s=>if s<C.L.length then C.φ s else φ1 (s - C.L.length+k)
theorem z0J {E:Env} {C:Ctx} {f:FuncId} {args:List IV} {vs:List Value} {K:IV->List Blk->Prop} (wf:Wf E.g0 C) (ae:Sim C) (hG:E.G C.w)
  (hl:args.length=vs.length) (dw:∀(i:Nat) (x:IV),args[i]?=some x->VR C x (vs.getD i undef)) (h:z97 E f args C.L K) :
  vY E.P f/\Calls E.P f vs.toArray C.w fun e w'=>∃v,(e=.returned v/\Post E C K v w')\/(e=.panicked [{ v,recovered:=false }]/\Post E C E.pan v w'):=by
 obtain ⟨m,dl,b,args',L0,ay,J,mr,bf,az,ku⟩:=h
 have mf:L0.length=m.length:=by rw [zu az];simp
 have Z:∀s∈m,s<C.L.length:=fun s hs=>by obtain ⟨⟨k,A,_⟩,_⟩:=J s hs;exact zk A
 let φ0:Nat->Loc:=fun i=>C.φ (m.getD i 0)
 let bs:Nat->Prop:=fun x=>∃s∈m,(C.φ s).blk=x
 let bd:Nat->Prop:=fun x=>∃s∈dl,∃k,C.L[s]?=some k/\k.alive=true/\(C.φ s).blk=x
 let X0:Nat->Prop:=fun x=>C.X x\/(b=false/\C.mine x/\¬bs x/\¬bd x)
 let C0:Ctx:=⟨C.w,φ0,L0,X0⟩
 have au:∀i k,L0[i]?=some k->∃s k0,m[i]?=some s/\C.L[s]?=some k0/\k0.alive=true/\ZT C.L fuel (jM m dl b) k0=some k/\φ0 i=C.φ s:=fun i k hi=>by
  obtain ⟨k0,A,B⟩:=zq az i k hi
  rw [List.getElem?_map,oms] at A
  obtain ⟨s,hs,rfl⟩:=A
  obtain ⟨⟨k1,O,M⟩,_⟩:=J s (List.mem_of_getElem? hs)
  have e1:C.L.getD s .dead=k1:=by rw [List.getD_eq_getElem?_getD,O];rfl
  rw [e1] at B
  exact ⟨s,k1,hs,O,M,B,by show C.φ (m.getD i 0)=_;rw [List.getD_eq_getElem?_getD,hs];rfl⟩
 have I:∀x,C0.mine x->C.mine x/\bs x:=by
  rintro x ⟨i,k,hk,ha,rfl⟩
  obtain ⟨s,k0,A,B,O,M,U⟩:=au i k hk
  have hb:(C0.φ i).blk=(C.φ s).blk:=congrArg Loc.blk U
  exact ⟨⟨s,k0,B,O,hb.symm⟩,s,List.mem_of_getElem? A,hb.symm⟩
 have bs_mine:∀x,bs x->C.mine x:=by
  rintro x ⟨s,hs,rfl⟩
  obtain ⟨⟨k,A,B⟩,_⟩:=J s hs
  exact ⟨s,k,A,B,rfl⟩
 have zb1:∀x,C0.own x->C.own x:=fun x D=>D.elim (fun h=>h.elim .inl (fun h=>.inr h.2.1)) (fun h=>.inr (I x h).1)
 have mi:Wf E.g0 C0:=by
  refine ⟨fun i j k l hi hj ha hb ag=>?_,fun x D=>wf.lo x (I x D).1,fun x D Q=>?_,fun x D=>?_,wf.g⟩
  ·obtain ⟨s,k0,A,B,O,M,U⟩:=au i k hi
   obtain ⟨t,l0,V,h7,h8,h9,dn⟩:=au j l hj
   have mg:s=t:=wf.inj s t k0 l0 B h7 O h8 (by rw [<-U,<-dn];exact ag)
   subst mg
   have:=(z2g ay A).symm.trans (z2g ay V)
   exact Option.some.inj this
  ·rcases D with D | ⟨_,_,D,_⟩
   ·exact wf.apart x D (I x Q).1
   ·exact D (I x Q).2
  ·rcases D with D | ⟨_,D,_⟩
   ·exact wf.exlo x D
   ·exact ZF ae D
 have cu:z1I C C0 (jM m dl b):=by
  intro s k hk
  refine ⟨fun Q ha gu=>?_,fun t Q=>?_⟩
  ·have kw:s∉m:=by
    intro hs
    obtain ⟨i,A,_⟩:=z4C hs
    unfold jM at Q
    rw [A] at Q;cases Q
   rcases gu with (D | ⟨hb,_,_,D⟩) | l7
   ·exact wf.apart _ D ⟨s,k,hk,ha,rfl⟩
   ·refine D ⟨s,?_,k,hk,ha,rfl⟩
    unfold jM at Q
    split at Q
    ·cases Q
    ·subst hb
     simp only [Bool.false_or] at Q
     split at Q
     ·rename_i hc;simpa using hc
     ·cases Q
   ·obtain ⟨_,t,ht,ag⟩:=I _ l7
    obtain ⟨⟨k1,A,B⟩,_⟩:=J t ht
    exact kw (wf.inj t s k1 k A hk B ha ag▸ht)
  ·unfold jM at Q
   split at Q
   ·rename_i i hp
    simp only [sij] at Q;subst Q
    obtain ⟨d,A,B⟩:=Yi hp
    have ik:m[i]?=some s:=by rw [A];simpa using B
    have aj:(m.map fun s=>C.L.getD s .dead)[i]?=some k:=by
     rw [List.getElem?_map,ik]
     show some (C.L.getD s .dead)=_
     rw [List.getD_eq_getElem?_getD,hk];rfl
    obtain ⟨k',O,M⟩:=Zd az i k aj
    refine ⟨fun hb=>⟨k',O,by rw [ZO M];exact hb⟩,?_⟩
    show C.φ (m.getD i 0)=_
    rw [List.getD_eq_getElem?_getD,ik];rfl
   ·split at Q<;>cases Q
 have ig:Sim C0:=fun i k hi=>by
  obtain ⟨s,k0,A,B,O,M,U⟩:=au i k hi
  exact Vs (C:=C) (C':=C0) (s:=s) (s':=i) rfl U (fun x x' u _ hc hu=>Zi (C:=C) (C':=C0) rfl ae zb1 fuel _ x x' u cu hc hu) M (ae s k0 B)
 have bn:∀(i:Nat) (x:IV),args'[i]?=some x->VR C0 x (vs.getD i undef):=fun i y hi=>by
  obtain ⟨x,A,B⟩:=zq bf i y hi
  exact Zi (C:=C) (C':=C0) rfl ae zb1 fuel _ x y _ cu B (dw i x A)
 refine ⟨ku.1,(ku.2 C.w φ0 X0 vs mi ig hG ((zu bf).trans hl) bn).mono ?_⟩
 rintro e w' ⟨r,L1,φ1,v,gp,dm,ext,hv,hR⟩
 have bu:∀K':IV->List Blk->Prop,Back m dl b C.L K' r L1->Post E C K' v w':=by
  rintro K' ⟨gq,r',L1',lu,ah,hK⟩
  let C1:Ctx:=⟨w',φ1,L1,X0⟩
  let nL:=z0a dl (z7c m L1' C.L)++L1'.drop m.length
  let C':Ctx:=⟨w',backφ C m.length φ1,nL,C.X⟩
  have eu:L1'.length=L1.length:=zu ah
  have ed:m.length<=L1'.length:=by rw [eu,<-mf];exact ext.len
  have T:∀s,s<C.L.length->C'.φ s=C.φ s:=fun s hs=>by show (if s<C.L.length then _ else _)=_;rw [if_pos hs]
  have bg:∀t,C'.φ (C.L.length+t)=φ1 (m.length+t):=fun t=>by
   show (if C.L.length+t<C.L.length then _ else _)=_
   rw [if_neg od];congr 1;omega
  have ak:∀i s,m[i]?=some s->φ1 i=C.φ s:=fun i s hs=>by
   obtain ⟨⟨k1,O,M⟩,_⟩:=J s (List.mem_of_getElem? hs)
   have aj:(m.map fun s=>C.L.getD s .dead)[i]?=some k1:=by
    rw [List.getElem?_map,hs]
    show some (C.L.getD s .dead)=_
    rw [List.getD_eq_getElem?_getD,O];rfl
   obtain ⟨k',U,V⟩:=Zd az i k1 aj
   have hb:C0.born i:=⟨k',U,by
    have h7:k'.alive=true:=by rw [zD V];exact M
    cases k'<;>first | rfl | cases h7⟩
   rw [show φ1 i=C0.φ i from ext.slot i hb]
   show C.φ (m.getD i 0)=_
   rw [List.getD_eq_getElem?_getD,hs];rfl
  have ai:(z0a dl (z7c m L1' C.L)).length=C.L.length:=by rw [z0T,Vh]
  have ax:∀s k,nL[s]?=some k->(s<C.L.length/\s∉m/\s∉dl/\C.L[s]?=some k)\/(k=.dead)\/
    (∃i k0,L1[i]?=some k0/\ZT L1 fuel (wG m C.L.length) k0=some k/\C'.φ s=φ1 i/\((s<C.L.length/\m[i]?=some s)\/(m.length<=i/\s=C.L.length+(i - m.length)))):=fun s k hs=>by
   rcases Nat.lt_or_ge s C.L.length with A | A
   ·rw [List.getElem?_append_left (by rw [ai];exact A),wQ] at hs
    split at hs
    ·exact .inr (.inl (Option.some.inj hs).symm)
    ·rename_i hd
     rw [Vh] at hd
     rw [Vm m L1' C.L s ay ed Z] at hs
     cases hp:pos m s 0 with
     | none=>
      rw [hp] at hs
      exact .inl ⟨A,Vp hp,fun h=>hd ⟨h,A⟩,hs⟩
     | some i=>
      rw [hp] at hs
      obtain ⟨d,B,O⟩:=Yi hp
      have iy:m[i]?=some s:=by rw [B];simpa using O
      obtain ⟨k0,M,U⟩:=zq ah i k hs
      exact .inr (.inr ⟨i,k0,M,U,by rw [T s A,ak i s iy],.inl ⟨A,iy⟩⟩)
   ·rw [List.getElem?_append_right (by rw [ai];exact A),ai,List.getElem?_drop] at hs
    obtain ⟨k0,M,U⟩:=zq ah _ k hs
    refine .inr (.inr ⟨_,k0,M,U,?_,.inr ⟨od,od⟩⟩)
    have e1:s=C.L.length+(s - C.L.length):=by omega
    rw [e1,bg];congr 1;omega
  have Y:∀x,C1.mine x->(C.mine x/\bs x)\/C.w.heap.size<=x:=fun x D=>(ext.sub x D).imp (I x) id
  have af:∀x,C'.mine x->(C.mine x/\¬bs x/\¬bd x)\/C1.mine x:=by
   rintro x ⟨s,k,hk,ha,rfl⟩
   rcases ax s k hk with ⟨A,B,O,M⟩ | A | ⟨i,k0,A,B,O,_⟩
   ·left
    rw [T s A]
    refine ⟨⟨s,k,M,ha,rfl⟩,?_,?_⟩
    ·rintro ⟨t,ht,ag⟩
     obtain ⟨⟨k1,U,V⟩,_⟩:=J t ht
     exact B (wf.inj t s k1 k U M V ha ag▸ht)
    ·rintro ⟨t,ht,k1,U,V,ag⟩
     exact O (wf.inj t s k1 k U M V ha ag▸ht)
   ·subst A;cases ha
   ·right;exact ⟨i,k0,A,by rw [<-zD B];exact ha,congrArg Loc.blk O.symm⟩
  have bz:Ext C C':=by
   refine ⟨ext.size,fun x D Q=>ext.frame x D (fun h=>Q (I x h).1),fun x D=>?_,fun s hs=>T s hs.lt,fun s hs=>?_,?_,ext.cap,rfl,ext.os,ext.tape,ext.output⟩
   ·rcases af x D with A | A
    ·exact .inl A.1
    ·exact (Y x A).imp And.left id
   ·have lh:=hs.lt
    obtain ⟨k,A,B⟩:=hs
    show ∃k',nL[s]?=some k'/\k'.born=true
    rw [List.getElem?_append_left (by rw [ai];exact lh),wQ,Vh]
    split
    ·exact ⟨_,rfl,rfl⟩
    ·rw [Vm m L1' C.L s ay ed Z]
     cases hp:pos m s 0 with
     | none=>exact ⟨k,A,B⟩
     | some i=>
      obtain ⟨d,O,M⟩:=Yi hp
      have gy:m[i]?=some s:=by rw [O];simpa using M
      obtain ⟨⟨k1,U,V⟩,_⟩:=J s (List.mem_of_getElem? gy)
      have aj:(m.map fun s=>C.L.getD s .dead)[i]?=some k1:=by
       rw [List.getElem?_map,gy]
       show some (C.L.getD s .dead)=_
       rw [List.getD_eq_getElem?_getD,U];rfl
      obtain ⟨k',h7,h8⟩:=Zd az i k1 aj
      obtain ⟨k2,h9,dn⟩:=ext.bo i ⟨k',h7,by
       have l9:k'.alive=true:=by rw [zD h8];exact V
       cases k'<;>first | rfl | cases l9⟩
      obtain ⟨k3,lm,kz⟩:=Zd ah i k2 h9
      exact ⟨k3,lm,by rw [ZO kz];exact dn⟩
   ·show C.L.length<=nL.length
    simp only [nL,lla,ai];omega
  have iw:b=false->∀x,C'.own x->C1.own x:=by
   rintro hb x (D | D)
   ·exact .inl (.inl D)
   ·rcases af x D with ⟨A,B,O⟩ | A
    ·exact .inl (.inr ⟨hb,A,B,O⟩)
    ·exact .inr A
  have dh:∀i,C1.born i->∃t,wG m C.L.length i=some (some t)/\C'.born t/\C'.φ t=φ1 i:=fun i hi=>by
   obtain ⟨k,A,B⟩:=hi
   obtain ⟨k',O,M⟩:=Zd ah i k A
   by_cases hik:i<m.length
   ·obtain ⟨s,hs⟩:∃s,m[i]?=some s:=⟨_,List.getElem?_eq_getElem hik⟩
    have di:=Z s (List.mem_of_getElem? hs)
    refine ⟨s,?_,⟨k',?_,by rw [ZO M];exact B⟩,by rw [T s di,ak i s hs]⟩
    ·show some (some (if i<m.length then m.getD i 0 else _))=_
     rw [if_pos hik,List.getD_eq_getElem?_getD,hs];rfl
    ·show nL[s]?=_
     rw [List.getElem?_append_left (by rw [ai];exact di),wQ,if_neg (fun h=>(J s (List.mem_of_getElem? hs)).2 h.1),Vm m L1' C.L s ay ed Z,z2g ay hs]
     exact O
   ·refine ⟨C.L.length+(i - m.length),?_,⟨k',?_,by rw [ZO M];exact B⟩,by rw [bg];congr 1;omega⟩
    ·show some (some (if i<m.length then _ else _))=_
     rw [if_neg hik]
    ·show nL[_]?=_
     rw [List.getElem?_append_right (by rw [ai];omega),ai,List.getElem?_drop]
     have e1:m.length+(C.L.length+(i - m.length) - C.L.length)=i:=by omega
     rw [e1];exact O
  have iq:∀x x' u,(b=true->yg x=true)->conv L1 fuel (wG m C.L.length) x=some x'->VR C1 x u->VR C' x' u:=fun x x' u D hc hu=>by
   cases hb:b with
   | false=>
    refine Zi (C:=C1) (C':=C') rfl dm (iw hb) fuel _ x x' u ?_ hc hu
    intro s k hk
    refine ⟨fun Q=>by simp [wG] at Q,fun t Q=>⟨fun lq=>?_,?_⟩⟩
    ·obtain ⟨t',A,B,O⟩:=dh s ⟨k,hk,lq⟩
     rw [A] at Q
     obtain rfl:t'=t:=by simpa using Q
     exact B
    ·have ht:t=if s<m.length then m.getD s 0 else C.L.length+(s - m.length):=by
      have:wG m C.L.length s=some (some (if s<m.length then m.getD s 0 else C.L.length+(s - m.length))):=rfl
      rw [this] at Q
      simpa using Q.symm
     by_cases hik:s<m.length
     ·rw [if_pos hik] at ht
      obtain ⟨q,hq⟩:∃q,m[s]?=some q:=⟨_,List.getElem?_eq_getElem hik⟩
      have:m.getD s 0=q:=by rw [List.getD_eq_getElem?_getD,hq];rfl
      rw [this] at ht;subst ht
      rw [T t (Z t (List.mem_of_getElem? hq)),<-ak s t hq]
     ·rw [if_neg hik] at ht;subst ht
      rw [bg];show φ1 _=φ1 s;congr 1;omega
   | true=>exact Vk (C:=C1) (C':=C') rfl fuel _ x x' u dh (D hb) hc hu
  refine ⟨r',nL,backφ C m.length φ1,hK,⟨?_,?_,?_,?_,?_⟩,?_,bz,iq r r' v (fun hb=>(gq hb).1) lu hv⟩
  ·intro s t ks kt hs ht as at_ ag
   have S:(C'.φ s).blk=(C'.φ t).blk:=ag
   rcases ax s ks hs with ⟨A,B,O,M⟩ | A | ⟨i,k0,A,B,O,M⟩<;>rcases ax t kt ht with ⟨g1,g2,g3,g4⟩ | g1 | ⟨j,l0,g1,g2,g3,g4⟩
   ·rw [T s A,T t g1] at S
    exact wf.inj s t ks kt M g4 as at_ S
   ·subst g1;cases at_
   ·exfalso
    rw [T s A,g3] at S
    have gm:C1.mine (φ1 j).blk:=⟨j,l0,g1,by rw [<-zD g2];exact at_,rfl⟩
    rcases Y _ gm with ⟨_,u,hu,bi⟩ | hf
    ·obtain ⟨⟨k1,U,V⟩,_⟩:=J u hu
     exact B (wf.inj u s k1 ks U M V as (bi.trans S.symm)▸hu)
    ·have:=ZF ae ⟨s,ks,M,as,rfl⟩
     rw [S] at this;omega
   ·subst A;cases as
   ·subst A;cases as
   ·subst A;cases as
   ·exfalso
    rw [T t g1,O] at S
    have gm:C1.mine (φ1 i).blk:=⟨i,k0,A,by rw [<-zD B];exact as,rfl⟩
    rcases Y _ gm with ⟨_,u,hu,bi⟩ | hf
    ·obtain ⟨⟨k1,U,V⟩,_⟩:=J u hu
     exact g2 (wf.inj u t k1 kt U g4 V at_ (bi.trans S)▸hu)
    ·have:=ZF ae ⟨t,kt,g4,at_,rfl⟩
     rw [<-S] at this;omega
   ·subst g1;cases at_
   ·rw [O,g3] at S
    have lw:=gp.inj i j k0 l0 A g1 (by rw [<-zD B];exact as) (by rw [<-zD g2];exact at_) S
    subst lw
    rcases M with ⟨U,V⟩ | ⟨U,V⟩<;>rcases g4 with ⟨g5,g6⟩ | ⟨g5,g6⟩
    ·rw [V] at g6;exact Option.some.inj g6
    ·have:=zk V;omega
    ·have:=zk g6;omega
    ·omega
  ·exact fun x D=>(af x D).elim (fun h=>wf.lo x h.1) (fun h=>gp.lo x h)
  ·intro x D Q
   rcases af x Q with A | A
   ·exact wf.apart x D A.1
   ·rcases Y x A with B | B
    ·exact wf.apart x D B.1
    ·have:=wf.exlo x D;omega
  ·exact fun x D=>Nat.lt_of_lt_of_le (wf.exlo x D) ext.size
  ·exact Nat.le_trans wf.g ext.size
  ·intro s k hk
   rcases ax s k hk with ⟨A,B,O,M⟩ | A | ⟨i,k0,A,B,O,M⟩
   ·have U:=ae s k M
    by_cases ha:k.alive=true
    ·refine U.mono bz M (ext.frame _ (ZF ae ⟨s,k,M,ha,rfl⟩) (fun Q=>?_))
     obtain ⟨_,u,hu,bi⟩:=I _ Q
     obtain ⟨⟨k1,V,h7⟩,_⟩:=J u hu
     exact B (wf.inj u s k1 k V M h7 ha bi▸hu)
    ·cases k<;>first | trivial | (exfalso;exact ha rfl)
   ·subst A;trivial
   ·refine Vs (C:=C1) (C':=C') (s:=i) (s':=s) rfl O ?_ B (dm i k0 A)
    intro x x' u D hc hu
    refine iq x x' u (fun hb=>?_) hc hu
    have U:=(gq hb).2
    rw [List.all_eq_true] at U
    have V:=U k0 (List.mem_of_getElem? A)
    rcases D with ⟨sz,rows,rfl | ⟨ty,rfl⟩,i',j,gz,h7,h8⟩ | ⟨_,_,_,rfl,_⟩
    ·simp only [vG,List.all_eq_true] at V
     exact yF.1 (V gz (List.mem_of_getElem? h7)) j x h8
    ·simp only [vG,List.all_eq_true] at V
     exact yF.1 (V gz (List.mem_of_getElem? h7)) j x h8
    ·cases V
 rcases hR with ⟨hR,he⟩ | ⟨hR,he⟩
 ·exact ⟨v,.inl ⟨he,bu K hR⟩⟩
 ·exact ⟨v,.inr ⟨he,bu E.pan hR⟩⟩
section
variable {E:Env} {C:Ctx} {a:Act} {e:Opd->IV} {o:Oper} {K:IV->List Blk->Prop}
def Does (P:Program) (o:Oper) (a:Act) (w:World) (R RP:Value->World->Prop):Prop:=
 (∃v w',(execOp a.eval o).run P w=.ok (.value v) w'/\R v w')\/(∃w',(execOp a.eval o).run P w=.ok .skip w'/\R undef w')\/
 (∃f args w',(execOp a.eval o).run P w=.ok (.enter f args) w'/\Calls P f args w' fun e w''=>∃v,(e=.returned v/\R v w'')\/(e=.panicked [{ v,recovered:=false }]/\RP v w''))\/
 (∃l fn tmps asg body w',(execOp a.eval o).run P w=.ok (.round l fn tmps asg body) w'/\∀F,FOk F->RoundIn F 0 P l fn tmps asg body w' fun e w''=>∃v,e=.returned v/\R v w'')\/
 (∃v w',(execOp a.eval o).run P w=.halt (.panic v) w'/\RP v w')
theorem JM {C:Ctx} {v:Value} {x:IV} (h:z5J v=some x):VR C x v:=by
 unfold z5J at h
 split at h
 ·cases h;exact .bool _
 ·cases h;exact .int _ _
 ·cases h;exact .str _
 ·cases h;exact .nsl
 ·split at h
  ·rename_i vs b
   cases h
   have:vs=#[]:=Array.eq_empty_of_size_eq_zero b
   subst this;exact .und
  ·cases h
 ·cases h
 ·rename_i m j q l r d
  cases h
  refine .raw _ ?_
  cases v<;>first | rfl | exact absurd rfl (d _)
def Zr (C:Ctx) (a:Act) (e:Opd->IV):Prop:=∀p q,opd p=some q->VR C (e q) (a.eval p)
theorem WY {C:Ctx} {a:Act} {ρ:Rho} (h:∀n,VR C (ρ n) (a.tmps.getD n undef)):Zr C a (Opd.ev ρ):=by
 intro p q b
 cases p with
 | tmp t=>cases b;exact h t
 | const v=>simp only [opd,oms] at b;obtain ⟨x,d,rfl⟩:=b;exact JM d
 | global g=>cases b;exact .raw _ rfl
 | func f=>cases b;exact .fn _ [] [] [] [] rfl rfl (fun i x hi=>by simp at hi) (fun i x hi=>by simp at hi)
theorem J8 {C:Ctx} {x:IV} {v:Value} (h:VR C x v) (hc:zU x=true):v.oneCell'=true:=by
 cases h with
 | raw v h=>cases v<;>first | rfl | cases hc
 | agg=>cases hc
 | tup=>cases hc
 | und=>cases hc
 | _=>rfl
abbrev Good (E:Env) (C:Ctx) (a:Act) (o:Oper) (K:IV->List Blk->Prop):Prop:=Does E.P o a C.w (Post E C K) (Post E C E.pan)
def z9j (C:Ctx) (K:IV->List Blk->Prop) (v:Value) (w':World):Prop:=w'=C.w/\∃r,VR C r v/\K r C.L
def zN (E:Env) (C:Ctx) (a:Act) (o:Oper) (K:IV->List Blk->Prop):Prop:=∃v r,(execOp a.eval o).run E.P C.w=.ok (.value v) C.w/\VR C r v/\K r C.L
theorem zZ {r:IV} {v:Value} (b:VR C r v) (h:K r C.L):z9j C K v C.w:=⟨rfl,r,b,h⟩
theorem JL (h:∃v w',(execOp a.eval o).run E.P C.w=.ok (.value v) w'/\z9j C K v w'):zN E C a o K:=by
 obtain ⟨v,w',d,rfl,r,b,j⟩:=h
 exact ⟨v,r,d,b,j⟩
theorem zh {s:Sem Value} {v:Value} {w':World} (d:execOp a.eval o=(do pure (Next.value (<-s)))) (b:s.run E.P C.w=.ok v w') (h:z9j C K v w'):zN E C a o K:=
 JL ⟨v,w',by rw [d,Sem.run_bind,b];rfl,h⟩
theorem zN.good (h:zN E C a o K) (wf:Wf E.g0 C) (b:Sim C):Good E C a o K:=by
 obtain ⟨v,r,j,d,l⟩:=h
 exact .inl ⟨v,C.w,j,Zf wf b d l⟩
theorem zT {s:Sem Value} {v:Value} {w':World} (d:execOp a.eval o=(do pure (Next.value (<-s)))) (b:s.run E.P C.w=.ok v w') (h:Post E C K v w'):Good E C a o K:=
 .inl ⟨v,w',by rw [d,Sem.run_bind,b];rfl,h⟩
theorem jB {s:Sem Unit} {w':World} (d:execOp a.eval o=(do s;pure Next.skip)) (b:s.run E.P C.w=.ok () w') (h:Post E C K undef w'):Good E C a o K:=
 .inr (.inl ⟨w',by rw [d,Sem.run_bind,b];rfl,h⟩)
theorem WF (l:Sim C) (d:Zr C a e) {x:Operand} {q:Opd} (b:o.op=.move x\/o.op=.assign x) (j:opd x=some q) (h:K (e q) C.L):zN E C a o K:=by
 refine JL ⟨a.eval x,C.w,?_,zZ (d x q j) h⟩
 rcases b with b | b<;>(unfold execOp;rw [b];rfl)
theorem z0x (u:Sim C) (b:Zr C a e) {c x y:Operand} {c' l m:Opd} (q:o.op=.pick c x y) (hc:opd c=some c') (r:opd x=some l) (A:opd y=some m)
  {t:Bool} (s:e c'=.bool t) (h:K (if t then e l else e m) C.L):zN E C a o K:=by
 have j:=b c c' hc
 rw [s] at j
 generalize d:a.eval c=cv at j
 cases j
 refine JL ⟨if t then a.eval x else a.eval y,C.w,?_,zZ ?_ h⟩
 ·unfold execOp;rw [q];simp only [d]
  cases t<;>rfl
 ·cases t
  ·exact b y m A
  ·exact b x l r
theorem zJ {P:Program} {t:TypeId} {z:List IV} (h:zeroCells P t=some z) :
  ∃i v,P.info? t=some i/\i.zero=some v/\z.length=v.cells.size/\∀(C:Ctx) (j:Nat) (x:IV),z[j]?=some x->∃u,v.cells[j]?=some u/\VR C x u:=by
 unfold zeroCells at h
 rw [obs] at h
 obtain ⟨i,hi,h⟩:=h
 rw [obs] at h
 obtain ⟨v,m,h⟩:=h
 refine ⟨i,v,hi,m,by simpa using zu h,fun C j x l=>?_⟩
 obtain ⟨u,d,b⟩:=zq h j x l
 exact ⟨u,by simpa using d,JM b⟩
theorem Z5 {P:Program} {t:TypeId} {i:TypeInfo} {v:Value} (d:P.info? t=some i) (b:i.zero=some v) (w:World):(zeroValue t).run P w=.ok v w:=by
 simp [zeroValue,typeInfo,d,b]
theorem zx {P:Program} {t:TypeId} {n:Nat} (h:zI P t=some n) (w:World):(sizeOf t).run P w=.ok n w:=by
 unfold zI at h
 rw [oms] at h
 obtain ⟨i,b,rfl⟩:=h
 simp [sizeOf,typeInfo,b]
theorem Wn {P:Program} {t:TypeId} {b:Bool} (h:wU P t=some b) (w:World):(isAgg t).run P w=.ok b w:=by
 unfold wU at h
 unfold isAgg
 have j:∀d,P.underlying t=some d->(underlying t).run P w=.ok d w:=fun d hd=>by simp [underlying,hd]
 split at h<;>rename_i hd<;>first
  | (cases h;rw [Sem.run_bind,j _ hd];rfl)
  | skip
 ·rename_i _ d m l
  cases h
  rw [Sem.run_bind,j _ hd]
  cases d<;>first | rfl | exact absurd rfl (m _) | exact absurd rfl (l _ _)
 ·cases h
theorem jd {z:List IV} {v:Value} {C:Ctx} (l:z.length=v.cells.size) (h:∀(j:Nat) (x:IV),z[j]?=some x->∃u,v.cells[j]?=some u/\VR C x u) :
  Flat C v.cells 0 z.length [z]:=by
 refine ⟨by simp [l],fun i b hi=>?_⟩
 cases i with
 | zero=>simp at hi;subst hi;exact ⟨rfl,fun j y d=>by simpa using h j y d⟩
 | succ i=>simp at hi
theorem z3S {g:Nat} (hg:Free C.L g) (wf:Wf E.g0 C) (b:Sim C) {t:TypeId} {z:List IV} (j:o.op=.alloc t) (q:zeroCells E.P t=some z)
  (h:K (.ptr g 0 0) (zy C.L g (.cells z.length [z]))):Good E C a o K:=by
 obtain ⟨i,v,m,d,r,l⟩:=zJ q
 refine zT (s:=Instr.alloc t true (.tuple #[])) (v:=.pointer (some ⟨C.w.heap.size,0,none⟩)) (w':=Zm C.w (.cells v.cells t)) (by unfold execOp;rw [j]) ?_ (YQ hg wf b (jd r (l C)) (yY hg) h)
 unfold Instr.alloc
 rw [Sem.run_bind,Z5 m d]
 rfl
theorem z7X {g:Nat} (hg:Free C.L g) (wf:Wf E.g0 C) (b:Sim C) (d:Zr C a e) {t:TypeId} {x:Operand} {q:Opd} (j:o.op=.box t x) (l:opd x=some q)
  (h:K (.ptr g 0 0) (zy C.L g (.cells (cellsOf (e q)).length [cellsOf (e q)]))):Good E C a o K:=
 zT (s:=Instr.box t (a.eval x)) (v:=.pointer (some ⟨C.w.heap.size,0,none⟩)) (w':=Zm C.w (.cells (a.eval x).cells t)) (by unfold execOp;rw [j]) rfl
  (YQ hg wf b (z6T (d x q l)) (yY hg) h)
theorem vP (q:Sim C) (hG:E.G C.w) {x:IV} {v:Value} (D:VR C x v) {rows:List (List IV)} {r off:Nat} (h:Zj E.gl C.L x=some (rows,r,off)) (Z:r<rows.length) :
  ∃b k,v=.pointer (some ⟨b,k,none⟩)/\∀(j:Nat) (y:IV),(rows.getD r [])[off+j]?=some y->∃u,C.w.cell? ⟨b,k+j,none⟩=some u/\VR C y u:=by
 have d:rows[r]?=some (rows.getD r []):=by simp [List.getD,List.getElem?_eq_getElem Z]
 cases D with
 | ptr s Q M hs=>
  simp only [Zj] at h
  split at h
  ·rename_i sz rows' S
   simp only [sij,Prod.mk.injEq] at h
   obtain ⟨rfl,rfl,rfl⟩:=h
   obtain ⟨B,c,ty,fr,A,_,Y,I⟩:=q s _ S
   refine ⟨_,_,rfl,fun j y m=>?_⟩
   obtain ⟨u,T,J⟩:=(I _ _ d).2 _ y m
   refine ⟨u,?_,J⟩
   rw [B]
   simp only [World.cell?,A]
   simpa [Nat.add_assoc] using T
  ·rename_i V sz rows' S
   simp only [sij,Prod.mk.injEq] at h
   obtain ⟨rfl,rfl,rfl⟩:=h
   obtain ⟨⟨B,c,ty,fr,A,_,Y,I⟩,_⟩:=q s _ S
   refine ⟨_,_,rfl,fun j y m=>?_⟩
   obtain ⟨u,T,J⟩:=(I _ _ d).2 _ y m
   refine ⟨u,?_,J⟩
   rw [B]
   simp only [World.cell?,A]
   simpa [Nat.add_assoc] using T
  ·cases h
 | iptr rows' Q M b base sz vals hsz X hb U ha D=>
  simp only [Zj,sij,Prod.mk.injEq] at h
  obtain ⟨rfl,rfl,rfl⟩:=h
  refine ⟨b,base+Q*sz+M,rfl,fun j y m=>?_⟩
  refine ⟨vals Q (M+j),?_,D _ _ d _ _ m⟩
  rw [<-ha _ _ d _ _ m,Nat.add_assoc]
 | raw v D=>
  unfold Zj at h
  split at h
  ·rename_i n o l
   cases l
   split at h
   ·rename_i cs O
    simp only [sij,Prod.mk.injEq] at h
    obtain ⟨rfl,rfl,rfl⟩:=h
    refine ⟨n,o,rfl,fun j y m=>?_⟩
    obtain ⟨u,B,A⟩:=E.hgl C.w n cs hG O (o+j) y m
    exact ⟨u,B,A C⟩
   ·cases h
  ·rename_i l;cases l
  ·rename_i l;cases l
  ·cases h
 | _=>cases h
theorem YJ {α:Type} {l:List α} {i:Nat} {x d:α} (h:l[i]?=some x):l.getD i d=x:=by
 rw [List.getD_eq_getElem?_getD,h];rfl
theorem getD_get {α:Type} {l:List α} {i:Nat} {d:α} (h:i<l.length):l[i]?=some (l.getD i d):=by simp [List.getD,List.getElem?_eq_getElem h]
theorem Jp (l:Sim C) (hG:E.G C.w) (A:Zr C a e) {t:TypeId} {x:Operand} {q:Opd} (J:o.op=.load t x) (B:opd x=some q) (hg:wU E.P t=some false)
  {rows:List (List IV)} {r off:Nat} (h:Zj E.gl C.L (e q)=some (rows,r,off)) (M:r<rows.length) (j:off<(rows.getD r []).length)
  (O:K ((rows.getD r []).getD off .und) C.L):zN E C a o K:=by
 obtain ⟨b,k,I,hc⟩:=vP l hG (A x q B) h M
 obtain ⟨u,m,D⟩:=hc 0 _ (getD_get (d:=.und) (by simpa using j))
 refine zh (s:=Instr.loadAt t (a.eval x)) (v:=u) (w':=C.w) (by unfold execOp;rw [J]) ?_ (zZ D (by simpa using O))
 rw [I]
 unfold Instr.loadAt loadVar
 rw [Sem.run_bind]
 simp only [Instr.sureAddr,Sem.run_pure,Result.andThen_ok]
 rw [Sem.run_bind,Wn hg]
 simp only [Result.andThen_ok,Bool.false_eq_true,if_false,run_load]
 simp only [Nat.add_zero] at m
 rw [m]
theorem Jy (A:Sim C) (hG:E.G C.w) (M:Zr C a e) {t:TypeId} {x:Operand} {q:Opd} {n:Nat} (S:o.op=.load t x) (O:opd x=some q) (hg:wU E.P t=some true) (T:zI E.P t=some n)
  {rows:List (List IV)} {r off:Nat} (h:Zj E.gl C.L (e q)=some (rows,r,off)) (U:r<rows.length) (D:off+n<=(rows.getD r []).length)
  (V:K (.agg (((rows.getD r []).drop off).take n)) C.L):zN E C a o K:=by
 obtain ⟨b,k,Q,hc⟩:=vP A hG (M x q O) h U
 have m:∀j,j<n->∃u,C.w.cell? ⟨b,k+j,none⟩=some u/\VR C ((rows.getD r []).getD (off+j) .und) u:=fun j d=>hc j _ (getD_get od)
 let f:Nat->Value:=fun j=>if d:j<n then (m j d).choose else undef
 have I:∀j,j<n->C.w.cell? ⟨b,k+j,none⟩=some (f j)/\VR C ((rows.getD r []).getD (off+j) .und) (f j):=fun j d=>by
  simp only [f,d,dif_pos];exact (m j d).choose_spec
 refine zh (s:=Instr.loadAt t (a.eval x)) (v:=.agg ((List.range n).map f).toArray) (w':=C.w) (by unfold execOp;rw [S]) ?_ (zZ ?_ V)
 ·rw [Q]
  unfold Instr.loadAt loadVar
  rw [Sem.run_bind]
  simp only [Instr.sureAddr,Sem.run_pure,Result.andThen_ok]
  rw [Sem.run_bind,Wn hg]
  simp only [Result.andThen_ok,if_true]
  rw [Sem.run_bind,zx T]
  simp only [Result.andThen_ok]
  rw [Sem.run_bind,run_loadCells C.w _ n f (fun j d=>by
   have:(⟨b,k,none⟩:Addr).add j=⟨b,k+j,none⟩:=by unfold Addr.add;split<;>simp_all
   rw [this];exact (I j d).1)]
  rfl
 ·refine .agg _ _ (by rw [List.length_take,List.length_drop,List.length_map,List.length_range];omega) fun i y hi=>?_
  rw [List.getElem?_take] at hi
  split at hi
  ·rename_i B
   rw [List.getElem?_drop] at hi
   have l:i<n:=B
   have J:=(I i l).2
   have X:(rows.getD r []).getD (off+i) .und=y:=YJ hi
   rw [X] at J
   simpa [List.getD,l] using J
  ·cases hi
theorem WB {w:World} {g:Nat} {old cs:Array Value} {t:TypeId} {fr:Nat × Nat} (hg:w.heap[g]?=some (.cells old t fr)):w.setRow g cs=setW w g (.cells cs t fr):=by
 unfold World.setRow setW
 cases w with
 | mk heap tape drawn os output=>
  congr 1
  apply Array.ext'
  apply List.ext_getElem?
  intro i
  simp only [Array.getElem?_toList]
  rw [Array.getElem?_modify,Array.getElem?_setIfInBounds]
  by_cases h:g=i
  ·subst h
   have b:=(Array.getElem?_eq_some_iff.1 hg).1
   simp only [b]
   rw [hg];simp
  ·rw [if_neg h,if_neg h]
theorem Ze {s:Bool} (P:Program) (g o:Nat) (t:TypeId) (h:Nat × Nat):∀(vs:List Value) (i:Nat) (b:Array Value) (w:World),w.heap[g]?=some (.cells b t h)->z01 s b.size h->o+i+vs.length<=b.size->(∀v∈vs,v.oneCell'=true)->
  (storeCells ⟨g,o,none⟩ vs i).run P w=.ok () (w.setRow g (b.toList.take (o+i)++vs++b.toList.drop (o+i+vs.length)).toArray)
 | [],i,b,w,hg,_,_,_=>by
  simp only [storeCells,List.append_nil,lln,Nat.add_zero,List.take_append_drop,Array.toArray_toList]
  rw [setRow_self w g b t h hg]
  rfl
 | v::rest,i,b,w,hg,hfz,hl,h1=>by
  have hi:o+i<b.size:=by simp at hl;omega
  have j:(⟨g,o,none⟩:Addr).add i=⟨g,o+i,none⟩:=by unfold Addr.add;split<;>simp_all
  have d:w.cell? ⟨g,o+i,none⟩=some b[o+i]:=by simp [World.cell?,hg,hi]
  have l:w.frozen? ⟨g,o+i,none⟩=false:=by
   obtain ⟨lo,u⟩:=h
   have:=z8v hfz hi
   simp only [World.frozen?,hg,Bool.and_eq_false_iff,decide_eq_false_iff_not]
   simp only at this
   omega
  have m:(store ((⟨g,o,none⟩:Addr).add i) v).run P w=.ok () (w.setRow g (b.setIfInBounds (o+i) v)):=by
   rw [j,run_store P w _ v _ (h1 v (by simp)),d]
   simp [l,setCell_eq_setRow w g (o+i) b t h v hg]
  have q:=Ze P g o t h rest (i+1) (b.setIfInBounds (o+i) v) (w.setRow g (b.setIfInBounds (o+i) v)) (setRow_heap w g b _ t _ hg) (by simpa using hfz) (by simp at hl ⊢;omega) (fun x r=>h1 x (by simp [r]))
  simp only [storeCells,Sem.run_bind,m,Result.andThen_ok,q,setRow_setRow]
  congr 3
  have e:=list_seg_step b.toList (o+i) v rest (by simp at hl ⊢;omega)
  simpa [Array.toList_setIfInBounds,Nat.add_assoc] using e
def seg (c:Array Value) (k:Nat) (vs:List Value):Array Value:=(c.toList.take k++vs++c.toList.drop (k+vs.length)).toArray
theorem zK {c:Array Value} {k:Nat} {vs:List Value} (h:k+vs.length<=c.size):(seg c k vs).size=c.size:=by
 have b:c.toList.length=c.size:=by simp
 simp only [seg,List.size_toArray,lla,List.length_take,List.length_drop,b];omega
theorem yV {c:Array Value} {k:Nat} {vs:List Value} (h:k+vs.length<=c.size) (i:Nat) :
  (seg c k vs)[i]?=if k<=i/\i<k+vs.length then vs[i - k]? else c[i]?:=by
 have b:c.toList.length=c.size:=by simp
 simp only [seg,List.getElem?_toArray]
 by_cases h1:i<k
 ·rw [if_neg od,List.append_assoc,List.getElem?_append_left (by rw [List.length_take];omega),List.getElem?_take,if_pos h1]
  simp
 ·by_cases h2:i<k+vs.length
  ·rw [if_pos ⟨od,h2⟩,List.append_assoc,List.getElem?_append_right (by rw [List.length_take];omega),List.getElem?_append_left (by rw [List.length_take];omega)]
   congr 1
   rw [List.length_take];omega
  ·rw [if_neg od,List.getElem?_append_right (by rw [lla,List.length_take];omega),List.getElem?_drop]
   rw [lla,List.length_take,<-Array.getElem?_toList]
   congr 1
   omega
theorem YU {α:Type} {l xs:List α} {i:Nat} (h:i+xs.length<=l.length):(splice l i xs).length=l.length:=by
 simp only [splice,lla,List.length_take,List.length_drop];omega
theorem vz {α:Type} {l xs:List α} {k:Nat} (h:k<=l.length) (i:Nat) :
  (splice l k xs)[i]?=if k<=i/\i<k+xs.length then xs[i - k]? else l[i]?:=by
 simp only [splice]
 by_cases h1:i<k
 ·rw [if_neg od,List.append_assoc,List.getElem?_append_left (by rw [List.length_take];omega),List.getElem?_take,if_pos h1]
 ·by_cases h2:i<k+xs.length
  ·rw [if_pos ⟨od,h2⟩,List.append_assoc,List.getElem?_append_right (by rw [List.length_take];omega),List.getElem?_append_left (by rw [List.length_take];omega)]
   congr 1
   rw [List.length_take];omega
  ·rw [if_neg od,List.getElem?_append_right (by rw [lla,List.length_take];omega),List.getElem?_drop]
   rw [lla,List.length_take]
   congr 1
   omega
theorem vT {i r sz j:Nat} (h:i<r) (d:j<sz):i*sz+j<r*sz:=by
 have b:(i+1)*sz<=r*sz:=Nat.mul_le_mul_right sz h
 rw [Nat.add_mul] at b
 omega
theorem zl {α:Type} {l:List α} {i:Nat} {x:α} (h:l[i]?=some x):i<l.length:=(List.getElem?_eq_some_iff.1 h).1
theorem J7 {C:Ctx} {c:Array Value} {base sz:Nat} {rows:List (List IV)} (s:Flat C c base sz rows) {r off:Nat} {xs:List IV} {vs:List Value} (I:r<rows.length)
  (w:off+xs.length<=(rows.getD r []).length) (Q:xs.length=vs.length) (M:∀(i:Nat) (x:IV),xs[i]?=some x->∃v,vs[i]?=some v/\VR C x v) :
  base+r*sz+off+vs.length<=c.size/\Flat C (seg c (base+r*sz+off) vs) base sz (rows.set r (splice (rows.getD r []) off xs)):=by
 have h:=getD_get (d:=[]) I
 have hsz:=(s.2 r _ h).1
 have b:base+r*sz+off+vs.length<=c.size:=by
  have B:=s.1
  have l:(r+1)*sz<=rows.length*sz:=Nat.mul_le_mul_right sz I
  rw [Nat.add_mul] at l
  omega
 refine ⟨b,by rw [zK b,lls];exact s.1,fun i m hi=>?_⟩
 rcases zL hi with ⟨B,l⟩ | ⟨B,l,_⟩
 ·refine ⟨(s.2 i m l).1,fun j x q=>?_⟩
  obtain ⟨v,A,u⟩:=(s.2 i m l).2 j x q
  refine ⟨v,?_,u⟩
  rw [yV b,if_neg,A]
  rintro ⟨J,O⟩
  have G:j<sz:=by rw [<-(s.2 i m l).1];exact zl q
  rcases Nat.lt_or_gt_of_ne B with D | D
  ·have:=vT D G;omega
  ·have:=vT D (show off+vs.length - 1<sz by omega);omega
 ·subst B;subst l
  refine ⟨(YU w).trans hsz,fun j x q=>?_⟩
  rw [vz od] at q
  split at q
  ·rename_i J
   obtain ⟨v,A,u⟩:=M _ x q
   refine ⟨v,?_,u⟩
   rw [yV b,if_pos od,<-A]
   congr 1
   omega
  ·rename_i J
   obtain ⟨v,A,u⟩:=(s.2 i _ h).2 j x q
   refine ⟨v,?_,u⟩
   rw [yV b,if_neg od,A]
theorem Wu {s:Nat} {sz:Nat} {rows rows':List (List IV)} {c c':Array Value} {ty:TypeId} {fr:Nat × Nat} {r:IV} {v:Value} (wf:Wf E.g0 C) (b:Sim C) (hs:C.L[s]?=some (.cells sz rows))
  (hc:C.w.heap[(C.φ s).blk]?=some (.cells c ty fr)) (j:z01 false c.size fr) (hsz:c'.size=c.size) (m:Flat C c' (C.φ s).base sz rows')
  (l:VR (Vb C s (.cells c' ty fr) (.cells sz rows')) r v) (h:K r (C.L.set s (.cells sz rows'))):Post E C K v (setW C.w (C.φ s).blk (.cells c' ty fr)):=by
 refine ⟨r,C.L.set s (Blk.cells sz rows'),C.φ,h,jG (o:=.cells c' ty fr) wf hs rfl,z6N wf b hs rfl hc hsz ?_,jq hs rfl hc hsz,l⟩
 have d:=m.mono (jq (k:=.cells sz rows') hs rfl hc hsz)
 refine ⟨(b s _ hs).1,c',ty,fr,?_,by rw [hsz];exact j,d.1,d.2⟩
 exact zo (Array.getElem?_eq_some_iff.1 hc).1
theorem z0F {s:Nat} {sz:Nat} {rows rows':List (List IV)} {c c':Array Value} {ty:TypeId} {fr:Nat × Nat} {r:IV} {v:Value} (wf:Wf E.g0 C) (b:Sim C) (hs:C.L[s]?=some (.tcells ty sz rows))
  (hc:C.w.heap[(C.φ s).blk]?=some (.cells c ty fr)) (j:z01 true c.size fr) (hsz:c'.size=c.size) (m:Flat C c' (C.φ s).base sz rows')
  (l:VR (Vb C s (.cells c' ty fr) (.tcells ty sz rows')) r v) (h:K r (C.L.set s (.tcells ty sz rows'))):Post E C K v (setW C.w (C.φ s).blk (.cells c' ty fr)):=by
 refine ⟨r,C.L.set s (Blk.tcells ty sz rows'),C.φ,h,jG (o:=.cells c' ty fr) wf hs rfl,z6N wf b hs rfl hc hsz ?_,jq hs rfl hc hsz,l⟩
 have d:=m.mono (jq (k:=.tcells ty sz rows') hs rfl hc hsz)
 have hh:(Vb C s (.cells c' ty fr) (.tcells ty sz rows')).w.heap[(C.φ s).blk]?=some (.cells c' ty fr):=zo (Array.getElem?_eq_some_iff.1 hc).1
 exact ⟨⟨(b s _ hs).1.1,c',ty,fr,hh,by rw [hsz];exact j,d.1,d.2⟩,(b s _ hs).2.1,c',fr,hh⟩
theorem z0t (Z:Sim C) (T:Zr C a e) {t:TypeId} {p x:Operand} {J d:Opd} {n:Nat} (ho:o.op=.store t p x) (hp:opd p=some J) (Y:opd x=some d)
  (hn:zI E.P t=some n) {s r off sz:Nat} {rows:List (List IV)} (h1:e J=.ptr s r off) {V:Bool} (O:Z9 V C s sz rows) (hr:r<rows.length) (j:off+n<=(rows.getD r []).length)
  (X:(cellsOf (e d)).length=n) (hc:(cellsOf (e d)).all zU=true)
  (hK:∀(c c':Array Value) (ty:TypeId) (fr:Nat × Nat),C.w.heap[(C.φ s).blk]?=some (.cells c ty fr)->z01 V c.size fr->c'.size=c.size->
   Flat C c' (C.φ s).base sz (rows.set r (splice (rows.getD r []) off (cellsOf (e d))))->Post E C K undef (setW C.w (C.φ s).blk (.cells c' ty fr))):Good E C a o K:=by
 have q:=T p J hp
 rw [h1] at q
 generalize Q:a.eval p=pv at q
 cases q with
 | ptr _ _ _ hs=>
 obtain ⟨hsz,c,ty,fr,M,l,hf⟩:=O
 obtain ⟨b,I⟩:=(T x d Y).cells
 have A:∀(i:Nat) (y:IV),(cellsOf (e d))[i]?=some y->∃v,(a.eval x).cells.toList[i]?=some v/\VR C y v:=fun i y hi=>by
  obtain ⟨v,D,S⟩:=I i y hi;exact ⟨v,by simpa using D,S⟩
 obtain ⟨m,G⟩:=J7 (C:=C) hf hr (by rw [X];exact j) (vs:=(a.eval x).cells.toList) (by simpa using b) A
 have h:∀v∈(a.eval x).cells.toList,v.oneCell'=true:=fun v q=>by
  obtain ⟨i,hi,rfl⟩:=List.getElem_of_mem q
  have B:i<(cellsOf (e d)).length:=by rw [b];simpa using hi
  obtain ⟨u,D,S⟩:=A i _ (List.getElem?_eq_getElem B)
  rw [List.getElem?_eq_getElem hi] at D
  rw [Option.some.inj D]
  exact J8 S (List.all_eq_true.1 hc _ (List.getElem_mem B))
 refine jB (s:=Instr.storeAt t (a.eval p) (a.eval x)) (by unfold execOp;rw [ho]) ?_ (hK c _ ty fr M l (zK m) G)
 rw [Q]
 unfold Instr.storeAt storeVar
 rw [Sem.run_bind]
 simp only [Instr.sureAddr,Sem.run_pure,Result.andThen_ok]
 rw [Sem.run_bind,zx hn]
 simp only [Result.andThen_ok]
 rw [if_neg (by rw [<-b,X];simp)]
 have U:=Ze E.P (C.φ s).blk ((C.φ s).base+r*sz+off) ty fr (a.eval x).cells.toList 0 c C.w M l (by simpa using m) h
 simp only [Nat.add_zero] at U
 rw [hsz]
 rw [<-WB M]
 exact U
theorem z4n (wf:Wf E.g0 C) (b:Sim C) (q:Zr C a e) {t:TypeId} {p x:Operand} {m h:Opd} {n:Nat} (B:o.op=.store t p x) (w:opd p=some m) (u:opd x=some h)
  (D:zI E.P t=some n) {s r off sz:Nat} {rows:List (List IV)} (O:e m=.ptr s r off) (l:C.L[s]?=some (.cells sz rows)) (I:r<rows.length) (d:off+n<=(rows.getD r []).length)
  (G:(cellsOf (e h)).length=n) (hc:(cellsOf (e h)).all zU=true)
  (J:K .und (C.L.set s (.cells sz (rows.set r (splice (rows.getD r []) off (cellsOf (e h))))))):Good E C a o K:=
 z0t b q B w u D O (b s _ l) I d G hc fun _ _ _ _ A j hsz M=>Wu wf b l A j hsz M (by exact .und) J
theorem z1P (wf:Wf E.g0 C) (b:Sim C) (A:Zr C a e) {t:TypeId} {p x:Operand} {u h:Opd} {n:Nat} (G:o.op=.store t p x) (D:opd p=some u) (B:opd x=some h)
  (I:zI E.P t=some n) {s r off ty sz:Nat} {rows:List (List IV)} (S:e u=.ptr s r off) (m:C.L[s]?=some (.tcells ty sz rows)) (M:r<rows.length) (d:off+n<=(rows.getD r []).length)
  (J:(cellsOf (e h)).length=n) (hc:(cellsOf (e h)).all zU=true)
  (O:K .und (C.L.set s (.tcells ty sz (rows.set r (splice (rows.getD r []) off (cellsOf (e h))))))):Good E C a o K:=
 z0t b A G D B I S (b s _ m).1 M d J hc fun c c' j fr w l hsz Q=>by
  obtain ⟨_,_,T,fr0,q⟩:=b s _ m
  have:j=ty:=by rw [w] at q;cases q;rfl
  subst this
  exact z0F wf b m w l hsz Q (by exact .und) O
theorem z5o (cs:List Value):∀(off k:Nat) (c:Array Value),off+k+cs.length<=c.size->
  (cs.zipIdx k).foldl (fun a (x:Value × Nat)=>a.setIfInBounds (off+x.2) x.1) c=seg c (off+k) cs:=by
 induction cs with
 | nil=>intro off k c h;simp [seg]
 | cons v r b=>
  intro off k c h
  simp only [llc] at h
  rw [List.zipIdx_cons,List.foldl_cons,show k+1=k+1 from rfl,b off (k+1) _ (by rw [Array.size_setIfInBounds];omega)]
  apply Array.ext_getElem?
  intro i
  rw [yV (by rw [Array.size_setIfInBounds];omega),yV (by simp only [llc];omega),Array.getElem?_setIfInBounds]
  simp only [llc]
  by_cases h1:i=off+k
  ·subst h1
   rw [if_neg od,if_pos rfl,if_pos od,if_pos ⟨od,od⟩]
   simp
  ·by_cases h2:off+k<i/\i<off+k+(r.length+1)
   ·rw [if_pos ⟨od,od⟩,if_pos ⟨od,od⟩]
    have:i - (off+k)=(i - (off+(k+1)))+1:=by omega
    rw [this,List.getElem?_cons_succ]
   ·rw [if_neg od,if_neg od,if_neg od]
theorem z0v (c:Array Value) (off:Nat) (vs:Array Value) (h:off+vs.size<=c.size) :
  vs.zipIdx.foldl (fun cs (x:Value × Nat)=>cs.setIfInBounds (off+x.2) x.1) c=seg c off vs.toList:=by
 rw [<-Array.foldl_toList,Array.toList_zipIdx]
 have:=z5o vs.toList off 0 c (by simpa using h)
 simpa using this
def Row (C:Ctx) (zs:List IV) (c:Array Value):Prop:=zs.length=c.size/\∀(j:Nat) (x:IV),zs[j]?=some x->∃u,c[j]?=some u/\VR C x u
theorem z3Z {C:Ctx} {m:List IV} {c:Array Value} (h:Row C m c) {off:Nat} {xs:List IV} {vs:List Value} (r:xs.length=vs.length) (d:off+xs.length<=m.length)
  (s:∀(i:Nat) (x:IV),xs[i]?=some x->∃v,vs[i]?=some v/\VR C x v):Row C (splice m off xs) (seg c off vs):=by
 have b:off+vs.length<=c.size:=by rw [<-h.1,<-r];exact d
 refine ⟨by rw [YU d,zK b];exact h.1,fun j x l=>?_⟩
 rw [vz od] at l
 rw [yV b]
 split at l
 ·rename_i q
  rw [if_pos od]
  exact s _ x l
 ·rename_i q
  rw [if_neg od]
  exact h.2 j x l
theorem vK {C:Ctx} {place:Nat->Option (Nat × Nat)}:∀(ps:List (Nat × Value)) (b:List (Nat × Nat × IV)) (d cs:List IV) (c:Array Value),Row C d c->Va d b=some cs->
  ps.length=b.length->(∀(i:Nat) q,b[i]?=some q->∃p,ps[i]?=some p/\place p.1=some (q.1,q.2.1)/\VR C q.2.2 p.2)->
  ∃c',Instr.fill place c ps=some c'/\Row C cs c'
 | [],[],d,cs,c,hr,hf,_,_=>by
  simp only [Va,sij] at hf;subst hf
  exact ⟨c,rfl,hr⟩
 | [],q::b,_,_,_,_,_,hl,_=>by simp at hl
 | p::ps,[],_,_,_,_,_,hl,_=>by simp at hl
 | (i,v)::ps,(off,n,x)::b,d,cs,c,hr,hf,hl,h=>by
  obtain ⟨p,s,j,G⟩:=h 0 _ rfl
  simp only [List.getElem?_cons_zero,sij] at s;subst s
  simp only [Va] at hf
  split at hf
  ·rename_i hc
   obtain ⟨l,r⟩:=G.cells
   dsimp only at l r
   have I:v.cells.size=n:=by rw [<-l];exact hc.1
   have m:Row C (splice d off (cellsOf x)) (seg c off v.cells.toList):=z3Z hr (by simpa using l) (by rw [hc.1];exact hc.2)
    (fun i y hi=>by obtain ⟨u,D,w⟩:=r i y hi;exact ⟨u,by simpa using D,w⟩)
   obtain ⟨c',J,A⟩:=vK ps b _ cs _ m hf (by simpa using hl) (fun i q hi=>h (i+1) q (by simpa using hi))
   refine ⟨c',?_,A⟩
   simp only [Instr.fill,j]
   have B:off+n<=c.size:=by rw [<-hr.1];exact hc.2
   rw [if_neg (by simp only [Bool.or_eq_true,decide_eq_true_eq];omega),z0v c off v.cells od]
   exact J
  ·cases hf
theorem V6 {P:Program} {α b:Type} {f:α->Sem b} {g:α->b} {w:World}:∀(l:List α),(∀x∈l,(f x).run P w=.ok (g x) w)->(l.mapM f).run P w=.ok (l.map g) w
 | [],_=>rfl
 | x::r,h=>by
  rw [List.mapM_cons,Sem.run_bind,h x (by simp)]
  simp only [Result.andThen_ok]
  rw [Sem.run_bind,V6 r (fun y d=>h y (by simp [d]))]
  rfl
theorem z5v {cs:List IV} {c:Array Value} (h:Row C cs c):VR C (.agg cs) (.agg c):=by
 have:=VR.agg (C:=C) cs c.toList (by simpa using h.1) (fun i x hi=>by
  obtain ⟨u,d,b⟩:=h.2 i x hi
  have:c.toList.getD i undef=u:=YJ (by simpa using d)
  rw [this];exact b)
 simpa using this
theorem Y5 (M:Sim C) (D:Zr C a e) {t:TypeId} {ps:Array (Nat × Operand)} {fs:Array Field} {z:List IV} {A:List (Nat × Nat × Opd)} (V:o.op=.build t ps)
  (ht:E.P.underlying t=some (.struct fs)) (O:zeroCells E.P t=some z)
  (B:zF (fun (p:Nat × Operand)=>(fs[p.1]?).bind fun f=>(zI E.P f.type).bind fun n=>(opd p.2).map fun x=>(f.offset,n,x)) ps.toList=some A)
  (u:fs.toList.all (fun f=>(E.P.info? f.type).isSome)=true) {cs:List IV} (I:Va z (A.map fun p=>(p.1,p.2.1,e p.2.2))=some cs) (X:K (.agg cs) C.L):zN E C a o K:=by
 obtain ⟨i,v,Z,T,U,G⟩:=zJ O
 let g:Field->Nat × Nat:=fun f=>(f.offset,((E.P.info? f.type).map (·.size)).getD 0)
 have r:(fs.mapM fun f=>(do pure (f.offset,<-sizeOf f.type):Sem (Nat × Nat))).run E.P C.w=.ok (fs.toList.map g).toArray C.w:=by
  rw [Array.mapM_eq_mapM_toList,Sem.run_map,V6 (g:=g) fs.toList]
  ·rfl
  ·intro f Y
   have:=List.all_eq_true.1 u f Y
   obtain ⟨i,hi⟩:=Option.isSome_iff_exists.1 this
   rw [Sem.run_bind,zx (n:=i.size) (by simp [zI,hi])]
   simp [g,hi]
 obtain ⟨c',h5,J⟩:=vK (C:=C) (place:=fun j=>(fs.toList.map g).toArray[j]?) (ps.toList.map fun p=>(p.1,a.eval p.2)) (A.map fun p=>(p.1,p.2.1,e p.2.2)) z cs v.cells ⟨U,G C⟩ I
  (by simp [zu B]) (fun j q l=>by
   rw [List.getElem?_map,oms] at l
   obtain ⟨Q,l,rfl⟩:=l
   obtain ⟨p,m,h⟩:=zq B j Q l
   rw [obs] at h
   obtain ⟨f,h,d⟩:=h
   rw [obs] at d
   obtain ⟨n,d,b⟩:=d
   rw [oms] at b
   obtain ⟨x,b,rfl⟩:=b
   refine ⟨(p.1,a.eval p.2),by rw [List.getElem?_map,m];rfl,?_,D _ _ b⟩
   simp only [List.getElem?_toArray,List.getElem?_map,Array.getElem?_toList,h,Option.map_some,g]
   unfold zI at d
   rw [d];rfl)
 refine zh (s:=Instr.build t (ps.map fun (i,x)=>(i,a.eval x))) (v:=.agg c') (w':=C.w) (by unfold execOp;rw [V]) ?_ (zZ (z5v J) X)
 unfold Instr.build
 rw [Sem.run_bind,Z5 Z T]
 simp only [Result.andThen_ok]
 rw [Sem.run_bind]
 have S:(underlying t).run E.P C.w=.ok (.struct fs) C.w:=by simp [underlying,ht]
 rw [S]
 simp only [Result.andThen_ok]
 rw [Sem.run_bind,r]
 simp only [Result.andThen_ok]
 have m:(ps.map fun (x:Nat × Operand)=>(x.1,a.eval x.2)).toList=ps.toList.map fun p=>(p.1,a.eval p.2):=by simp
 rw [m,h5]
 rfl
theorem Yv (J:Sim C) (B:Zr C a e) {t l:TypeId} {ps:Array (Nat × Operand)} {m n:Nat} {z:List IV} {r:List (Nat × Nat × Opd)} (U:o.op=.build t ps)
  (Z:E.P.underlying t=some (.array m l)) (M:zeroCells E.P t=some z) (V:zI E.P l=some n)
  (u:zF (fun (p:Nat × Operand)=>(opd p.2).map fun x=>(p.1*n,n,x)) ps.toList=some r)
  {cs:List IV} (G:Va z (r.map fun p=>(p.1,p.2.1,e p.2.2))=some cs) (X:K (.agg cs) C.L):zN E C a o K:=by
 obtain ⟨i,v,Y,S,T,D⟩:=zJ M
 obtain ⟨c',h5,I⟩:=vK (C:=C) (place:=fun j=>some (j*n,n)) (ps.toList.map fun p=>(p.1,a.eval p.2)) (r.map fun p=>(p.1,p.2.1,e p.2.2)) z cs v.cells ⟨T,D C⟩ G
  (by simp [zu u]) (fun j q b=>by
   rw [List.getElem?_map,oms] at b
   obtain ⟨O,b,rfl⟩:=b
   obtain ⟨p,d,A⟩:=zq u j O b
   rw [oms] at A
   obtain ⟨x,h,rfl⟩:=A
   exact ⟨(p.1,a.eval p.2),by rw [List.getElem?_map,d];rfl,rfl,B _ _ h⟩)
 refine zh (s:=Instr.build t (ps.map fun (i,x)=>(i,a.eval x))) (v:=.agg c') (w':=C.w) (by unfold execOp;rw [U]) ?_ (zZ (z5v I) X)
 unfold Instr.build
 rw [Sem.run_bind,Z5 Y S]
 simp only [Result.andThen_ok]
 rw [Sem.run_bind]
 have Q:(underlying t).run E.P C.w=.ok (.array m l) C.w:=by simp [underlying,Z]
 rw [Q]
 simp only [Result.andThen_ok]
 rw [Sem.run_bind,zx V]
 simp only [Result.andThen_ok]
 have d:(ps.map fun (x:Nat × Operand)=>(x.1,a.eval x.2)).toList=ps.toList.map fun p=>(p.1,a.eval p.2):=by simp
 rw [d,h5]
 rfl
theorem yS {C:Ctx} {z:List IV} {v:Value} {m:Nat} (G:z.length=v.cells.size) (h:∀(j:Nat) (x:IV),z[j]?=some x->∃u,v.cells[j]?=some u/\VR C x u)
  (zero:Array Value) (A:m*z.length=0\/zero=v.cells) :
  ((Array.range (m*z.length)).map (zero[·%zero.size]!)).size=m*z.length/\Flat C ((Array.range (m*z.length)).map (zero[·%zero.size]!)) 0 z.length (List.replicate m z):=by
 refine ⟨by simp,by simp,fun i D hi=>?_⟩
 rw [List.getElem?_replicate] at hi
 split at hi
 ·rename_i r
  simp only [sij] at hi;subst hi
  refine ⟨rfl,fun j x w=>?_⟩
  obtain ⟨u,I,B⟩:=h j x w
  have q:j<z.length:=zl w
  refine ⟨u,?_,B⟩
  have l:i*z.length+j<m*z.length:=vT r q
  have s:zero=v.cells:=A.resolve_left od
  subst s
  have d:j<v.cells.size:=by omega
  have b:(i*z.length+j)%v.cells.size=j:=by rw [<-G,Nat.mul_comm,Nat.mul_add_mod,Nat.mod_eq_of_lt q]
  simp only [Nat.zero_add,Array.getElem?_map,Array.getElem?_range,l,if_true,Option.map_some,b]
  rw [getElem!_pos v.cells j d,<-I,Array.getElem?_eq_getElem d]
 ·cases hi
theorem YZ {C:Ctx} {sz:Nat}:∀(ps:List (Nat × Value)) (m:List (Nat × IV)) (rows rows':List (List IV)) (c:Array Value),c.size=rows.length*sz->Flat C c 0 sz rows->zO sz rows m=some rows'->
  ps.length=m.length->(∀(i:Nat) (q:Nat × IV),m[i]?=some q->∃p,ps[i]?=some p/\p.1=q.1/\VR C q.2 p.2)->
  ∃c',Instr.fill (fun i=>some (i*sz,sz)) c ps=some c'/\c'.size=c.size/\rows'.length=rows.length/\Flat C c' 0 sz rows'
 | [],[],rows,rows',c,hs,hr,hf,_,_=>by
  simp only [zO,sij] at hf;subst hf
  exact ⟨c,rfl,rfl,rfl,hr⟩
 | [],q::m,_,_,_,_,_,_,hl,_=>by simp at hl
 | p::ps,[],_,_,_,_,_,_,hl,_=>by simp at hl
 | (i,v)::ps,(k,x)::m,rows,rows',c,hs,hr,hf,hl,h=>by
  obtain ⟨p,B,r,D⟩:=h 0 _ rfl
  simp only [List.getElem?_cons_zero,sij] at B;subst B
  dsimp only at r D;subst r
  simp only [zO] at hf
  split at hf
  ·rename_i hc
   obtain ⟨G,O⟩:=D.cells
   have w:=getD_get (d:=[]) hc.2
   have s:=(hr.2 _ _ w).1
   have A:splice (rows.getD i []) 0 (cellsOf x)=cellsOf x:=by
    simp only [splice,List.take_zero,List.nil_append,Nat.zero_add]
    rw [List.drop_eq_nil_of_le (by rw [s,hc.1];exact Nat.le_refl _),List.append_nil]
   obtain ⟨b,l⟩:=J7 hr hc.2 (off:=0) (xs:=cellsOf x) (vs:=v.cells.toList) (by rw [s,hc.1];omega) (by simpa using G)
    (fun i y hi=>by obtain ⟨u,S,I⟩:=O i y hi;exact ⟨u,by simpa using S,I⟩)
   rw [A] at l
   simp only [Nat.zero_add,Nat.add_zero] at b l
   obtain ⟨c',V,J,Q,M⟩:=YZ ps m _ rows' _ (by rw [zK (by simpa using b),lls];exact hs) l hf (by simpa using hl) (fun j q T=>h (j+1) q (by simpa using T))
   refine ⟨c',?_,by rw [J,zK (by simpa using b)],by rw [Q,lls],M⟩
   simp only [Instr.fill]
   have U:v.cells.size=sz:=by rw [<-G];exact hc.1
   simp only [Array.length_toList] at b
   rw [if_neg (by simp only [Bool.or_eq_true,decide_eq_true_eq];omega),z0v c (i*sz) v.cells b]
   exact V
  ·cases hf
theorem z2p {g:Nat} (hg:Free C.L g) (wf:Wf E.g0 C) (G:Sim C) (V:Zr C a e) {t l:TypeId} {ps:Array (Nat × Operand)} {len n:Nat} {z:List IV} {O:List (Nat × Opd)} (ho:o.op=.buildSlice t len ps)
  (ht:E.P.underlying t=some (.slice l)) (hn:zI E.P l=some n) (hz:zeroCells E.P l=some z)
  (S:zF (fun (p:Nat × Operand)=>(opd p.2).map fun x=>(p.1,x)) ps.toList=some O) (hb:len*n<=2^24) (h0:0<n) (M:z.length=n)
  {rows:List (List IV)} (Y:zO n (List.replicate len z) (O.map fun p=>(p.1,e p.2))=some rows) (hK:K (.sl g 0 len len) (zy C.L g (.cells n rows))):Good E C a o K:=by
 obtain ⟨i,v,h1,h2,h3,X⟩:=zJ hz
 subst M
 let zero:Array Value:=if len*z.length=0 then #[] else v.cells
 have b:len*z.length=0\/zero=v.cells:=by
  by_cases h:len*z.length=0
  ·exact .inl h
  ·exact .inr (by simp only [zero,h,if_false])
 obtain ⟨d,Q⟩:=yS (C:=C) (m:=len) h3 (X C) zero b
 obtain ⟨c',A,Z,T,r⟩:=YZ (C:=C) (ps.toList.map fun p=>(p.1,a.eval p.2)) (O.map fun p=>(p.1,e p.2)) (List.replicate len z) rows _ (by rw [d];simp) Q Y
  (by simp [zu S]) (fun j q u=>by
   rw [List.getElem?_map,oms] at u
   obtain ⟨q0,u,rfl⟩:=u
   obtain ⟨p,T,r⟩:=zq S j q0 u
   rw [oms] at r
   obtain ⟨x,I,rfl⟩:=r
   exact ⟨(p.1,a.eval p.2),by rw [List.getElem?_map,T];rfl,rfl,V _ _ I⟩)
 have B:len<=9223372036854775807:=by
  have:=Nat.mul_le_mul_left len h0
  omega
 refine zT (s:=Instr.buildSlice t len (ps.map fun (i,x)=>(i,a.eval x))) (v:=.slice (some ⟨C.w.heap.size,0,none⟩) len len) (w':=Zm C.w (.cells c' l)) (by unfold execOp;rw [ho]) ?_
  (YQ hg wf G r (YK hg (Nat.le_refl _) (Nat.le_refl _) (by rw [Z,d];exact Nat.le_refl _) B) hK)
 unfold Instr.buildSlice
 rw [Sem.run_bind]
 have hu:(underlying t).run E.P C.w=.ok (.slice l) C.w:=by simp [underlying,ht]
 rw [hu]
 simp only [Result.andThen_ok]
 rw [Sem.run_bind,zx hn]
 simp only [Result.andThen_ok]
 have J:¬(len*z.length>2^24):=by omega
 rw [if_neg J]
 have U:(ps.map fun (x:Nat × Operand)=>(x.1,a.eval x.2)).toList=ps.toList.map fun p=>(p.1,a.eval p.2):=by simp
 by_cases h:len*z.length=0
 ·rw [if_pos h,Sem.run_bind]
  simp only [Sem.run_pure,Result.andThen_ok]
  have D:zero=#[]:=if_pos h
  rw [D] at A
  rw [U,A]
  rfl
 ·rw [if_neg h,Sem.run_bind,Z5 h1 h2]
  simp only [Result.andThen_ok]
  rw [Sem.run_bind]
  simp only [Sem.run_pure,Result.andThen_ok]
  have D:zero=v.cells:=if_neg h
  rw [D] at A
  rw [U,A]
  rfl
theorem wrap64_in {n:Int} (b:0<=n) (h:n<=9223372036854775807):IntKind.i64.wrap n=n:=by rw [IntKind.wrap_i64];omega
theorem z1i {g:Nat} (hg:Free C.L g) (wf:Wf E.g0 C) (I:Sim C) (X:Zr C a e) {t q:TypeId} {l c:Operand} {Q c':Opd} {n by_:Nat} {z:List IV} (ho:o.op=.makeSlice t l c)
  (ht:E.P.underlying t=some (.slice q)) (hn:zI E.P q=some n) (hz:zeroCells E.P q=some z) (j:Ws E.P q=some by_) (hl:opd l=some Q) (hc:opd c=some c') (h0:0<n) (S:z.length=n)
  {k k':IntKind} {x y:Int} (J:e Q=.int k x) (T:e c'=.int k' y) (O:0<=x) (ae:x<=y) (hy:y<=9223372036854775807) (u:y*by_<=281474976710656)
  (hK:K (.sl g 0 x.toNat y.toNat) (zy C.L g (.cells z.length (List.replicate y.toNat z)))):Good E C a o K:=by
 obtain ⟨i,v,U,h2,h3,Z⟩:=zJ hz
 subst S
 have b:=X l Q hl
 rw [J] at b
 have r:=X c c' hc
 rw [T] at r
 generalize B:a.eval l=lv at b
 generalize A:a.eval c=cv at r
 cases b;cases r
 let zero:Array Value:=if y.toNat*z.length=0 then #[] else v.cells
 have d:y.toNat*z.length=0\/zero=v.cells:=by
  by_cases h:y.toNat*z.length=0
  ·exact .inl h
  ·exact .inr (by simp only [zero,h,if_false])
 obtain ⟨M,V⟩:=yS (C:=C) (m:=y.toNat) h3 (Z C) zero d
 refine zT (s:=Instr.makeSlice t (a.eval l) (a.eval c)) (v:=.slice (some ⟨C.w.heap.size,0,none⟩) x.toNat y.toNat) (w':=Zm C.w (.cells _ q)) (by unfold execOp;rw [ho]) ?_
  (YQ hg wf I V (YK hg od (Nat.le_refl _) (by rw [M];exact Nat.le_refl _) od) hK)
 rw [B,A]
 unfold Ws at j
 rw [oms] at j
 obtain ⟨Y,h5,rfl⟩:=j
 obtain rfl:i=Y:=Option.some.inj (U.symm.trans h5)
 unfold Instr.makeSlice
 rw [Sem.run_bind]
 have hu:(underlying t).run E.P C.w=.ok (.slice q) C.w:=by simp [underlying,ht]
 rw [hu]
 simp only [Result.andThen_ok,asInt,asIntOf]
 rw [Sem.run_bind,Sem.run_bind]
 simp only [Sem.run_pure,Result.andThen_ok]
 rw [Sem.run_bind,Sem.run_bind]
 simp only [Sem.run_pure,Result.andThen_ok]
 rw [Sem.run_bind]
 have hi:(typeInfo q).run E.P C.w=.ok i C.w:=by simp [typeInfo,U]
 rw [hi]
 simp only [Result.andThen_ok]
 rw [wrap64_in O od,wrap64_in od hy]
 have D:¬(((decide (y<0)||decide (↑i.bytes*y>2^48))||decide (x<0)||decide (x>y))=true):=by
  have h7:(i.bytes:Int)*y<=281474976710656:=by rw [Int.mul_comm];exact u
  simp only [Bool.or_eq_true,decide_eq_true_eq]
  omega
 rw [if_neg D]
 rw [Sem.run_bind,run_askRoom]
 simp only [Result.andThen_ok]
 rw [Sem.run_bind,zx hn]
 simp only [Result.andThen_ok]
 by_cases h:y.toNat*z.length=0
 ·have G:zero=#[]:=if_pos h
  rw [if_pos h,Sem.run_bind,G]
  rfl
 ·have G:zero=v.cells:=if_neg h
  rw [if_neg h,Sem.run_bind,Z5 U h2,G]
  rfl
def Y8 (C:Ctx) (news:List Value) (sz:Nat) (rs:List (List IV)):Prop:=news.length=rs.length*sz/\
 ∀(i:Nat) (row:List IV),rs[i]?=some row->row.length=sz/\∀(j:Nat) (x:IV),row[j]?=some x->∃u,news[i*sz+j]?=some u/\VR C x u
theorem Y8.one {b:List Value} {sz:Nat} {rs:List (List IV)} (h:Y8 C b sz rs) (hc:∀j∈rs,j.all zU=true):∀v∈b,v.oneCell'=true:=by
 intro v A
 obtain ⟨k,d,rfl⟩:=List.getElem_of_mem A
 have hsz:0<sz:=by
  rcases Nat.eq_zero_or_pos sz with l | l
  ·have:=h.1;rw [l] at this;simp at this;rw [this] at d;simp at d
  ·exact l
 have hi:k / sz<rs.length:=by rw [Nat.div_lt_iff_lt_mul hsz,<-h.1];exact d
 obtain ⟨B,w⟩:=h.2 (k / sz) _ (List.getElem?_eq_getElem hi)
 have r:k%sz<(rs[k / sz]).length:=by rw [B];exact Nat.mod_lt _ hsz
 obtain ⟨u,q,s⟩:=w (k%sz) _ (List.getElem?_eq_getElem r)
 have m:k / sz*sz+k%sz=k:=by rw [Nat.mul_comm];exact Nat.div_add_mod k sz
 rw [m,List.getElem?_eq_getElem d] at q
 rw [Option.some.inj q]
 exact J8 s (List.all_eq_true.1 (hc _ (List.getElem_mem hi)) _ (List.getElem_mem r))
theorem ZJ {P:Program} {w:World} {sz n:Nat} {b k:Nat} {f:Nat->Value} (h:∀j,j<n*sz->w.cell? ⟨b,k+j,none⟩=some (f j)) (l c:Nat) :
  (Builtin.firstCells sz n (.slice (some ⟨b,k,none⟩) l c)).run P w=.ok ((List.range (n*sz)).map f).toArray w:=by
 show (loadCells ⟨b,k,none⟩ (n*sz)).run P w=_
 refine run_loadCells w _ _ f fun j d=>?_
 have:(⟨b,k,none⟩:Addr).add j=⟨b,k+j,none⟩:=by unfold Addr.add;split<;>simp_all
 rw [this];exact h j d
theorem Yk {sz:Nat} {rs:List (List IV)} {f:Nat->Value} (hsz:∀(i:Nat) (b:List IV),rs[i]?=some b->b.length=sz)
  (l:∀(i:Nat) (b:List IV),rs[i]?=some b->∀(j:Nat) (x:IV),b[j]?=some x->VR C x (f (i*sz+j))):Y8 C ((List.range (rs.length*sz)).map f) sz rs:=by
 refine ⟨by simp,fun i b hi=>⟨hsz i b hi,fun j x h=>⟨f (i*sz+j),?_,l i b hi j x h⟩⟩⟩
 have d:j<sz:=by rw [<-hsz i b hi];exact zl h
 have:=vT (zl hi) d
 simp [this]
theorem z5q {k sz i j:Nat} (b:j<sz):(i*sz+j) / sz=i/\(i*sz+j)%sz=j:=by
 have d:0<sz:=by omega
 constructor
 ·rw [Nat.mul_comm,Nat.mul_add_div d,Nat.div_eq_of_lt b];rfl
 ·rw [Nat.mul_comm,Nat.mul_add_mod,Nat.mod_eq_of_lt b]
theorem Yz (X:Sim C) {x:IV} {xv:Value} (hv:VR C x xv) {rs:List (List IV)} {sz:Nat} (h:rowsOf C.L x=some rs) (hsz:∀d∈rs,d.length=sz) :
  ∃O,Y8 C O sz rs/\(Builtin.lenOf xv=pure rs.length)/\
   ∀w':World,w'.heap=C.w.heap->(Builtin.firstCells sz rs.length xv).run E.P w'=.ok O.toArray w':=by
 have q:∀(i:Nat) (d:List IV),rs[i]?=some d->d.length=sz:=fun i d hi=>hsz d (List.mem_of_getElem? hi)
 cases hv with
 | str s=>
  simp only [rowsOf,sij] at h;subst h
  have M:s=[]\/sz=1:=by
   cases s with
   | nil=>exact .inl rfl
   | cons c r=>right;have:=hsz [.int .u8 c.toNat] (by simp);simpa using this.symm
  refine ⟨s.map fun b=>.int .u8 b.toNat,⟨?_,fun i d hi=>⟨q i d hi,fun j y I=>?_⟩⟩,?_,fun w' _=>?_⟩
  ·rcases M with M | M
   ·subst M;simp
   ·subst M;simp
  ·rw [List.getElem?_map,oms] at hi
   obtain ⟨b,hb,rfl⟩:=hi
   have Y:sz=1:=M.resolve_left (fun h=>by subst h;simp at hb)
   subst Y
   cases j with
   | zero=>simp at I;subst I;exact ⟨_,by simp [hb],.int _ _⟩
   | succ j=>simp at I
  ·show pure (ByteArray.size _)=_
   simp [ByteArray.size]
  ·show (pure ((ByteArray.extract _ 0 _).data.map _):Sem (Array Value)).run E.P w'=_
   rw [Sem.run_pure]
   congr 1
   apply Array.ext'
   simp [ByteArray.extract,ByteArray.copySlice]
 | isl rows G cap' B vals ai ae ak ha ag=>
  simp only [rowsOf,sij] at h;subst h
  rcases ha with h0 | ⟨b,k,rfl,hb,hn,hc⟩
  ·subst h0
   refine ⟨[],⟨by simp,fun i d hi=>by simp at hi⟩,rfl,fun w' _=>?_⟩
   cases G with
   | none=>rfl
   | some G=>show (loadCells G (0*sz)).run E.P w'=_;rw [Nat.zero_mul];rfl
  ·by_cases hr:rows=[]
   ·subst hr
    refine ⟨[],⟨by simp,fun i d hi=>by simp at hi⟩,rfl,fun w' _=>?_⟩
    show (loadCells _ (0*sz)).run E.P w'=_;rw [Nat.zero_mul];rfl
   ·have J:B=sz:=by
     obtain ⟨d,r,rfl⟩:=List.exists_cons_of_ne_nil hr
     rw [<-ae 0 d rfl,<-q 0 d rfl]
    subst J
    refine ⟨_,Yk (f:=fun k=>vals (k / B) (k%B)) q (fun i d hi j x I=>?_),rfl,fun w' Z=>ZJ (fun k T=>?_) _ _⟩
    ·have af:j<B:=by rw [<-q i d hi];exact zl I
     rw [(z5q (k:=0) af).1,(z5q (k:=0) af).2];exact ag i d hi j x I
    ·have h0:0<B:=Nat.pos_of_ne_zero fun h=>by rw [h] at T;simp at T
     have hi:k / B<rows.length:=by rw [Nat.div_lt_iff_lt_mul h0];exact T
     have A:=List.getElem?_eq_getElem hi
     have I:k%B<(rows[k / B]).length:=by rw [q _ _ A];exact Nat.mod_lt _ h0
     have:=hc _ _ A _ _ (List.getElem?_eq_getElem I)
     rename_i kk
     have ah:k / B*B+k%B=k:=by rw [Nat.mul_comm];exact Nat.div_add_mod k B
     rw [Nat.add_assoc,ah] at this
     simp only [World.cell?,Z] at this ⊢
     exact this
 | sl s off len cap G cap' hs hl hc ha=>
  simp only [rowsOf] at h
  split at h
  ·rename_i l rows hL
   split at h
   ·rename_i S
    simp only [sij] at h;subst h
    have m:((rows.drop off).take len).length=len:=by rw [List.length_take,List.length_drop];omega
    obtain ⟨M,c,ty,fr,Y,_,h3,V⟩:=X s _ hL
    by_cases hl0:len=0
    ·subst hl0
     refine ⟨[],⟨by simp,fun i d hi=>by simp at hi⟩,by rw [m];rfl,fun w' _=>?_⟩
     rw [m]
     cases G with
     | none=>rfl
     | some G=>show (loadCells G (0*sz)).run E.P w'=_;rw [Nat.zero_mul];rfl
    ·have D:∀(i:Nat) (d:List IV),((rows.drop off).take len)[i]?=some d->rows[off+i]?=some d:=fun i d hi=>by
      rw [List.getElem?_take] at hi
      split at hi
      ·rwa [List.getElem?_drop] at hi
      ·cases hi
     have J:l=sz:=by
      obtain ⟨d,A⟩:∃d,((rows.drop off).take len)[0]?=some d:=⟨_,List.getElem?_eq_getElem (by rw [m];omega)⟩
      rw [<-(V _ d (D 0 d A)).1,q 0 d A]
     subst J
     obtain ⟨rfl,_⟩:=ha.resolve_left od
     refine ⟨_,Yk (f:=fun k=>c.getD ((C.φ s).base+off*l+k) undef) q (fun i d hi j x I=>?_),by rw [m];rfl,fun w' Z=>ZJ (fun k T=>?_) _ _⟩
     ·obtain ⟨u,U,h6⟩:=(V _ d (D i d hi)).2 j x I
      rw [show (C.φ s).base+off*l+(i*l+j)=(C.φ s).base+(off+i)*l+j by rw [Nat.add_mul];omega,Yg U]
      exact h6
     ·rw [m] at T
      have U:(off+len)*l<=rows.length*l:=Nat.mul_le_mul_right _ S
      rw [Nat.add_mul] at U
      have Q:(C.φ s).base+off*l+k<c.size:=by omega
      rw [M]
      simp only [World.cell?,Z,Y]
      simp [Q]
   ·cases h
  ·rename_i aj l rows hL
   split at h
   ·rename_i S
    simp only [sij] at h;subst h
    have m:((rows.drop off).take len).length=len:=by rw [List.length_take,List.length_drop];omega
    obtain ⟨M,c,ty,fr,Y,_,h3,V⟩:=(X s _ hL).1
    by_cases hl0:len=0
    ·subst hl0
     refine ⟨[],⟨by simp,fun i d hi=>by simp at hi⟩,by rw [m];rfl,fun w' _=>?_⟩
     rw [m]
     cases G with
     | none=>rfl
     | some G=>show (loadCells G (0*sz)).run E.P w'=_;rw [Nat.zero_mul];rfl
    ·have D:∀(i:Nat) (d:List IV),((rows.drop off).take len)[i]?=some d->rows[off+i]?=some d:=fun i d hi=>by
      rw [List.getElem?_take] at hi
      split at hi
      ·rwa [List.getElem?_drop] at hi
      ·cases hi
     have J:l=sz:=by
      obtain ⟨d,A⟩:∃d,((rows.drop off).take len)[0]?=some d:=⟨_,List.getElem?_eq_getElem (by rw [m];omega)⟩
      rw [<-(V _ d (D 0 d A)).1,q 0 d A]
     subst J
     obtain ⟨rfl,_⟩:=ha.resolve_left od
     refine ⟨_,Yk (f:=fun k=>c.getD ((C.φ s).base+off*l+k) undef) q (fun i d hi j x I=>?_),by rw [m];rfl,fun w' Z=>ZJ (fun k T=>?_) _ _⟩
     ·obtain ⟨u,U,h6⟩:=(V _ d (D i d hi)).2 j x I
      rw [show (C.φ s).base+off*l+(i*l+j)=(C.φ s).base+(off+i)*l+j by rw [Nat.add_mul];omega,Yg U]
      exact h6
     ·rw [m] at T
      have U:(off+len)*l<=rows.length*l:=Nat.mul_le_mul_right _ S
      rw [Nat.add_mul] at U
      have Q:(C.φ s).base+off*l+k<c.size:=by omega
      rw [M]
      simp only [World.cell?,Z,Y]
      simp [Q]
   ·cases h
  ·cases h
 | esl G=>
  simp only [rowsOf,sij] at h;subst h
  refine ⟨[],⟨by simp,fun i d hi=>by simp at hi⟩,rfl,fun w' _=>?_⟩
  cases G with
  | none=>rfl
  | some G=>show (loadCells G (0*sz)).run E.P w'=_;rw [Nat.zero_mul];rfl
 | nsl=>
  simp only [rowsOf,sij] at h;subst h
  exact ⟨[],⟨by simp,fun i d hi=>by simp at hi⟩,rfl,fun w' _=>rfl⟩
 | _=>cases h
end
theorem VJ {C:Ctx} {c:Array Value} {base sz:Nat} {rows rs:List (List IV)} {b:List Value} (A:Flat C c base sz rows) (r:Y8 C b sz rs) {k:Nat} (G:k+rs.length<=rows.length) :
  base+k*sz+b.length<=c.size/\Flat C (seg c (base+k*sz) b) base sz (splice rows k rs):=by
 have d:base+k*sz+b.length<=c.size:=by
  have D:=A.1
  have h:(k+rs.length)*sz<=rows.length*sz:=Nat.mul_le_mul_right sz G
  rw [Nat.add_mul] at h
  rw [r.1];omega
 refine ⟨d,by rw [zK d,YU G];exact A.1,fun i m hi=>?_⟩
 rw [vz od] at hi
 split at hi
 ·rename_i D
  obtain ⟨h,w⟩:=r.2 _ m hi
  refine ⟨h,fun j x q=>?_⟩
  obtain ⟨u,s,B⟩:=w j x q
  refine ⟨u,?_,B⟩
  have l:j<sz:=by rw [<-h];exact zl q
  have I:=vT (zl hi) l
  have Q:i*sz=k*sz+(i - k)*sz:=by rw [<-Nat.add_mul];congr 1;omega
  rw [yV d,if_pos (by rw [r.1];omega),<-s]
  congr 1
  omega
 ·rename_i D
  obtain ⟨h,w⟩:=A.2 i m hi
  refine ⟨h,fun j x q=>?_⟩
  obtain ⟨u,s,B⟩:=w j x q
  refine ⟨u,?_,B⟩
  have l:j<sz:=by rw [<-h];exact zl q
  rw [yV d,if_neg,s]
  rintro ⟨O,J⟩
  by_cases h8:i<k
  ·have:=vT h8 l;omega
  ·have M:(k+rs.length)*sz<=i*sz:=Nat.mul_le_mul_right sz od
   rw [Nat.add_mul] at M
   rw [r.1] at J
   omega
theorem z0s {C:Ctx} {c:Array Value} {base sz:Nat} {rows rs:List (List IV)} {b:List Value} (I:Flat C c base sz rows) (A:Y8 C b sz rs)
  (D:base+(rows.length+rs.length)*sz<=c.size):Flat C (seg c (base+rows.length*sz) b) base sz (rows++rs):=by
 have d:base+rows.length*sz+b.length<=c.size:=by rw [Nat.add_mul] at D;rw [A.1];omega
 refine ⟨by rw [zK d,lla];exact D,fun i m hi=>?_⟩
 rcases Nat.lt_or_ge i rows.length with r | r
 ·rw [List.getElem?_append_left r] at hi
  obtain ⟨l,w⟩:=I.2 i m hi
  refine ⟨l,fun j x q=>?_⟩
  obtain ⟨u,s,B⟩:=w j x q
  refine ⟨u,?_,B⟩
  have h:j<sz:=by rw [<-l];exact zl q
  have:=vT r h
  rw [yV d,if_neg od,s]
 ·rw [List.getElem?_append_right r] at hi
  obtain ⟨l,w⟩:=A.2 _ m hi
  refine ⟨l,fun j x q=>?_⟩
  obtain ⟨u,s,B⟩:=w j x q
  refine ⟨u,?_,B⟩
  have h:j<sz:=by rw [<-l];exact zl q
  have G:=vT (zl hi) h
  have J:i*sz=rows.length*sz+(i - rows.length)*sz:=by rw [<-Nat.add_mul];congr 1;omega
  rw [yV d,if_pos (by rw [A.1];omega),<-s]
  congr 1
  omega
def WS (C:Ctx) (s:Nat):Ctx:=⟨C.w,C.φ,C.L.set s .dead,C.X⟩
theorem VK {C:Ctx} {s b:Nat} (h:(WS C s).mine b):C.mine b/\∃t k,t≠s/\C.L[t]?=some k/\k.alive=true/\(C.φ t).blk=b:=by
 obtain ⟨t,l,j,ha,rfl⟩:=h
 rcases zL j with ⟨m,d⟩ | ⟨_,d,_⟩
 ·exact ⟨⟨t,l,d,ha,rfl⟩,t,l,m,d,ha,rfl⟩
 ·subst d;cases ha
theorem YX (C:Ctx) (s:Nat):Ext C (WS C s) where
 size:=Nat.le_refl _
 frame:=fun _ _ _=>rfl
 sub:=fun b h=>.inl (VK h).1
 slot:=fun _ _=>rfl
 bo:=fun t m=>by
  obtain ⟨l,d,j⟩:=m
  by_cases hts:t=s
  ·subst hts;exact ⟨.dead,List.getElem?_set_self (zk d),rfl⟩
  ·exact ⟨l,(List.getElem?_set_ne (Ne.symm hts)).trans d,j⟩
 len:=by simp [WS]
 cap:=fun b c e fr h=>⟨c,e,fr,h,rfl⟩
 ex:=rfl
 os:=rfl
 tape:=rfl
 output:=rfl
theorem jy {g0:Nat} {C:Ctx} {s:Nat} (wf:Wf g0 C):Wf g0 (WS C s) where
 inj:=fun t u w A B r at_ m j=>by
  rcases zL B with ⟨_,l⟩ | ⟨_,l,_⟩
  ·rcases zL r with ⟨_,d⟩ | ⟨_,d,_⟩
   ·exact wf.inj t u w A l d at_ m j
   ·subst d;cases m
  ·subst l;cases at_
 lo:=fun b h=>wf.lo b (VK h).1
 apart:=fun b q h=>wf.apart b q (VK h).1
 exlo:=wf.exlo
 g:=wf.g
theorem Vf {C:Ctx} {s:Nat} (d:Sim C):Sim (WS C s):=by
 intro t l h
 rcases zL h with ⟨_,b⟩ | ⟨_,b,_⟩
 ·exact (d t l b).mono (YX C s) b rfl
 ·subst b;trivial
def ZZ (C:Ctx):Ctx:=⟨C.w.drew,C.φ,C.L,C.X⟩
theorem zA (C:Ctx):Ext C (ZZ C):=⟨Nat.le_refl _,fun _ _ _=>rfl,fun _ h=>.inl h,fun _ _=>rfl,fun _ h=>h,Nat.le_refl _,fun b c e fr h=>⟨c,e,fr,h,rfl⟩,rfl,rfl,rfl,rfl⟩
theorem Zu {g0:Nat} {C:Ctx} (wf:Wf g0 C):Wf g0 (ZZ C):=⟨wf.inj,wf.lo,wf.apart,wf.exlo,wf.g⟩
theorem Zc {C:Ctx} (b:Sim C):Sim (ZZ C):=fun s k d=>(b s k d).mono (zA C) d rfl
theorem Post.of_ext {E:Env} {C C1:Ctx} {K:IV->List Blk->Prop} {v:Value} {w':World} (h:Ext C C1) (s:C1.X=C.X) (u:Post E C1 K v w'):Post E C K v w':=by
 obtain ⟨r,L',b,q,d,l,j,m⟩:=u
 rw [s] at d l j m
 exact ⟨r,L',b,q,d,l,h.trans j,m⟩
def moveφ (C:Ctx) (t g base sz:Nat):Nat->Loc:=fun s=>if s=g then ⟨(C.φ t).blk,base,sz⟩ else C.φ s
def moveC (C:Ctx) (t g base sz:Nat) (o:Obj) (k:Blk):Ctx:=⟨setW C.w (C.φ t).blk o,moveφ C t g base sz,zy (C.L.set t .dead) g k,C.X⟩
theorem Vw {C:Ctx} {t g s:Nat} {k k0 l:Blk} (hg:Free C.L g) (hs:C.L[t]?=some k0) (m:k0.alive=true) (h:(zy (C.L.set t .dead) g k)[s]?=some l) (ha:l.alive=true) :
  (s≠g/\s≠t/\C.L[s]?=some l)\/(s=g/\l=k):=by
 have q:k0.born=true:=by cases k0<;>first | rfl | cases m
 rcases yE (Yp hg hs q) h with ⟨j,b⟩ | ⟨j,b⟩
 ·rcases zL b with ⟨r,d⟩ | ⟨_,d,_⟩
  ·exact .inl ⟨j,r,d⟩
  ·subst d;cases ha
 ·exact .inr ⟨j,b⟩
section
variable {C:Ctx} {t g base sz:Nat} {k k0:Blk} {c c':Array Value} {ty:TypeId} {fr0:Nat × Nat} (hg:Free C.L g) (hs:C.L[t]?=some k0) (ha:k0.alive=true) (hc:C.w.heap[(C.φ t).blk]?=some (.cells c ty fr0)) (hsz:c'.size=c.size)
include hg hs ha hc hsz
theorem jC {o:Obj} {b:Nat} (h:(moveC C t g base sz o k).mine b):C.mine b:=by
 obtain ⟨s,l,m,d,rfl⟩:=h
 rcases Vw hg hs ha m d with ⟨j,_,q⟩ | ⟨j,_⟩
 ·exact ⟨s,l,q,d,by simp [moveC,moveφ,j]⟩
 ·exact ⟨t,k0,hs,ha,by simp [moveC,moveφ,j]⟩
theorem WP:Ext C (moveC C t g base sz (.cells c' ty fr0) k) where
 size:=by simp [moveC,setW]
 frame:=fun b _ u=>zS (fun h=>u ⟨t,k0,hs,ha,h.symm⟩)
 sub:=fun b h=>.inl (jC hg hs ha hc hsz h)
 slot:=fun s h=>by simp [moveC,moveφ,WM hg h]
 bo:=fun s h=>by
  have j:=WM hg h
  obtain ⟨l,m,q⟩:=h
  by_cases hst:s=t
  ·subst hst;exact ⟨.dead,z0j j (List.getElem?_set_self (zk m)),rfl⟩
  ·exact ⟨l,z0j j ((List.getElem?_set_ne (Ne.symm hst)).trans m),q⟩
 len:=by
  have:=z1e (L:=C.L.set t .dead) (g:=g) (k:=k)
  rw [lls] at this
  exact this
 cap:=fun b d r fr h=>by
  by_cases hb:b=(C.φ t).blk
  ·subst hb
   rw [hc] at h
   obtain ⟨rfl,rfl,rfl⟩:=by simpa using h
   exact ⟨c',ty,fr0,zo (Array.getElem?_eq_some_iff.1 hc).1,hsz⟩
  ·exact ⟨d,r,fr,(zS hb).trans h,rfl⟩
 ex:=rfl
 os:=rfl
 tape:=rfl
 output:=rfl
theorem z4R {g0:Nat} {o:Obj} (wf:Wf g0 C):Wf g0 (moveC C t g base sz o k) where
 inj:=fun s u A B q G as r d=>by
  rcases Vw hg hs ha q as with ⟨l,I,D⟩ | ⟨l,_⟩<;>rcases Vw hg hs ha G r with ⟨j,J,w⟩ | ⟨j,_⟩
  ·simp only [moveC,moveφ,l,j,if_false] at d
   exact wf.inj s u A B D w as r d
  ·subst j
   simp only [moveC,moveφ,l,if_false,if_true] at d
   exact absurd (wf.inj s t A k0 D hs as ha d) I
  ·subst l
   simp only [moveC,moveφ,j,if_false,if_true] at d
   exact absurd (wf.inj u t B k0 w hs r ha d.symm) J
  ·omega
 lo:=fun b h=>wf.lo b (jC hg hs ha hc hsz h)
 apart:=fun b m h=>wf.apart b m (jC hg hs ha hc hsz h)
 exlo:=fun b m=>by have:=wf.exlo b m;simpa [moveC,setW] using this
 g:=by have:=wf.g;simpa [moveC,setW] using this
theorem z3d {g0:Nat} (wf:Wf g0 C) (d:Sim C) (r:Zp (moveC C t g base sz (.cells c' ty fr0) k) g k):Sim (moveC C t g base sz (.cells c' ty fr0) k):=by
 intro s l q
 by_cases hla:l.alive=true
 ·rcases Vw hg hs ha q hla with ⟨m,b,j⟩ | ⟨m,b⟩
  ·exact (d s l j).mono (WP hg hs ha hc hsz) j (zS fun h=>b (wf.inj s t l k0 j hs hla ha h))
  ·subst m;subst b;exact r
 ·cases l<;>first | trivial | (exfalso;exact hla rfl)
end
section
variable {E:Env} {C:Ctx} {a:Act} {e:Opd->IV} {o:Oper} {K:IV->List Blk->Prop}
theorem Ji {b:List Value} {sz:Nat} {rs:List (List IV)} (h:Y8 C b sz rs) (l:Array Value):Flat C (b.toArray++l) 0 sz rs:=by
 refine ⟨by simp [h.1],fun i d hi=>⟨(h.2 i d hi).1,fun j x r=>?_⟩⟩
 obtain ⟨u,m,q⟩:=(h.2 i d hi).2 j x r
 refine ⟨u,?_,q⟩
 rw [Nat.zero_add,Array.getElem?_append_left (by simpa using zl m)]
 simpa using m
theorem Y8.mono {C':Ctx} (h:Ext C C') {b:List Value} {sz:Nat} {rs:List (List IV)} (l:Y8 C b sz rs):Y8 C' b sz rs:=
 ⟨l.1,fun i d hi=>⟨(l.2 i d hi).1,fun j x m=>let ⟨u,h1,h2⟩:=(l.2 i d hi).2 j x m;⟨u,h1,h2.mono h⟩⟩⟩
theorem run_append_grow' {P:Program} {t1 t2 ty l:TypeId} {i:TypeInfo} {z:Value} {w:World} (J:P.underlying t1=some (.slice l)) (m:∃d,P.underlying t2=some d/\∀k,d≠.int k)
  (hi:P.info? l=some i) (A:i.zero=some z) {base:Option Addr} {sLen sCap n:Nat} {q:Value} {olds b:List Value} (D:Builtin.lenOf q=pure n)
  (h:(Builtin.firstCells i.size sLen (.slice base sLen sCap)).run P w.drew=.ok olds.toArray w.drew) (j:(Builtin.firstCells i.size n q).run P w.drew=.ok b.toArray w.drew)
  (hg:sCap<sLen+n) (r:0<i.bytes) (O:(sLen+n)*i.bytes<=70368744177664) :
  ∃cap,(sLen+n<=cap/\cap<=9223372036854775807)/\(Builtin.append_ #[t1,t2] ty #[.slice base sLen sCap,q]).run P w =
   .ok (.slice (some ⟨w.heap.size,0,none⟩) (sLen+n) cap) (Zm w.drew (.cells ((olds++b).toArray++Builtin.zeroCells z.cells (cap - (sLen+n))) l)):=by
 have I:¬(sLen+n<=sCap):=by omega
 have M:(sLen+n)*1<=(sLen+n)*i.bytes:=Nat.mul_le_mul_left _ r
 have B:¬(9223372036854775807<((sLen:Int)+(n:Int))):=by omega
 have u:¬(281474976710656<Builtin.nextslicecap (sLen+n) sCap*i.bytes):=by
  have:=growslice_fits (need:=sLen+n) (old:=sCap) (bytes:=i.bytes) hg od
  omega
 obtain ⟨d,hd,G⟩:=m
 refine ⟨grownCap w (sLen+n) sCap l,⟨grownCap_ge w _ _ _,grownCap_le_maxLen w _ _ _ (by show _<=2^63 - 1;omega)⟩,?_⟩
 have s:(underlying t2).run P w=.ok d w:=by simp [underlying,hd]
 simp only [Builtin.append_]
 simp [run_underlying J,sizeOf,typeInfo,zeroValue,hi,A,D,I,B,u,Question.forced,newRow,grownCap,s]
 rw [h]
 simp only [Result.andThen_ok]
 rw [j]
 simp only [Result.andThen_ok]
 have e:olds.toArray++b.toArray=(olds++b).toArray:=by simp
 rw [<-Array.append_assoc,e]
 rfl
theorem run_append_room' {P:Program} {t1 t2 ty D:TypeId} {i:TypeInfo} {w:World} (O:P.underlying t1=some (.slice D)) (u:∃d,P.underlying t2=some d/\∀k,d≠.int k)
  (hi:P.info? D=some i) {b k sLen sCap n:Nat} {A:Value} {h:List Value} (J:Builtin.lenOf A=pure n) (l:(Builtin.firstCells i.size n A).run P w=.ok h.toArray w)
  (hg:sLen+n<=sCap) {c:Array Value} {e:TypeId} {fr0:Nat × Nat} (hc:w.heap[b]?=some (.cells c e fr0)) {G:Bool} (q:z01 G c.size fr0) (s:k+sLen*i.size+h.length<=c.size) (j:∀v∈h,v.oneCell'=true) :
  (Builtin.append_ #[t1,t2] ty #[.slice (some ⟨b,k,none⟩) sLen sCap,A]).run P w=.ok (.slice (some ⟨b,k,none⟩) (sLen+n) sCap) (setW w b (.cells (seg c (k+sLen*i.size) h) e fr0)):=by
 obtain ⟨d,hd,M⟩:=u
 have B:(underlying t2).run P w=.ok d w:=by simp [underlying,hd]
 have r:=Ze P b (k+sLen*i.size) e fr0 h 0 c w hc q (by simpa using s) j
 simp only [Nat.add_zero] at r
 have m:(⟨b,k,none⟩:Addr).add (sLen*i.size)=⟨b,k+sLen*i.size,none⟩:=by
  unfold Addr.add;split
  ·rename_i I;rw [I];rfl
  ·rfl
 simp only [Builtin.append_]
 simp [run_underlying O,sizeOf,typeInfo,hi,J,hg,B,l,m,r]
 rw [<-List.append_assoc]
 exact WB hc
theorem Zn {P:Program} {t1 t2 ty m:TypeId} {i:TypeInfo} {w:World} (s:P.underlying t1=some (.slice m)) (h:∃d,P.underlying t2=some d/\∀k,d≠.int k)
  (hi:P.info? m=some i) {base:Option Addr} {cap:Nat} {j:Value} (q:Builtin.lenOf j=pure 0) (b:(Builtin.firstCells i.size 0 j).run P w=.ok #[] w) :
  (Builtin.append_ #[t1,t2] ty #[.slice base 0 cap,j]).run P w=.ok (.slice base 0 cap) w:=by
 obtain ⟨d,hd,r⟩:=h
 have l:(underlying t2).run P w=.ok d w:=by simp [underlying,hd]
 simp only [Builtin.append_]
 cases base<;>simp [run_underlying s,sizeOf,typeInfo,hi,q,l,b,storeCells]
theorem ZQ {P:Program} {c:Call} {b:Builtin} (d:o.op=.call c) (h:c.callee=.builtin b) (w:World) :
  (execOp a.eval o).run P w=(builtin b c.argTypes o.type (c.args.map fun | .const _=>true | _=>false) (c.args.map a.eval)).run P w:=by
 unfold execOp
 rw [d]
 simp only [resolve,h]
 rfl
theorem wE {g:Nat} (hg:Free C.L g) (wf:Wf E.g0 C) (T:Sim C) (he:Zr C a e) {c:Call} {s x:Operand} {s' x':Opd} {el:TypeId} {n m:Nat} {z:List IV} (ho:o.op=.call c) (l7:c.callee=.builtin .append)
  (dm:c.args.toList=[s,x]) (h1:(c.argTypes[0]?).bind E.P.underlying=some (.slice el)) (h2:∃d,(c.argTypes[1]?).bind E.P.underlying=some d/\∀k,d≠.int k)
  (hs:opd s=some s') (hx:opd x=some x') (hn:zI E.P el=some n) (hm:Ws E.P el=some m) (hz:zeroCells E.P el=some z) (mi:0<m) (nz:0<n) (lh:z.length=n)
  (h:Zl n m (e s') (e x') g (fun L k=>zy L g k) C.L K):Good E C a o K:=by
 obtain ⟨i,zv,hi,lw,mg,ny⟩:=zJ hz
 have D:i.size=n:=by unfold zI at hn;rw [hi] at hn;exact Option.some.inj hn
 have dh:i.bytes=m:=by unfold Ws at hm;rw [hi] at hm;exact Option.some.inj hm
 rw [obs] at h1
 obtain ⟨t1,lq,az⟩:=h1
 obtain ⟨d,h2,hd⟩:=h2
 rw [obs] at h2
 obtain ⟨t2,kw,kz⟩:=h2
 have ae:∃d,E.P.underlying t2=some d/\∀k,d≠.int k:=⟨d,kz,hd⟩
 have J:=he s s' hs
 have lm:=he x x' hx
 unfold Zl at h
 split at h
 ·exact h.elim
 ·rename_i rs l9
  obtain ⟨au,h⟩:=h
  obtain ⟨G,V,af,I⟩:=Yz (E:=E) T lm l9 (fun A hr=>(au A hr).1)
  have bz:=V.one (fun A hr=>(au A hr).2)
  have Z:∀{v:Value} {w':World},(Builtin.append_ #[t1,t2] o.type #[a.eval s,a.eval x]).run E.P C.w=.ok v w'->Post E C K v w'->Good E C a o K:=by
   intro v w' hr hp
   refine .inl ⟨v,w',?_,hp⟩
   rw [ZQ ho l7]
   have e1:c.args.map a.eval=#[a.eval s,a.eval x]:=by
    apply Array.ext';simp [dm]
   have e2:(Builtin.append_ c.argTypes o.type #[a.eval s,a.eval x])=(Builtin.append_ #[t1,t2] o.type #[a.eval s,a.eval x]):=by
    unfold Builtin.append_
    rw [lq,kw]
    rfl
   rw [e1]
   show (do pure (Next.value (<-Builtin.append_ c.argTypes o.type #[a.eval s,a.eval x])):Sem Next).run E.P C.w=_
   rw [e2,Sem.run_bind,hr]
   rfl
  have ah:∀{base:Option Addr} {sCap:Nat} {t:Nat} {olds:List Value} {C1:Ctx},a.eval s=.slice base t sCap->Ext C C1->C1.X=C.X->C1.w=C.w.drew->Wf E.g0 C1->Sim C1->
    (Builtin.firstCells n t (.slice base t sCap)).run E.P C.w.drew=.ok olds.toArray C.w.drew->sCap<t+rs.length->(t+rs.length)*m<=70368744177664->
    ∀{rows':List (List IV)},Y8 C olds n rows'->rows'.length=t->Free C1.L g->K (.sl g 0 (t+rs.length) (t+rs.length)) (zy C1.L g (.cells n (rows'++rs)))->Good E C a o K:=by
   intro base sCap t olds C1 gz bn hX hw ku iy gu bf Y rows' ag U ik hK
   obtain ⟨cap,⟨ig,di⟩,hr⟩:=run_append_grow' (P:=E.P) (t1:=t1) (t2:=t2) (ty:=o.type) (w:=C.w) az ae hi lw (base:=base) (sLen:=t) (sCap:=sCap) af (by rw [D];exact gu)
    (by rw [D];exact I _ rfl) bf (by rw [dh];exact mi) (by rw [dh];exact Y)
   rw [<-gz] at hr
   refine Z hr (Post.of_ext bn hX ?_)
   have gm:Y8 C (olds++G) n (rows'++rs):=by
    refine ⟨by simp [ag.1,V.1,Nat.add_mul],fun i A q=>?_⟩
    rcases Nat.lt_or_ge i rows'.length with h5 | h5
    ·rw [List.getElem?_append_left h5] at q
     obtain ⟨h6,h7⟩:=ag.2 i A q
     refine ⟨h6,fun j y hj=>?_⟩
     obtain ⟨u,h8,h9⟩:=h7 j y hj
     exact ⟨u,by rw [List.getElem?_append_left (zl h8)];exact h8,h9⟩
    ·rw [List.getElem?_append_right h5] at q
     obtain ⟨h6,h7⟩:=V.2 _ A q
     refine ⟨h6,fun j y hj=>?_⟩
     obtain ⟨u,h8,h9⟩:=h7 j y hj
     refine ⟨u,?_,h9⟩
     have e1:i*n=rows'.length*n+(i - rows'.length)*n:=by rw [<-Nat.add_mul];congr 1;omega
     rw [List.getElem?_append_right (by rw [ag.1];omega),<-h8]
     congr 1
     rw [ag.1];omega
   have Q:=Ji (gm.mono bn) (Builtin.zeroCells zv.cells (cap - (t+rs.length)))
   have hsz:((olds++G).toArray++Builtin.zeroCells zv.cells (cap - (t+rs.length))).size=cap*n:=by
    have e1:zv.cells.size=n:=by rw [<-mg,lh]
    have e2:cap*n=(t+rs.length)*n+(cap - (t+rs.length))*n:=by rw [<-Nat.add_mul];congr 1;omega
    rw [Array.size_append,size_zeroCells,e1,e2]
    simp [ag.1,V.1,U,Nat.add_mul]
   have cu:=YQ (E:=E) (C:=C1) (K:=K) (c:=(olds++G).toArray++Builtin.zeroCells zv.cells (cap - (t+rs.length))) (e:=el) ik ku iy Q
    (YK (C:=C1) ik (e:=el) (k:=.cells n (rows'++rs)) (sz:=n) (Nat.le_refl _) ig (by rw [hsz];exact Nat.le_refl _) di) hK
   rw [hw] at cu
   exact cu
  have bu:∀{base:Option Addr},a.eval s=.slice base 0 0->(rs=[]->VR C (e s') (.slice base 0 0)->K (e s') C.L)->
    (rs≠[]->rs.length*m<=70368744177664/\K (.sl g 0 rs.length rs.length) (zy C.L g (.cells n rs)))->Good E C a o K:=by
   intro base Y h5 h6
   by_cases hr:rs=[]
   ·subst hr
    have h7:G=[]:=List.eq_nil_of_length_eq_zero (by rw [V.1];simp)
    subst h7
    have S:=Zn (P:=E.P) (t1:=t1) (t2:=t2) (ty:=o.type) (w:=C.w) az ae hi (base:=base) (cap:=0) af (by rw [D];exact I _ rfl)
    rw [<-Y] at S
    rw [Y] at J
    refine Z S (Zf wf T ?_ (h5 rfl J))
    rw [Y];exact J
   ·obtain ⟨h7,h8⟩:=h6 hr
    have h9:0<rs.length:=List.length_pos_iff.2 hr
    refine ah (C1:=ZZ C) (olds:=[]) (rows':=[]) Y (zA C) rfl rfl (Zu wf) (Zc T) ?_ od (by rw [Nat.zero_add];exact h7) ⟨by simp,fun i A hi=>by simp at hi⟩ rfl hg (by simpa [ZZ] using h8)
    cases base with
    | none=>rfl
    | some b=>show (loadCells b (0*n)).run E.P _=_;rw [Nat.zero_mul];rfl
  split at h
  ·rename_i bg
   rw [bg] at J
   generalize Y:a.eval s=sv at J
   cases J
   exact bu Y (fun h5 _=>h.1 h5) h.2
  ·rename_i bg
   rw [bg] at J
   generalize Y:a.eval s=sv at J
   cases J
   exact bu Y (fun h5 _=>h.1 h5) h.2
  ·rename_i t off len cap bg
   rw [bg] at J
   generalize Y:a.eval s=sv at J
   cases J with
   | sl _ _ _ _ av cap' iq pq mr ha gq=>
   split at h
   ·rename_i l rows hL
    obtain ⟨rfl,ng,h⟩:=h
    obtain ⟨dw,c0,ty,fr0,M,aj,Q⟩:=T t _ hL
    have U:((rows.drop off).take len).length=len:=by rw [List.length_take,List.length_drop];omega
    by_cases hcap0:cap'=0
    ·subst hcap0
     have gp:cap=0:=by omega
     have mf:len=0:=by omega
     subst gp mf
     split at h
     ·rename_i dn
      have hr:rs=[]:=List.eq_nil_of_length_eq_zero od
      subst hr
      have h7:G=[]:=List.eq_nil_of_length_eq_zero (by rw [V.1];simp)
      subst h7
      have S:=Zn (P:=E.P) (t1:=t1) (t2:=t2) (ty:=o.type) (w:=C.w) az ae hi (base:=av) (cap:=0) af (by rw [D];exact I _ rfl)
      rw [<-Y] at S
      refine Z S (Zf wf T (r:=.sl t off 0 0) ?_ ?_)
      ·rw [Y];exact .sl t off 0 0 av 0 iq (Nat.le_refl _) (Nat.le_refl _) (.inl rfl) (by decide)
      ·have e1:splice rows (off+0) ([]:List (List IV))=rows:=by simp [splice]
       rw [e1] at h
       have e2:C.L.set t (.cells l rows)=C.L:=by
        apply List.ext_getElem?
        intro j
        rw [List.getElem?_set]
        split
        ·rename_i h8;subst h8;rw [hL,if_pos (zk hL)]
        ·rfl
       rw [e2] at h
       simpa using h
     ·rename_i dn
      obtain ⟨ed,hK⟩:=h
      refine ah (C1:=WS (ZZ C) t) (olds:=[]) (rows':=[]) Y ((zA C).trans (YX _ t)) rfl rfl (jy (Zu wf)) (Vf (Zc T)) ?_ od ed ⟨by simp,fun i A hi=>by simp at hi⟩ rfl (Yp hg hL rfl) ?_
      ·cases av with
       | none=>rfl
       | some b=>show (loadCells b (0*_)).run E.P _=_;rw [Nat.zero_mul];rfl
      ·simpa [WS,ZZ] using hK
    ·obtain ⟨rfl,c1,e1,pg,iw,ai⟩:=ha.resolve_left hcap0
     rw [M] at iw
     obtain ⟨rfl,rfl,rfl⟩:=by simpa using iw
     rw [dw] at ai Y
     have ak:(C.φ t).base+off*l+len*l=(C.φ t).base+(off+len)*l:=by rw [Nat.add_mul];omega
     split at h
     ·rename_i dn
      obtain ⟨B,bi⟩:=VJ (C:=C) Q V (k:=off+len) od
      have S:=run_append_room' (P:=E.P) (t1:=t1) (t2:=t2) (ty:=o.type) (w:=C.w) az ae hi (b:=(C.φ t).blk) (k:=(C.φ t).base+off*l) (sLen:=len) (sCap:=cap') af
       (by rw [D];exact I _ rfl) od M aj (by rw [D,ak];exact B) bz
      rw [D,ak,<-Y] at S
      refine Z S (Wu wf T hL M aj (zK B) bi ?_ h)
      refine .sl t off (len+rs.length) cap _ cap' (VD (k:=.cells _ _) rfl iq) dn mr (.inr ⟨by simp [Vb,dw],seg c0 ((C.φ t).base+(off+len)*l) G,ty,fr0,?_,?_⟩) gq
      ·exact zo (Array.getElem?_eq_some_iff.1 M).1
      ·rw [zK B];show (C.φ t).base+(off+cap')*(C.φ t).sz<=_;rw [dw];exact ai
     ·rename_i ni
      obtain ⟨ed,hK⟩:=h
      have O:Flat C c0 ((C.φ t).base+off*l) l ((rows.drop off).take len):=by
       refine ⟨?_,fun i A q=>?_⟩
       ·rw [U]
        have h5:=Q.1
        have h6:(off+len)*l<=rows.length*l:=Nat.mul_le_mul_right _ od
        rw [Nat.add_mul] at h6;omega
       ·rw [List.getElem?_take] at q
        split at q
        ·rw [List.getElem?_drop] at q
         obtain ⟨h5,h6⟩:=Q.2 _ A q
         refine ⟨h5,fun j y hj=>?_⟩
         obtain ⟨u,h7,h8⟩:=h6 j y hj
         refine ⟨u,?_,h8⟩
         rw [<-h7];congr 1;rw [Nat.add_mul];omega
        ·cases q
      by_cases bf:len+rs.length<=cap'
      ·have ax:(C.φ t).base+off*l+(((rows.drop off).take len).length+rs.length)*l<=c0.size:=by
        rw [U]
        have h6:(len+rs.length)*l<=cap'*l:=Nat.mul_le_mul_right _ bf
        rw [Nat.add_mul off] at ai
        omega
       have eu:=z0s O V ax
       rw [U,ak] at eu
       have B:(C.φ t).base+(off+len)*l+G.length<=c0.size:=by
        rw [U,Nat.add_mul] at ax
        rw [V.1,<-ak];omega
       have S:=run_append_room' (P:=E.P) (t1:=t1) (t2:=t2) (ty:=o.type) (w:=C.w) az ae hi (b:=(C.φ t).blk) (k:=(C.φ t).base+off*l) (sLen:=len) (sCap:=cap') af
        (by rw [D];exact I _ rfl) bf M aj (by rw [D,ak];exact B) bz
       rw [D,ak,<-Y] at S
       refine Z S ⟨.sl g 0 (len+rs.length) (len+rs.length),zy (C.L.set t .dead) g (Blk.cells l ((rows.drop off).take len++rs)),moveφ C t g ((C.φ t).base+off*l) l,hK,
        z4R hg hL rfl M (zK B) wf,z3d hg hL rfl M (zK B) wf T ?_,WP hg hL rfl M (zK B),?_⟩
       ·have ay:=eu.mono (WP (base:=(C.φ t).base+off*l) (sz:=l) (k:=.cells l ((rows.drop off).take len++rs)) hg hL rfl M (zK B))
        refine ⟨by simp [moveC,moveφ],seg c0 ((C.φ t).base+(off+len)*l) G,ty,fr0,?_,by rw [zK B];exact aj,?_,?_⟩
        ·simp only [moveC,moveφ,if_true];exact zo (Array.getElem?_eq_some_iff.1 M).1
        ·simpa [moveC,moveφ] using ay.1
        ·intro i A q
         refine ⟨(ay.2 i A q).1,fun j y hj=>?_⟩
         obtain ⟨u,h7,h8⟩:=(ay.2 i A q).2 j y hj
         exact ⟨u,by simpa [moveC,moveφ] using h7,h8⟩
       ·refine .sl g 0 _ _ _ cap' ⟨_,YE (Yp hg hL rfl),rfl⟩ (Nat.le_refl _) bf (.inr ⟨by simp [moveφ],seg c0 ((C.φ t).base+(off+len)*l) G,ty,fr0,?_,?_⟩) gq
        ·simp only [moveφ,if_true];exact zo (Array.getElem?_eq_some_iff.1 M).1
        ·rw [zK B]
         simp only [moveφ,if_true,Nat.zero_add]
         rw [Nat.add_mul] at ai;omega
      ·have ag:Y8 C ((List.range (len*l)).map fun k=>c0.getD ((C.φ t).base+off*l+k) undef) l ((rows.drop off).take len):=by
        have:=Yk (C:=C) (sz:=l) (rs:=(rows.drop off).take len) (f:=fun k=>c0.getD ((C.φ t).base+off*l+k) undef) (fun i A q=>(O.2 i A q).1)
         (fun i A q j y hj=>by
          obtain ⟨u,h7,h8⟩:=(O.2 i A q).2 j y hj
          rw [<-Nat.add_assoc,Yg h7];exact h8)
        rw [U] at this
        exact this
       refine ah (C1:=WS (ZZ C) t) (rows':=(rows.drop off).take len) Y ((zA C).trans (YX _ t)) rfl rfl (jy (Zu wf)) (Vf (Zc T)) ?_ od ed ag U (Yp hg hL rfl)
        (by simpa [WS,ZZ] using hK)
       refine ZJ (fun k hk=>?_) _ _
       have lu:(C.φ t).base+off*l+k<c0.size:=by
        have h6:=O.1
        rw [U] at h6;omega
       have gy:C.w.drew.heap[(C.φ t).blk]?=some (.cells c0 ty fr0):=M
       simp only [World.cell?,gy]
       simp [lu]
   ·exact h.elim
  ·exact h.elim
end
section
variable {E:Env} {C:Ctx} {a:Act} {e:Opd->IV} {o:Oper} {K:IV->List Blk->Prop}
theorem z1t (P:Program) (op:BinOp) (t:TypeId) (x y:Operand) (v u:Value) (w:World) (h:match v with | .int _ _ | .bool _ | .string _=>True | _=>False) :
  (eqGuard op t x y v u).run P w=.ok () w:=by
 cases v<;>first
  | exact h.elim
  | (rw [eqGuard_at_int];rfl)
  | (rw [eqGuard_at_bool];rfl)
  | (rw [eqGuard_at_string];rfl)
theorem zH (h:Sim C) {op:BinOp} {t ty:TypeId} {x y:Operand} (b:o.op=.binOp op t x y ty) {r:IV} {v:Value}
  (hg:match a.eval x with | .int _ _ | .bool _ | .string _=>True | _=>False) (j:(binOp op t (a.eval x) (a.eval y)).run E.P C.w=.ok v C.w) (l:VR C r v) (d:K r C.L):zN E C a o K:=by
 refine zh (s:=do eqGuard op t x y (a.eval x) (a.eval y);binOp op t (a.eval x) (a.eval y)) (v:=v) (w':=C.w) (by unfold execOp;rw [b]) ?_ (zZ l d)
 rw [Sem.run_bind,z1t _ _ _ _ _ _ _ _ hg]
 exact j
theorem zdT {a b:List UInt8}:(a==b)=decide (a=b):=by
 by_cases h:a=b
 ·subst h;simp
 ·simp [h]
theorem zgW {a b:Bool}:(a==b)=decide (a=b):=by cases a<;>cases b<;>rfl
theorem run_eql_bool {P:Program} {t:TypeId} (d:P.underlying t=some .bool) (a b:Bool) (w:World):(binOp .eql t (.bool a) (.bool b)).run P w=.ok (.bool (decide (a=b))) w:=by
 have h:(underlying t).run P w=.ok .bool w:=by simp [underlying,d]
 have:binOp .eql t (.bool a) (.bool b)=(do pure (.bool (<-Op.equal t (.bool a) (.bool b)))):=by simp [binOp]
 rw [this,Sem.run_bind]
 unfold Op.equal Op.maxDepth Op.equalIn
 rw [Sem.run_bind,h]
 simp only [Result.andThen_ok,Sem.run_pure,zgW]
theorem run_neq_bool {P:Program} {t:TypeId} (d:P.underlying t=some .bool) (a b:Bool) (w:World):(binOp .neq t (.bool a) (.bool b)).run P w=.ok (.bool (!decide (a=b))) w:=by
 have h:(underlying t).run P w=.ok .bool w:=by simp [underlying,d]
 have:binOp .neq t (.bool a) (.bool b)=(do pure (.bool (!(<-Op.equal t (.bool a) (.bool b))))):=by simp [binOp]
 rw [this,Sem.run_bind]
 unfold Op.equal Op.maxDepth Op.equalIn
 rw [Sem.run_bind,h]
 simp only [Result.andThen_ok,Sem.run_pure,zgW]
theorem z2P (j:Sim C) (M:Zr C a e) {op:BinOp} {t ty:TypeId} {x y:Operand} {I J:Opd} (u:o.op=.binOp op t x y ty) (T:z8U E.P op t=true)
  (G:opd x=some I) (S:opd y=some J) (h:vU op (e I) (e J) fun v=>K v C.L):zN E C a o K:=by
 have A:=M x I G
 have B:=M y J S
 generalize b:a.eval x=xv at A
 generalize d:a.eval y=yv at B
 generalize e I=ex at *
 generalize e J=ey at *
 unfold vU at h
 split at h
 case h_26=>exact h.elim
 all_goals (cases A;cases B)
 case h_1=>
  obtain ⟨l,m⟩:=h
  refine zH j u (by rw [b];trivial) (v:=.int _ _) ?_ (.int _ _) m
  rw [b,d,binOp_shl]
  unfold Op.shift
  rw [if_neg od]
  rfl
 case h_2=>
  obtain ⟨l,m⟩:=h
  refine zH j u (by rw [b];trivial) (v:=.int _ _) ?_ (.int _ _) m
  rw [b,d,binOp_shr]
  unfold Op.shift
  rw [if_neg od]
  rfl
 case h_6=>
  obtain ⟨rfl,l,m⟩:=h
  refine zH j u (by rw [b];trivial) (v:=.int _ _) ?_ (.int _ _) m
  rw [b,d,binOp_quo]
  unfold Op.intDiv
  rw [if_neg l]
  rfl
 case h_7=>
  obtain ⟨rfl,l,m⟩:=h
  refine zH j u (by rw [b];trivial) (v:=.int _ _) ?_ (.int _ _) m
  rw [b,d,binOp_rem]
  unfold Op.intDiv
  rw [if_neg l]
  rfl
 case h_17=>
  obtain ⟨l,m⟩:=h
  refine zH j u (by rw [b];trivial) (v:=.string _) ?_ (.str _) m
  rw [b,d,binOp_string_add,run_string_add_sum _ _ _ (by simpa [ByteArray.size] using l)]
  congr 2
 case h_18=>exact zH j u (by rw [b];trivial) (v:=.bool _) (by rw [b,d,binOp_string_eql,ByteArray.toList_mk,ByteArray.toList_mk,zdT];rfl) (.bool _) h
 case h_19=>exact zH j u (by rw [b];trivial) (v:=.bool _) (by rw [b,d,binOp_string_neq,ByteArray.toList_mk,ByteArray.toList_mk,zdT];rfl) (.bool _) h
 case h_20=>exact zH j u (by rw [b];trivial) (v:=.bool _) (by rw [b,d,binOp_string_lss,ByteArray.toList_mk,ByteArray.toList_mk];rfl) (.bool _) h
 case h_21=>exact zH j u (by rw [b];trivial) (v:=.bool _) (by rw [b,d,binOp_string_geq,ByteArray.toList_mk,ByteArray.toList_mk];rfl) (.bool _) h
 case h_22=>exact zH j u (by rw [b];trivial) (v:=.bool _) (by rw [b,d,binOp_string_gtr,ByteArray.toList_mk,ByteArray.toList_mk,zdT];rfl) (.bool _) h
 case h_23=>exact zH j u (by rw [b];trivial) (v:=.bool _) (by rw [b,d,binOp_string_leq,ByteArray.toList_mk,ByteArray.toList_mk,zdT];rfl) (.bool _) h
 case h_25=>
  obtain ⟨r,l,m⟩:=h
  have key:∀v:Value,(binOp op t (a.eval x) (a.eval y)).run E.P C.w=.ok v C.w->(match a.eval x with | .float _ _ | .complex _ _ _=>True | _=>False)->VR C r v->zN E C a o K:=fun v O G Q=>by
   refine zh (s:=do eqGuard op t x y (a.eval x) (a.eval y);binOp op t (a.eval x) (a.eval y)) (v:=v) (w':=C.w) (by unfold execOp;rw [u]) ?_ (zZ Q m)
   rw [Sem.run_bind]
   have hg:(eqGuard op t x y (a.eval x) (a.eval y)).run E.P C.w=.ok () C.w:=by
    generalize a.eval x=xv at G
    generalize a.eval y=yv
    unfold eqGuard
    cases xv<;>first | exact G.elim | (cases op<;>rfl)
   rw [hg]
   exact O
  rw [b,d] at key
  unfold JE at l
  split at l
  ·split at l
   ·rename_i D;subst D
    split at l
    case h_11=>cases l
    case h_1=>simp only [oms] at l;obtain ⟨q,hs,rfl⟩:=l;exact key _ (run_float_arith _ _ _ _ _ _ _ hs) trivial (.raw _ rfl)
    case h_2=>simp only [oms] at l;obtain ⟨q,hs,rfl⟩:=l;exact key _ (run_float_arith _ _ _ _ _ _ _ hs) trivial (.raw _ rfl)
    case h_3=>simp only [oms] at l;obtain ⟨q,hs,rfl⟩:=l;exact key _ (run_float_arith _ _ _ _ _ _ _ hs) trivial (.raw _ rfl)
    case h_4=>simp only [oms] at l;obtain ⟨q,hs,rfl⟩:=l;exact key _ (run_float_arith _ _ _ _ _ _ _ hs) trivial (.raw _ rfl)
    all_goals (cases l;refine key (.bool _) ?_ trivial (.bool _);simp [binOp,Op.floatCmp])
   ·cases l
  ·split at l
   ·rename_i D;subst D
    split at l
    ·simp only [oms] at l
     obtain ⟨⟨re,im⟩,hs,rfl⟩:=l
     exact key _ (run_complex_sum C.w .add (.inl rfl) t _ _ _ _ _ re im hs) trivial (.raw _ rfl)
    ·split at l
     ·rename_i D;subst D
      simp only [oms] at l
      obtain ⟨⟨re,im⟩,hs,rfl⟩:=l
      exact key _ (run_complex_mul C.w t _ _ _ _ re im hs) trivial (.raw _ rfl)
     ·cases l
    ·cases l
     refine key (.bool _) ?_ trivial (.bool _)
     simp [binOp,Op.complexOp,Op.Complex.cmp,Op.floatCmp,asBool]
    ·cases l
     refine key (.bool _) ?_ trivial (.bool _)
     simp [binOp,Op.complexOp,Op.Complex.cmp,Op.floatCmp,asBool]
    ·cases l
   ·cases l
  ·cases l
 all_goals (obtain ⟨rfl,m⟩:=h)
 case h_3=>exact zH j u (by rw [b];trivial) (v:=.int _ _) (by rw [b,d,binOp_add];rfl) (.int _ _) m
 case h_4=>exact zH j u (by rw [b];trivial) (v:=.int _ _) (by rw [b,d,binOp_sub];rfl) (.int _ _) m
 case h_5=>exact zH j u (by rw [b];trivial) (v:=.int _ _) (by rw [b,d,binOp_mul];rfl) (.int _ _) m
 case h_8=>exact zH j u (by rw [b];trivial) (v:=.int _ _) (by rw [b,d,binOp_and];rfl) (.int _ _) m
 case h_9=>exact zH j u (by rw [b];trivial) (v:=.int _ _) (by rw [b,d,binOp_or];rfl) (.int _ _) m
 case h_24=>exact zH j u (by rw [b];trivial) (v:=.int _ _) (by rw [b,d];simp [binOp,Op.intBits]) (.int _ _) m
 case h_10=>exact zH j u (by rw [b];trivial) (v:=.int _ _) (by rw [b,d,binOp_xor];rfl) (.int _ _) m
 all_goals (refine zH j u (by rw [b];trivial) (v:=.bool _) ?_ (.bool _) m;rw [b,d])
 case h_11=>rw [binOp_eql];rfl
 case h_12=>rw [binOp_neq];rfl
 case h_13=>rw [binOp_lss];rfl
 case h_14=>rw [binOp_leq];rfl
 case h_15=>rw [binOp_gtr];rfl
 case h_16=>rw [binOp_geq];rfl
theorem VE (l:Sim C) (u:Zr C a e) {op:BinOp} {t ty:TypeId} {x y:Operand} {r s:Opd} {neg:Bool} (w:o.op=.binOp op t x y ty) (q:op=if neg then .neq else .eql) (A:E.P.underlying t=some .bool)
  (B:opd x=some r) (D:opd y=some s) (h:xop E (.eqB neg r s) e C.L K):zN E C a o K:=by
 have d:=u x r B
 have j:=u y s D
 generalize b:a.eval x=xv at d
 generalize m:a.eval y=yv at j
 simp only [xop] at h
 generalize e r=ex at *
 generalize e s=ey at *
 split at h
 ·cases d;cases j
  cases neg
  ·subst q
   exact zH l w (by rw [b];trivial) (v:=.bool _) (by rw [b,m];exact run_eql_bool A _ _ _) (.bool _) h
  ·subst q
   exact zH l w (by rw [b];trivial) (v:=.bool _) (by rw [b,m];exact run_neq_bool A _ _ _) (.bool _) h
 ·exact h.elim
theorem z5j (A:Sim C) (q:Zr C a e) {op:UnOp} {t:TypeId} {x:Operand} {m:Opd} (j:o.op=.unOp op t x) (w:opd x=some m) (h:xun op (e m) fun v=>K v C.L):zN E C a o K:=by
 have b:=q x m w
 generalize d:a.eval x=xv at b
 generalize e m=ex at *
 unfold xun at h
 split at h
 ·cases b;exact zh (s:=Op.unary .not (a.eval x)) (by unfold execOp;rw [j]) (by rw [d];rfl) (zZ (.bool _) h)
 ·cases b;exact zh (s:=Op.unary .neg (a.eval x)) (by unfold execOp;rw [j]) (by rw [d];rfl) (zZ (.int _ _) h)
 ·cases b;exact zh (s:=Op.unary .xor (a.eval x)) (by unfold execOp;rw [j]) (by rw [d];rfl) (zZ (.int _ _) h)
 ·cases b
  obtain ⟨r,l,u⟩:=h
  unfold z5I at l
  split at l
  ·cases l;exact zh (s:=Op.unary .neg (a.eval x)) (by unfold execOp;rw [j]) (by rw [d];rfl) (zZ (.raw _ rfl) u)
  ·cases l
 ·exact h.elim
theorem zC {P:Program} {t:TypeId} {d:TypeDesc} (h:P.underlying t=some d) (w:World):(underlying t).run P w=.ok d w:=by simp [underlying,h]
theorem Jd (r:Sim C) (m:Zr C a e) {s d:TypeId} {x:Operand} {l:Opd} {k k0:IntKind} (u:o.op=.convert s d x) (hs:E.P.underlying s=some (.int k0)) (hd:E.P.underlying d=some (.int k))
  (q:opd x=some l) {k1:IntKind} {n:Int} (A:e l=.int k1 n) (h:K (.int k (k.wrap n)) C.L):zN E C a o K:=by
 have b:=m x l q
 rw [A] at b
 generalize j:a.eval x=xv at b
 cases b
 refine zh (s:=convert s d (a.eval x)) (by unfold execOp;rw [u]) (v:=.int k (k.wrap n)) (w':=C.w) ?_ (zZ (.int _ _) h)
 rw [j]
 unfold convert
 rw [Sem.run_bind,zC hs]
 simp only [Result.andThen_ok]
 rw [Sem.run_bind,zC hd]
 rfl
theorem WQ (r:Sim C) (m:Zr C a e) {s d:TypeId} {x:Operand} {l:Opd} {k0:IntKind} (u:o.op=.convert s d x) (hs:E.P.underlying s=some (.int k0)) (hd:E.P.underlying d=some .string)
  (q:opd x=some l) {k1:IntKind} {n:Int} (A:e l=.int k1 n) (h:K (.str (Utf8.encode n).data.toList) C.L):zN E C a o K:=by
 have b:=m x l q
 rw [A] at b
 generalize j:a.eval x=xv at b
 cases b
 refine zh (s:=convert s d (a.eval x)) (by unfold execOp;rw [u]) (v:=.string (Utf8.encode n)) (w':=C.w) ?_ (zZ (.str _) h)
 rw [j]
 unfold convert
 rw [Sem.run_bind,zC hs]
 simp only [Result.andThen_ok]
 rw [Sem.run_bind,zC hd]
 rfl
theorem Jq (B:Sim C) (q:Zr C a e) {s d:TypeId} {x:Operand} {m:Opd} (r:o.op=.convert s d x) (hs:E.P.underlying s=some .string) (hd:E.P.underlying d=some .string)
  (u:opd x=some m) {l:List UInt8} (A:e m=.str l) (h:K (.str l) C.L):zN E C a o K:=by
 have b:=q x m u
 rw [A] at b
 generalize j:a.eval x=xv at b
 cases b
 refine zh (s:=convert s d (a.eval x)) (by unfold execOp;rw [r]) (v:=.string ⟨l.toArray⟩) (w':=C.w) ?_ (zZ (.str _) h)
 rw [j]
 unfold convert
 rw [Sem.run_bind,zC hs]
 simp only [Result.andThen_ok]
 rw [Sem.run_bind,zC hd]
 rfl
theorem VH (b k n:Nat):(⟨b,k,none⟩:Addr).add n=⟨b,k+n,none⟩:=by unfold Addr.add;split<;>simp_all
theorem z0Y (J:Sim C) (G:Zr C a e) {s:TypeId} {x:Operand} {m:Opd} {f:Nat} {fs:Array Field} {g:Field} {n:Nat} (B:o.op=.fieldAddr s x f) (hs:E.P.underlying s=some (.struct fs)) (hg:fs[f]?=some g)
  (Q:zI E.P g.type=some n) (D:n≠0) (I:opd x=some m)
  (h:xop E (.fldA g.offset m) e C.L K):zN E C a o K:=by
 have j:=G x m I
 generalize u:a.eval x=xv at j
 have d:∀b k,xv=.pointer (some ⟨b,k,none⟩)->(Instr.fieldAt s (a.eval x) f).run E.P C.w=.ok (.pointer (some ⟨b,k+g.offset,none⟩)) C.w:=by
  rintro b k rfl
  rw [u]
  unfold Instr.fieldAt
  rw [Sem.run_bind,zC hs]
  simp only [Result.andThen_ok,hg]
  rw [Sem.run_bind]
  simp only [Instr.sureAddr,Sem.run_pure,Result.andThen_ok]
  rw [Sem.run_bind]
  unfold fieldPlace
  rw [Sem.run_bind,zx Q]
  simp only [Result.andThen_ok,D,if_false,Sem.run_pure,VH]
 simp only [xop] at h
 generalize e m=ex at *
 split at h
 ·cases j with
  | ptr s' r M A=>
   refine zh (by unfold execOp;rw [B]) (d _ _ rfl) (zZ ?_ h)
   rw [Nat.add_assoc];exact .ptr _ _ _ A
 ·cases j with
  | iptr rows r M b base sz vals hsz q S l ha O=>
   refine zh (by unfold execOp;rw [B]) (d _ _ rfl) (zZ ?_ h)
   rw [Nat.add_assoc];exact .iptr _ _ _ b base sz vals hsz q S l ha O
 ·rename_i b k
  cases j
  exact zh (by unfold execOp;rw [B]) (d b k rfl) (zZ (.raw _ rfl) h)
 ·exact h.elim
theorem z3v (J:Sim C) (D:Zr C a e) {s:TypeId} {x:Operand} {m:Opd} {f:Nat} {fs:Array Field} {g:Field} {n:Nat} {b:Bool} (A:o.op=.field s x f) (hs:E.P.underlying s=some (.struct fs)) (hg:fs[f]?=some g)
  (S:zI E.P g.type=some n) (B:wU E.P g.type=some b) (I:opd x=some m)
  (h:xop E (.fld g.offset n b m) e C.L K):zN E C a o K:=by
 have l:=D x m I
 generalize r:a.eval x=xv at l
 simp only [xop] at h
 generalize e m=ex at *
 split at h
 ·rename_i cs
  cases l with
  | agg _ vs T u=>
  obtain ⟨V,h⟩:=h
  have j:∀v,(part g.type vs.toArray g.offset).run E.P C.w=.ok v C.w->(Instr.field s (a.eval x) f).run E.P C.w=.ok v C.w:=fun v M=>by
   rw [r]
   unfold Instr.field
   rw [Sem.run_bind,zC hs]
   simp only [Result.andThen_ok,hg]
   rw [Sem.run_bind]
   simp only [asAgg,Sem.run_pure,Result.andThen_ok]
   exact M
  cases b
  ·simp only [Bool.false_eq_true,if_false] at h
   have O:=u g.offset _ (getD_get (d:=.und) h.1)
   refine zh (by unfold execOp;rw [A]) (j (vs.getD g.offset undef) ?_) (zZ O h.2)
   unfold part
   rw [Sem.run_bind,Wn B]
   simp only [Result.andThen_ok,Bool.false_eq_true,if_false]
   have:vs.toArray[g.offset]?=some (vs.getD g.offset undef):=by rw [List.getElem?_toArray];exact getD_get od
   rw [this];rfl
  ·simp only [if_true] at h
   refine zh (by unfold execOp;rw [A]) (j (.agg (vs.toArray.extract g.offset (g.offset+n))) ?_) (zZ ?_ h)
   ·unfold part
    rw [Sem.run_bind,Wn B]
    simp only [Result.andThen_ok,if_true]
    rw [Sem.run_bind,zx S]
    rfl
   ·have Q:vs.toArray.extract g.offset (g.offset+n)=((vs.drop g.offset).take n).toArray:=by
     apply Array.ext';simp
    rw [Q]
    refine .agg _ _ (by simp [T]) fun i y hi=>?_
    rw [List.getElem?_take] at hi
    split at hi
    ·rename_i q
     rw [List.getElem?_drop] at hi
     have G:=u _ y hi
     have U:((vs.drop g.offset).take n).getD i undef=vs.getD (g.offset+i) undef:=by
      rw [List.getD_eq_getElem?_getD,List.getD_eq_getElem?_getD,List.getElem?_take,if_pos q,List.getElem?_drop]
     rw [U];exact G
    ·cases hi
 ·exact h.elim
theorem z5D (b:Sim C) {s n:Nat} (d:vJ C.L s=some n):(C.φ s).sz=n:=by
 unfold vJ at d
 split at d
 ·rename_i sz rows h
  obtain rfl:sz=n:=by simpa using d
  exact (b s _ h).1
 ·rename_i ty sz rows h
  obtain rfl:sz=n:=by simpa using d
  exact (b s _ h).1.1
 ·cases d
theorem z1f (J:Sim C) (T:Zr C a e) {t X:TypeId} {x i:Operand} {D B:Opd} {n:Nat} (V:o.op=.indexAddr t x i) (ht:E.P.underlying t=some (.slice X)) (hn:zI E.P X=some n)
  (Y:opd x=some D) (hi:opd i=some B) (h:xop E (.idxS n D B) e C.L K):zN E C a o K:=by
 have l:=T x D Y
 have m:=T i B hi
 generalize O:a.eval x=xv at l
 generalize G:a.eval i=iv at m
 simp only [xop] at h
 generalize e D=ex at *
 generalize e B=ei at *
 have d:∀(b k len cap:Nat) (q:IntKind) (j:Int),xv=.slice (some ⟨b,k,none⟩) len cap->iv=.int q j->0<=j->j<len->
   (Instr.indexAt t (a.eval x) (a.eval i)).run E.P C.w=.ok (.pointer (some ⟨b,k+j.toNat*n,none⟩)) C.w:=by
  rintro b k len cap q j rfl rfl A r
  rw [O,G]
  unfold Instr.indexAt
  simp only [asIntOf,Sem.run_bind,Sem.run_pure,Result.andThen_ok,zC ht,VH]
  rw [if_pos ⟨A,r⟩]
  simp only [Sem.run_bind,Sem.run_pure,Result.andThen_ok,zx hn]
 split at h
 ·rename_i rows q j
  obtain ⟨hr,A,r,h⟩:=h
  cases m
  cases l with
  | isl _ av cap' sz vals U hsz M ha hv=>
   rcases ha with ha | ⟨b,k,rfl,hb,Q,hc⟩
   ·subst ha;simp at r;omega
   ·have u:j.toNat<rows.length:=by omega
    have S:sz=n:=by
     have:=List.getElem?_eq_getElem u
     rw [<-hsz _ _ this,hr _ (List.getElem_mem u)]
    subst S
    refine zh (by unfold execOp;rw [V]) (d b k _ cap' q j rfl rfl A r) (zZ ?_ h)
    exact .iptr rows _ 0 b k sz vals hsz M hb Q hc hv
 ·rename_i s off len cap q j
  obtain ⟨Z,A,r,h⟩:=h
  cases m
  cases l with
  | sl _ _ _ _ av cap' hs hl hc ha=>
   obtain ⟨rfl,_⟩:=ha.resolve_left od
   refine zh (by unfold execOp;rw [V]) (d _ _ len cap' q j rfl rfl A r) (zZ ?_ h)
   have h5:=z5D J Z
   have I:=VR.ptr (C:=C) s (off+j.toNat) 0 hs
   rw [h5] at I ⊢
   rw [Nat.add_mul,Nat.add_zero,<-Nat.add_assoc] at I
   exact I
 ·exact h.elim
theorem jo {P:Program} {t:TypeId} {v c:Value} {b:Bool} {w:World} (neg:Bool) (x y:Operand) (hg:(eqGuard (if neg then .neq else .eql) t x y v c).run P w=.ok () w)
  (d:binOp (if neg then .neq else .eql) t v c=(do let r <-Op.equal t v c;pure (.bool (if neg then !r else r)))) (h:(Op.equal t v c).run P w=.ok b w) :
  (do eqGuard (if neg then .neq else .eql) t x y v c;binOp (if neg then .neq else .eql) t v c:Sem Value).run P w=.ok (.bool (if neg then !b else b)) w:=by
 rw [Sem.run_bind,hg]
 simp only [Result.andThen_ok]
 rw [d,Sem.run_bind,h]
 simp only [Result.andThen_ok,Sem.run_pure]
theorem z1a {P:Program} {t b:TypeId} (d:P.underlying t=some (.slice b)) (a:Option Addr) (l k:Nat) (w:World):(Op.equal t (.slice a l k) (.slice none 0 0)).run P w=.ok a.isNone w:=by
 have h:(underlying t).run P w=.ok (.slice b) w:=by simp [underlying,d]
 unfold Op.equal Op.maxDepth Op.equalIn
 rw [Sem.run_bind,h]
 cases a<;>rfl
theorem z0Q {P:Program} {t:TypeId} {ms} (b:P.underlying t=some (.interface ms)) (w:World):(Op.equal t .nilIface .nilIface).run P w=.ok true w:=by
 have d:(underlying t).run P w=.ok (.interface ms) w:=by simp [underlying,b]
 unfold Op.equal Op.maxDepth Op.equalIn
 rw [Sem.run_bind,d];rfl
theorem JF {P:Program} {t t':TypeId} {u:Value} {ms} (b:P.underlying t=some (.interface ms)) (w:World):(Op.equal t (.iface t' u) .nilIface).run P w=.ok false w:=by
 have d:(underlying t).run P w=.ok (.interface ms) w:=by simp [underlying,b]
 unfold Op.equal Op.maxDepth Op.equalIn
 rw [Sem.run_bind,d];rfl
theorem z2m {P:Program} {t:TypeId} {p q r} (b:P.underlying t=some (.func p q r)) (w:World):(Op.equal t .nilFunc .nilFunc).run P w=.ok true w:=by
 have d:(underlying t).run P w=.ok (.func p q r) w:=by simp [underlying,b]
 unfold Op.equal Op.maxDepth Op.equalIn
 rw [Sem.run_bind,d];rfl
theorem z0Z {P:Program} {t:TypeId} {f:Fn} {x y:Array Value} {p q r} (b:P.underlying t=some (.func p q r)) (w:World):(Op.equal t (.func f x y) .nilFunc).run P w=.ok false w:=by
 have d:(underlying t).run P w=.ok (.func p q r) w:=by simp [underlying,b]
 unfold Op.equal Op.maxDepth Op.equalIn
 rw [Sem.run_bind,d];rfl
theorem WX (V:Sim C) (T:Zr C a e) {op:BinOp} {t ty:TypeId} {x y:Operand} {J:Opd} {k:Nat} {neg:Bool} (Y:o.op=.binOp op t x y ty) (O:op=if neg then .neq else .eql) (G:z0W E.P t y=some k)
  (U:opd x=some J) (h:xop E (.isNil k neg J) e C.L K):zN E C a o K:=by
 have A:=T x J U
 subst O
 simp only [xop] at h
 have key:∀(c:Value) (b:Bool),y=.const c->(eqGuard (if neg then .neq else .eql) t x y (a.eval x) c).run E.P C.w=.ok () C.w->
   binOp (if neg then .neq else .eql) t (a.eval x) c=(do let r <-Op.equal t (a.eval x) c;pure (.bool (if neg then !r else r)))->
   (Op.equal t (a.eval x) c).run E.P C.w=.ok b C.w->K (.bool (if neg then !b else b)) C.L->zN E C a o K:=fun c b hy hg hb h1 j=>by
  refine zh (s:=do eqGuard (if neg then .neq else .eql) t x y (a.eval x) (a.eval y);binOp (if neg then .neq else .eql) t (a.eval x) (a.eval y)) (v:=.bool (if neg then !b else b)) (w':=C.w) (by unfold execOp;rw [Y]) ?_ (zZ (.bool _) j)
  subst hy
  exact jo neg x _ hg hb h1
 unfold z0W at G
 generalize M:a.eval x=xv at A
 generalize e J=ex at *
 rw [M] at key
 split at G
 ·rename_i el D
  cases G
  have B:=fun (m:Option Addr) (l k:Nat) (d:xv=.slice m l k) (j:K (.bool (if neg then !m.isNone else m.isNone)) C.L)=>
   key _ m.isNone rfl (by subst d;cases neg<;>rfl) (by subst d;cases neg<;>simp [binOp]) (by subst d;exact z1a D _ _ _ _) j
  unfold z9O at h
  cases A<;>simp only at h
  case nsl=>exact B _ _ _ rfl h
  case esl m=>cases m with
    | none=>exact B _ _ _ rfl h.1
    | some p=>exact B _ _ _ rfl h.2
  case isl rows m cap' sz vals Q hsz X ha d=>cases m with
    | none=>
     refine B _ _ _ rfl (h.2 ?_)
     rcases ha with I | ⟨_,_,I,_⟩
     ·exact I
     ·cases I
    | some p=>exact B _ _ _ rfl h.1
  case sl s off len cap m cap' hs hl hc ha ae=>cases m with
    | none=>
     refine B _ _ _ rfl (h.2 ?_)
     rcases ha with I | ⟨I,_⟩
     ·omega
     ·cases I
    | some p=>exact B _ _ _ rfl h.1
 ·rename_i ms D
  cases G
  have k1:=fun (d:xv=.nilIface) (j:K (.bool (if neg then !true else true)) C.L)=>key _ true rfl (by subst d;cases neg<;>cases x<;>rfl) (by subst d;cases neg<;>simp [binOp]) (by subst d;exact z0Q D _) j
  have k2:=fun (t':TypeId) (u:Value) (d:xv=.iface t' u) (j:K (.bool (if neg then !false else false)) C.L)=>key _ false rfl (by subst d;cases neg<;>rfl) (by subst d;cases neg<;>simp [binOp]) (by subst d;exact JF D _) j
  unfold z9O at h
  cases A<;>simp only at h
  case raw hr=>cases xv<;>simp only at h<;>first | exact k1 rfl h | exact k2 _ _ rfl h
  case iface t' S u hu=>exact k2 _ _ rfl h
 ·rename_i p q r D
  cases G
  have k1:=fun (d:xv=.nilFunc) (j:K (.bool (if neg then !true else true)) C.L)=>key _ true rfl (by subst d;cases neg<;>cases x<;>rfl) (by subst d;cases neg<;>simp [binOp]) (by subst d;exact z2m D _) j
  have k2:=fun (f:Fn) (S Z:Array Value) (d:xv=.func f S Z) (j:K (.bool (if neg then !false else false)) C.L)=>key _ false rfl (by subst d;cases neg<;>rfl) (by subst d;cases neg<;>simp [binOp]) (by subst d;exact z0Z D _) j
  unfold z9O at h
  cases A<;>simp only at h
  case raw hr=>cases xv<;>simp only at h<;>exact k1 rfl h
  case fn f as bs va vb _ _ _ _=>exact k2 _ _ _ rfl h
 ·cases G
theorem z8s (wf:Wf E.g0 C) (d:Sim C) (m:Zr C a e) {t:TypeId} {x:Operand} {j:Opd} (q:o.op=.range t x) (u:E.P.underlying t=some .string) (r:opd x=some j)
  (h:xop E (.rng j) e C.L K):Good E C a o K:=by
 have b:=m x j r
 simp only [xop] at h
 generalize l:a.eval x=xv at b
 generalize e j=ex at *
 split at h
 ·rename_i s
  cases b
  have A:(underlying t).run E.P C.w=.ok .string C.w:=by simp [underlying,u]
  refine zT (s:=Instr.range t (a.eval x)) (v:=.pointer (some ⟨C.w.heap.size,0,none⟩)) (w':=Zm C.w (.stringIter ⟨s.toArray⟩ 0)) (by unfold execOp;rw [q]) ?_ ?_
  ·rw [l]
   unfold Instr.range
   rw [Sem.run_bind,A]
   rfl
  ·refine ⟨.ptr C.L.length 0 0,zy C.L C.L.length (.siter s 0),newφ C C.L.length 0,by rw [zB];exact h,jH (o:=.stringIter ⟨s.toArray⟩ 0) (.inl rfl) wf d,wB (o:=.stringIter ⟨s.toArray⟩ 0) (.inl rfl) d ?_,yN (.inl rfl) (.stringIter ⟨s.toArray⟩ 0) (.siter s 0) 0,yY (.inl rfl)⟩
   exact ⟨by simp [y8,newφ],by simp only [y8,newφ,if_true];exact zX⟩
 ·exact h.elim
theorem z7m (wf:Wf E.g0 C) (m:Sim C) (J:Zr C a e) {x:Operand} {A:Opd} (G:o.op=.next x true) (M:opd x=some A)
  (h:xop E (.nxt A) e C.L K):Good E C a o K:=by
 have q:=J x A M
 simp only [xop] at h
 generalize u:a.eval x=xv at q
 generalize e A=ex at *
 split at h
 ·rename_i s
  split at h
  ·rename_i str pos B
   obtain ⟨I,hh⟩:=m s _ B
   have r:xv=.pointer (some ⟨(C.φ s).blk,0,none⟩):=by
    cases q with
    | ptr _ _ _ hs=>rw [I];simp
   have j:∀c e fr,Obj.stringIter ⟨str.toArray⟩ pos≠.cells c e fr:=fun _ _ _ h=>by cases h
   have hsz:(ByteArray.mk str.toArray).size=str.length:=by simp [ByteArray.size]
   have d:(Instr.next xv true o.type).run E.P C.w=if pos<str.length then .ok (.tuple #[.bool true,.int .i64 pos,.int .i32 (Utf8.decode ⟨str.toArray⟩ pos).1]) (setW C.w (C.φ s).blk (.stringIter ⟨str.toArray⟩ (pos+(Utf8.decode ⟨str.toArray⟩ pos).2)))
     else .ok (.tuple #[.bool false]) C.w:=by
    subst r
    unfold Instr.next
    simp only
    rw [Sem.run_bind,Z7 hh j]
    simp only [Result.andThen_ok,hsz]
    by_cases l:pos<str.length
    ·rw [if_pos l,if_pos l]
     rw [Sem.run_bind,Zx _ hh j]
     rfl
    ·rw [if_neg l,if_neg l];rfl
   have D:∀b,VR C (.tup [.bool b]) (.tuple #[.bool b]):=fun b=>.tup [.bool b] [.bool b] rfl (fun i x hi=>by
    cases i with
    | zero=>simp at hi;subst hi;exact .bool b
    | succ i=>simp at hi)
   split at h
   ·rename_i l
    rw [if_pos l] at d
    refine zT (s:=Instr.next (a.eval x) true o.type) (by unfold execOp;rw [G]) (by rw [u];exact d) ?_
    refine ⟨_,_,C.φ,h,jG (o:=.stringIter ⟨str.toArray⟩ (pos+(Utf8.decode ⟨str.toArray⟩ pos).2)) wf B rfl,Wv wf m B rfl hh j ?_,YY B rfl hh j,?_⟩
    ·exact ⟨I,zo (Array.getElem?_eq_some_iff.1 hh).1⟩
    ·refine .tup _ [.bool true,.int .i64 pos,.int .i32 (Utf8.decode ⟨str.toArray⟩ pos).1] rfl (fun i x hi=>?_)
     match i,hi with
     | 0,hi=>simp at hi;subst hi;exact .bool true
     | 1,hi=>simp at hi;subst hi;exact .int _ _
     | 2,hi=>simp at hi;subst hi;exact .int _ _
   ·rename_i l
    rw [if_neg l] at d
    exact zT (s:=Instr.next (a.eval x) true o.type) (by unfold execOp;rw [G]) (by rw [u];exact d) (Zf wf m (D false) h)
  ·exact h.elim
 ·exact h.elim
end
end Go.X
end
