/- Parts of the proof: XFstV, XFstW, Xijoin, XHole, Xicop, Ximail. -/
import Derived.Test.YtjliemjcailckaaGreatDoorXP11
import Derived.Lib.Repeat
import Derived.Test.YtjliemjcailckaaGreatDoorProg
set_option linter.unusedVariables false
set_option linter.unusedSimpArgs false
set_option linter.unusedSectionVars false
section
namespace Go.X
open Go
abbrev SpF:=List IV->Lk->Nat->OR
structure z7i (E0:Env) (f:FuncId) (g:SpF):Prop where
 ok:∀E,Yd E0 E->∀args lk n v ef L,g args lk n=some (v,ef)->jT lk L->n=L.length->(∀(s:Nat) (b:Blk),L[s]?=some b->clB n b)->cl.clL n args->WU E f args L fun v' L'=>v'=v/\L'=ef.app L
 c:∀args lk n v ef,g args lk n=some (v,ef)->LkC lk n->cl.clL n args->cl (ef.up n) v/\clE n ef
noncomputable def spL (l:List (FuncId × SpF)):Sp:=fun f args lk n=>@List.rec (FuncId × SpF) (fun _=>OR) none (fun p _ ih=>@Bool.rec (fun _=>OR) ih (p.2 args lk n) (Nat.beq f p.1)) l
def z9Y (E0:Env):List (FuncId × SpF)->Prop
 | []=>True
 | p::r=>z7i E0 p.1 p.2/\z9Y E0 r
theorem z6p {E0:Env}:∀{l:List (FuncId × SpF)},z9Y E0 l->∀{f args lk n v ef},spL l f args lk n=some (v,ef)->∃g,z7i E0 f g/\g args lk n=some (v,ef)
 | [],_,f,args,lk,n,v,ef,h=>by cases h
 | p::r,ha,f,args,lk,n,v,ef,h=>by
  by_cases hf:Nat.beq f p.1=true
  ·have b:spL (p::r) f args lk n=p.2 args lk n:=by
    show @Bool.rec (fun _=>OR) (spL r f args lk n) (p.2 args lk n) (Nat.beq f p.1)=_
    rw [hf]
   rw [b] at h
   rw [Nat.eq_of_beq_eq_true hf]
   exact ⟨_,ha.1,h⟩
  ·have b:spL (p::r) f args lk n=spL r f args lk n:=by
    show @Bool.rec (fun _=>OR) (spL r f args lk n) (p.2 args lk n) (Nat.beq f p.1)=_
    rw [Bool.eq_false_iff.2 hf]
   rw [b] at h
   exact z6p ha.2 h
abbrev PrF:=List IV->Option IV
abbrev RdF:=List IV->Lk->Option IV
structure zdS (E0:Env) (f:FuncId) (g:PrF):Prop where
 ok:∀args r,g args=some r->ZH E0 f args r/\cl 0 r
structure zfX (E0:Env) (f:FuncId) (g:RdF):Prop where
 ok:∀args lk r,g args lk=some r->cl 0 r/\∀L',jT lk L'->XT E0 f args L' fun v L''=>v=r/\L''=L'
noncomputable def prL (l:List (FuncId × PrF)):FuncId->List IV->Option IV:=fun f args=>@List.rec (FuncId × PrF) (fun _=>Option IV) none (fun p _ ih=>@Bool.rec (fun _=>Option IV) ih (p.2 args) (Nat.beq f p.1)) l
noncomputable def rdL (l:List (FuncId × RdF)):FuncId->List IV->Lk->Option IV:=fun f args lk=>@List.rec (FuncId × RdF) (fun _=>Option IV) none (fun p _ ih=>@Bool.rec (fun _=>Option IV) ih (p.2 args lk) (Nat.beq f p.1)) l
def zaa (E0:Env):List (FuncId × PrF)->Prop
 | []=>True
 | p::r=>zdS E0 p.1 p.2/\zaa E0 r
def zaC (E0:Env):List (FuncId × RdF)->Prop
 | []=>True
 | p::r=>zfX E0 p.1 p.2/\zaC E0 r
theorem z8S {E0:Env}:∀{l:List (FuncId × PrF)},zaa E0 l->∀{f args r},prL l f args=some r->ZH E0 f args r/\cl 0 r
 | [],_,f,args,r,h=>by cases h
 | p::l,ha,f,args,r,h=>by
  by_cases hf:Nat.beq f p.1=true
  ·have b:prL (p::l) f args=p.2 args:=by
    show @Bool.rec (fun _=>Option IV) (prL l f args) (p.2 args) (Nat.beq f p.1)=_
    rw [hf]
   rw [b] at h
   rw [Nat.eq_of_beq_eq_true hf]
   exact ha.1.ok _ _ h
  ·have b:prL (p::l) f args=prL l f args:=by
    show @Bool.rec (fun _=>Option IV) (prL l f args) (p.2 args) (Nat.beq f p.1)=_
    rw [Bool.eq_false_iff.2 hf]
   rw [b] at h
   exact z8S ha.2 h
theorem z8L {E0:Env}:∀{l:List (FuncId × RdF)},zaC E0 l->∀{f args lk r},rdL l f args lk=some r->cl 0 r/\∀L',jT lk L'->XT E0 f args L' fun v L''=>v=r/\L''=L'
 | [],_,f,args,lk,r,h=>by cases h
 | p::l,ha,f,args,lk,r,h=>by
  by_cases hf:Nat.beq f p.1=true
  ·have b:rdL (p::l) f args lk=p.2 args lk:=by
    show @Bool.rec (fun _=>Option IV) (rdL l f args lk) (p.2 args lk) (Nat.beq f p.1)=_
    rw [hf]
   rw [b] at h
   rw [Nat.eq_of_beq_eq_true hf]
   exact ha.1.ok _ _ _ h
  ·have b:rdL (p::l) f args lk=rdL l f args lk:=by
    show @Bool.rec (fun _=>Option IV) (rdL l f args lk) (p.2 args lk) (Nat.beq f p.1)=_
    rw [Bool.eq_false_iff.2 hf]
   rw [b] at h
   exact z8L ha.2 h
noncomputable def dfL (l:List (FuncId × Nat × Nat × List Nat)):FuncId->Option (Nat × Nat × List Nat):=fun f=>@List.rec (FuncId × Nat × Nat × List Nat) (fun _=>Option (Nat × Nat × List Nat)) none (fun p _ ih=>@Bool.rec (fun _=>Option (Nat × Nat × List Nat)) ih (some p.2) (Nat.beq f p.1)) l
def zb2 (E0 : Env) (f : FuncId) (d k : Nat) (caps : List Nat) : Prop := ∀ n F x1 x3, (∃ fn, E0.P.funcs[f]? = some fn ∧ Zz E0.P fn = some F ∧ fn.name ≠ "runtime.NumGoroutine" ∧ fn.ntmps = n ∧ codeOk F.body = true) → jD F.body = some (x1, x3) → z4F E0 f n F.results x1 x3 d k caps
def z9R (E0:Env):List (FuncId × Nat × Nat × List Nat)->Prop
 | []=>True
 | p::r=>zb2 E0 p.1 p.2.1 p.2.2.1 p.2.2.2/\z9R E0 r
theorem z98 {E0:Env}:∀{l:List (FuncId × Nat × Nat × List Nat)},z9R E0 l->∀{f d k caps},dfL l f=some (d,k,caps)->zb2 E0 f d k caps
 | [],_,f,d,k,caps,h=>by cases h
 | p::l,ha,f,d,k,caps,h=>by
  by_cases hf:Nat.beq f p.1=true
  ·have j:dfL (p::l) f=some p.2:=by
    show @Bool.rec (fun _=>Option (Nat × Nat × List Nat)) (dfL l f) (some p.2) (Nat.beq f p.1)=_
    rw [hf]
   rw [j] at h
   rw [Nat.eq_of_beq_eq_true hf]
   have b:=Option.some.inj h
   have r:p.2.1=d:=congrArg (·.1) b
   have m:p.2.2.1=k:=congrArg (·.2.1) b
   have q:p.2.2.2=caps:=congrArg (·.2.2) b
   rw [<-r,<-m,<-q]
   exact ha.1
  ·have j:dfL (p::l) f=dfL l f:=by
    show @Bool.rec (fun _=>Option (Nat × Nat × List Nat)) (dfL l f) (some p.2) (Nat.beq f p.1)=_
    rw [Bool.eq_false_iff.2 hf]
   rw [j] at h
   exact z98 ha.2 h
theorem z9H {E0:Env} {P:Program} (A:E0.P=P) {t:RT (Option (Nat × XFn))} (w:t.All (zi P) id) {gl:Nat->Option (List IV)} (hgl:E0.gl=gl) (u:GlC gl) {sp:List (FuncId × SpF)} (b:z9Y E0 sp) {pr:List (FuncId × PrF)} (m:zaa E0 pr)
  {rd:List (FuncId × RdF)} (q:zaC E0 rd) {df:List (FuncId × Nat × Nat × List Nat)} (s:z9R E0 df):z3o ⟨fun f=>t.get none f,gl,spL sp,prL pr,rdL rd,dfL df⟩ E0 where
 gl:=hgl
 glc:=u
 tab:=fun f n F h=>z8R w A f n F h
 sp:=fun E B f args lk n v ef L h=>by obtain ⟨g,j,l⟩:=z6p b h;exact j.ok E B args lk n v ef L l
 spc:=fun f args lk n v ef h=>by obtain ⟨g,j,l⟩:=z6p b h;exact j.c args lk n v ef l
 pr:=fun f args r h=>z8S m h
 rd:=fun f args lk r h=>z8L q h
 df:=fun f n F d k caps x1 x3 h j l=>z98 s h n F x1 x3 (z8R w A f n F j) l
noncomputable def spSum:SpF:=fun args lk _=>match args with
 | [x]=>match sumK lk x with
  | some v=>some (v,.no)
  | none=>none
 | _=>none
noncomputable def rdSum:RdF:=fun args lk=>match args with
 | [x]=>sumK lk x
 | _=>none
noncomputable def prSum:PrF:=fun args=>match args with
 | [.isl rs]=>sumK (fun _=>none) (.isl rs)
 | _=>none
def zeI (P:Program) (f:FuncId):Prop:=∀{E:Env} {L:List Blk},E.P=P->∀{x v:IV} {lk:Lk},jT lk L->sumK lk x=some v->XT E f [x] L fun r L'=>r=v/\L'=L
theorem JZ {lk:Lk} {x v:IV} (h:sumK lk x=some v):∃n,v=.int .u32 n:=by
 unfold sumK at h
 split at h
 ·split at h
  ·cases h;exact ⟨_,rfl⟩
  ·cases h
 ·cases h
theorem z8x {E0:Env} {f:FuncId} (h:zeI E0.P f):z7i E0 f spSum where
 ok:=fun E q args lk n v ef L b l _ _ _=>by
  unfold spSum at b
  split at b
  ·split at b
   ·rename_i d
    cases b
    exact YH (h q.P l d) fun r L' ⟨s,j⟩=>⟨s,j⟩
   ·cases b
  ·cases b
 c:=fun args lk n v ef b _ _=>by
  unfold spSum at b
  split at b
  ·split at b
   ·rename_i d
    cases b
    obtain ⟨m,rfl⟩:=JZ d
    exact ⟨trivial,trivial⟩
   ·cases b
  ·cases b
theorem z8o {E0:Env} {f:FuncId} (h:zeI E0.P f):zfX E0 f rdSum where
 ok:=fun args lk r b=>by
  unfold rdSum at b
  split at b
  ·obtain ⟨m,rfl⟩:=JZ b
   exact ⟨trivial,fun L' d=>h rfl d b⟩
  ·cases b
theorem z7o {E0:Env} {f:FuncId} (h:zeI E0.P f):zdS E0 f prSum where
 ok:=fun args r d=>by
  unfold prSum at d
  split at d
  ·obtain ⟨m,rfl⟩:=JZ d
   exact ⟨h rfl (L:=[]) (fun s b hs=>by cases hs) d,trivial⟩
  ·cases d
theorem Wi {n:Nat} {rs:List (List IV)} (h:yM rs=true):cl.clR n rs:=Zg.2 fun r b=>by
 obtain ⟨k,rfl,_⟩:=(yJ h).1 r b
 exact ⟨trivial,trivial⟩
noncomputable def prClone (sz:Nat):PrF:=fun args=>match args with
 | [.isl rows]=>match z2a sz rows with
  | true=>match rowsC0 rows with
   | true=>some (.isl rows)
   | false=>none
  | false=>none
 | _=>none
 where rowsC0 (rows:List (List IV)):Bool:=rows.all fun r=>r.all fun v=>match v with
 | .isl rs=>yM rs
 | .iptr _ _ _=>false
 | _=>true
theorem yC {E0:Env} {f:FuncId} {sz:Nat} (h:∀rows,z2a sz rows=true->ZH E0 f [.isl rows] (.isl rows)):zdS E0 f (prClone sz) where
 ok:=fun args r b=>by
  unfold prClone at b
  split at b
  ·split at b
   ·rename_i j
    split at b
    ·rename_i w
     cases b
     refine ⟨h _ j,Zg.2 fun d u=>zQ.2 fun v s=>?_⟩
     unfold z2a at j
     rw [Bool.and_eq_true,List.all_eq_true] at j
     have q:=j.1 d u
     rw [Bool.and_eq_true,List.all_eq_true] at q
     have l:=q.2 v s
     rw [Bool.and_eq_true] at l
     have m:=List.all_eq_true.1 (List.all_eq_true.1 w d u) v s
     cases v<;>first | trivial | exact Wi m | cases l.1 | cases m
    ·cases b
   ·cases b
  ·cases b
noncomputable def repF (s:List UInt8) (c:Nat):Option IV:=match Nat.ble c 100000&&Nat.ble s.length 1000 with
 | true=>some (.str (Lib.repeatL s c))
 | false=>none
noncomputable def spRep:SpF:=fun args _ _=>match args with
 | [.str s,.int .i64 (.ofNat c)]=>match repF s c with
  | some v=>some (v,.no)
  | none=>none
 | _=>none
noncomputable def prRep:PrF:=fun args=>match args with
 | [.str s,.int .i64 (.ofNat c)]=>repF s c
 | _=>none
theorem z1x {s:List UInt8} {c:Nat} {v:IV} (h:repF s c=some v):v=.str (Lib.repeatL s c)/\c<=1000000/\s.length<=1000:=by
 unfold repF at h
 split at h
 ·rename_i b
  rw [Bool.and_eq_true] at b
  cases h
  exact ⟨rfl,Nat.le_trans (Nat.le_of_ble_eq_true b.1) (by decide),Nat.le_of_ble_eq_true b.2⟩
 ·cases h
def zgw (P:Program) (f:FuncId):Prop:=∀{E:Env},E.P=P->∀(s:List UInt8) (c:Nat),c<=1000000->s.length<=1000->ZH E f [.str s,.int .i64 c] (.str (Lib.repeatL s c))
theorem z7B {E0:Env} {f:FuncId} (h:zgw E0.P f):zdS E0 f prRep where
 ok:=fun args r b=>by
  unfold prRep at b
  split at b
  ·obtain ⟨rfl,j,d⟩:=z1x b
   exact ⟨h rfl _ _ j d,trivial⟩
  ·cases b
def lkL (lk:Lk) (n:Nat):List Blk:=(List.range n).map fun i=>(lk i).getD .dead
theorem zch {lk:Lk} {n:Nat} (h:LkC lk n):jT lk (lkL lk n):=fun s b hs=>by
 unfold lkL
 rw [List.getElem?_map,List.getElem?_range (h s b hs).1]
 simp [hs]
theorem z8j {E0:Env} {f:FuncId} (h:zgw E0.P f):z7i E0 f spRep where
 ok:=fun E m args lk n v ef L b q _ _ _=>by
  unfold spRep at b
  split at b
  ·split at b
   ·rename_i d
    cases b
    obtain ⟨rfl,l,j⟩:=z1x d
    exact ZP (args':=[.str _,.int .i64 _]) rfl (h m.P _ _ l j) rfl ⟨rfl,rfl⟩
   ·cases b
  ·cases b
 c:=fun args lk n v ef b _ _=>by
  unfold spRep at b
  split at b
  ·split at b
   ·rename_i d
    cases b
    obtain ⟨rfl,l,j⟩:=z1x d
    exact ⟨trivial,trivial⟩
   ·cases b
  ·cases b
noncomputable def spExt (g:List IV->Option IV):SpF:=fun args _ _=>match g args with
 | some v=>some (v,.no)
 | none=>none
theorem Vg {E0:Env} {f:FuncId} {g:List IV->Option IV} (h:∀E,E.P=E0.P->∀args v,g args=some v->z4q E f args v/\cl 0 v):z7i E0 f (spExt g) where
 ok:=fun E j args lk n v ef L b l _ _ _=>by
  unfold spExt at b
  split at b
  ·rename_i d
   cases b
   exact .inr (.inl ⟨_,(h E j.P _ _ d).1,rfl,rfl⟩)
  ·cases b
 c:=fun args lk n v ef b _ _=>by
  unfold spExt at b
  split at b
  ·rename_i d
   cases b
   exact ⟨y7 (Nat.zero_le _) _ (h E0 rfl _ _ d).2,trivial⟩
  ·cases b
def Z8 (ks:List (List UInt8)):List (List IV):=ks.map fun k=>[.str k]
def z3r (r:List IV):Option (List UInt8):=match r with
 | [.str s]=>some s
 | _=>none
def z9l (rows:List (List IV)):Option (List (List UInt8)):=zF z3r rows
theorem z3x:∀{rows:List (List IV)} {b:List (List UInt8)},z9l rows=some b->rows=Z8 b
 | [],b,h=>by cases h;rfl
 | r::rows,b,h=>by
  unfold z9l at h
  simp only [zF] at h
  cases h1:z3r r with
  | none=>rw [h1] at h;cases h
  | some s=>
   rw [h1] at h
   cases h2:zF z3r rows with
   | none=>rw [h2] at h;cases h
   | some d=>
    rw [h2] at h
    cases h
    have j:rows=Z8 d:=z3x h2
    unfold z3r at h1
    split at h1
    ·cases h1;rw [j];rfl
    ·cases h1
def zhH (P:Program) (f:FuncId):Prop:=∀{E:Env} {L:List Blk},E.P=P->∀{ks:List (List UInt8)} {x:List UInt8} {i kb vb:Nat},L[kb]?=some (.cells 1 (Z8 ks))->L[vb]?=some (.cells 1 [[.str x]])->¬kb=vb->i<=ks.length->0<ks.length->ks.length<=1000000->
 XT E f [.sl kb 0 ks.length ks.length,.int .i64 i,.sl vb 0 1 1] L fun r L'=>∃g,r=.sl g 0 (ks.length+1) (ks.length+1)/\L'[g]?=some (.cells 1 (Z8 (ks.take i++x::ks.drop i)))/\(g=kb\/g=L.length)/\Keep (fun t=>t=kb) L L'
noncomputable def insF (kb m m' i vb:Nat) (rows:List (List IV)) (x:List UInt8) (n:Nat):OR:=match z9l rows with
 | some ks=>match Nat.beq ks.length m&&Nat.beq m m'&&Nat.ble i m&&Nat.blt 0 m&&Nat.ble m 1000000&&!Nat.beq kb vb with
  | true=>some (.sl n 0 (m+1) (m+1),.setPush kb .dead (.cells 1 (rows.take i++[.str x]::rows.drop i)))
  | false=>none
 | none=>none
noncomputable def spIns:SpF:=fun args lk n=>match args with
 | [.sl kb 0 m m',.int .i64 (.ofNat i),.sl vb 0 1 1]=>match lk kb with
  | some (.cells 1 rows)=>match lk vb with
   | some (.cells 1 [[.str x]])=>insF kb m m' i vb rows x n
   | _=>none
  | _=>none
 | _=>none
theorem z2V {args:List IV} {lk:Lk} {n:Nat} {v:IV} {ef:Eff} (h:spIns args lk n=some (v,ef)):∃(b:List (List UInt8)) (x:List UInt8) (i kb r:Nat),args=[.sl kb 0 b.length b.length,.int .i64 i,.sl r 0 1 1]/\lk kb=some (.cells 1 (Z8 b))/\lk r=some (.cells 1 [[.str x]])/\
  ¬kb=r/\i<=b.length/\0<b.length/\b.length<=1000000/\v=.sl n 0 (b.length+1) (b.length+1)/\ef=.setPush kb .dead (.cells 1 (Z8 (b.take i++x::b.drop i))):=by
 unfold spIns at h
 split at h
 ·split at h
  ·split at h
   ·rename_i w _ _ D
    unfold insF at h
    split at h
    ·rename_i b B
     split at h
     ·rename_i s
      simp only [Bool.and_eq_true,Bool.not_eq_true'] at s
      obtain ⟨⟨⟨⟨⟨j,l⟩,m⟩,q⟩,d⟩,u⟩:=s
      have j:=Nat.eq_of_beq_eq_true j
      have l:=Nat.eq_of_beq_eq_true l
      have m:=Nat.le_of_ble_eq_true m
      have q:1<=_:=Nat.le_of_ble_eq_true q
      have d:=Nat.le_of_ble_eq_true d
      subst l;subst j
      cases h
      have A:=z3x B
      subst A
      refine ⟨b,_,_,_,_,rfl,w,D,fun h=>?_,m,q,d,rfl,?_⟩
      ·rw [h] at u;simp at u
      ·simp [Z8,List.map_take,List.map_drop]
     ·cases h
    ·cases h
   ·cases h
  ·cases h
 ·cases h
theorem z7A {E0:Env} {f:FuncId} (h:zhH E0.P f):z7i E0 f spIns where
 ok:=fun E Q args lk n v ef L j A O M _=>by
  obtain ⟨d,x,i,kb,T,rfl,u,G,w,s,J,I,rfl,rfl⟩:=z2V j
  subst O
  have B:=A _ _ u
  have D:(Z8 (d.take i++x::d.drop i)).length=d.length+1:=by simp [Z8];omega
  refine YH (zcE (kb:=kb) (n:=d.length+1) (b:=.cells 1 (Z8 (d.take i++x::d.drop i))) (List.getElem?_eq_some_iff.1 B).1 rfl ?_ M (h Q.P B (A _ _ G) w s J I) ?_) fun r L' ⟨q,l⟩=>⟨q,l⟩
  ·exact Zg.2 fun r m=>by obtain ⟨k,_,rfl⟩:=List.mem_map.1 m;exact ⟨trivial,trivial⟩
  ·rintro r L' ⟨g,rfl,q,l,S⟩
   exact ⟨g,rfl,q,l.imp id (fun h=>by omega),S⟩
 c:=fun args lk n v ef j _ _=>by
  obtain ⟨d,x,i,kb,T,rfl,u,G,w,s,J,I,rfl,rfl⟩:=z2V j
  exact ⟨Nat.lt_succ_self _,trivial,Zg.2 fun r m=>by obtain ⟨k,_,rfl⟩:=List.mem_map.1 m;exact ⟨trivial,trivial⟩⟩
def zfB (P:Program) (f:FuncId) (ty:Nat):Prop:=∀{E:Env} {L:List Blk},E.P=P->∀{b:Nat} {p0 p1 p2:IV} {r0 r1 r2:List (List IV)},L[b]?=some (.cells 1 [[p0],[p1],[p2]])->lenOf p0=some r0.length->lenOf p1=some r1.length->lenOf p2=some r2.length->
 (∀L',Keep (fun _=>False) L L'->rowsOf L' p0=some r0)->(∀L',Keep (fun _=>False) L L'->rowsOf L' p1=some r1)->(∀L',Keep (fun _=>False) L L'->rowsOf L' p2=some r2)->yc 1 r0->yc 1 r1->yc 1 r2->r0.length+r1.length+r2.length<=70368744177664->
 XT E f [.sl b 0 3 3,.nsl] L fun r L'=>r=.sl L.length 0 (r0++r1++r2).length (r0++r1++r2).length/\L'=L++[.tcells ty 1 (r0++r1++r2)]
noncomputable def joinF (ty:Nat) (r0 r1 r2:List (List IV)) (n:Nat):OR:=match yM r0&&yM r1&&yM r2 with
 | true=>some (.sl n 0 (r0++r1++r2).length (r0++r1++r2).length,.push (.tcells ty 1 (r0++r1++r2)))
 | false=>none
noncomputable def spJoin (ty:Nat):SpF:=fun args lk n=>match args with
 | [.sl b 0 3 3,.nsl]=>match lk b with
  | some (.cells 1 [[p0],[p1],[p2]])=>match z9v lk p0 with
   | some r0=>match z9v lk p1 with
    | some r1=>match z9v lk p2 with
     | some r2=>joinF ty r0 r1 r2 n
     | none=>none
    | none=>none
   | none=>none
  | _=>none
 | _=>none
theorem Vz {L:List Blk} {x:IV} {rs:List (List IV)} (h:z4p L x rs):lenOf x=some rs.length:=by
 obtain ⟨b,o,c,all,rfl,_⟩ | rfl:=h<;>rfl
theorem jl {L:List Blk} {x:IV} {rs:List (List IV)} (h:z4p L x rs):rowsOf L x=some rs:=by
 obtain ⟨b,o,c,all,rfl,d | ⟨ty,d⟩,l,j⟩ | rfl:=h
 ·simp only [rowsOf,d];rw [if_pos l,<-j]
 ·simp only [rowsOf,d];rw [if_pos l,<-j]
 ·rfl
theorem jb {L L':List Blk} {x:IV} {rs:List (List IV)} (h:z4p L x rs) (l:Keep (fun _=>False) L L'):z4p L' x rs:=by
 obtain ⟨b,o,c,all,rfl,d | ⟨ty,d⟩,m,j⟩ | rfl:=h
 ·exact .inl ⟨b,o,c,all,rfl,.inl (l.get d id),m,j⟩
 ·exact .inl ⟨b,o,c,all,rfl,.inr ⟨ty,l.get d id⟩,m,j⟩
 ·exact .inr rfl
theorem YO {rs:List (List IV)} (h:yM rs=true):yc 1 rs:=fun r b=>by
 obtain ⟨n,rfl,_⟩:=(yJ h).1 r b
 exact ⟨rfl,rfl⟩
theorem z0r {ty:Nat} {args:List IV} {lk:Lk} {n:Nat} {v:IV} {ef:Eff} {L:List Blk} (j:jT lk L) (h:spJoin ty args lk n=some (v,ef)):∃b q l m r0 r1 r2,args=[.sl b 0 3 3,.nsl]/\lk b=some (.cells 1 [[q],[l],[m]])/\z4p L q r0/\z4p L l r1/\z4p L m r2/\
  yM r0=true/\yM r1=true/\yM r2=true/\v=.sl n 0 (r0++r1++r2).length (r0++r1++r2).length/\ef=.push (.tcells ty 1 (r0++r1++r2)):=by
 unfold spJoin at h
 split at h
 ·split at h
  ·rename_i s
   split at h
   ·rename_i w
    split at h
    ·rename_i u
     split at h
     ·rename_i r
      unfold joinF at h
      split at h
      ·rename_i d
       simp only [Bool.and_eq_true] at d
       cases h
       exact ⟨_,_,_,_,_,_,_,rfl,s,jS j w,jS j u,jS j r,d.1.1,d.1.2,d.2,rfl,rfl⟩
      ·cases h
     ·cases h
    ·cases h
   ·cases h
  ·cases h
 ·cases h
theorem z5R {E0:Env} {f:FuncId} {ty:Nat} (h:zfB E0.P f ty):z7i E0 f (spJoin ty) where
 ok:=fun E O args lk n v ef L s B J S _=>by
  obtain ⟨b,M,D,G,r0,r1,r2,rfl,A,w,u,q,m,j,l,rfl,rfl⟩:=z0r B s
  subst J
  have V:=(yJ m).2
  have U:=(yJ j).2
  have T:=(yJ l).2
  refine YH (h O.P (B _ _ A) (Vz w) (Vz u) (Vz q) (fun L' d=>jl (jb w d)) (fun L' d=>jl (jb u d)) (fun L' d=>jl (jb q d)) (YO m) (YO j) (YO l) od) fun r L' ⟨Q,I⟩=>⟨Q,I⟩
 c:=fun args lk n v ef s hc _=>by
  obtain ⟨b,M,D,G,r0,r1,r2,rfl,A,w,u,q,m,j,l,rfl,rfl⟩:=z0r (L:=lkL lk n) (zch hc) s
  exact ⟨Nat.lt_succ_self _,ve.2 ⟨ve.2 ⟨Wi m,Wi j⟩,Wi l⟩⟩
theorem z6J {E:Env} {f:FuncId} {args:List IV} {L:List Blk} {R:IV->List Blk->Prop} {n:Nat} {b:Blk} {pre post:List IV} (bf:b.alive=true) (aj:clB 0 b) (ae:cl.clL 0 pre) (S:cl.clL 0 post) (hL:∀(s:Nat) (b:Blk),L[s]?=some b->clB L.length b) (h:XT E f args L R)
  (hc:∀r L',R r L'->∃g,r=.agg (pre++.sl g 0 n n::post)/\L'[g]?=some b/\L.length<=g/\Keep (fun _=>False) L L'):XT E f args L fun r L'=>r=.agg (pre++.sl L.length 0 n n::post)/\L'=L++[b]:=by
 refine ⟨h.1,fun w φ X vs wf au hG hl hv=>(h.2 w φ X vs wf au hG hl hv).mono fun e w' ⟨r,L',A,v,D,he,I,O,ext',hr⟩=>?_⟩
 obtain ⟨g,rfl,hg,cu,hk⟩:=hc r L' D
 let φ2:Nat->Loc:=fun s=>if s=L.length then A g else A s
 let L2:List Blk:=L++[b]
 let C':Ctx:=⟨w',A,L',X⟩
 let C2:Ctx:=⟨w',φ2,L2,X⟩
 have Q:∀{s:Nat} {k:Blk},L2[s]?=some k->(s<L.length/\L[s]?=some k/\L'[s]?=some k)\/(s=L.length/\k=b):=fun {s k} hs=>by
  by_cases V:s<L.length
  ·have D:L[s]?=some k:=by rw [<-hs];exact (List.getElem?_append_left V).symm
   exact .inl ⟨V,D,by rw [hk.2 s V id];exact D⟩
  ·have D:[b][s - L.length]?=some k:=by
    rw [<-hs];show _=(L++[b])[s]?;rw [List.getElem?_append_right od]
   have Y:s - L.length<1:=(List.getElem?_eq_some_iff.1 D).1
   have h3:s=L.length:=by omega
   subst h3
   rw [Nat.sub_self] at D;cases D;exact .inr ⟨rfl,rfl⟩
 have U:∀{s:Nat} {k:Blk},L2[s]?=some k->∃u,L'[u]?=some k/\φ2 s=A u/\((s<L.length/\u=s)\/(s=L.length/\u=g)):=fun {s k} hs=>by
  rcases Q hs with ⟨V,_,Y⟩ | ⟨rfl,rfl⟩
  ·exact ⟨s,Y,if_neg od,.inl ⟨V,rfl⟩⟩
  ·exact ⟨g,hg,if_pos rfl,.inr ⟨rfl,rfl⟩⟩
 have d:∀x,C2.mine x->C'.mine x:=fun x ⟨s,k,g1,g2,g3⟩=>by
  obtain ⟨u,Y,h3,_⟩:=U g1
  exact ⟨u,k,Y,g2,by rw [<-g3];exact congrArg Loc.blk h3.symm⟩
 have J:∀x,C2.own x->C'.own x:=fun x M=>M.imp (fun h=>h) (d x)
 have ax:∀t,t<L.length->Ctx.born ⟨w,φ,L,X⟩ t->C2.born t:=fun t q ⟨k,g1,g2⟩=>⟨k,by show (L++[b])[t]?=_;rw [List.getElem?_append_left q];exact g1,g2⟩
 have G:∀s,s<L.length->φ2 s=A s:=fun s hs=>if_neg od
 have af:Ext ⟨w,φ,L,X⟩ C2:=⟨ext'.size,ext'.frame,fun x M=>ext'.sub x (d x M),fun s hs=>by rw [<-ext'.slot s hs];exact G s hs.lt,fun s hs=>ax s hs.lt hs,by show _<=(L++[b]).length;simp,ext'.cap,rfl,ext'.os,ext'.tape,ext'.output⟩
 have bg:∀t,t<L.length->C'.born t->C2.born t:=fun t q ⟨k,g1,g2⟩=>⟨k,by show (L++[b])[t]?=_;rw [List.getElem?_append_left q,<-hk.2 t q id];exact g1,g2⟩
 have bn:Wf E.g0 C2:=⟨fun s t k l hs q az bi m=>by
  obtain ⟨u,u1,u2,u3⟩:=U hs
  obtain ⟨u',v1,v2,v3⟩:=U q
  have m:(φ2 s).blk=(φ2 t).blk:=m
  rw [u2,v2] at m
  have:=I.inj u u' k l u1 v1 az bi m
  rcases u3 with ⟨a1,a2⟩ | ⟨a1,a2⟩<;>rcases v3 with ⟨b1,b2⟩ | ⟨b1,b2⟩<;>omega,fun x M=>I.lo x (d x M),fun x M hm=>I.apart x M (d x hm),I.exlo,I.g⟩
 have ag:Sim C2:=fun s k hs=>by
  rcases Q hs with ⟨V,Y,h3⟩ | ⟨rfl,rfl⟩
  ·exact Zp.move (C:=C') (C':=C2) (N:=L.length) rfl (G s V) G bg J (hL s k Y) (O s k h3)
  ·exact Zp.move (C:=C') (C':=C2) (N:=0) (s:=g) rfl (if_pos rfl) (fun t q=>absurd q (Nat.not_lt_zero t)) (fun t q=>absurd q (Nat.not_lt_zero t)) J aj (O g _ hg)
 have Z:∀{x:IV} {v:Value},cl 0 x->VR C' x v->VR C2 x v:=fun M hv=>VR.move (C:=C') (C':=C2) (N:=0) rfl (fun t q=>absurd q (Nat.not_lt_zero t)) (fun t q=>absurd q (Nat.not_lt_zero t)) J hv M
 have ah:φ2 L.length=A g:=if_pos rfl
 have bz:∀{v:Value},VR C' (.sl g 0 n n) v->VR C2 (.sl L.length 0 n n) v:=fun {v} hv=>by
  cases hv with
  | sl s off len cap a cap' dh T ay bu ak=>
   refine .sl L.length 0 n n a cap' ⟨b,by show (L++[b])[L.length]?=_;simp,by cases b<;>first | rfl | cases bf⟩ T ay ?_ ak
   show _\/(a=some ⟨(φ2 L.length).blk,(φ2 L.length).base+0*(φ2 L.length).sz,none⟩/\∃c e fr,w'.heap[(φ2 L.length).blk]?=some (.cells c e fr)/\(φ2 L.length).base+(0+cap')*(φ2 L.length).sz<=c.size)
   rw [ah];exact bu
 refine ⟨.agg (pre++.sl L.length 0 n n::post),L2,φ2,v,⟨rfl,rfl⟩,he,bn,ag,af,?_⟩
 cases hr with
 | agg cs vs T ai=>
  refine .agg _ vs (by rw [<-T];simp) fun i x hi=>?_
  by_cases D:i<pre.length
  ·rw [List.getElem?_append_left D] at hi
   exact Z (zQ.1 ae x (List.mem_of_getElem? hi)) (ai i x (by rw [List.getElem?_append_left D];exact hi))
  ·rw [List.getElem?_append_right od] at hi
   have B:=fun y=>ai i y
   simp only [List.getElem?_append_right (show pre.length<=i by omega)] at B
   cases hj:i - pre.length with
   | zero=>
    rw [hj] at hi B
    cases hi
    exact bz (B _ rfl)
   | succ j=>
    rw [hj] at hi B
    exact Z (zQ.1 S x (List.mem_of_getElem? hi)) (B x hi)
def z7Z (lk:Lk):IV->Option (List (List IV))
 | .isl rs=>some rs
 | .sl b o n c=>match Nat.blt 0 c with
  | true=>Yr lk (.sl b o n c)
  | false=>none
 | _=>none
theorem z7D {lk:Lk} {L:List Blk} (j:jT lk L) {x:IV} {rs:List (List IV)} (h:z7Z lk x=some rs):rowsOf L x=some rs/\((∃rows,x=.isl rows)\/∃b o l c,x=.sl b o l c/\¬c=0):=by
 unfold z7Z at h
 split at h
 ·cases h;exact ⟨rfl,.inl ⟨_,rfl⟩⟩
 ·split at h
  ·rename_i d
   have d:1<=_:=Nat.le_of_ble_eq_true d
   exact ⟨Y4 j h,.inr ⟨_,_,_,_,rfl,od⟩⟩
  ·cases h
 ·cases h
def z6W:IV->Bool
 | .bool _ | .int _ _ | .str _=>true
 | _=>false
def z7g (sz:Nat) (rs:List (List IV)):Bool:=rs.all (fun r=>Nat.beq r.length sz&&r.all z6W)&&Nat.ble rs.length 1000000&&Nat.blt 0 rs.length
theorem z2N {sz:Nat} {rs:List (List IV)} (h:z7g sz rs=true):yc sz rs/\rs.length<=1000000/\rs≠[]/\cl.clR 0 rs:=by
 unfold z7g at h
 simp only [Bool.and_eq_true,List.all_eq_true] at h
 obtain ⟨⟨l,s⟩,q⟩:=h
 have j:∀r∈rs,r.length=sz/\∀v∈r,zU v=true/\cl 0 v:=fun r b=>⟨Nat.eq_of_beq_eq_true (l r b).1,fun v d=>by
  have m:=(l r b).2 v d
  cases v<;>first | exact ⟨rfl,trivial⟩ | cases m⟩
 refine ⟨fun r b=>⟨(j r b).1,List.all_eq_true.2 fun v d=>((j r b).2 v d).1⟩,Nat.le_of_ble_eq_true s,(fun h=>by subst h;cases q),Zg.2 fun r b=>zQ.2 fun v d=>((j r b).2 v d).2⟩
def zhN (P:Program) (f:FuncId):Prop:=∀{E:Env} {L:List Blk},E.P=P->∀{k0 k1 k2 k3 k4 k5 x sg k8:IV} {rs:List (List IV)},rowsOf L x=some rs->((∃rows,x=.isl rows)\/∃b o l c,x=.sl b o l c/\¬c=0)->yc 3 rs->rs≠[]->rs.length<=1000000->(sg=.isl []\/sg=.nsl)->
 [k0,k1,k2,k3,k4,k5,k8].all zU=true->XT E f [.agg [k0,k1,k2,k3,k4,k5,x,sg,k8]] L fun r L'=>r=.agg [k0,k1,k2,k3,k4,k5,.sl (L.length+3) 0 rs.length rs.length,.isl [],k8]/\L'[L.length+3]?=some (.cells 3 rs)/\Keep (fun _=>False) L L'
def isE:IV->Bool
 | .isl [] | .nsl=>true
 | _=>false
noncomputable def copF (k0 k1 k2 k3 k4 k5 sg k8:IV) (rs:List (List IV)) (n:Nat):OR:=match [k0,k1,k2,k3,k4,k5,k8].all z6W&&isE sg&&z7g 3 rs with
 | true=>some (.agg [k0,k1,k2,k3,k4,k5,.sl n 0 rs.length rs.length,.isl [],k8],.push (.cells 3 rs))
 | false=>none
noncomputable def spCop:SpF:=fun args lk n=>match args with
 | [.agg [k0,k1,k2,k3,k4,k5,x,sg,k8]]=>match z7Z lk x with
  | some rs=>copF k0 k1 k2 k3 k4 k5 sg k8 rs n
  | none=>none
 | _=>none
theorem z2Y {args:List IV} {lk:Lk} {n:Nat} {v:IV} {ef:Eff} (h:spCop args lk n=some (v,ef)):∃k0 k1 k2 k3 k4 k5 x sg k8 rs,args=[.agg [k0,k1,k2,k3,k4,k5,x,sg,k8]]/\z7Z lk x=some rs/\[k0,k1,k2,k3,k4,k5,k8].all z6W=true/\(sg=.isl []\/sg=.nsl)/\z7g 3 rs=true/\
  v=.agg [k0,k1,k2,k3,k4,k5,.sl n 0 rs.length rs.length,.isl [],k8]/\ef=.push (.cells 3 rs):=by
 unfold spCop at h
 split at h
 ·split at h
  ·rename_i j
   unfold copF at h
   split at h
   ·rename_i b
    rw [Bool.and_eq_true,Bool.and_eq_true] at b
    cases h
    refine ⟨_,_,_,_,_,_,_,_,_,_,rfl,j,b.1.1,?_,b.2,rfl,rfl⟩
    have d:=b.1.2
    unfold isE at d
    split at d
    ·exact .inl rfl
    ·exact .inr rfl
    ·cases d
   ·cases h
  ·cases h
 ·cases h
theorem z2C {l:List IV} (h:l.all z6W=true):cl.clL 0 l/\l.all zU=true:=by
 rw [List.all_eq_true] at h
 refine ⟨zQ.2 fun v d=>?_,List.all_eq_true.2 fun v d=>?_⟩
 ·have b:=h v d;cases v<;>first | trivial | cases b
 ·have b:=h v d;cases v<;>first | rfl | cases b
theorem z7k {E0:Env} {f:FuncId} (h:zhN E0.P f):z7i E0 f spCop where
 ok:=fun E Q args lk n v ef L l O M J _=>by
  obtain ⟨k0,k1,k2,k3,k4,k5,x,sg,k8,rs,rfl,B,w,D,s,rfl,rfl⟩:=z2Y l
  subst M
  obtain ⟨q,m,G,u⟩:=z2N s
  obtain ⟨I,T⟩:=z7D O B
  obtain ⟨d,A⟩:=z2C w
  refine YH (z6J (n:=rs.length) (b:=.cells 3 rs) (pre:=[k0,k1,k2,k3,k4,k5]) (post:=[.isl [],k8]) rfl u ?_ ?_ J (h Q.P I T q G m D A) ?_) fun r L' ⟨q,m⟩=>⟨q,m⟩
  ·exact ⟨d.1,d.2.1,d.2.2.1,d.2.2.2.1,d.2.2.2.2.1,d.2.2.2.2.2.1,trivial⟩
  ·exact ⟨trivial,d.2.2.2.2.2.2.1,trivial⟩
  ·rintro r L' ⟨rfl,U,S⟩
   exact ⟨_,rfl,U,od,S⟩
 c:=fun args lk n v ef l hc _=>by
  obtain ⟨k0,k1,k2,k3,k4,k5,x,sg,k8,rs,rfl,B,w,D,s,rfl,rfl⟩:=z2Y l
  obtain ⟨q,m,G,u⟩:=z2N s
  obtain ⟨d,A⟩:=z2C w
  have j:∀{x},cl 0 x->cl (n+1) x:=fun l=>y7 (Nat.zero_le _) _ l
  refine ⟨⟨j d.1,j d.2.1,j d.2.2.1,j d.2.2.2.1,j d.2.2.2.2.1,j d.2.2.2.2.2.1,Nat.lt_succ_self n,trivial,j d.2.2.2.2.2.2.1,trivial⟩,ZL (Nat.zero_le _) _ u⟩
noncomputable def spCl0:SpF:=fun args _ _=>match args with
 | [.isl []]=>some (.isl [],.no)
 | _=>none
noncomputable def spNum0:SpF:=fun args lk _=>match args with
 | [x]=>match z9v lk x with
  | some []=>some (.tup [.int .i64 0,.int .i64 0,.int .i64 2],.no)
  | _=>none
 | _=>none
def zfu (P:Program) (f:FuncId):Prop:=∀{E:Env} {L:List Blk},E.P=P->∀{x:IV},z4p L x []->XT E f [x] L fun r L'=>r=.tup [.int .i64 0,.int .i64 0,.int .i64 2]/\L'=L
theorem z5f {E0:Env} {f:FuncId} (h:zfu E0.P f):z7i E0 f spNum0 where
 ok:=fun E m args lk n v ef L b l _ _ _=>by
  unfold spNum0 at b
  split at b
  ·split at b
   ·rename_i d
    cases b
    exact YH (h m.P (jS l d)) fun r L' ⟨q,j⟩=>⟨q,j⟩
   ·cases b
  ·cases b
 c:=fun args lk n v ef b _ _=>by
  unfold spNum0 at b
  split at b
  ·split at b
   ·cases b;exact ⟨⟨trivial,trivial,trivial,trivial⟩,trivial⟩
   ·cases b
  ·cases b
end Go.X
end
section
open Go Go.X Go.Proofs
set_option maxRecDepth 100000
set_option maxHeartbeats 4000000
namespace Go.X.TryzW
section
variable {E:Env} {ρ:Rho} {L:List Blk} {K:IV->List Blk->Prop}
def zh4 : XC :=(sO [oV 4 .nsl] (.seq (sO [oM 12 0,oY 13 12,oK 14 .eql 13 0] (cT 14 (sO [oO 15 (.bslice 1 [(.int .u8 0)] 0 []),oM 4 15] .ret) .skip)) (.seq (sO [oM 16 0,oY 17 16,oK 18 .eql 17 1] (cT 18 (sO [oM 19 0,oO 20 (.idxS 1 (.t 19) (oi 0)),oL 21 20,oO 22 (.ex (.appT 5 1) [(.c .nsl),.t 21]),oM 4 22] .ret) .skip)) (sO [oI 5 0] (.seq (sO [oM 23 1,oY 24 23,oK 25 .gtr 24 0] (cT 25 (.seq (sO [oM 26 1,oY 27 26,oM 28 0,oY 29 28,oK 30 .sub 29 1,oO 31 (.bin .quo (oi 9223372036854775807) (.t 30)),oB 32 .geq 27 31] (cT 32 (.ops [oO 33 (.ex (.mkif 9) [(.c (.str [98,121,116,101,115,58,32,74,111,105,110,32,111,117,116,112,117,116,32,108,101,110,103,116,104,32,111,118,101,114,102,108,111,119]))]),oU (.ex .panic [.t 33])]) .skip)) (.ops [oM 34 5,oM 35 1,oY 36 35,oM 37 0,oY 38 37,oK 39 .sub 38 1,oB 40 .mul 36 39,oB 41 .add 34 40,oM 5 41])) .skip)) (.seq (sO [oM 42 0,oY 43 42,oI 44 0] (.block 0 (.loop (sO [oB 45 .lss 44 43] (.seq (cT 45 .skip (.exit 0)) (.seq (.block 1 (sO [oO 46 (.idxS 1 (.t 42) (.t 44)),oL 47 46,oM 7 47] (.seq (sO [oM 48 7,oY 49 48,oM 50 5,oO 51 (.bin .sub (oi 9223372036854775807) (.t 50)),oB 52 .gtr 49 51] (cT 52 (.ops [oO 53 (.ex (.mkif 9) [(.c (.str [98,121,116,101,115,58,32,74,111,105,110,32,111,117,116,112,117,116,32,108,101,110,103,116,104,32,111,118,101,114,102,108,111,119]))]),oU (.ex .panic [.t 53])]) .skip)) (.ops [oM 54 5,oM 55 7,oY 56 55,oB 57 .add 54 56,oM 5 57])))) (.ops [oK 58 .add 44 1,oM 44 58]))))))) (sO [oM 59 5,oC 60 336 [.t 59],oM 61 5,oM 62 5,oO 63 (.ex (.sl3 1) [.t 60,(oi 0),.t 61,.t 62]),oM 8 63] (sO [oM 64 8,oM 65 0,oO 66 (.idxS 1 (.t 65) (oi 0)),oL 67 66,oO 68 (.ex (.copy 1) [.t 64,.t 67]),oM 9 68] (.seq (sO [oM 69 0,oO 70 (.slice 1 (.t 69) (some (oi 1)) none),oY 71 70,oI 72 0] (.block 2 (.loop (sO [oB 73 .lss 72 71] (.seq (cT 73 .skip (.exit 2)) (.seq (.block 3 (sO [oO 74 (.idxS 1 (.t 70) (.t 72)),oL 75 74,oM 11 75] (sO [oM 76 9,oM 77 8,oM 78 9,oO 79 (.slice 1 (.t 77) (some (.t 78)) none),oM 80 1,oO 81 (.ex (.copy 1) [.t 79,.t 80]),oB 82 .add 76 81,oM 9 82] (.ops [oM 83 9,oM 84 8,oM 85 9,oO 86 (.slice 1 (.t 84) (some (.t 85)) none),oM 87 11,oO 88 (.ex (.copy 1) [.t 86,.t 87]),oB 89 .add 83 88,oM 9 89])))) (.ops [oK 90 .add 72 1,oM 72 90]))))))) (sO [oM 91 8,oM 4 91] .ret))))))))))
def z7U (rs:List (List IV)):Prop:=∀r∈rs,∃n:Int,r=[.int .u8 n]
theorem wz {l r:List (List IV)} {k:Nat} {p:List (List IV)} (d:l.take k=p) (h:p.length=k) (b:k+r.length<=l.length):(splice l k r).take (k+r.length)=p++r/\(splice l k r).length=l.length:=by
 subst d
 refine ⟨?_,YU b⟩
 unfold splice
 rw [List.take_append_of_le_length (by simp;omega),List.take_of_length_le (by simp;omega)]
theorem zc0 (b:E.P=Tryz.prog) (n:Nat) (d:n<=281474976710656) {K:IV->List Blk->Prop} (h:∀rows:List (List IV),rows.length=n->z7U rows->K (.sl L.length 0 n n) (L++[.tcells 5 1 rows])):XTX E 336 [.int .i64 n] L K:=by
 refine z9Z (fn:=Tryz.f336) (t:=118) (ps:=#[3]) (by rw [b];rfl) (by decide) (by rfl) (by kernel_rfl) (by kernel_rfl) (by rw [b];kernel_rfl) n d h
theorem z8d (hP : E.P = Tryz.prog) {b : Nat} {p0 p1 p2 : IV} {r0 r1 r2 : List (List IV)} (hb : L[b]? = some (.cells 1 [[p0], [p1], [p2]])) (l0 : lenOf p0 = some r0.length) (l1 : lenOf p1 = some r1.length) (l2 : lenOf p2 = some r2.length)
    (x0 : ∀ L', Keep none' L L' → rowsOf L' p0 = some r0) (x1 : ∀ L', Keep none' L L' → rowsOf L' p1 = some r1) (x2 : ∀ L', Keep none' L L' → rowsOf L' p2 = some r2) (c0 : yc 1 r0) (c1 : yc 1 r1) (c2 : yc 1 r2)
    (hN : r0.length + r1.length + r2.length ≤ 70368744177664) :
    XT E 352 [.sl b 0 3 3, .nsl] L fun r L' => r = .sl L.length 0 (r0 ++ r1 ++ r2).length (r0 ++ r1 ++ r2).length ∧ L' = L ++ [.tcells 5 1 (r0 ++ r1 ++ r2)] := by
  have lb := YA hb
  have w1 : IntKind.i64.wrap (0 + (r0.length : Int)) = (r0.length : Int) := by rw [wrap64 (by omega) (by omega)]; omega
  have w2 : IntKind.i64.wrap ((r0.length : Int) + (r1.length : Int)) = ((r0.length + r1.length : Nat) : Int) := by rw [wrap64 (by omega) (by omega)]; omega
  have w3 : IntKind.i64.wrap (((r0.length + r1.length : Nat) : Int) + (r2.length : Int)) = ((r0.length + r1.length + r2.length : Nat) : Int) := by rw [wrap64 (by omega) (by omega)]; omega
  have v1 : IntKind.i64.wrap (9223372036854775807 - 0) = 9223372036854775807 := by decide
  have v2 : IntKind.i64.wrap (9223372036854775807 - (r0.length : Int)) = 9223372036854775807 - (r0.length : Int) := by rw [wrap64 (by omega) (by omega)]
  have v3 : IntKind.i64.wrap (9223372036854775807 - ((r0.length + r1.length : Nat) : Int)) = 9223372036854775807 - ((r0.length + r1.length : Nat) : Int) := by rw [wrap64 (by omega) (by omega)]
  have g1 : ((9223372036854775807 : Int) < (r0.length : Int)) = False := eq_false (by omega)
  have g2 : (9223372036854775807 - (r0.length : Int) < (r1.length : Int)) = False := eq_false (by omega)
  have g3 : (9223372036854775807 - ((r0.length + r1.length : Nat) : Int) < (r2.length : Int)) = False := eq_false (by omega)
  refine zaZ (n := Tryz.f352.ntmps) (rs := [.tmp 4]) (c := zh4) (by rw [hP]; rfl) (by rw [hP]; kernel_rfl) (by decide) (Nat.le_of_ble_eq_true rfl) ?_
  generalize hρ : entry _ = ρ
  have h0 : ρ 0 = .sl b 0 3 3 := by rw [← hρ]; rfl
  have h1 : ρ 1 = .nsl := by rw [← hρ]; rfl
  clear hρ
  unfold zh4
  simp (maxDischargeDepth := 12) only [decide_false, h0, h1, go_sem, Nat.reduceEqDiff, reduceIte, Int.reduceEq, Int.reduceLT]
  refine wS (fun n ρ L' => L' = L ∧ ρ 0 = .sl b 0 3 3 ∧ ρ 1 = .nsl ∧ ρ 42 = .sl b 0 3 3 ∧ ρ 43 = .int .i64 3 ∧ ((n = 3 ∧ ρ 44 = .int .i64 0 ∧ ρ 5 = .int .i64 0) ∨ (n = 2 ∧ ρ 44 = .int .i64 1 ∧ ρ 5 = .int .i64 r0.length) ∨
    (n = 1 ∧ ρ 44 = .int .i64 2 ∧ ρ 5 = .int .i64 (r0.length + r1.length : Nat)) ∨ (n = 0 ∧ ρ 44 = .int .i64 3 ∧ ρ 5 = .int .i64 (r0.length + r1.length + r2.length : Nat)))) (n := 3)
    ⟨rfl, by simp (maxDischargeDepth := 12) only [h0, go_sem, Nat.reduceEqDiff, reduceIte], by simp (maxDischargeDepth := 12) only [h1, go_sem, Nat.reduceEqDiff, reduceIte], by simp (maxDischargeDepth := 12) only [go_sem, Nat.reduceEqDiff, reduceIte], by simp (maxDischargeDepth := 12) only [go_sem, Nat.reduceEqDiff, reduceIte], .inl ⟨rfl, by simp (maxDischargeDepth := 12) only [go_sem, Nat.reduceEqDiff, reduceIte], by simp (maxDischargeDepth := 12) only [go_sem, Nat.reduceEqDiff, reduceIte]⟩⟩ ?_
  clear h0 h1 ρ
  rintro n ρ L' ⟨rfl, h0, h1, h42, h43, ⟨rfl, h44, h5⟩ | ⟨rfl, h44, h5⟩ | ⟨rfl, h44, h5⟩ | ⟨rfl, h44, h5⟩⟩
  · simp (maxDischargeDepth := 12) only [decide_true, decide_false, zbi, h0, h1, hb, jF l0, h42, h43, h44, h5, g1, w1, go_sem, Nat.reduceEqDiff, reduceIte, Int.reduceLT, Int.reduceLE, Nat.reduceAdd, Int.reduceToNat, Int.reduceSub, Int.reduceAdd, Int.reduceNeg]
    exact ⟨2, by omega, .inr (.inl rfl)⟩
  · simp (maxDischargeDepth := 12) only [decide_true, decide_false, zbi, h0, h1, hb, jF l1, h42, h43, h44, h5, v2, g2, w2, go_sem, Nat.reduceEqDiff, reduceIte, Int.reduceLT, Int.reduceLE, Nat.reduceAdd, Nat.reduceLT, Int.reduceToNat, Int.reduceAdd, Int.reduceNeg]
    exact ⟨1, by omega, .inr (.inr (.inl rfl))⟩
  · simp (maxDischargeDepth := 12) only [decide_true, decide_false, zbi, h0, h1, hb, jF l2, h42, h43, h44, h5, v3, g3, w3, go_sem, Nat.reduceEqDiff, reduceIte, Int.reduceLT, Int.reduceLE, Nat.reduceAdd, Nat.reduceLT, Int.reduceToNat, Int.reduceAdd, Int.reduceNeg]
    exact ⟨0, by omega, .inr (.inr (.inr rfl))⟩
  · obtain ⟨N, hNe⟩ : ∃ N, r0.length + r1.length + r2.length = N := ⟨_, rfl⟩
    clear v1 v2 v3 g1 g2 g3
    rw [hNe] at h5
    simp (maxDischargeDepth := 12) only [decide_false, h43, h44, h5, go_sem, Nat.reduceEqDiff, reduceIte, Int.reduceLT]
    refine z9K (zc0 hP N (by omega) ?_)
    intro rows hrl hbr
    have n0 : ((0 : Int) ≤ (N : Int)) = True := eq_true (by omega)
    simp (maxDischargeDepth := 12) only [decide_false, h0, hb, lb, h5, n0, vJ, Int.le_refl, Int.sub_zero, Int.toNat_natCast, Nat.add_zero, go_sem, Nat.reduceEqDiff, reduceIte, Int.reduceLT, Int.reduceLE, Nat.reduceAdd, Nat.reduceLeDiff, Int.reduceToNat]
    refine z6F (ty := 5) (rows := rows) (x0 _ (by (repeat' first | exact Keep.refl | apply Keep.app | apply Keep.set) <;> (intro hh; first | rfl | (exfalso; first | omega | (simp only [List.length_append, List.length_set, List.length_cons, List.length_nil] at hh; omega))))) (by simp (maxDischargeDepth := 12) only [go_sem]) c0 (by omega) (by omega) ?_
    obtain ⟨s1, s2⟩ := wz (l := rows) (r := r0) (k := 0) (p := []) (by simp) rfl (by omega)
    simp only [Nat.zero_add, List.nil_append] at s1
    generalize splice rows 0 r0 = M at *
    simp (maxDischargeDepth := 12) only [hb, lb, go_sem]
    refine wS (fun n ρ L1 => ρ 1 = .nsl ∧ ρ 70 = .sl b 1 2 2 ∧ ρ 71 = .int .i64 2 ∧ ρ 8 = .sl L'.length 0 N N ∧ ∃ M, L1 = L' ++ [.tcells 5 1 M] ∧ M.length = N ∧
      ((n = 2 ∧ ρ 72 = .int .i64 0 ∧ ρ 9 = .int .i64 r0.length ∧ M.take r0.length = r0) ∨
       (n = 1 ∧ ρ 72 = .int .i64 1 ∧ ρ 9 = .int .i64 (r0.length + r1.length : Nat) ∧ M.take (r0.length + r1.length) = r0 ++ r1) ∨
       (n = 0 ∧ ρ 72 = .int .i64 2 ∧ ρ 9 = .int .i64 N ∧ M.take N = r0 ++ r1 ++ r2))) (n := 2)
      ⟨by simp (maxDischargeDepth := 12) only [h1, go_sem, Nat.reduceEqDiff, reduceIte], by simp (maxDischargeDepth := 12) only [go_sem, Nat.reduceEqDiff, reduceIte], by simp (maxDischargeDepth := 12) only [go_sem, Nat.reduceEqDiff, reduceIte] <;> rfl, by simp (maxDischargeDepth := 12) only [go_sem, Nat.reduceEqDiff, reduceIte], M, rfl, by omega, .inl ⟨rfl, by simp (maxDischargeDepth := 12) only [go_sem, Nat.reduceEqDiff, reduceIte], by simp (maxDischargeDepth := 12) only [go_sem, Nat.reduceEqDiff, reduceIte], s1⟩⟩ ?_
    clear h0 h1 h42 h43 h44 h5 s1 s2 hbr hrl M ρ rows
    rintro n ρ L1 ⟨h1, h70, h71, h8, M, rfl, hML, ⟨rfl, h72, h9, hT⟩ | ⟨rfl, h72, h9, hT⟩ | ⟨rfl, h72, h9, hT⟩⟩
    · have q1 : ((r0.length : Int) + 0) = r0.length := by omega
      have q2 : IntKind.i64.wrap ((r0.length : Int) + 0) = r0.length := by rw [wrap64 (by omega) (by omega)]; omega
      have q3 : r0.length ≤ N := by omega
      have q4 : ((0 : Int) ≤ (r0.length : Int)) = True := eq_true (by omega)
      simp (maxDischargeDepth := 12) only [decide_true, h1, h70, h71, h8, h72, h9, hb, lb, vJ, q2, q3, q4, Int.toNat_natCast, Nat.zero_add, Nat.le_refl, go_sem, Nat.reduceEqDiff, reduceIte, Int.reduceLT, Int.reduceLE, Nat.reduceAdd, Nat.reduceLT, Int.reduceToNat]
      refine z6F (ty := 5) (rows := M) (x1 _ (by (repeat' first | exact Keep.refl | apply Keep.app | apply Keep.set) <;> (intro hh; first | rfl | (exfalso; first | omega | (simp only [List.length_append, List.length_set, List.length_cons, List.length_nil] at hh; omega))))) (by simp (maxDischargeDepth := 12) only [go_sem]) c1 (by omega) (by omega) ?_
      obtain ⟨s1, s2⟩ := wz hT rfl (show r0.length + r1.length ≤ M.length by omega)
      generalize splice M r0.length r1 = M' at *
      simp (maxDischargeDepth := 12) only [decide_true, zbi, h1, h70, h71, h8, h72, h9, w2, go_sem, Nat.reduceEqDiff, reduceIte, Int.reduceLT, Int.reduceLE, Nat.reduceAdd, Int.reduceToNat, Int.reduceAdd, Int.reduceNeg]
      exact ⟨1, by omega, M', rfl, by omega, .inr (.inl ⟨rfl, s1⟩)⟩
    · have q2 : IntKind.i64.wrap (((r0.length + r1.length : Nat) : Int) + 0) = (r0.length + r1.length : Nat) := by rw [wrap64 (by omega) (by omega)]; omega
      have q3 : r0.length + r1.length ≤ N := by omega
      have q4 : ((0 : Int) ≤ ((r0.length + r1.length : Nat) : Int)) = True := eq_true (by omega)
      simp (maxDischargeDepth := 12) only [decide_true, h1, h70, h71, h8, h72, h9, hb, lb, vJ, q2, q3, q4, Int.toNat_natCast, Nat.zero_add, Nat.le_refl, go_sem, Nat.reduceEqDiff, reduceIte, Int.reduceLT, Int.reduceLE, Nat.reduceAdd, Nat.reduceLT, Int.reduceToNat]
      refine z6F (ty := 5) (rows := M) (x2 _ (by (repeat' first | exact Keep.refl | apply Keep.app | apply Keep.set) <;> (intro hh; first | rfl | (exfalso; first | omega | (simp only [List.length_append, List.length_set, List.length_cons, List.length_nil] at hh; omega))))) (by simp (maxDischargeDepth := 12) only [go_sem]) c2 (by omega) (by omega) ?_
      obtain ⟨s1, s2⟩ := wz hT (by simp) (show r0.length + r1.length + r2.length ≤ M.length by omega)
      generalize splice M (r0.length + r1.length) r2 = M' at *
      simp (maxDischargeDepth := 12) only [decide_true, zbi, h1, h70, h71, h8, h72, h9, w3, go_sem, Nat.reduceEqDiff, reduceIte, Int.reduceLT, Int.reduceLE, Nat.reduceAdd, Int.reduceToNat, Int.reduceAdd, Int.reduceNeg]
      rw [hNe] at s1
      rw [hNe]
      exact ⟨0, by omega, M', rfl, by omega, .inr (.inr ⟨rfl, rfl, s1⟩)⟩
    · have hT' : M = r0 ++ r1 ++ r2 := by rw [← hT, List.take_of_length_le (by omega)]
      simp (maxDischargeDepth := 12) only [decide_false, h71, h8, h72, go_sem, Nat.reduceEqDiff, reduceIte, Int.reduceLT]
      subst hT'
      rw [← hML]
      exact ⟨rfl, rfl⟩
end
end Go.X.TryzW
end
section
namespace Go.X
open Go
section
variable {E:Env}
theorem z7K {xs:List zg} {i:Nat} {KK KK':Rho->List Blk->Prop} (h:∀ρ L,KK ρ L->KK' ρ L) {ρ:Rho} {L:List Blk} (hs:sOp E xs i KK ρ L):sOp E xs i KK' ρ L:=by
 unfold sOp at hs ⊢
 split
 ·rename_i b;rw [b] at hs;exact h _ _ hs
 ·rename_i o b;rw [b] at hs;exact jA (fun v L' d=>h _ _ d) hs
theorem z8y {ops:Array Oper} {xs:List zg} {K:Rho->List Blk->Prop} (Inv:(Nat->Bool)->Rho->List Blk->Prop)
  (m:∀(d:Array Bool) (ρ:Rho) (L:List Blk),d.size=ops.size->Inv (fun i=>d.getD i true) ρ L->∀i∈Region.ready .any ops d,sOp E xs i (Inv fun k=>if k=i then true else d.getD k true) ρ L)
  (l:∀(d:Array Bool) (ρ:Rho) (L:List Blk),d.size=ops.size->Region.ready .any ops d=[]->Inv (fun i=>d.getD i true) ρ L->K ρ L) :
  ∀(fuel:Nat) (d:Array Bool) (ρ:Rho) (L:List Blk) (w:List Nat),d.size=ops.size->w.length<=fuel->(∀i,i<ops.size->d.getD i true=false->i∈w)->Inv (fun i=>d.getD i true) ρ L->z0n E ops xs K fuel d ρ L:=by
 intro fuel
 induction fuel with
 | zero=>
  intro d ρ L w hsz u h B
  have s:Region.ready .any ops d=[]:=by
   cases s:Region.ready .any ops d with
   | nil=>rfl
   | cons i r=>
    obtain ⟨q,o,D,_⟩:=mem_ready.1 (show i∈Region.ready .any ops d by rw [s];exact List.mem_cons_self)
    have A:=h i (Array.getElem?_eq_some_iff.1 D).1 q
    rw [List.length_eq_zero_iff.1 (Nat.le_zero.1 u)] at A;cases A
  exact ⟨s,l d ρ L hsz s B⟩
 | succ fuel M=>
  intro d ρ L w hsz u h B
  refine ⟨fun s=>l d ρ L hsz s B,fun i hi=>?_⟩
  obtain ⟨q,o,D,_⟩:=mem_ready.1 hi
  have I:i<d.size:=by
   rw [Array.getD_eq_getD_getElem?] at q
   cases hx:d[i]? with
   | none=>rw [hx] at q;cases q
   | some b=>exact (Array.getElem?_eq_some_iff.1 hx).1
  have G:=h i (Array.getElem?_eq_some_iff.1 D).1 q
  have hg:∀k,(d.setIfInBounds i true).getD k true=if k=i then true else d.getD k true:=fun k=>Z4 I
  refine z7K (fun ρ' L' A=>?_) (m d ρ L hsz B i hi)
  refine M _ ρ' L' (w.erase i) (by simpa using hsz) (by rw [List.length_erase_of_mem G];omega) (fun k J j=>?_) (by simpa only [hg] using A)
  rw [hg] at j
  by_cases hki:k=i
  ·rw [if_pos hki] at j;cases j
  ·rw [if_neg hki] at j
   exact (List.mem_erase_of_ne hki).2 (h k J j)
theorem z4a {ops:Array Oper} {b:Array Bool} (hsz:b.size=ops.size) (r:Region.ready .any ops b=[]) (m:∀(i:Nat) (o:Oper),ops[i]?=some o->∀e∈o.after,Region.binds .any e=true->e.on<i):∀i,i<ops.size->b.getD i true=true:=by
 intro i
 induction i using Nat.strongRecOn with
 | ind i j=>
  intro hi
  by_cases hli:b.getD i true=true
  ·exact hli
  ·exfalso
   have:i∈Region.ready .any ops b:=by
    rw [mem_ready]
    refine ⟨by simpa using hli,ops[i],Array.getElem?_eq_getElem hi,fun e h l=>?_⟩
    have q:=m i _ (Array.getElem?_eq_getElem hi) e h l
    have d:=j e.on q od
    rw [ZW od] at d ⊢
    exact d
   rw [r] at this;cases this
theorem zaf {ops:Array Oper} {xs:List zg} {K:Rho->List Blk->Prop} {ρ:Rho} {L:List Blk} (Inv:(Nat->Bool)->Rho->List Blk->Prop) (l:Inv (fun i=>decide (ops.size<=i)) ρ L)
  (d:∀(b:Array Bool) (ρ:Rho) (L:List Blk),b.size=ops.size->Inv (fun i=>b.getD i true) ρ L->∀i∈Region.ready .any ops b,sOp E xs i (Inv fun k=>if k=i then true else b.getD k true) ρ L)
  (j:∀(b:Array Bool) (ρ:Rho) (L:List Blk),b.size=ops.size->Region.ready .any ops b=[]->Inv (fun i=>b.getD i true) ρ L->K ρ L):z0n E ops xs K ops.size (Array.replicate ops.size false) ρ L:=by
 refine z8y Inv d j ops.size _ ρ L (List.range ops.size) (by simp) (by simp) (fun i hi _=>List.mem_range.2 hi) ?_
 have:(fun i=>(Array.replicate ops.size false).getD i true)=fun i=>decide (ops.size<=i):=funext fun i=>by
  rw [Array.getD_eq_getD_getElem?,Array.getElem?_replicate]
  by_cases h:i<ops.size
  ·rw [if_pos h];simp;exact h
  ·rw [if_neg h];simp;omega
 rw [this];exact l
end
end Go.X
end
section
open Go Go.X Go.Proofs
set_option maxRecDepth 100000
set_option maxHeartbeats 4000000
namespace Go.X.TryzW
section
variable {E:Env} {ρ:Rho} {L:List Blk} {K:IV->List Blk->Prop}
theorem z3R (j:E.P=Tryz.prog) {x:IV} {rs:List (List IV)} (q:rowsOf L x=some rs) (d:(∃rows,x=.isl rows)\/∃b o l c,x=.sl b o l c/\¬c=0) (m:yc 3 rs) (h:rs≠[]) (s:rs.length<=1000000) :
  XT E 271 [x] L fun r L'=>r=.sl (L.length+1) 0 rs.length rs.length/\L'=L++[.dead]++[.cells 3 rs]:=
 z6t (fn:=Tryz.f271) (n:=Tryz.f271.ntmps) (sz:=3) (by_:=32) (z:=[.int .i64 0,.int .i64 0,.str []]) (by rw [j];rfl) (by rw [j];kernel_rfl) (by decide) (by decide) rfl (by decide) q d m h s
theorem z1u (b:E.P=Tryz.prog):ZH E 272 [.isl []] (.isl []):=
 yZ (fn:=Tryz.f272) (n:=Tryz.f272.ntmps) (sz:=2) (by_:=32) (z:=[.str [],.str []]) (by rw [b];rfl) (by rw [b];kernel_rfl) (by decide) (by decide) rfl (by decide) rfl
def Vd:List zg:=[⟨some 3,.fldA 6 (.t 1),none⟩,⟨some 4,.load1 (.t 3),none⟩,⟨some 5,.call (.f 271) [.t 4],none⟩,⟨some 6,.fldA 7 (.t 1),none⟩,⟨some 7,.load1 (.t 6),none⟩,⟨some 8,.pcall (.f 272) [.t 7],none⟩,⟨some 9,.fldA 6 (.t 1),none⟩,⟨none,.store 1 (.t 9) (.t 5),none⟩,⟨some 10,.fldA 7 (.t 1),none⟩,⟨none,.store 1 (.t 10) (.t 8),none⟩]
def zbJ:List zg:=[⟨some 3,.fldA 6 (.t 1),none⟩,⟨some 4,.load1 (.t 3),none⟩,⟨some 5,.call (.f 271) [.t 4],none⟩,⟨some 6,.fldA 7 (.t 1),none⟩,⟨some 7,.load1 (.t 6),none⟩,⟨some 8,.call (.f 272) [.t 7],none⟩,⟨some 9,.fldA 6 (.t 1),none⟩,⟨none,.store 1 (.t 9) (.t 5),none⟩,⟨some 10,.fldA 7 (.t 1),none⟩,⟨none,.store 1 (.t 10) (.t 8),none⟩]
def z3q:Nat->List Nat
 | 1=>[0] | 2=>[1] | 4=>[3] | 5=>[4,2] | 6=>[2,4] | 7=>[6,5] | 8=>[7] | 9=>[8] | _=>[]
structure zeU (L:List Blk) (k0 k1 k2 k3 k4 k5 x sg k8:IV) (rs:List (List IV)) (l:Nat->Bool) (ρ:Rho) (M:List Blk):Prop where
 r1:ρ 1=.ptr L.length 0 0
 r2:ρ 2=.ptr (L.length+1) 0 0
 v3:l 0=true->ρ 3=.ptr L.length 0 6
 v4:l 1=true->ρ 4=x
 v5:l 2=true->ρ 5=.sl (L.length+3) 0 rs.length rs.length
 v6:l 3=true->ρ 6=.ptr L.length 0 7
 v7:l 4=true->ρ 7=sg
 v8:l 5=true->ρ 8=.isl []
 v9:l 6=true->ρ 9=.ptr L.length 0 6
 v10:l 8=true->ρ 10=.ptr L.length 0 7
 cl:∀i,i<10->l i=true->∀j∈z3q i,l j=true
 bl:M=L++[.cells 9 [[k0,k1,k2,k3,k4,k5,if l 7=true then .sl (L.length+3) 0 rs.length rs.length else x,if l 9=true then .isl [] else sg,k8]]]++[.cells 9 [[.str [],.str [],.str [],.str [],.int .i64 0,.str [],.nsl,.nsl,.int .i64 0]]]++(if l 2=true then [Blk.dead,.cells 3 rs] else [])
def z4O (ops:Array Oper):Bool:=Nat.beq ops.size 10&&(List.range 10).all fun i=>match ops[i]? with
 | some o=>((z3q i).all fun j=>o.after.toList.any fun e=>Region.binds .any e&&Nat.beq e.on j)&&o.after.toList.all fun e=>!Region.binds .any e||Nat.blt e.on i
 | none=>false
theorem zbt (hP : E.P = Tryz.prog) {k0 k1 k2 k3 k4 k5 x sg k8 : IV} {rs : List (List IV)} (hx : rowsOf L x = some rs) (hnil : (∃ rows, x = .isl rows) ∨ ∃ b o l c, x = .sl b o l c ∧ ¬ c = 0) (hr : yc 3 rs) (hne : rs ≠ []) (hN : rs.length ≤ 1000000)
    (hsg : sg = .isl [] ∨ sg = .nsl) {ops : Array Oper} (hck : z4O ops = true) {ρ : Rho} (h1 : ρ 1 = .ptr L.length 0 0) (h2 : ρ 2 = .ptr (L.length + 1) 0 0) :
    z0n E ops Vd (fun ρ' M => ρ' 1 = .ptr L.length 0 0 ∧ ρ' 2 = .ptr (L.length + 1) 0 0 ∧ M = L ++ [.cells 9 [[k0, k1, k2, k3, k4, k5, .sl (L.length + 3) 0 rs.length rs.length, .isl [], k8]]] ++ [.cells 9 [[.str [], .str [], .str [], .str [], .int .i64 0, .str [], .nsl, .nsl, .int .i64 0]]] ++ [Blk.dead, .cells 3 rs])
      ops.size (Array.replicate ops.size false) ρ (L ++ [.cells 9 [[k0, k1, k2, k3, k4, k5, x, sg, k8]]] ++ [.cells 9 [[.str [], .str [], .str [], .str [], .int .i64 0, .str [], .nsl, .nsl, .int .i64 0]]]) := by
  unfold z4O at hck
  rw [Bool.and_eq_true, List.all_eq_true] at hck
  obtain ⟨hs, hck⟩ := hck
  have hs := Nat.eq_of_beq_eq_true hs
  have hdeps : ∀ (listed : Array Bool), listed.size = ops.size → ∀ i ∈ Region.ready .any ops listed, i < 10 ∧ listed.getD i true = false ∧ ∀ j ∈ z3q i, listed.getD j true = true := fun listed hsz i hi => by
    obtain ⟨g1, o, g2, g3⟩ := mem_ready.1 hi
    have hi10 : i < 10 := by rw [← hs]; exact (Array.getElem?_eq_some_iff.1 g2).1
    refine ⟨hi10, g1, fun j hj => ?_⟩
    have g4 := hck i (List.mem_range.2 hi10)
    rw [g2] at g4
    simp only [Bool.and_eq_true, List.all_eq_true, List.any_eq_true] at g4
    obtain ⟨e, g5, g6, g7⟩ := g4.1 j hj
    have g8 := g3 e (Array.mem_toList_iff.1 g5) g6
    rw [Nat.eq_of_beq_eq_true g7] at g8
    have hjl : j < listed.size := by
      rw [Array.getD_eq_getD_getElem?] at g8
      cases hx2 : listed[j]? with
      | none => rw [hx2] at g8; cases g8
      | some b => exact (Array.getElem?_eq_some_iff.1 hx2).1
    rw [ZW hjl] at g8 ⊢; exact g8
  refine zaf (zeU L k0 k1 k2 k3 k4 k5 x sg k8 rs) ?_ (fun listed ρ M hsz hI i hi => ?_) (fun listed ρ M hsz hrd hI => ?_)
  · rw [hs]
    exact ⟨h1, h2, fun h => absurd h (by decide), fun h => absurd h (by decide), fun h => absurd h (by decide), fun h => absurd h (by decide), fun h => absurd h (by decide), fun h => absurd h (by decide), fun h => absurd h (by decide), fun h => absurd h (by decide), fun i hi h => absurd h (by simp; omega), by simp⟩
  · obtain ⟨hi10, hun, hdep⟩ := hdeps listed hsz i hi
    have hcl : ∀ u, u < 10 → (if u = i then true else listed.getD u true) = true → ∀ j ∈ z3q u, (if j = i then true else listed.getD j true) = true := fun u hu hl j hj => by
      by_cases hji : j = i
      · rw [if_pos hji]
      · rw [if_neg hji]
        by_cases hui : u = i
        · subst hui; exact hdep j hj
        · rw [if_neg hui] at hl; exact hI.cl u hu hl j hj
    have c98 : listed.getD 9 true = true → listed.getD 8 true = true := fun h => hI.cl 9 (by decide) h 8 (by decide)
    have c87 : listed.getD 8 true = true → listed.getD 7 true = true := fun h => hI.cl 8 (by decide) h 7 (by decide)
    have c76 : listed.getD 7 true = true → listed.getD 6 true = true := fun h => hI.cl 7 (by decide) h 6 (by decide)
    have c75 : listed.getD 7 true = true → listed.getD 5 true = true := fun h => hI.cl 7 (by decide) h 5 (by decide)
    have c62 : listed.getD 6 true = true → listed.getD 2 true = true := fun h => hI.cl 6 (by decide) h 2 (by decide)
    have c52 : listed.getD 5 true = true → listed.getD 2 true = true := fun h => hI.cl 5 (by decide) h 2 (by decide)
    have c54 : listed.getD 5 true = true → listed.getD 4 true = true := fun h => hI.cl 5 (by decide) h 4 (by decide)
    have c21 : listed.getD 2 true = true → listed.getD 1 true = true := fun h => hI.cl 2 (by decide) h 1 (by decide)
    have hbl := hI.bl
    match i, hi10 with
    | 0, _ =>
      simp only [sOp, Vd, List.getElem?_cons_zero, zG, xop, Opd.ev, hI.r1, Nat.zero_add]
      exact { r1 := by simpa [put] using hI.r1
              r2 := by simpa [put] using hI.r2
              v3 := fun _ => by simp [put]
              v4 := fun h => by have := hI.v4 (by simpa using h); simpa [put] using this
              v5 := fun h => by have := hI.v5 (by simpa using h); simpa [put] using this
              v6 := fun h => by have := hI.v6 (by simpa using h); simpa [put] using this
              v7 := fun h => by have := hI.v7 (by simpa using h); simpa [put] using this
              v8 := fun h => by have := hI.v8 (by simpa using h); simpa [put] using this
              v9 := fun h => by have := hI.v9 (by simpa using h); simpa [put] using this
              v10 := fun h => by have := hI.v10 (by simpa using h); simpa [put] using this
              cl := hcl
              bl := by have := hI.bl; simpa using this }
    | 1, _ =>
      have n7 : ¬ listed.getD 7 true = true := fun h => by rw [c21 (c52 (c75 h))] at hun; cases hun
      have hg : M[L.length]? = some (.cells 9 [[k0, k1, k2, k3, k4, k5, x, if listed.getD 9 true = true then .isl [] else sg, k8]]) := by rw [hbl]; simp [n7]
      simp only [sOp, Vd, List.getElem?_cons_succ, List.getElem?_cons_zero, zG, xop, Opd.ev, hI.v3 (hdep 0 (by decide)), Zj, hg]
      refine ⟨by simp, by simp, ?_⟩
      exact { r1 := by simpa [put] using hI.r1
              r2 := by simpa [put] using hI.r2
              v3 := fun h => by have := hI.v3 (by simpa using h); simpa [put] using this
              v4 := fun _ => by simp [put]
              v5 := fun h => by have := hI.v5 (by simpa using h); simpa [put] using this
              v6 := fun h => by have := hI.v6 (by simpa using h); simpa [put] using this
              v7 := fun h => by have := hI.v7 (by simpa using h); simpa [put] using this
              v8 := fun h => by have := hI.v8 (by simpa using h); simpa [put] using this
              v9 := fun h => by have := hI.v9 (by simpa using h); simpa [put] using this
              v10 := fun h => by have := hI.v10 (by simpa using h); simpa [put] using this
              cl := hcl
              bl := by have := hI.bl; simpa using this }
    | 2, _ =>
      have n9 : ¬ listed.getD 9 true = true := fun h => by rw [c52 (c75 (c87 (c98 h)))] at hun; cases hun
      have n7 : ¬ listed.getD 7 true = true := fun h => by rw [c52 (c75 h)] at hun; cases hun
      have hM : M = L ++ [.cells 9 [[k0, k1, k2, k3, k4, k5, x, sg, k8]]] ++ [.cells 9 [[.str [], .str [], .str [], .str [], .int .i64 0, .str [], .nsl, .nsl, .int .i64 0]]] := by rw [hbl]; simp [n7, n9, hun]
      have hl : M.length = L.length + 2 := by rw [hM]; simp
      simp only [sOp, Vd, List.getElem?_cons_succ, List.getElem?_cons_zero, zG, xop, Opd.ev, List.map_cons, List.map_nil, List.nil_append, List.append_nil, hI.v4 (hdep 1 (by decide))]
      refine YH (z3R hP (L := M) (by rw [hM, List.append_assoc]; exact WV hx) hnil hr hne hN) ?_
      rintro r M' ⟨rfl, rfl⟩
      exact { r1 := by simpa [put] using hI.r1
              r2 := by simpa [put] using hI.r2
              v3 := fun h => by have := hI.v3 (by simpa using h); simpa [put] using this
              v4 := fun h => by have := hI.v4 (by simpa using h); simpa [put] using this
              v5 := fun _ => by simp [put, hl]
              v6 := fun h => by have := hI.v6 (by simpa using h); simpa [put] using this
              v7 := fun h => by have := hI.v7 (by simpa using h); simpa [put] using this
              v8 := fun h => by have := hI.v8 (by simpa using h); simpa [put] using this
              v9 := fun h => by have := hI.v9 (by simpa using h); simpa [put] using this
              v10 := fun h => by have := hI.v10 (by simpa using h); simpa [put] using this
              cl := hcl
              bl := by rw [hM]; simp [n7, n9] }
    | 3, _ =>
      simp only [sOp, Vd, List.getElem?_cons_succ, List.getElem?_cons_zero, zG, xop, Opd.ev, hI.r1, Nat.zero_add]
      exact { r1 := by simpa [put] using hI.r1
              r2 := by simpa [put] using hI.r2
              v3 := fun h => by have := hI.v3 (by simpa using h); simpa [put] using this
              v4 := fun h => by have := hI.v4 (by simpa using h); simpa [put] using this
              v5 := fun h => by have := hI.v5 (by simpa using h); simpa [put] using this
              v6 := fun _ => by simp [put]
              v7 := fun h => by have := hI.v7 (by simpa using h); simpa [put] using this
              v8 := fun h => by have := hI.v8 (by simpa using h); simpa [put] using this
              v9 := fun h => by have := hI.v9 (by simpa using h); simpa [put] using this
              v10 := fun h => by have := hI.v10 (by simpa using h); simpa [put] using this
              cl := hcl
              bl := by have := hI.bl; simpa using this }
    | 4, _ =>
      have n9 : ¬ listed.getD 9 true = true := fun h => by rw [c54 (c75 (c87 (c98 h)))] at hun; cases hun
      have hg : M[L.length]? = some (.cells 9 [[k0, k1, k2, k3, k4, k5, if listed.getD 7 true = true then .sl (L.length + 3) 0 rs.length rs.length else x, sg, k8]]) := by rw [hbl]; simp [n9]
      simp only [sOp, Vd, List.getElem?_cons_succ, List.getElem?_cons_zero, zG, xop, Opd.ev, hI.v6 (hdep 3 (by decide)), Zj, hg]
      refine ⟨by simp, by simp, ?_⟩
      exact { r1 := by simpa [put] using hI.r1
              r2 := by simpa [put] using hI.r2
              v3 := fun h => by have := hI.v3 (by simpa using h); simpa [put] using this
              v4 := fun h => by have := hI.v4 (by simpa using h); simpa [put] using this
              v5 := fun h => by have := hI.v5 (by simpa using h); simpa [put] using this
              v6 := fun h => by have := hI.v6 (by simpa using h); simpa [put] using this
              v7 := fun _ => by simp [put]
              v8 := fun h => by have := hI.v8 (by simpa using h); simpa [put] using this
              v9 := fun h => by have := hI.v9 (by simpa using h); simpa [put] using this
              v10 := fun h => by have := hI.v10 (by simpa using h); simpa [put] using this
              cl := hcl
              bl := by have := hI.bl; simpa using this }
    | 5, _ =>
      simp only [sOp, Vd, List.getElem?_cons_succ, List.getElem?_cons_zero, zG, xop, Opd.ev, List.map_cons, List.map_nil, List.nil_append, List.append_nil, hI.v7 (hdep 4 (by decide))]
      refine .inl ⟨false, [.isl []], .isl [], by rcases hsg with rfl | rfl <;> rfl, z1u hP, (by simp), fun _ => rfl, ?_⟩
      exact { r1 := by simpa [put] using hI.r1
              r2 := by simpa [put] using hI.r2
              v3 := fun h => by have := hI.v3 (by simpa using h); simpa [put] using this
              v4 := fun h => by have := hI.v4 (by simpa using h); simpa [put] using this
              v5 := fun h => by have := hI.v5 (by simpa using h); simpa [put] using this
              v6 := fun h => by have := hI.v6 (by simpa using h); simpa [put] using this
              v7 := fun h => by have := hI.v7 (by simpa using h); simpa [put] using this
              v8 := fun _ => by simp [put]
              v9 := fun h => by have := hI.v9 (by simpa using h); simpa [put] using this
              v10 := fun h => by have := hI.v10 (by simpa using h); simpa [put] using this
              cl := hcl
              bl := by have := hI.bl; simpa using this }
    | 6, _ =>
      simp only [sOp, Vd, List.getElem?_cons_succ, List.getElem?_cons_zero, zG, xop, Opd.ev, hI.r1, Nat.zero_add]
      exact { r1 := by simpa [put] using hI.r1
              r2 := by simpa [put] using hI.r2
              v3 := fun h => by have := hI.v3 (by simpa using h); simpa [put] using this
              v4 := fun h => by have := hI.v4 (by simpa using h); simpa [put] using this
              v5 := fun h => by have := hI.v5 (by simpa using h); simpa [put] using this
              v6 := fun h => by have := hI.v6 (by simpa using h); simpa [put] using this
              v7 := fun h => by have := hI.v7 (by simpa using h); simpa [put] using this
              v8 := fun h => by have := hI.v8 (by simpa using h); simpa [put] using this
              v9 := fun _ => by simp [put]
              v10 := fun h => by have := hI.v10 (by simpa using h); simpa [put] using this
              cl := hcl
              bl := by have := hI.bl; simpa using this }
    | 7, _ =>
      have n9 : ¬ listed.getD 9 true = true := fun h => by rw [c87 (c98 h)] at hun; cases hun
      have h2 := c62 (hdep 6 (by decide))
      have hM : M = L ++ [.cells 9 [[k0, k1, k2, k3, k4, k5, x, sg, k8]]] ++ [.cells 9 [[.str [], .str [], .str [], .str [], .int .i64 0, .str [], .nsl, .nsl, .int .i64 0]]] ++ [.dead, .cells 3 rs] := by rw [hbl]; simp only [hun, n9, h2, if_true, Bool.false_eq_true, if_false]
      have hg : M[L.length]? = some (.cells 9 [[k0, k1, k2, k3, k4, k5, x, sg, k8]]) := by rw [hM]; simp []
      simp only [sOp, Vd, List.getElem?_cons_succ, List.getElem?_cons_zero, zG, xop, Opd.ev, hI.v9 (hdep 6 (by decide)), hI.v5 h2, hg]
      refine ⟨by simp, by simp, rfl, rfl, ?_⟩
      exact { r1 := by simpa [put] using hI.r1
              r2 := by simpa [put] using hI.r2
              v3 := fun h => by have := hI.v3 (by simpa using h); simpa [put] using this
              v4 := fun h => by have := hI.v4 (by simpa using h); simpa [put] using this
              v5 := fun h => by have := hI.v5 (by simpa using h); simpa [put] using this
              v6 := fun h => by have := hI.v6 (by simpa using h); simpa [put] using this
              v7 := fun h => by have := hI.v7 (by simpa using h); simpa [put] using this
              v8 := fun h => by have := hI.v8 (by simpa using h); simpa [put] using this
              v9 := fun h => by have := hI.v9 (by simpa using h); simpa [put] using this
              v10 := fun h => by have := hI.v10 (by simpa using h); simpa [put] using this
              cl := hcl
              bl := by rw [hM]; simp [n9, h2, splice, cellsOf] }
    | 8, _ =>
      simp only [sOp, Vd, List.getElem?_cons_succ, List.getElem?_cons_zero, zG, xop, Opd.ev, hI.r1, Nat.zero_add]
      exact { r1 := by simpa [put] using hI.r1
              r2 := by simpa [put] using hI.r2
              v3 := fun h => by have := hI.v3 (by simpa using h); simpa [put] using this
              v4 := fun h => by have := hI.v4 (by simpa using h); simpa [put] using this
              v5 := fun h => by have := hI.v5 (by simpa using h); simpa [put] using this
              v6 := fun h => by have := hI.v6 (by simpa using h); simpa [put] using this
              v7 := fun h => by have := hI.v7 (by simpa using h); simpa [put] using this
              v8 := fun h => by have := hI.v8 (by simpa using h); simpa [put] using this
              v9 := fun h => by have := hI.v9 (by simpa using h); simpa [put] using this
              v10 := fun _ => by simp [put]
              cl := hcl
              bl := by have := hI.bl; simpa using this }
    | 9, _ =>
      have h7 := c87 (hdep 8 (by decide))
      have h5 := c75 h7
      have h2 := c52 h5
      have hM : M = L ++ [.cells 9 [[k0, k1, k2, k3, k4, k5, .sl (L.length + 3) 0 rs.length rs.length, sg, k8]]] ++ [.cells 9 [[.str [], .str [], .str [], .str [], .int .i64 0, .str [], .nsl, .nsl, .int .i64 0]]] ++ [.dead, .cells 3 rs] := by rw [hbl]; simp only [hun, h7, h2, if_true, Bool.false_eq_true, if_false]
      have hg : M[L.length]? = some (.cells 9 [[k0, k1, k2, k3, k4, k5, .sl (L.length + 3) 0 rs.length rs.length, sg, k8]]) := by rw [hM]; simp []
      simp only [sOp, Vd, List.getElem?_cons_succ, List.getElem?_cons_zero, zG, xop, Opd.ev, hI.v10 (hdep 8 (by decide)), hI.v8 h5, hg]
      refine ⟨by simp, by simp, rfl, rfl, ?_⟩
      exact { r1 := by simpa [put] using hI.r1
              r2 := by simpa [put] using hI.r2
              v3 := fun h => by have := hI.v3 (by simpa using h); simpa [put] using this
              v4 := fun h => by have := hI.v4 (by simpa using h); simpa [put] using this
              v5 := fun h => by have := hI.v5 (by simpa using h); simpa [put] using this
              v6 := fun h => by have := hI.v6 (by simpa using h); simpa [put] using this
              v7 := fun h => by have := hI.v7 (by simpa using h); simpa [put] using this
              v8 := fun h => by have := hI.v8 (by simpa using h); simpa [put] using this
              v9 := fun h => by have := hI.v9 (by simpa using h); simpa [put] using this
              v10 := fun h => by have := hI.v10 (by simpa using h); simpa [put] using this
              cl := hcl
              bl := by rw [hM]; simp [h7, h2, splice, cellsOf] }
    | i + 10, h => omega
  · have hall : ∀ i, i < 10 → listed.getD i true = true := fun i hi => z4a hsz hrd (fun i o ho e he hb => by
      have hi10 : i < 10 := by rw [← hs]; exact (Array.getElem?_eq_some_iff.1 ho).1
      have g4 := hck i (List.mem_range.2 hi10)
      rw [ho] at g4
      simp only [Bool.and_eq_true, List.all_eq_true] at g4
      have g5 := g4.2 e (Array.mem_toList_iff.2 he)
      rw [hb] at g5
      simpa using g5) i (by omega)
    refine ⟨hI.r1, hI.r2, ?_⟩
    rw [hI.bl]
    simp only [hall 2 (by decide), hall 7 (by decide), hall 9 (by decide), if_true]
def cpA : XC :=(.ops [oO 1 (.box (.t 0)),oO 2 (.alloc [(.str []),(.str []),(.str []),(.str []),(.int .i64 0),(.str []),.nsl,.nsl,(.int .i64 0)])])
def cpC : XC :=(sO [oO 11 (.loadN 9 (.t 1)),oU (.store 9 (.t 2) (.t 11))] .ret)
theorem z9S (j:E.P=Tryz.prog) {k0 k1 k2 k3 k4 k5 x sg k8:IV} {rs:List (List IV)} (J:rowsOf L x=some rs) (m:(∃rows,x=.isl rows)\/∃b o l c,x=.sl b o l c/\¬c=0) (S:yc 3 rs) (G:rs≠[]) (Y:rs.length<=1000000)
  (D:sg=.isl []\/sg=.nsl) (hc:[k0,k1,k2,k3,k4,k5,k8].all zU=true) :
  XT E 214 [.agg [k0,k1,k2,k3,k4,k5,x,sg,k8]] L fun r L'=>r=.agg [k0,k1,k2,k3,k4,k5,.sl (L.length+3) 0 rs.length rs.length,.isl [],k8]/\L'[L.length+3]?=some (.cells 3 rs)/\Keep (fun _=>False) L L':=by
 have Z:rowsOf (L++[.cells 9 [[k0,k1,k2,k3,k4,k5,x,sg,k8]]]++[.cells 9 [[.str [],.str [],.str [],.str [],.int .i64 0,.str [],.nsl,.nsl,.int .i64 0]]]) x=some rs:=by rw [List.append_assoc];exact WV J
 refine z2H (ja (pq:=fun _ _=>False) (rs:=[.cellN 2 9]) (fun r L' R=>R r L') (fun _ _ _ h=>.inr h) (fun _ _ h=>h) (fn:=Tryz.f214) (by rw [j];rfl) rfl (by rw [j];kernel_rfl) (by decide) (Nat.le_of_ble_eq_true rfl) ?_)
 refine z1o (M:=fun ρ M=>ρ 1=.ptr L.length 0 0/\ρ 2=.ptr (L.length+1) 0 0/\M=L++[.cells 9 [[k0,k1,k2,k3,k4,k5,x,sg,k8]]]++[.cells 9 [[.str [],.str [],.str [],.str [],.int .i64 0,.str [],.nsl,.nsl,.int .i64 0]]]) (ji (x:=cpA) ⟨rfl,rfl⟩ (by show comp E.P _ _=_;rw [j];kernel_rfl) ?_) ?_
 ·generalize q:entry _=ρ
  have V:ρ 0=.agg [k0,k1,k2,k3,k4,k5,x,sg,k8]:=by rw [<-q];rfl
  clear q
  unfold cpA
  simp only [V,go_sem]
  simp
 ·rintro ρ M ⟨B,s,rfl⟩
  refine z1o (z5l (xs0:=zbJ) (xs:=Vd) rfl (by show E.P.follows _=_;rw [j];kernel_rfl) (by show zF (Zk E.P _ _) _=_;rw [j];kernel_rfl) (fun i y d=>?_) rfl (zbt (E:=E.withPan fun _ _=>False) (k0:=k0) (k1:=k1) (k2:=k2) (k3:=k3) (k4:=k4) (k5:=k5) (x:=x) (sg:=sg) (k8:=k8) j J m S G Y D (by kernel_rfl) B s)) ?_
  ·match i,d with
   | 0,d=>cases d;exact ⟨_,rfl,.inl rfl⟩
   | 1,d=>cases d;exact ⟨_,rfl,.inl rfl⟩
   | 2,d=>cases d;exact ⟨_,rfl,.inl rfl⟩
   | 3,d=>cases d;exact ⟨_,rfl,.inl rfl⟩
   | 4,d=>cases d;exact ⟨_,rfl,.inl rfl⟩
   | 5,d=>cases d;exact ⟨_,rfl,.inr rfl⟩
   | 6,d=>cases d;exact ⟨_,rfl,.inl rfl⟩
   | 7,d=>cases d;exact ⟨_,rfl,.inl rfl⟩
   | 8,d=>cases d;exact ⟨_,rfl,.inl rfl⟩
   | 9,d=>cases d;exact ⟨_,rfl,.inl rfl⟩
   | i+10,d=>cases d
  rintro ρ M ⟨B,s,rfl⟩
  have O:(L++[Blk.cells 9 [[k0,k1,k2,k3,k4,k5,.sl (L.length+3) 0 rs.length rs.length,.isl [],k8]]]++[.cells 9 [[.str [],.str [],.str [],.str [],.int .i64 0,.str [],.nsl,.nsl,.int .i64 0]]]++[Blk.dead,.cells 3 rs])[L.length]?=some (.cells 9 [[k0,k1,k2,k3,k4,k5,.sl (L.length+3) 0 rs.length rs.length,.isl [],k8]]):=by simp []
  have w:(L++[Blk.cells 9 [[k0,k1,k2,k3,k4,k5,.sl (L.length+3) 0 rs.length rs.length,.isl [],k8]]]++[.cells 9 [[.str [],.str [],.str [],.str [],.int .i64 0,.str [],.nsl,.nsl,.int .i64 0]]]++[Blk.dead,.cells 3 rs])[L.length+1]?=some (.cells 9 [[.str [],.str [],.str [],.str [],.int .i64 0,.str [],.nsl,.nsl,.int .i64 0]]):=by simp []
  have Q:(L++[Blk.cells 9 [[k0,k1,k2,k3,k4,k5,.sl (L.length+3) 0 rs.length rs.length,.isl [],k8]]]++[.cells 9 [[.str [],.str [],.str [],.str [],.int .i64 0,.str [],.nsl,.nsl,.int .i64 0]]]++[Blk.dead,.cells 3 rs])[L.length+3]?=some (.cells 3 rs):=by simp []
  have A:Keep (fun _=>False) L (L++[Blk.cells 9 [[k0,k1,k2,k3,k4,k5,.sl (L.length+3) 0 rs.length rs.length,.isl [],k8]]]++[.cells 9 [[.str [],.str [],.str [],.str [],.int .i64 0,.str [],.nsl,.nsl,.int .i64 0]]]++[Blk.dead,.cells 3 rs]):=⟨by simp,fun t u _=>by simp [List.getElem?_append,u]⟩
  have I:([k0,k1,k2,k3,k4,k5,.sl (L.length+3) 0 rs.length rs.length,.isl [],k8]:List IV).all zU=true:=by
   simp only [List.all_cons,List.all_nil,Bool.and_true,Bool.and_eq_true] at hc ⊢
   obtain ⟨c0,T,c2,X,c4,c5,c8⟩:=hc
   exact ⟨c0,T,c2,X,c4,c5,rfl,rfl,c8⟩
  generalize L++[Blk.cells 9 [[k0,k1,k2,k3,k4,k5,.sl (L.length+3) 0 rs.length rs.length,.isl [],k8]]]++[.cells 9 [[.str [],.str [],.str [],.str [],.int .i64 0,.str [],.nsl,.nsl,.int .i64 0]]]++[Blk.dead,.cells 3 rs]=M at O w Q A ⊢
  refine ji (x:=cpC) ⟨rfl,rfl⟩ (by show comp E.P _ _=_;rw [j];kernel_rfl) ?_
  unfold cpC
  have l2:=YA w
  simp only [B,s,O,w,I,go_sem]
  refine ⟨.inl trivial,?_⟩
  simp only [z7W,z7x,z2B,s,l2,go_sem]
  refine ⟨rfl,by rw [List.getElem?_set_ne od];exact Q,Nat.le_trans A.1 (by simp),fun t u U=>by rw [List.getElem?_set_ne od];exact A.2 t u U⟩
def q4 : XC :=(sO [oO 2 (.box (.t 0)),oO 4 (.alloc [(.int .i64 0),(.str []),(.str []),(.str []),(.int .i64 0),(.int .i64 0),(.int .i64 0),(.str []),(.str [])]),oV 5 (.bool false)] (sO [oM 7 1,oO 8 (.build [(.int .i64 0),(.str []),(.str []),(.str []),(.int .i64 0),(.int .i64 0),(.int .i64 0),(.str []),(.str [])] [(6,(1,(.t 7)))]),oO 6 (.alloc [(.int .i64 0),(.str []),(.str []),(.str []),(.int .i64 0),(.int .i64 0),(.int .i64 0),(.str []),(.str [])]),oU (.store 9 (.t 6) (.t 8))] (.seq (sO [oF 9 0 2,oL 10 9] (.block 0 (sO [oK 13 .eql 10 1,oM 12 13] (cT 12 (.drawR [(oF 14 1 2,([],false)),(oL 15 14,([],true)),(oF 16 2 2,([],false)),(oL 17 16,([],true)),(oF 18 3 2,([],false)),(oL 19 18,([],true)),(oF 20 0 6,([],false)),(oU (.store 1 (.t 20) (oi 1)),([1,3,5],false)),(oF 21 2 6,([],false)),(oS 21 15,([3,5],false)),(oF 22 7 6,([],false)),(oS 22 17,([5],false)),(oF 23 8 6,([],false)),(oS 23 19,([],false))]) (sO [oK 25 .eql 10 2,oM 24 25] (cT 24 (.drawR [(oF 26 3 2,([],false)),(oL 27 26,([],true)),(oF 28 6 2,([],false)),(oL 29 28,([],true)),(oF 30 5 2,([],false)),(oL 31 30,([],true)),(oF 32 0 6,([],false)),(oU (.store 1 (.t 32) (oi 7)),([1,3,5],false)),(oF 33 1 6,([],false)),(oS 33 27,([3,5],false)),(oF 34 5 6,([],false)),(oS 34 29,([5],false)),(oF 35 3 6,([],false)),(oS 35 31,([],false))]) (sO [oK 37 .eql 10 3,oM 36 37] (cT 36 (.drawR [(oF 38 4 2,([],false)),(oL 39 38,([],true)),(oF 40 5 2,([],false)),(oL 41 40,([],true)),(oF 42 0 6,([],false)),(oU (.store 1 (.t 42) (oi 2)),([1,3],false)),(oF 43 2 6,([],false)),(oS 43 39,([3],false)),(oF 44 3 6,([],false)),(oS 44 41,([],false))]) (sO [oK 46 .eql 10 4,oM 45 46] (cT 45 (.drawR [(oF 47 5 2,([],false)),(oL 48 47,([],true)),(oF 49 0 6,([],false)),(oU (.store 1 (.t 49) (oi 8)),([1],false)),(oF 50 3 6,([],false)),(oS 50 48,([],false))]) (sO [oO 11 (.build [(.int .i64 0),(.str []),(.str []),(.str []),(.int .i64 0),(.int .i64 0),(.int .i64 0),(.str []),(.str [])] []),oU (.store 9 (.t 4) (.t 11)),oV 5 (.bool false)] .ret))))))))))) (sO [oO 51 (.loadN 9 (.t 6)),oU (.store 9 (.t 4) (.t 51)),oV 5 (.bool true)] .ret))))
def q5 : XC :=(sO [oO 2 (.box (.t 0)),oO 4 (.alloc [(.int .i64 0),(.str []),(.str []),(.str []),(.int .i64 0),(.int .i64 0),(.int .i64 0),(.str []),(.str [])]),oV 5 (.bool false)] (.seq (sO [oF 6 0 2,oL 7 6] (.block 0 (sO [oK 9 .eql 7 1,oM 8 9] (cT 8 (sO [oF 10 1 2,oL 11 10,oF 12 2 2,oL 13 12,oF 14 3 2,oL 15 14,oM 16 1,oO 17 (.build [(.int .i64 0),(.str []),(.str []),(.str []),(.int .i64 0),(.int .i64 0),(.int .i64 0),(.str []),(.str [])] [(0,(1,(oi 1))),(2,(1,(.t 11))),(7,(1,(.t 13))),(8,(1,(.t 15))),(6,(1,(.t 16)))]),oU (.store 9 (.t 4) (.t 17)),oV 5 (.bool true)] .ret) (sO [oK 19 .eql 7 2,oM 18 19] (cT 18 (sO [oF 20 3 2,oL 21 20,oF 22 6 2,oL 23 22,oF 24 5 2,oL 25 24,oM 26 1,oO 27 (.build [(.int .i64 0),(.str []),(.str []),(.str []),(.int .i64 0),(.int .i64 0),(.int .i64 0),(.str []),(.str [])] [(0,(1,(oi 7))),(1,(1,(.t 21))),(5,(1,(.t 23))),(3,(1,(.t 25))),(6,(1,(.t 26)))]),oU (.store 9 (.t 4) (.t 27)),oV 5 (.bool true)] .ret) (sO [oK 29 .eql 7 3,oM 28 29] (cT 28 (sO [oF 30 4 2,oL 31 30,oF 32 5 2,oL 33 32,oM 34 1,oO 35 (.build [(.int .i64 0),(.str []),(.str []),(.str []),(.int .i64 0),(.int .i64 0),(.int .i64 0),(.str []),(.str [])] [(0,(1,(oi 2))),(2,(1,(.t 31))),(3,(1,(.t 33))),(6,(1,(.t 34)))]),oU (.store 9 (.t 4) (.t 35)),oV 5 (.bool true)] .ret) (sO [oK 37 .eql 7 4,oM 36 37] (cT 36 (sO [oF 38 5 2,oL 39 38,oM 40 1,oO 41 (.build [(.int .i64 0),(.str []),(.str []),(.str []),(.int .i64 0),(.int .i64 0),(.int .i64 0),(.str []),(.str [])] [(0,(1,(oi 8))),(3,(1,(.t 39))),(6,(1,(.t 40)))]),oU (.store 9 (.t 4) (.t 41)),oV 5 (.bool true)] .ret) .skip)))))))))) (sO [oO 42 (.build [(.int .i64 0),(.str []),(.str []),(.str []),(.int .i64 0),(.int .i64 0),(.int .i64 0),(.str []),(.str [])] []),oU (.store 9 (.t 4) (.t 42)),oV 5 (.bool false)] .ret)))
def q6 : XC :=(sO [oO 2 (.box (.t 0)),oO 4 (.alloc [(.int .i64 0),(.str []),(.str []),(.str []),(.str []),(.str []),(.int .i64 0)]),oV 5 (.bool false)] (.seq (sO [oF 6 0 2,oL 7 6,oK 8 .neq 7 1] (cT 8 (sO [oO 9 (.build [(.int .i64 0),(.str []),(.str []),(.str []),(.str []),(.str []),(.int .i64 0)] []),oU (.store 7 (.t 4) (.t 9)),oV 5 (.bool false)] .ret) .skip)) (sO [oF 10 2 2,oL 11 10,oF 12 1 2,oL 13 12,oF 14 3 2,oL 15 14,oM 16 1,oO 17 (.build [(.int .i64 0),(.str []),(.str []),(.str []),(.str []),(.str []),(.int .i64 0)] [(0,(1,(oi 2))),(1,(1,(.t 11))),(2,(1,(.t 13))),(3,(1,(.t 15))),(6,(1,(oi 3))),(5,(1,(.t 16)))]),oU (.store 7 (.t 4) (.t 17)),oV 5 (.bool true)] .ret)))
def q7 : XC :=(sO [oO 2 (.box (.t 0)),oO 4 (.alloc [(.int .i64 0),(.str []),(.str []),(.str []),(.str []),(.str []),(.int .i64 0)]),oV 5 (.bool false)] (.seq (sO [oF 6 0 2,oL 7 6,oK 8 .neq 7 1] (cT 8 (sO [oO 9 (.build [(.int .i64 0),(.str []),(.str []),(.str []),(.str []),(.str []),(.int .i64 0)] []),oU (.store 7 (.t 4) (.t 9)),oV 5 (.bool false)] .ret) .skip)) (sO [oF 10 2 2,oL 11 10,oF 12 1 2,oL 13 12,oF 14 3 2,oL 15 14,oM 16 1,oO 17 (.build [(.int .i64 0),(.str []),(.str []),(.str []),(.str []),(.str []),(.int .i64 0)] [(0,(1,(oi 2))),(1,(1,(.t 11))),(2,(1,(.t 13))),(3,(1,(.t 15))),(6,(1,(oi 3))),(5,(1,(.t 16)))]),oU (.store 7 (.t 4) (.t 17)),oV 5 (.bool true)] .ret)))
theorem z0i {f : FuncId} {fn : Func} {t t' k n : Nat} {c : XC} {args : List IV} {r : IV} (j : E.P.funcs[f]? = some fn) (m : Zz E.P fn = some ⟨n, [.cellN t k, .tmp t'], c⟩) (d : fn.name ≠ "runtime.NumGoroutine")
  (b:args.length≤fn.ntmps) (h:Za E.noPan c (entry args) [] (z3X fun ρ L'=>xop E ((XO.loadN k (.t t)).sub (Opd.ev ρ)) cev L' fun v _=>conv L' fuel zW (.tup [v,ρ t'])=some r)):ZH E f args r:=by
 refine vZ j m d b (zn _ (fun e ρ L h=>?_) h)
 have key:∀{ρ:Rho} {L:List Blk},xop E ((XO.loadN k (.t t)).sub (Opd.ev ρ)) cev L (fun v _=>conv L fuel zW (.tup [v,ρ t'])=some r)→zY E [.cellN t k,.tmp t'] ρ L fun l=>conv L fuel zW l=some r:=fun h=>by
  rw [←vF] at h
  exact h
 cases e with
 | normal=>exact ⟨Or.inr rfl,key h⟩
 | ret=>exact ⟨Or.inl rfl,key h⟩
 | exit=>exact h.elim
 | goto=>exact h.elim
def yt (k st:Int) (t f n m x:List UInt8):List IV:=[.int .i64 k,.str t,.str f,.str n,.str m,.str x,.int .i64 st]
def z18 (k st now:Int) (t f n m x:List UInt8):List IV × Bool:=
 if k=1 then ([.int .i64 1,.str [],.str t,.str [],.int .i64 0,.int .i64 0,.int .i64 now,.str f,.str n],true)
 else if k=2 then ([.int .i64 7,.str n,.str [],.str x,.int .i64 0,.int .i64 st,.int .i64 now,.str [],.str []],true)
 else if k=3 then ([.int .i64 2,.str [],.str m,.str x,.int .i64 0,.int .i64 0,.int .i64 now,.str [],.str []],true)
 else if k=4 then ([.int .i64 8,.str [],.str [],.str x,.int .i64 0,.int .i64 0,.int .i64 now,.str [],.str []],true)
 else ([.int .i64 0,.str [],.str [],.str [],.int .i64 0,.int .i64 0,.int .i64 0,.str [],.str []],false)
def z6f (k:Int) (t f n why:List UInt8):List IV × Bool:=
 if k=1 then ([.int .i64 2,.str f,.str t,.str n,.str [],.str why,.int .i64 3],true) else ([.int .i64 0,.str [],.str [],.str [],.str [],.str [],.int .i64 0],false)
theorem z8k (l:E.P=Tryz.prog) (k st b:Int) (t f n m x r:List UInt8):ZH E 4 [.agg (yt k st t f n m x),.int .i64 b] (.tup [.agg (z18 k st b t f n m x).1,.bool (z18 k st b t f n m x).2]):=by
 refine z0i (n:=Tryz.f4.ntmps) (c:=q4) (t:=4) (t':=5) (k:=9) (by rw [l];rfl) (by rw [l];kernel_rfl) (by decide) (Nat.le_of_ble_eq_true rfl) ?_
 generalize d:entry _=ρ
 have h:ρ 0=.agg (yt k st t f n m x):=by rw [<-d];rfl
 have j:ρ 1=.int .i64 b:=by rw [<-d];rfl
 clear d
 unfold yt at h
 unfold q4
 by_cases k1:k=1
 ·subst k1
  simp only [h,j,go_sem]
  simp [conv,fuel,zF,z18]
 have u:(k=1)=False:=eq_false k1
 by_cases k2:k=2
 ·subst k2
  simp only [h,j,go_sem]
  simp [conv,fuel,zF,z18]
 have q:(k=2)=False:=eq_false k2
 by_cases k3:k=3
 ·subst k3
  simp only [h,j,go_sem]
  simp [conv,fuel,zF,z18]
 have s:(k=3)=False:=eq_false k3
 by_cases k4:k=4
 ·subst k4
  simp only [h,j,go_sem]
  simp [conv,fuel,zF,z18]
 have w:(k=4)=False:=eq_false k4
 simp only [h,j,u,q,s,w,go_sem]
 simp [conv,fuel,zF,z18,k1,k2,k3,k4]
theorem z8E (l:E.P=Tryz.prog) (k st b:Int) (t f n m x r:List UInt8):ZH E 5 [.agg (yt k st t f n m x),.int .i64 b] (.tup [.agg (z18 k st b t f n m x).1,.bool (z18 k st b t f n m x).2]):=by
 refine z0i (n:=Tryz.f5.ntmps) (c:=q5) (t:=4) (t':=5) (k:=9) (by rw [l];rfl) (by rw [l];kernel_rfl) (by decide) (Nat.le_of_ble_eq_true rfl) ?_
 generalize d:entry _=ρ
 have h:ρ 0=.agg (yt k st t f n m x):=by rw [<-d];rfl
 have j:ρ 1=.int .i64 b:=by rw [<-d];rfl
 clear d
 unfold yt at h
 unfold q5
 by_cases k1:k=1
 ·subst k1
  simp only [h,j,go_sem]
  simp [conv,fuel,zF,z18]
 have u:(k=1)=False:=eq_false k1
 by_cases k2:k=2
 ·subst k2
  simp only [h,j,go_sem]
  simp [conv,fuel,zF,z18]
 have q:(k=2)=False:=eq_false k2
 by_cases k3:k=3
 ·subst k3
  simp only [h,j,go_sem]
  simp [conv,fuel,zF,z18]
 have s:(k=3)=False:=eq_false k3
 by_cases k4:k=4
 ·subst k4
  simp only [h,j,go_sem]
  simp [conv,fuel,zF,z18]
 have w:(k=4)=False:=eq_false k4
 simp only [h,u,q,s,w,go_sem]
 simp [conv,fuel,zF,z18,k1,k2,k3,k4]
theorem z5Q (j:E.P=Tryz.prog) (k st r:Int) (t f n m x b:List UInt8):ZH E 6 [.agg (yt k st t f n m x),.str b] (.tup [.agg (z6f k t f n b).1,.bool (z6f k t f n b).2]):=by
 refine z0i (n:=Tryz.f6.ntmps) (c:=q6) (t:=4) (t':=5) (k:=7) (by rw [j];rfl) (by rw [j];kernel_rfl) (by decide) (Nat.le_of_ble_eq_true rfl) ?_
 generalize d:entry _=ρ
 have h:ρ 0=.agg (yt k st t f n m x):=by rw [<-d];rfl
 have q:ρ 1=.str b:=by rw [<-d];rfl
 clear d
 unfold yt at h
 unfold q6
 by_cases k1:k=1
 ·subst k1
  simp only [h,q,go_sem]
  simp [conv,fuel,zF,z6f]
 have l:(k=1)=False:=eq_false k1
 simp only [h,l,go_sem]
 simp [conv,fuel,zF,z6f,k1]
theorem z6m (j:E.P=Tryz.prog) (k st r:Int) (t f n m x b:List UInt8):ZH E 7 [.agg (yt k st t f n m x),.str b] (.tup [.agg (z6f k t f n b).1,.bool (z6f k t f n b).2]):=by
 refine z0i (n:=Tryz.f7.ntmps) (c:=q7) (t:=4) (t':=5) (k:=7) (by rw [j];rfl) (by rw [j];kernel_rfl) (by decide) (Nat.le_of_ble_eq_true rfl) ?_
 generalize d:entry _=ρ
 have h:ρ 0=.agg (yt k st t f n m x):=by rw [<-d];rfl
 have q:ρ 1=.str b:=by rw [<-d];rfl
 clear d
 unfold yt at h
 unfold q7
 by_cases k1:k=1
 ·subst k1
  simp only [h,q,go_sem]
  simp [conv,fuel,zF,z6f]
 have l:(k=1)=False:=eq_false k1
 simp only [h,l,go_sem]
 simp [conv,fuel,zF,z6f,k1]
end
end Go.X.TryzW
end
