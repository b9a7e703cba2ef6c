/- Parts of the proof: XExtern, XOut, XRange, XEval, XOwn, XFst1, XFst2, XFstQ, XFlt. -/
import Derived.Test.YtjliemjcailckaaGreatDoorXP5
import Derived.Lib.Bytealg
set_option linter.unusedVariables false
set_option linter.unusedSimpArgs false
set_option linter.unusedSectionVars false
section
namespace Go.X
open Go
section
variable {E:Env}
theorem z2v {f : FuncId} {fn : Func} {d : Array Value → Sem Value} {args : List IV} {r : IV} (A : E.P.funcs[f]? = some fn) (b : (fn.name == "runtime.NumGoroutine") = false)
  (u:fn.body.isNone=true) (q:Extern.findNext fn=none) (j:Extern.find fn=some d)
  (h:∀(C:Ctx) (vs:List Value),E.G C.w→args.length=vs.length→(∀(i:Nat) (x:IV),args[i]?=some x→VR C x (vs.getD i undef))→∃v,(d vs.toArray).run E.P C.w=.ok v C.w∧VR C r v):z4q E f args r:=by
 intro C vs hG s m
 obtain ⟨v,B,l⟩:=h C vs hG s m
 refine ⟨v,?_,l⟩
 rw [run_callFunc_extern A b u q j,B];rfl
theorem two {C:Ctx} {x y:IV} {vs:List Value} (h:[x,y].length=vs.length) (d:∀(i:Nat) (z:IV),[x,y][i]?=some z->VR C z (vs.getD i undef)) :
  ∃a b,vs=[a,b]/\VR C x a/\VR C y b:=by
 match vs,h with
 | [a,b],_=>exact ⟨a,b,rfl,d 0 x rfl,d 1 y rfl⟩
theorem JW {f : FuncId} {fn : Func} (u : E.P.funcs[f]? = some fn) (d : (fn.name == "runtime.NumGoroutine") = false)
  (r:fn.body.isNone=true) (m:Extern.findNext fn=none) (h:Extern.find fn=some Extern.BytealgIndexByte.indexByte) (s:List UInt8) (c:Int) :
  z4q E f [.str s,.int .u8 c] (.int .i64 (Lib.indexByte s c.toNat.toUInt8)):=by
 refine z2v u d r m h fun C vs _ q l=>?_
 obtain ⟨a,b,rfl,w,j⟩:=two q l
 cases w;cases j
 refine ⟨_,run_indexByte_string _ _ _,?_⟩
 rw [Lib.firstIdx_eq];exact .int _ _
end
section
variable {E:Env} {ρ:Rho} {L:List Blk} {KV:IV->List Blk->Prop}
@[go_sem] theorem zcZ {α:Type} {J:List α} {x:α}:(J++[x])[J.length]?=some x:=by simp
@[go_sem] theorem zeZ {α:Type} {J:List α} {x y:α}:(J++[x]).set J.length y=J++[y]:=by simp
theorem WH {α:Type} {f:α->Option α}:∀{l:List α},(∀x∈l,f x=some x)->zF f l=some l
 | [],_=>rfl
 | x::r,h=>by simp only [zF];rw [h x List.mem_cons_self,WH fun y b=>h y (List.mem_cons_of_mem _ b)]
@[go_sem] theorem zce {sz:Nat} {zero:List IV} {x:IV} (d:zero.length=sz) (b:(cellsOf x).length=sz):xop E (.bslice sz zero 1 [(0,.c x)]) cev L KV=KV (.sl L.length 0 1 1) (L++[.cells sz [cellsOf x]]):=by
 simp only [xop,List.map_cons,List.map_nil,zV,zO,List.replicate,d,b,llc,lln,true_and]
 simp
@[go_sem] theorem zcC {zero:List IV} {bytes:Nat} {k b:IntKind} {n m:Int}:xop E (.mkslice zero bytes (.c (.int k n)) (.c (.int b m))) cev L KV =
  (0<=n/\n<=m/\m<=9223372036854775807/\m*bytes<=281474976710656/\KV (.sl L.length 0 n.toNat m.toNat) (L++[.cells zero.length (List.replicate m.toNat zero)])):=nr rfl
def szB (b:Option Blk):Option Nat:=match b with | some (.cells sz _)=>some sz | some (.tcells _ sz _)=>some sz | _=>none
@[go_sem] theorem zdU {s:Nat}:vJ L s=szB L[s]?:=nr rfl
@[go_sem] theorem zaW {ty sz:Nat} {rows:List (List IV)}:szB (some (.tcells ty sz rows))=some sz:=nr rfl
@[go_sem] theorem zbI {sz:Nat} {rows:List (List IV)}:szB (some (.cells sz rows))=some sz:=nr rfl
end
def jY (l:List IV):Rho:=fun n=>l.getD n .und
def z5w (l:List IV) (ps:List Nat) (args:List IV):List IV:=(ps.zip args).foldl (fun t p=>t.set p.1 p.2) l
def zdj (r0:Loop) (l:List IV) (s:Nat) (K:IV->List Blk->Prop):XE->List Blk->Prop
 | .normal,L=>K (.bool true) (L.set s (.lp r0 l))
 | .ret,L=>K (.bool false) (L.set s (.lp { r0 with state:=.done,pending:=some .ret } l))
 | .exit i,L=>K (.bool false) (L.set s (.lp { r0 with state:=.done,pending:=some (.exit i) } l))
 | .goto i,L=>K (.bool false) (L.set s (.lp { r0 with state:=.done,pending:=some (.goto i) } l))
def yOf (E:Env) (N:Nat) (ps:List Nat) (xa xb:XC):zbS:=fun s args L K=>
 ∃r0 l,L[s]?=some (.lp r0 l)/\r0.state=.ready/\r0.pending=none/\JG E.P N ps xa xb r0/\args.length=ps.length/\(∀p∈ps,p<N)/\YF xa=true/\YF xb=true/\l.length=N/\
  Za E xa (jY (z5w l ps args)) L fun e1 ρ1 L1=>e1=.normal/\L1[s]?=some (.lp r0 l)/\
   Za E xb ρ1 (L1.set s (.lp { r0 with state:=.busy } l)) fun e _ L2=>L2[s]?=some (.lp { r0 with state:=.busy } l)/\zdj r0 l s K e L2
theorem z6r {r0:Loop} {l:List IV} {s:Nat} {K K':IV->List Blk->Prop} (b:∀v L,K v L->K' v L):∀{e:XE} {L:List Blk},zdj r0 l s K e L->zdj r0 l s K' e L
 | .normal,_,h=>b _ _ h
 | .ret,_,h=>b _ _ h
 | .exit _,_,h=>b _ _ h
 | .goto _,_,h=>b _ _ h
theorem z7d {E:Env} {N:Nat} {ps:List Nat} {xa xb:XC} (s:Nat) (args:List IV) (L:List Blk) (K K':IV->List Blk->Prop) (J:∀v L,K v L->K' v L) (h:yOf E N ps xa xb s args L K):yOf E N ps xa xb s args L K':=by
 obtain ⟨r0,l,I,A,G,r,O,u,D,w,M,h⟩:=h
 exact ⟨r0,l,I,A,G,r,O,u,D,w,M,zn _ (fun Q B L1 ⟨j,m,d⟩=>⟨j,m,zn _ (fun e _ L2 ⟨b,q⟩=>⟨b,z6r J q⟩) d⟩) h⟩
theorem Jg {C:Ctx} {N:Nat}:∀(ps:List Nat) (args:List IV) (vs:List Value) (l:List IV) (t:Array Value),args.length=ps.length->args.length=vs.length->(∀p∈ps,p<N)->l.length=N->t.size=N->
  (∀(i:Nat) (x:IV),args[i]?=some x->VR C x (vs.getD i undef))->(∀n,VR C (l.getD n .und) (t.getD n undef))->
  ((ps.zip vs).foldl (fun t (p,a)=>t.setIfInBounds p a) t).size=N/\∀n,VR C ((z5w l ps args).getD n .und) (((ps.zip vs).foldl (fun t (p,a)=>t.setIfInBounds p a) t).getD n undef)
 | [],args,vs,l,t,h1,h2,_,_,ht,_,hl=>by
  cases args with
  | nil=>exact ⟨ht,hl⟩
  | cons=>cases h1
 | p::ps,args,vs,l,t,h1,h2,hp,hll,ht,hv,hl=>by
  cases args with
  | nil=>cases h1
  | cons x args=>cases vs with
   | nil=>cases h2
   | cons v vs=>
    simp only [z5w,List.zip_cons_cons,List.foldl_cons]
    refine Jg ps args vs (l.set p x) (t.setIfInBounds p v) (by simpa using h1) (by simpa using h2) (fun q d=>hp q (List.mem_cons_of_mem _ d)) (by simpa using hll) (by simpa using ht) (fun i y hi=>by simpa using hv (i+1) y (by simpa using hi)) (fun n=>?_)
    have b:p<N:=hp p List.mem_cons_self
    rw [Zv (by rw [ht];exact b),List.getD_eq_getElem?_getD,List.getElem?_set]
    by_cases hn:n=p
    ·subst hn
     rw [if_pos rfl,if_pos (by rw [hll];exact b),if_pos rfl]
     exact hv 0 x rfl
    ·rw [if_neg (Ne.symm hn),if_neg hn,<-List.getD_eq_getElem?_getD]
     exact hl n
theorem z4Q {E:Env} (D:E.plain) (Z:∀x L,¬E.pan x L) {N:Nat} {ps:List Nat} {xa xb:XC} (C:Ctx) (s:Nat) (args:List IV) (vs:List Value) (K:IV->List Blk->Prop) (wf:Wf E.g0 C) (V:Sim C) (hG:E.G C.w) (hl:args.length=vs.length)
  (hv:∀(i:Nat) (x:IV),args[i]?=some x->VR C x (vs.getD i undef)) (h:yOf E N ps xa xb s args C.L K) :
  ∃fn tmps bf body,(Instr.yield (C.φ s).blk vs.toArray).run E.P C.w=.ok (.round (C.φ s).blk fn tmps bf body) C.w/\
   ∀F,FOk F->RoundIn F 0 E.P (C.φ s).blk fn tmps bf body C.w fun e w'=>∃v,e=.returned v/\z8i E.g0 C K v w':=by
 obtain ⟨r0,l,hL,U,ak,⟨bn,gm,dm,hN⟩,bu,gu,gq,ed,cu,h⟩:=h
 obtain ⟨hb,bz⟩:=V s _ hL
 have hsz:vs.toArray.size=r0.params.size:=by rw [<-Array.length_toList,<-Array.length_toList,bn];simp [<-hl,bu]
 refine ⟨_,_,_,_,run_yield hb hsz,fun F hF=>?_⟩
 have ag:FOk (F.inRound (C.φ s).blk):=by
  rcases hF with rfl | ⟨l',rfl⟩
  ·exact .inr ⟨_,rfl⟩
  ·exact .inr ⟨_,rfl⟩
 obtain ⟨h1,h2⟩:=Jg (C:=C) (N:=N) ps args vs l r0.tmps bu hl gu cu hN hv bz
 have m:(r0.params.zip vs.toArray).foldl (fun tmps (x:Nat × Value)=>tmps.setIfInBounds x.1 x.2) r0.tmps=(ps.zip vs).foldl (fun t (p:Nat × Value)=>t.setIfInBounds p.1 p.2) r0.tmps:=by
  rw [<-Array.foldl_toList,Array.toList_zip,bn]
 refine roundIn_of_wpIn (hF.fn _) ?_
 refine yD (E:=E) (N:=N) ag (C0:=C) wf hG (yA r0.assign) r0.assign (Nat.le_refl _) xa gm (.inr gq) (.inl D) (jY (z5w l ps args)) C.L _ _ _ C.w (fun x v L' dh a w' h=>absurd h (Z x L')) h
  ⟨by show Array.size _=N;rw [<-h1];exact congrArg Array.size m,C.φ,wf,V,Ext.refl C,fun n=>by
   have:=h2 n
   rw [<-m] at this
   exact this,(z0o.none D.2).2 trivial,vg D.1⟩ ?_
 rintro e1 dw L1 a1 w1 ⟨rfl,J,ae⟩ ⟨eu,φ1,Y,S,O,az,ax⟩
 have ai:φ1 s=C.φ s:=O.slot s ⟨_,hL,rfl⟩
 obtain ⟨q,aj⟩:=S s _ J
 have bg:w1.heap[(C.φ s).blk]?=some (.loop r0):=by rw [<-ai];exact q
 have B:∀(r:Loop) c e fr,Obj.loop r≠.cells c e fr:=fun _ _ _ _ h=>by cases h
 let C1:Ctx:=⟨w1,φ1,L1,C.X⟩
 let C2:Ctx:=Vb C1 s (.loop { r0 with state:=.busy }) (.lp { r0 with state:=.busy } l)
 have e2:Ext C1 C2:=YY J rfl q (B _)
 have di:C2.w=w1.putObj (C.φ s).blk (.loop { r0 with state:=.busy }):=by
  show setW w1 (φ1 s).blk _=_
  rw [ai];rfl
 have dn:Wf E.g0 C2:=jG Y J rfl
 have bi:Sim C2:=Wv Y S J rfl q (B _) ⟨zo (Array.getElem?_eq_some_iff.1 q).1,fun n=>(aj n).mono e2⟩
 refine ⟨C2.w,by rw [di];exact run_beginRound bg U,?_⟩
 refine yD (E:=E) (N:=N) ag (C0:=C) wf hG (yA r0.body) r0.body (Nat.le_refl _) xb dm (.inr ed) (.inl D) dw _ _ _ a1 C2.w (fun x v L' dh a w' h=>absurd h (Z x L')) ae ⟨eu,φ1,dn,bi,O.trans e2,fun n=>(az n).mono e2,ax.1.mono e2,ax.2⟩ ?_
 rintro e gz L2 a2 w2 ⟨M,j⟩ ⟨ik,I,ay,Q,T,gy,ig⟩
 have af:I s=C.φ s:=T.slot s ⟨_,hL,rfl⟩
 obtain ⟨A,ah⟩:=Q s _ M
 have au:w2.heap[(C.φ s).blk]?=some (.loop { r0 with state:=.busy }):=by rw [<-af];exact A
 let C3:Ctx:=⟨w2,I,L2,C.X⟩
 have u:∀(d:Option Code) (r:Loop) (b:Bool),r={ r0 with state:=if d.isNone then .ready else .done,pending:=d }->b=d.isNone->K (.bool b) (L2.set s (.lp r l))->
   ∃v w',(Instr.endRound (C.φ s).blk d).run E.P w2=.ok v w'/\∃v',Ending.returned v=.returned v'/\z8i E.g0 C K v' w':=by
  rintro d r b rfl rfl hk
  let C4:Ctx:=Vb C3 s (.loop { r0 with state:=if d.isNone then .ready else .done,pending:=d }) (.lp { r0 with state:=if d.isNone then .ready else .done,pending:=d } l)
  have e4:Ext C3 C4:=YY M rfl A (B _)
  have gp:C4.w=w2.putObj (C.φ s).blk (.loop { r0 with state:=if d.isNone then .ready else .done,pending:=d }):=by
   show setW w2 (I s).blk _=_
   rw [af];rfl
  refine ⟨.bool d.isNone,C4.w,by rw [gp];exact run_endRound (r:={ r0 with state:=.busy }) d au,_,rfl,.bool d.isNone,C4.L,I,hk,jG ay M rfl,?_,T.trans e4,.bool _⟩
  exact Wv ay Q M rfl A (B _) ⟨zo (Array.getElem?_eq_some_iff.1 A).1,fun n=>(ah n).mono e4⟩
 cases e with
 | normal=>
  refine u none r0 true ?_ rfl j
  obtain ⟨st,pe,_,_,_,_,_,_⟩:=r0
  simp only at U ak;subst U;subst ak;rfl
 | ret=>exact u (some .ret) _ false rfl rfl j
 | exit i=>exact u (some (.exit i)) _ false rfl rfl j
 | goto i=>exact u (some (.goto i)) _ false rfl rfl j
def Env.withY (E:Env) (N:Nat) (ps:List Nat) (xa xb:XC):Env:=
 { E with lo:=0,kept:=fun _=>undef,base:=none,yl:=yOf E.noPan N ps xa xb,pan:=fun _ _=>False,hylm:=z7d,hyl:=fun C s args vs K wf sim hG hl hv h=>z4Q (E:=E.noPan) ⟨rfl,rfl⟩ (fun _ _ h=>h) C s args vs K wf sim hG hl hv h }
def ZR (op:BinOp) (x y:IV):Option IV:=
 match op,x,y with
 | .shl,.int k a,.int _ b=>if 0<=b then some (.int k (k.wrap (a*2^min b.toNat k.bits))) else none
 | .shr,.int k a,.int _ b=>if 0<=b then some (.int k (a.fdiv (2^min b.toNat k.bits))) else none
 | .add,.int k a,.int k' b=>if k=k' then some (.int k (k.wrap (a+b))) else none
 | .sub,.int k a,.int k' b=>if k=k' then some (.int k (k.wrap (a - b))) else none
 | .mul,.int k a,.int k' b=>if k=k' then some (.int k (k.wrap (a*b))) else none
 | .quo,.int k a,.int k' b=>if k=k'/\b≠0 then some (.int k (k.wrap (a.tdiv b))) else none
 | .rem,.int k a,.int k' b=>if k=k'/\b≠0 then some (.int k (a.tmod b)) else none
 | .and,.int k a,.int k' b=>if k=k' then some (.int k (k.wrap (BitVec.ofInt k.bits a&&&BitVec.ofInt k.bits b).toNat)) else none
 | .or,.int k a,.int k' b=>if k=k' then some (.int k (k.wrap (BitVec.ofInt k.bits a|||BitVec.ofInt k.bits b).toNat)) else none
 | .xor,.int k a,.int k' b=>if k=k' then some (.int k (k.wrap (BitVec.ofInt k.bits a^^^BitVec.ofInt k.bits b).toNat)) else none
 | .eql,.int k a,.int k' b=>if k=k' then some (.bool (decide (a=b))) else none
 | .neq,.int k a,.int k' b=>if k=k' then some (.bool (!decide (a=b))) else none
 | .lss,.int k a,.int k' b=>if k=k' then some (.bool (decide (a<b))) else none
 | .leq,.int k a,.int k' b=>if k=k' then some (.bool (decide (a<=b))) else none
 | .gtr,.int k a,.int k' b=>if k=k' then some (.bool (decide (b<a))) else none
 | .geq,.int k a,.int k' b=>if k=k' then some (.bool (decide (b<=a))) else none
 | .add,.str a,.str b=>if a.length+b.length<=9223372036854775807 then some (.str (a++b)) else none
 | .eql,.str a,.str b=>some (.bool (decide (a=b)))
 | .neq,.str a,.str b=>some (.bool (!decide (a=b)))
 | .andNot,.int k a,.int k' b=>if k=k' then some (.int k (k.wrap (BitVec.ofInt k.bits a&&&~~~BitVec.ofInt k.bits b).toNat)) else none
 | op,.raw u,.raw v=>JE op u v
 | _,_,_=>none
theorem z1A {op : BinOp} {x y r : IV} {K : IV → Prop} (h : ZR op x y = some r) (hk : K r) : vU op x y K := by
  unfold ZR at h
  split at h <;> first
    | (split at h
       · rename_i hc; cases h; first | exact ⟨hc, hk⟩ | exact ⟨hc.1, hc.2, hk⟩
       · cases h)
    | (cases h; exact hk)
    | (rw [z2W]; exact ⟨_, h, hk⟩)
    | cases h
def evB (x:Option IV) (d:Nat):Option Nat:=
 match x with
 | none=>some d
 | some (.int _ n)=>if 0<=n then some n.toNat else none
 | _=>none
theorem ZK {x:Option IV} {d n:Nat} {K:Nat->Prop} (h:evB x d=some n) (b:K n):bnd x d K:=by
 unfold evB at h
 split at h
 ·cases h;exact b
 ·split at h
  ·rename_i hc;cases h;exact ⟨hc,b⟩
  ·cases h
 ·cases h
def z8b (m:Nat) (rows:List (List IV)):Bool:=rows.all fun row=>row.length==m
def z0C (m:Nat) (rows:List (List IV)):Bool:=rows.all fun row=>row.length==m&&row.all zU
theorem VY {m:Nat} {rows:List (List IV)} (h:z8b m rows=true):Rows m rows:=fun b d=>by
 simp only [z8b,List.all_eq_true] at h
 simpa using h b d
theorem YM {m:Nat} {rows:List (List IV)} (h:z0C m rows=true):yc m rows:=fun b d=>by
 simp only [z0C,List.all_eq_true,Bool.and_eq_true,beq_iff_eq] at h
 exact ⟨(h b d).1,by rw [List.all_eq_true];exact (h b d).2⟩
def z7b (k:Nat) (x:IV):Option Bool:=
 match k,x with
 | 0,.nsl=>some true
 | 0,.isl rows=>if rows.isEmpty then none else some false
 | 0,.sl _ _ _ cap=>if cap=0 then none else some false
 | 1,.iface _ _=>some false
 | 1,.raw .nilIface=>some true
 | 1,.raw (.iface _ _)=>some false
 | 2,.fn _ _ _=>some false
 | 2,.raw .nilFunc=>some true
 | _,_=>none
theorem z1B {k : Nat} {x : IV} {b : Bool} {K : Bool → Prop} (h : z7b k x = some b) (hk : K b) : z9O k x K := by
  unfold z7b at h
  split at h <;> first
    | (cases h; exact hk)
    | cases h
    | (split at h
       · cases h
       · rename_i hc; cases h; exact ⟨hk, fun hn => absurd (by simp [hn]) hc⟩)
def yX:Nat->IV->Bool
 | 0,_=>false
 | n+1,x=>match x with
  | .bool _ | .int .. | .str _ | .raw _ | .und | .isl _ | .iptr ..=>true
  | .agg cs | .tup cs=>cs.all (yX n)
  | .fn _ a b=>a.all (yX n)&&b.all (yX n)
  | .iface _ v=>yX n v
  | _=>false
theorem wC {L:List Blk} {m:Ren}:∀{n:Nat} {x:IV},yX n x=true->conv L n m x=some x
 | 0,_,h=>by cases h
 | n+1,x,h=>by
  have d:∀{l:List IV},l.all (yX n)=true->zF (conv L n m) l=some l:=fun {l} d=>WH fun x j=>wC (by rw [List.all_eq_true] at d;exact d x j)
  cases x<;>simp only [yX] at h<;>first
   | rfl
   | cases h
   | skip
  case agg cs=>simp only [conv,d h];rfl
  case tup cs=>simp only [conv,d h];rfl
  case fn f a b=>
   rw [Bool.and_eq_true] at h
   simp only [conv,d h.1,d h.2]
  case iface t v=>simp only [conv,wC h];rfl
def vI.get:vI->Nat->Option XC
 | .nil,_=>none
 | .cons l c r,n=>if n=l then some c else r.get n
theorem z0h {E:Env}:∀{b:vI} {n:Nat},Yx E b n=(b.get n).map (Za E)
 | .nil,_=>rfl
 | .cons l c r,n=>by
  simp only [Yx,vI.get]
  split
  ·rfl
  ·exact z0h
structure Tab where
 T:FuncId->Option (Nat × XFn)
 pre:FuncId->List IV->Option IV
 ext:FuncId->List IV->Option IV
structure zkg (E:Env) (t:Tab):Prop where
 T : ∀ f n F, t.T f = some (n, F) → ∃ fn, E.P.funcs[f]? = some fn ∧ Zz E.P fn = some F ∧ fn.name ≠ "runtime.NumGoroutine" ∧ fn.ntmps = n
 pre:∀f args r,t.pre f args=some r→ZH E f args r
 ext:∀f args r,t.ext f args=some r→z4q E f args r
section
variable {E:Env} {ρ:Rho} {L:List Blk} {KV:IV->List Blk->Prop}
@[go_sem] theorem zbU {sz:Nat} {zero:List IV} (b:zero.length=sz):xop E (.bslice sz zero 0 []) cev L KV=KV (.sl L.length 0 0 0) (L++[.cells sz []]):=by
 simp [xop,zO,b]
@[go_sem] theorem zbl {sz:Nat} {zero:List IV} {x y:IV} (d:zero.length=sz) (b:(cellsOf x).length=sz) (h:(cellsOf y).length=sz):xop E (.bslice sz zero 2 [(0,.c x),(1,.c y)]) cev L KV=KV (.sl L.length 0 2 2) (L++[.cells sz [cellsOf x,cellsOf y]]):=by
 simp [xop,zO,d,b,h,zV,List.replicate]
end
inductive Eff where
 | no
 | push (b:Blk)
 | set (s:Nat) (b:Blk)
 | setPush (s:Nat) (b c:Blk)
def Eff.app:Eff->List Blk->List Blk
 | .no,L=>L
 | .push b,L=>L++[b]
 | .set s b,L=>L.set s b
 | .setPush s b c,L=>L.set s b++[c]
abbrev Lk:=Nat->Option Blk
abbrev OR:=Option (IV × Eff)
def yes (v:IV):OR:=some (v,.no)
def jX (v:Option IV):OR:=v.map fun v=>(v,.no)
def YI (gl:Nat->Option (List IV)) (lk:Lk):IV->Option (List (List IV) × Nat × Nat)
 | .raw (.pointer (some ⟨n,o,none⟩))=>match gl n with
  | some cs=>some ([cs],0,o)
  | none=>none
 | .ptr s r o=>match lk s with
  | some (.cells _ rows)=>some (rows,r,o)
  | some (.tcells _ _ rows)=>some (rows,r,o)
  | _=>none
 | .iptr rows r o=>some (rows,r,o)
 | _=>none
def Yr (lk:Lk):IV->Option (List (List IV))
 | .str s=>some (s.map fun b=>[.int .u8 b.toNat])
 | .isl rows=>some rows
 | .sl s off len _=>match lk s with
  | some (.cells _ rows)=>if off+len<=rows.length then some ((rows.drop off).take len) else none
  | some (.tcells _ _ rows)=>if off+len<=rows.length then some ((rows.drop off).take len) else none
  | _=>none
 | .esl=>some []
 | .nsl=>some []
 | _=>none
def JO (lk:Lk):IV->Option (List (List IV))
 | .str _=>none
 | x=>Yr lk x
def z0O (lk:Lk) (s:Nat):Option Nat:=
 match lk s with
 | some (.cells sz _)=>some sz
 | some (.tcells _ sz _)=>some sz
 | _=>none
section
variable {gl:Nat->Option (List IV)} {lk:Lk} {L:List Blk}
def jT (lk:Lk) (L:List Blk):Prop:=∀s b,lk s=some b->L[s]?=some b
theorem Jt (h:jT lk L) {x:IV} {p:List (List IV) × Nat × Nat} (b:YI gl lk x=some p):Zj gl L x=some p:=by
 unfold YI at b
 split at b
 ·exact b
 ·split at b
  ·rename_i d;simp only [Zj,h _ _ d];exact b
  ·rename_i d;simp only [Zj,h _ _ d];exact b
  ·cases b
 ·exact b
 ·cases b
theorem Y4 (h:jT lk L) {x:IV} {p:List (List IV)} (b:Yr lk x=some p):rowsOf L x=some p:=by
 unfold Yr at b
 split at b<;>first
  | exact b
  | cases b
  | skip
 split at b
 ·rename_i d;simp only [rowsOf,h _ _ d];exact b
 ·rename_i d;simp only [rowsOf,h _ _ d];exact b
 ·cases b
theorem JD (h:jT lk L) {x:IV} {p:List (List IV)} (b:JO lk x=some p):yu L x=some p:=by
 unfold JO at b
 split at b
 ·cases b
 ·rename_i d
  rw [<-Y4 h b]
  unfold yu
  split
  ·exact absurd rfl (d _)
  ·rfl
theorem z0g (h:jT lk L) {s n:Nat} (b:z0O lk s=some n):vJ L s=some n:=by
 unfold z0O at b
 split at b
 ·rename_i d;simp only [vJ,h _ _ d];exact b
 ·rename_i d;simp only [vJ,h _ _ d];exact b
 ·cases b
variable {E:Env} {e:Opd->IV}
def z7Y (c a b:IV):OR:=match c with
 | .bool t=>yes (if t then a else b)
 | _=>none
def z2M (zero:List IV) (ps:List (Nat × Nat × IV)):OR:=match Va zero ps with
 | some cs=>yes (.agg cs)
 | none=>none
def JQ (n sz:Nat) (zero:List IV) (len:Nat) (ps:List (Nat × IV)):OR:=if zero.length=sz then match zO sz (List.replicate len zero) ps with
  | some rows=>some (.sl n 0 len len,.push (.cells sz rows))
  | none=>none
 else none
def wZ (gl:Nat->Option (List IV)) (lk:Lk) (a:IV):OR:=match YI gl lk a with
 | some (rows,r,o)=>if r<rows.length/\o<(rows.getD r []).length then yes ((rows.getD r []).getD o .und) else none
 | none=>none
def Jn (gl:Nat->Option (List IV)) (lk:Lk) (n:Nat) (a:IV):OR:=match YI gl lk a with
 | some (rows,r,o)=>if r<rows.length/\o+n<=(rows.getD r []).length then yes (.agg (((rows.getD r []).drop o).take n)) else none
 | none=>none
def Wj (lk:Lk) (n:Nat) (a x:IV):OR:=match a with
 | .ptr s r o=>match lk s with
  | some (.cells sz rows)=>if r<rows.length/\o+n<=(rows.getD r []).length/\(cellsOf x).length=n/\(cellsOf x).all zU=true then some (.und,.set s (.cells sz (rows.set r (splice (rows.getD r []) o (cellsOf x))))) else none
  | some (.tcells ty sz rows)=>if r<rows.length/\o+n<=(rows.getD r []).length/\(cellsOf x).length=n/\(cellsOf x).all zU=true then some (.und,.set s (.tcells ty sz (rows.set r (splice (rows.getD r []) o (cellsOf x))))) else none
  | _=>none
 | _=>none
def J6 (x:IV):OR:=match x with
 | .ptr s r o=>yes (.ptr s r o)
 | .iptr rows r o=>yes (.iptr rows r o)
 | .fn (.func f) a b=>yes (.fn (.func f) a b)
 | .raw (.pointer (some ⟨n,o,none⟩))=>yes (.raw (.pointer (some ⟨n,o,none⟩)))
 | _=>none
def WO (op:BinOp) (x y:IV):OR:=match op,x,y with
 | .lss,.str a,.str b=>yes (.bool (Op.bytesLess a b))
 | .geq,.str a,.str b=>yes (.bool (!Op.bytesLess a b))
 | .gtr,.str a,.str b=>yes (.bool (!(Op.bytesLess a b||decide (a=b))))
 | .leq,.str a,.str b=>yes (.bool (Op.bytesLess a b||decide (a=b)))
 | op,x,y=>jX (ZR op x y)
def zdf (neg:Bool) (x y:IV):OR:=match x,y with
 | .bool a,.bool b=>yes (.bool (if neg then !decide (a=b) else decide (a=b)))
 | _,_=>none
def eUn (op:UnOp) (x:IV):OR:=match op,x with
 | .not,.bool b=>yes (.bool !b)
 | .neg,.int k n=>yes (.int k (k.wrap (0 - n)))
 | .xor,.int k n=>yes (.int k (k.wrap (BitVec.ofInt k.bits (if k.signed then -1 else k.max)^^^BitVec.ofInt k.bits n).toNat))
 | .neg,.raw v=>jX ((z5I v).map .raw)
 | _,_=>none
def z3b (k:IntKind) (x:IV):OR:=match x with
 | .int _ n=>yes (.int k (k.wrap n))
 | _=>none
def wL (x:IV):OR:=match x with
 | .int _ n=>yes (.str (Utf8.encode n).data.toList)
 | _=>none
def z5r (off:Nat) (x:IV):OR:=match x with
 | .ptr s r o=>yes (.ptr s r (o+off))
 | .iptr rows r o=>yes (.iptr rows r (o+off))
 | .raw (.pointer (some ⟨n,o,none⟩))=>yes (.raw (.pointer (some ⟨n,o+off,none⟩)))
 | _=>none
def zd1 (off n:Nat) (agg:Bool) (x:IV):OR:=match x with
 | .agg cs=>if off+n<=cs.length then (if agg then yes (.agg ((cs.drop off).take n)) else if off<cs.length then yes (cs.getD off .und) else none) else none
 | _=>none
def z6v (lk:Lk) (m:Nat) (x i:IV):OR:=match x,i with
 | .isl rows,.int _ n=>if z8b m rows=true/\0<=n/\n<rows.length then yes (.iptr rows n.toNat 0) else none
 | .sl s off len _,.int _ n=>if z0O lk s=some m/\0<=n/\n<len then yes (.ptr s (off+n.toNat) 0) else none
 | _,_=>none
def z8w (m sz:Nat) (x i:IV):OR:=match x,i with
 | .ptr s r o,.int _ n=>if 0<=n/\n<m then yes (.ptr s r (o+n.toNat*sz)) else none
 | .iptr rows r o,.int _ n=>if 0<=n/\n<m then yes (.iptr rows r (o+n.toNat*sz)) else none
 | .raw (.pointer (some ⟨b,o,none⟩)),.int _ n=>if 0<=n/\n<m then yes (.raw (.pointer (some ⟨b,o+n.toNat*sz,none⟩))) else none
 | _,_=>none
def zdw (x i:IV):OR:=match x,i with
 | .str s,.int _ n=>if 0<=n/\n<s.length then yes (.int .u8 (s.getD n.toNat 0).toNat) else none
 | _,_=>none
def z3e (lk:Lk) (m:Nat) (x:IV) (lo hi:Option IV):OR:=match x with
 | .isl rows=>if z8b m rows then match evB lo 0,evB hi rows.length with
   | some l,some h=>if l<=h/\h<=rows.length then yes (.isl ((rows.take h).drop l)) else none
   | _,_=>none
  else none
 | .sl s off len cap=>if z0O lk s=some m then match evB lo 0,evB hi len with
   | some l,some h=>if l<=h/\h<=cap then yes (.sl s (off+l) (h - l) (cap - l)) else none
   | _,_=>none
  else none
 | .esl=>match evB lo 0,evB hi 0 with
   | some l,some h=>if l=0/\h=0 then yes .esl else none
   | _,_=>none
 | .nsl=>match evB lo 0,evB hi 0 with
   | some l,some h=>if l=0/\h=0 then yes .nsl else none
   | _,_=>none
 | _=>none
def z0b (x:IV) (lo hi:Option IV):OR:=match x with
 | .str s=>match evB lo 0,evB hi s.length with
  | some l,some h=>if l<=h/\h<=s.length then yes (.str ((s.take h).drop l)) else none
  | _,_=>none
 | _=>none
def JS (x:IV):OR:=match x with
 | .isl _ | .sl .. | .esl | .nsl=>yes .esl
 | _=>none
def Vu (n0:Nat) (zero:List IV) (bytes:Nat) (len cap:IV):OR:=match len,cap with
 | .int _ n,.int _ m=>if 0<=n/\n<=m/\m<=9223372036854775807/\m*bytes<=281474976710656 then some (.sl n0 0 n.toNat m.toNat,.push (.cells zero.length (List.replicate m.toNat zero))) else none
 | _,_=>none
def zey (x:IV):OR:=jX ((lenOf x).map fun (n:Nat)=>IV.int .i64 n)
def z7N (x:IV):OR:=match x with
 | .str s=>yes (.int .i64 s.length)
 | _=>none
def z9B (lk:Lk) (n0 sz bytes:Nat) (s x:IV):OR:=
 match Yr lk x with
 | none=>none
 | some rs=>if z0C sz rs then
   match s with
   | .nsl | .esl=>if rs.isEmpty then yes s else if rs.length*bytes<=70368744177664 then some (.sl n0 0 rs.length rs.length,.push (.cells sz rs)) else none
   | .sl t off len cap=>match lk t with
    | some (.cells sz' rows)=>if sz'=sz/\off+cap<=rows.length then
      if len+rs.length<=cap then some (.sl t off (len+rs.length) cap,.set t (.cells sz (splice rows (off+len) rs)))
      else if (len+rs.length)*bytes<=70368744177664 then some (.sl n0 0 (len+rs.length) (len+rs.length),.setPush t .dead (.cells sz ((rows.drop off).take len++rs))) else none
     else none
    | _=>none
   | _=>none
  else none
def zd2 (x y:IV):OR:=match x,y with
 | .int k a,.int _ b=>yes (.int k (if b>a then b else a))
 | _,_=>none
def zdP (x y:IV):OR:=match x,y with
 | .int k a,.int _ b=>yes (.int k (if b<a then b else a))
 | _,_=>none
def zcR (x:IV) (i:Nat):OR:=match x with
 | .tup cs=>if i<cs.length then yes (cs.getD i .und) else none
 | _=>none
def zdn (n0:Nat) (x:IV):OR:=match x with
 | .str s=>some (.ptr n0 0 0,.push (.siter s 0))
 | _=>none
def zcY (lk:Lk) (x:IV):OR:=match x with
 | .ptr s 0 0=>match lk s with
  | some (.siter str pos)=>if pos<str.length then some (.tup [.bool true,.int .i64 pos,.int .i32 (Utf8.decode ⟨str.toArray⟩ pos).1],.set s (.siter str (pos+(Utf8.decode ⟨str.toArray⟩ pos).2)))
    else yes (.tup [.bool false])
  | _=>none
 | _=>none
def za3 (t:Nat) (vs:List IV):OR:=match vs with
 | [v]=>yes (.iface t v)
 | _=>none
def z9V (n0 ty:Nat) (vs:List IV):OR:=match vs with
 | [.str s]=>if s.length<=9223372036854775807 then some (.sl n0 0 s.length s.length,.push (.tcells ty 1 (Zq s))) else none
 | _=>none
def z9E (lk:Lk) (vs:List IV):OR:=match vs with
 | [v]=>match (JO lk v).bind (zF byteOf) with
  | some s=>yes (.str s)
  | none=>none
 | _=>none
def zaj (lk:Lk) (vs:List IV):OR:=match vs with
 | [v]=>match (JO lk v).bind (zF runeOf) with
  | some ns=>yes (.str (runesL ns))
  | none=>none
 | _=>none
def zfz (t:Nat) (vs:List IV):OR:=match vs with
 | [.iface t' v]=>if t'=t then yes (.tup [v,.bool true]) else none
 | _=>none
def eRu (op:RU) (vs:List IV):OR:=match vs with
 | [.raw v]=>jX (z2f op v)
 | _=>none
def zas (f:FloatKind) (vs:List IV):OR:=match vs with
 | [.int _ n]=>yes (.raw (.float f (floatOfInt f n)))
 | _=>none
def zef (vs:List IV):OR:=match vs with
 | [.raw (.float k a),.raw (.float k' b)]=>if k=k' then yes (.raw (.complex k a b)) else none
 | _=>none
def z8G (lk:Lk) (st:Bool) (m k:IV):Option (Nat × List (IV × IV × Nat) × Nat × Option Nat):=match m with
 | .mp s=>if isKey st k=true then match lk s with
  | some (.map es c)=>match Yc k es 0 with
   | some r=>some (s,es,c,r)
   | none=>none
  | _=>none
  else none
 | _=>none
def z4x (lk:Lk) (st:Bool) (zero:IV) (ok:Bool) (vs:List IV):OR:=match vs with
 | [.raw (.map none),k]=>if isKey st k=true then yes (Yy ok zero false) else none
 | [.mp m,k]=>match z8G lk st (.mp m) k with
  | some (_,es,_,some i)=>yes (Yy ok (es.getD i default).2.1 true)
  | some (_,_,_,none)=>yes (Yy ok zero false)
  | none=>none
 | _=>none
def za1 (lk:Lk) (st:Bool) (vs:List IV):OR:=match vs with
 | [m,k,v]=>match z8G lk st m k with
  | some (s,es,c,some i)=>some (.und,.set s (.map (es.set i (k,v,(es.getD i default).2.2)) c))
  | some (s,es,c,none)=>some (.und,.set s (.map (es++[(k,v,c)]) (c+1)))
  | none=>none
 | _=>none
def zae (lk:Lk) (st:Bool) (vs:List IV):OR:=match vs with
 | [m,k]=>match z8G lk st m k with
  | some (s,es,c,some i)=>some (.tup [],.set s (.map (es.eraseIdx i) c))
  | some (s,es,c,none)=>some (.tup [],.set s (.map es c))
  | none=>none
 | _=>none
def zak (lk:Lk) (st:Bool) (zero:IV) (vs:List IV):OR:=match vs with
 | [m,k]=>match z8G lk st m k with
  | some (s,es,c,some i)=>some (.tup [(es.getD i default).2.1,.int .i64 (es.getD i default).2.2],.set s (.map (es.set i (k,(es.getD i default).2.1,(es.getD i default).2.2)) c))
  | some (s,es,c,none)=>some (.tup [zero,.int .i64 c],.set s (.map (es++[(k,zero,c)]) (c+1)))
  | none=>none
 | _=>none
def zax (lk:Lk) (vs:List IV):OR:=match vs with
 | [.mp s,.int _ b,v]=>match lk s with
  | some (.map es c)=>match es.findIdx? (fun e=>(e.2.2:Int)==b) with
   | some i=>some (.und,.set s (.map (es.set i ((es.getD i default).1,v,(es.getD i default).2.2)) c))
   | none=>none
  | _=>none
 | _=>none
def zaq (lk:Lk) (sz:Nat) (vs:List IV):OR:=match vs with
 | [.sl t off len _,x]=>match Yr lk x with
  | some rs=>if rs.length<=len/\z0C sz rs=true then if rs.isEmpty then yes (.int .i64 0) else match lk t with
    | some (.cells sz' rows)=>if sz'=sz/\off+rs.length<=rows.length then some (.int .i64 rs.length,.set t (.cells sz' (splice rows off rs))) else none
    | some (.tcells ty sz' rows)=>if sz'=sz/\off+rs.length<=rows.length then some (.int .i64 rs.length,.set t (.tcells ty sz' (splice rows off rs))) else none
    | _=>none
   else none
  | none=>none
 | _=>none
def zf8 (lk:Lk) (z:List IV) (vs:List IV):OR:=match vs with
 | [.sl t off len _]=>if len=0 then yes (.tup []) else match lk t with
  | some (.cells sz rows)=>if z.length=sz/\z.all zU=true/\off+len<=rows.length then some (.tup [],.set t (.cells sz (splice rows off (List.replicate len z)))) else none
  | _=>none
 | _=>none
def zfN (lk:Lk) (sz:Nat) (vs:List IV):OR:=match vs with
 | [.sl s off len cap,.int _ l,.int _ h,.int _ m]=>if z0O lk s=some sz/\0<=l/\l<=h/\h<=m/\m<=cap then yes (.sl s (off+l.toNat) (h - l).toNat (m - l).toNat) else none
 | _=>none
def zam (n0:Nat) (lk:Lk) (vs:List IV):OR:=match vs with
 | [.mp s]=>match lk s with
  | some (.map _ _)=>some (.ptr n0 0 0,.push (.mit s))
  | _=>none
 | _=>none
def za2 (lk:Lk) (vs:List IV):OR:=match vs with
 | [.ptr t 0 0]=>match lk t with
  | some (.mit s)=>match lk s with
   | some (.map [] _)=>yes (.tup [.bool false])
   | _=>none
  | _=>none
 | _=>none
def zf1 (neg:Bool) (ks:List Nat) (vs:List IV):OR:=match vs with
 | [.agg a,.agg b]=>match zM ks a b with
  | some t=>yes (.bool (if neg then !t else t))
  | none=>none
 | _=>none
def zfr (neg:Bool) (vs:List IV):OR:=match vs with
 | [x,y]=>match jW x y with
  | some t=>yes (.bool (if neg then !t else t))
  | none=>none
 | _=>none
def z9i (n0:Nat) (lk:Lk) (ty bytes:Nat) (vs:List IV):OR:=match vs with
 | [s,x]=>match Yr lk x with
  | none=>none
  | some rs=>if z0C 1 rs then match s with
   | .nsl=>if rs.isEmpty then yes .nsl else if rs.length*bytes<=70368744177664 then some (.sl n0 0 rs.length rs.length,.push (.tcells ty 1 rs)) else none
   | .raw (.slice none 0 0)=>if rs.isEmpty then yes (.raw (.slice none 0 0)) else if rs.length*bytes<=70368744177664 then some (.sl n0 0 rs.length rs.length,.push (.tcells ty 1 rs)) else none
   | .sl t off len cap=>if off=0/\len=cap then match lk t with
    | some (.tcells ty' sz' rows)=>if ty'=ty/\sz'=1/\rows.length=len then if rs.isEmpty then yes (.sl t off len cap) else
       if (len+rs.length)*bytes<=70368744177664 then some (.sl n0 0 (len+rs.length) (len+rs.length),.setPush t .dead (.tcells ty 1 (rows++rs))) else none
      else none
    | some (.cells _ _)=>z9B lk n0 1 bytes (.sl t off len cap) x
    | _=>none
    else none
   | _=>none
   else none
 | _=>none
def z6d (vs:List IV):OR:=match vs with
 | [.nsl]=>yes (.raw (.pointer none))
 | [.raw (.slice none 0 0)]=>yes (.raw (.pointer none))
 | [.sl s off _ cap]=>if 0<cap then yes (.ptr s off 0) else none
 | _=>none
def isI:IV->Bool
 | .int ..=>true
 | _=>false
def zfK (lk:Lk) (n:Nat) (vs:List IV):OR:=match vs with
 | [.ptr s 0 0,.int _ l]=>match lk s with
  | some (.cells m [row])=>if m=n/\row.all isI=true/\row.length=n/\0<=l/\l<=n then some (.isl ((row.drop l.toNat).map fun c=>[c]),.set s .dead) else none
  | _=>none
 | _=>none
def eEx (lk:Lk) (n0:Nat) (k:XX) (vs:List IV):OR:=match k with
 | .mkif t=>za3 t vs
 | .strB ty=>z9V n0 ty vs
 | .bStr=>z9E lk vs
 | .rStr=>zaj lk vs
 | .tas t=>zfz t vs
 | .ru op=>eRu op vs
 | .itof f=>zas f vs
 | .cpx=>zef vs
 | .mmake=>some (.mp n0,.push (.map [] 0))
 | .mlook st z ok=>z4x lk st z ok vs
 | .mset st=>za1 lk st vs
 | .mdel st=>zae lk st vs
 | .ment st z=>zak lk st z vs
 | .msto=>zax lk vs
 | .copy sz=>zaq lk sz vs
 | .clr z=>zf8 lk z vs
 | .sl3 sz=>zfN lk sz vs
 | .mrng=>zam n0 lk vs
 | .mnxt=>za2 lk vs
 | .eqA neg ks=>zf1 neg ks vs
 | .eqP neg=>zfr neg vs
 | .allocT ty zero=>some (.ptr n0 0 0,.push (.tcells ty zero.length [zero]))
 | .appT ty bytes=>z9i n0 lk ty bytes vs
 | .sdata=>z6d vs
 | .sla n=>zfK lk n vs
 | _=>none
def opE (gl:Nat->Option (List IV)) (lk:Lk) (n0:Nat) (e:Opd->IV) (o:XO):OR:=match o with
 | .mov x=>yes (e x)
 | .pick c a b=>z7Y (e c) (e a) (e b)
 | .alloc zero=>some (.ptr n0 0 0,.push (.cells zero.length [zero]))
 | .box x=>some (.ptr n0 0 0,.push (.cells (cellsOf (e x)).length [cellsOf (e x)]))
 | .build zero ps=>z2M zero (ps.map fun p=>(p.1,p.2.1,e p.2.2))
 | .bslice sz zero len ps=>JQ n0 sz zero len (ps.map fun p=>(p.1,e p.2))
 | .load1 a=>wZ gl lk (e a)
 | .loadN n a=>Jn gl lk n (e a)
 | .store n a x=>Wj lk n (e a) (e x)
 | .nilck x=>J6 (e x)
 | .bin op x y=>WO op (e x) (e y)
 | .eqB neg x y=>zdf neg (e x) (e y)
 | .un op x=>eUn op (e x)
 | .cvInt k x=>z3b k (e x)
 | .cvIntStr x=>wL (e x)
 | .cvStr x=>match e x with
  | .str s=>yes (.str s)
  | _=>none
 | .fldA off x=>z5r off (e x)
 | .fld off n agg x=>zd1 off n agg (e x)
 | .idxS m x i=>z6v lk m (e x) (e i)
 | .idxA m sz x i=>z8w m sz (e x) (e i)
 | .idx x i=>zdw (e x) (e i)
 | .slice m x lo hi=>z3e lk m (e x) (lo.map e) (hi.map e)
 | .sliceS x lo hi=>z0b (e x) (lo.map e) (hi.map e)
 | .slice0 x=>JS (e x)
 | .mkfn f a b=>yes (.fn f (a.map e) (b.map e))
 | .mkslice zero bytes len cap=>Vu n0 zero bytes (e len) (e cap)
 | .len x=>zey (e x)
 | .lenS x=>z7N (e x)
 | .append sz bytes s x=>z9B lk n0 sz bytes (e s) (e x)
 | .max2 x y=>zd2 (e x) (e y)
 | .min2 x y=>zdP (e x) (e y)
 | .isNil k neg x=>jX ((z7b k (e x)).map fun b=>.bool (if neg then !b else b))
 | .rng x=>zdn n0 (e x)
 | .nxt t=>zcY lk (e t)
 | .ext t i=>zcR (e t) i
 | .ex k xs=>eEx lk n0 k (xs.map e)
 | .call .. | .pcall ..=>none
theorem vk {n m:Nat} {b:Blk} (h:Eff.push b=.no\/n=m):n=m:=by
 rcases h with h | h
 ·cases h
 ·exact h
theorem zbn {n m s:Nat} {b c:Blk} (h:Eff.setPush s b c=.no\/n=m):n=m:=by
 rcases h with h | h
 ·cases h
 ·exact h
theorem z5k (h:jT lk L) {n sz bytes:Nat} {ef:Eff} (d:ef=.no\/n=L.length) {s x v:IV} {K:IV->List Blk->Prop} (b:z9B lk n sz bytes s x=some (v,ef)) (m:K v (ef.app L)):ZN sz bytes s x L K:=by
 unfold z9B at b
 unfold ZN
 split at b
 ·cases b
 ·rename_i rs r
  simp only [Y4 h r]
  split at b
  ·rename_i hc
   refine ⟨YM hc,?_⟩
   split at b
   ·split at b
    ·rename_i j;cases b
     have:rs=[]:=by simpa using j
     exact ⟨fun _=>m,fun d=>absurd this d⟩
    ·rename_i j
     split at b
     ·rename_i q;cases b;cases vk d
      exact ⟨fun d=>absurd (by simp [d]) j,fun _=>⟨q,m⟩⟩
     ·cases b
   ·split at b
    ·rename_i j;cases b
     have:rs=[]:=by simpa using j
     exact ⟨fun _=>m,fun d=>absurd this d⟩
    ·rename_i j
     split at b
     ·rename_i q;cases b;cases vk d
      exact ⟨fun d=>absurd (by simp [d]) j,fun _=>⟨q,m⟩⟩
     ·cases b
   ·split at b
    ·rename_i u rows w
     simp only [h _ _ w]
     split at b
     ·rename_i hs
      refine ⟨hs.1,hs.2,?_⟩
      split at b
      ·rename_i l;cases b;rw [if_pos l];exact m
      ·rename_i l
       rw [if_neg l]
       split at b
       ·rename_i q;cases b;cases zbn d;exact ⟨q,m⟩
       ·cases b
     ·cases b
    ·cases b
   ·cases b
  ·cases b
end
section
variable {lk:Lk} {L:List Blk} {E:Env} {e:Opd->IV} {K:IV->List Blk->Prop} {v:IV} {ef:Eff}
theorem ZI {x:Option IV} (h:jX x=some (v,ef)):x=some v/\ef=.no:=by
 unfold jX at h
 rw [oms] at h
 obtain ⟨w,d,b⟩:=h
 cases b;exact ⟨d,rfl⟩
theorem z9P {op:BinOp} {x y:IV} {K:IV->Prop} (b:WO op x y=some (v,ef)) (d:ef=.no->K v):vU op x y K:=by
 unfold WO at b
 split at b<;>first
  | (cases b;exact d rfl)
  | (obtain ⟨j,h⟩:=ZI b;exact z1A j (d h))
theorem YC (h:jT lk L) {st:Bool} {m k:IV} {s c:Nat} {d:List (IV × IV × Nat)} {r:Option Nat} {Q:Nat->List (IV × IV × Nat)->Nat->Option Nat->Prop} (b:z8G lk st m k=some (s,d,c,r)) (l:Q s d c r):Y9 st m k L Q:=by
 unfold z8G at b
 unfold Y9
 split at b
 ·split at b
  ·rename_i q
   split at b
   ·rename_i j
    split at b
    ·rename_i u;cases b
     exact ⟨q,by simp only [h _ _ j,u];exact l⟩
    ·cases b
   ·cases b
  ·cases b
 ·cases b
theorem zbk (h:jT lk L) {n:Nat} (m:ef=.no\/n=L.length) {k:XX} {vs:List IV} (b:eEx lk n k vs=some (v,ef)) (j:K v (ef.app L)):xex E k vs L.length L K:=by
 cases k<;>simp only [eEx] at b
 case panic=>cases b
 case slId=>cases b
 case ustr=>cases b
 case toU=>cases b
 case ofU=>cases b
 case no=>cases b
 case sla n=>
  unfold zfK at b
  split at b
  ·split at b
   ·rename_i d
    split at b
    ·rename_i l;cases b
     unfold xex;simp only [h _ _ d]
     refine ⟨l.1,fun c hc=>?_,l.2.2.1,l.2.2.2.1,l.2.2.2.2,j⟩
     have s:=l.2.1
     rw [List.all_eq_true] at s
     have w:=s c hc
     cases c<;>first
      | exact ⟨_,_,rfl⟩
      | cases w
    ·cases b
   ·cases b
  ·cases b
 case mkif t=>unfold za3 at b;split at b<;>first | (cases b;exact j) | cases b
 case mmake=>cases b;cases vk m;unfold xex;simp only [zB];exact j
 case allocT=>cases b;cases vk m;unfold xex;simp only [zB];exact j
 case strB ty=>
  unfold z9V at b
  split at b
  ·split at b
   ·rename_i d;cases b;cases vk m;unfold xex;simp only [zB];exact ⟨d,j⟩
   ·cases b
  ·cases b
 case bStr=>
  unfold z9E at b
  split at b
  ·split at b
   ·rename_i d;cases b
    rw [obs] at d
    obtain ⟨rs,d,l⟩:=d
    unfold xex;simp only [JD h d,Option.bind_some,l];exact j
   ·cases b
  ·cases b
 case rStr=>
  unfold zaj at b
  split at b
  ·split at b
   ·rename_i d;cases b
    rw [obs] at d
    obtain ⟨rs,d,l⟩:=d
    unfold xex;simp only [JD h d,Option.bind_some,l];exact j
   ·cases b
  ·cases b
 case tas t=>
  unfold zfz at b
  split at b
  ·split at b
   ·rename_i d;cases b;unfold xex;simp only;rw [if_pos d];exact j
   ·cases b
  ·cases b
 case ru op=>
  unfold eRu at b
  split at b
  ·obtain ⟨d,l⟩:=ZI b;subst l;exact ⟨_,d,j⟩
  ·cases b
 case itof f=>unfold zas at b;split at b<;>first | (cases b;exact j) | cases b
 case cpx=>
  unfold zef at b
  split at b
  ·split at b
   ·rename_i d;cases b;exact ⟨d,j⟩
   ·cases b
  ·cases b
 case mlook st z ok=>
  unfold z4x at b
  split at b
  ·split at b
   ·rename_i d;cases b;exact ⟨d,j⟩
   ·cases b
  ·split at b
   ·rename_i d;cases b;exact YC (Q:=fun _ I _ r=>match r with | some i=>K (Yy ok (I.getD i default).2.1 true) L | none=>K (Yy ok z false) L) h d j
   ·rename_i d;cases b;exact YC (Q:=fun _ I _ r=>match r with | some i=>K (Yy ok (I.getD i default).2.1 true) L | none=>K (Yy ok z false) L) h d j
   ·cases b
  ·cases b
 case mset st=>
  unfold za1 at b
  split at b
  ·split at b
   ·rename_i d;cases b;unfold xex z3H;exact YC h d j
   ·rename_i d;cases b;unfold xex z3H;exact YC h d j
   ·cases b
  ·cases b
 case mdel st=>
  unfold zae at b
  split at b
  ·split at b
   ·rename_i d;cases b;unfold xex z8A;exact YC h d j
   ·rename_i d;cases b;unfold xex z8A;exact YC h d j
   ·cases b
  ·cases b
 case ment st z=>
  unfold zak at b
  split at b
  ·split at b
   ·rename_i d;cases b;unfold xex z7h;exact YC h d j
   ·rename_i d;cases b;unfold xex z7h;exact YC h d j
   ·cases b
  ·cases b
 case msto=>
  unfold zax at b
  split at b
  ·split at b
   ·rename_i d
    split at b
    ·rename_i l;cases b;unfold xex z6Z;simp only [h _ _ d,l];exact j
    ·cases b
   ·cases b
  ·cases b
 case copy sz=>
  unfold zaq at b
  split at b
  ·split at b
   ·rename_i rs d
    split at b
    ·rename_i l
     have s:=Y4 h d
     unfold xex JH
     simp only [s]
     refine ⟨l.1,YM l.2,fun q=>?_,fun q=>?_⟩
     ·subst q;simp only [List.isEmpty_nil,if_true] at b;cases b;exact j
     ·have:rs.isEmpty=false:=by cases rs with | nil=>exact absurd rfl q | cons=>rfl
      rw [this] at b
      simp only [Bool.false_eq_true,if_false] at b
      split at b
      ·rename_i w
       split at b
       ·rename_i A;cases b;simp only [h _ _ w];exact ⟨A.1,A.2,j⟩
       ·cases b
      ·rename_i w
       split at b
       ·rename_i A;cases b;simp only [h _ _ w];exact ⟨A.1,A.2,j⟩
       ·cases b
      ·cases b
    ·cases b
   ·cases b
  ·cases b
 case clr z=>
  unfold zf8 at b
  split at b
  ·split at b
   ·rename_i u;cases b;exact ⟨fun _=>j,fun m=>absurd u m⟩
   ·rename_i u
    split at b
    ·rename_i d
     split at b
     ·rename_i l;cases b
      refine ⟨fun m=>absurd m u,fun _=>?_⟩
      simp only [h _ _ d];exact ⟨l.1,l.2.1,l.2.2,j⟩
     ·cases b
    ·cases b
  ·cases b
 case sl3 sz=>
  unfold zfN at b
  split at b
  ·split at b
   ·rename_i d;cases b;exact ⟨z0g h d.1,d.2.1,d.2.2.1,d.2.2.2.1,d.2.2.2.2,j⟩
   ·cases b
  ·cases b
 case mrng=>
  unfold zam at b
  split at b
  ·split at b
   ·rename_i d;cases b;cases vk m;unfold xex;simp only [h _ _ d,zB];exact j
   ·cases b
  ·cases b
 case mnxt=>
  unfold za2 at b
  split at b
  ·split at b
   ·rename_i d
    split at b
    ·rename_i l;cases b;unfold xex;simp only [h _ _ d,h _ _ l];exact j
    ·cases b
   ·cases b
  ·cases b
 case eqA neg O=>
  unfold zf1 at b
  split at b
  ·split at b
   ·rename_i d;cases b;unfold xex;simp only [d];exact j
   ·cases b
  ·cases b
 case eqP neg=>
  unfold zfr at b
  split at b
  ·split at b
   ·rename_i d;cases b;unfold xex;simp only [d];exact j
   ·cases b
  ·cases b
 case sdata=>
  unfold z6d at b
  split at b
  ·cases b;exact j
  ·cases b;exact j
  ·split at b
   ·rename_i d;cases b;exact ⟨d,j⟩
   ·cases b
  ·cases b
 case appT ty bytes=>
  unfold z9i at b
  split at b
  ·split at b
   ·cases b
   ·rename_i rs D
    have s:=Y4 h D
    unfold xex YG
    simp only [s]
    split at b
    ·rename_i hc
     refine ⟨YM hc,?_⟩
     split at b
     ·split at b
      ·rename_i q;cases b
       have:rs=[]:=by simpa using q
       exact ⟨fun _=>j,fun m=>absurd this m⟩
      ·rename_i q
       split at b
       ·rename_i B;cases b;cases vk m
        exact ⟨fun m=>absurd (by simp [m]) q,fun _=>⟨B,by rw [zB];exact j⟩⟩
       ·cases b
     ·split at b
      ·rename_i q;cases b
       have:rs=[]:=by simpa using q
       exact ⟨fun _=>j,fun m=>absurd this m⟩
      ·rename_i q
       split at b
       ·rename_i B;cases b;cases vk m
        exact ⟨fun m=>absurd (by simp [m]) q,fun _=>⟨B,by rw [zB];exact j⟩⟩
       ·cases b
     ·split at b
      ·rename_i u
       refine ⟨u.1,u.2,?_⟩
       split at b
       ·rename_i t off len cap _ J M rows G
        simp only [h _ _ G]
        split at b
        ·rename_i d
         refine ⟨d.1,d.2.1,d.2.2,fun q=>?_,fun q=>?_⟩
         ·subst q;simp only [List.isEmpty_nil,if_true] at b;cases b;exact j
         ·have:rs.isEmpty=false:=by cases rs with | nil=>exact absurd rfl q | cons=>rfl
          rw [this] at b
          simp only [Bool.false_eq_true,if_false] at b
          split at b
          ·rename_i l;cases b;cases zbn m
           refine ⟨l,?_⟩
           unfold zy;rw [if_pos (by rw [lls])];exact j
          ·cases b
        ·cases b
       ·rename_i G
        simp only [h _ _ G]
        exact z0V (z5k h m b j)
       ·cases b
      ·cases b
     ·cases b
    ·cases b
  ·cases b
theorem z6e (h:jT lk L) {n:Nat} (D:ef=.no\/n=L.length) {o:XO} (d:opE E.gl lk n e o=some (v,ef)) (r:K v (ef.app L)):xop E o e L K:=by
 cases o<;>simp only [opE] at d
 case call=>cases d
 case pcall=>cases d
 case mov=>cases d;exact r
 case mkfn=>cases d;exact r
 case alloc=>cases d;cases vk D;exact r
 case box=>cases d;cases vk D;exact r
 case ex k xs=>exact zbk (E:=E) h D d r
 case bin op x y=>exact z9P (K:=fun v=>K v L) d (fun G=>by subst G;exact r)
 case append sz b s x=>exact z5k h D d r
 case isNil k neg x=>
  obtain ⟨q,u⟩:=ZI d
  rw [oms] at q;obtain ⟨b,q,w⟩:=q
  subst u;subst w
  exact z1B (K:=fun b=>K (.bool (if neg then !b else b)) L) q r
 case len x=>
  obtain ⟨q,u⟩:=ZI d
  rw [oms] at q;obtain ⟨b,q,w⟩:=q
  subst u;subst w
  unfold xop;simp only;rw [q];exact r
 case build z ps=>
  unfold z2M at d
  split at d
  ·rename_i q;cases d;simp only [xop,q];exact r
  ·cases d
 case bslice sz z len ps=>
  unfold JQ at d
  split at d
  ·rename_i q
   split at d
   ·rename_i u;cases d;cases vk D;simp only [xop,u];exact ⟨q,r⟩
   ·cases d
  ·cases d
 case load1 a=>
  unfold wZ at d
  split at d
  ·rename_i q
   split at d
   ·rename_i u;cases d;simp only [xop,Jt h q];exact ⟨u.1,u.2,r⟩
   ·cases d
  ·cases d
 case loadN m a=>
  unfold Jn at d
  split at d
  ·rename_i q
   split at d
   ·rename_i u;cases d;simp only [xop,Jt h q];exact ⟨u.1,u.2,r⟩
   ·cases d
  ·cases d
 case store m a x=>
  unfold Wj at d
  split at d
  ·rename_i j
   split at d
   ·rename_i q
    split at d
    ·rename_i u;cases d;simp only [xop,j,h _ _ q];exact ⟨u.1,u.2.1,u.2.2.1,u.2.2.2,r⟩
    ·cases d
   ·rename_i q
    split at d
    ·rename_i u;cases d;simp only [xop,j,h _ _ q];exact ⟨u.1,u.2.1,u.2.2.1,u.2.2.2,r⟩
    ·cases d
   ·cases d
  ·cases d
 case idxS m x i=>
  unfold z6v at d
  split at d
  ·rename_i j hi
   split at d
   ·rename_i q;cases d;simp only [xop,j,hi];exact ⟨VY q.1,q.2.1,q.2.2,r⟩
   ·cases d
  ·rename_i j hi
   split at d
   ·rename_i q;cases d;simp only [xop,j,hi];exact ⟨z0g h q.1,q.2.1,q.2.2,r⟩
   ·cases d
  ·cases d
 case slice m x lo hi=>
  unfold z3e at d
  split at d
  ·rename_i j
   split at d
   ·rename_i q
    split at d
    ·rename_i u w
     split at d
     ·rename_i A;cases d;simp only [xop,j];exact ⟨VY q,ZK u (ZK w ⟨A.1,A.2,r⟩)⟩
     ·cases d
    ·cases d
   ·cases d
  ·rename_i j
   split at d
   ·rename_i q
    split at d
    ·rename_i u w
     split at d
     ·rename_i A;cases d;simp only [xop,j];exact ⟨z0g h q,ZK u (ZK w ⟨A.1,A.2,r⟩)⟩
     ·cases d
    ·cases d
   ·cases d
  ·rename_i j
   split at d
   ·rename_i u w
    split at d
    ·rename_i A;cases d;simp only [xop,j];exact ZK u (ZK w ⟨A.1,A.2,r⟩)
    ·cases d
   ·cases d
  ·rename_i j
   split at d
   ·rename_i u w
    split at d
    ·rename_i A;cases d;simp only [xop,j];exact ZK u (ZK w ⟨A.1,A.2,r⟩)
    ·cases d
   ·cases d
  ·cases d
 case sliceS x lo hi=>
  unfold z0b at d
  split at d
  ·rename_i j
   split at d
   ·rename_i u w
    split at d
    ·rename_i A;cases d;simp only [xop,j];exact ZK u (ZK w ⟨A.1,A.2,r⟩)
    ·cases d
   ·cases d
  ·cases d
 case fld off m agg x=>
  unfold zd1 at d
  split at d
  ·rename_i j
   split at d
   ·rename_i q
    simp only [xop,j]
    refine ⟨q,?_⟩
    split at d
    ·rename_i u;cases d;rw [if_pos u];exact r
    ·rename_i u;rw [if_neg u]
     split at d
     ·rename_i w;cases d;exact ⟨w,r⟩
     ·cases d
   ·cases d
  ·cases d
 case nxt t=>
  unfold zcY at d
  split at d
  ·rename_i j
   split at d
   ·rename_i I
    simp only [xop,j,h _ _ I]
    split at d
    ·rename_i q;cases d;rw [if_pos q];exact r
    ·rename_i q;cases d;rw [if_neg q];exact r
   ·cases d
  ·cases d
 case rng x=>unfold zdn at d;split at d<;>first | (cases d;done) | (rename_i j;simp only [xop,j];cases d;cases vk D;exact r)
 case mkslice z b l c=>unfold Vu at d;split at d<;>first | (cases d;done) | (rename_i j B;simp only [xop,j,B];split at d<;>first | (cases d;done) | (rename_i q;cases d;cases vk D;exact ⟨q.1,q.2.1,q.2.2.1,q.2.2.2,r⟩))
 case pick c a b=>unfold z7Y at d;split at d<;>first | (cases d;done) | (rename_i j;simp only [xop,j];cases d;exact r)
 case nilck x=>unfold J6 at d;split at d<;>first | (cases d;done) | (rename_i j;simp only [xop,j];cases d;exact r)
 case eqB x=>unfold zdf at d;split at d<;>first | (cases d;done) | (rename_i j B;simp only [xop,j,B];cases d;exact r)
 case cvInt x=>unfold z3b at d;split at d<;>first | (cases d;done) | (rename_i j;simp only [xop,j];cases d;exact r)
 case cvIntStr x=>unfold wL at d;split at d<;>first | (cases d;done) | (rename_i j;simp only [xop,j];cases d;exact r)
 case cvStr x=>split at d<;>first | (cases d;done) | (rename_i j;simp only [xop,j];cases d;exact r)
 case fldA x=>unfold z5r at d;split at d<;>first | (cases d;done) | (rename_i j;simp only [xop,j];cases d;exact r)
 case lenS x=>unfold z7N at d;split at d<;>first | (cases d;done) | (rename_i j;simp only [xop,j];cases d;exact r)
 case slice0 x=>unfold JS at d;split at d<;>first | (cases d;done) | (rename_i j;simp only [xop,j];cases d;exact r)
 case max2 x=>unfold zd2 at d;split at d<;>first | (cases d;done) | (rename_i j B;simp only [xop,j,B];cases d;exact r)
 case min2 x=>unfold zdP at d;split at d<;>first | (cases d;done) | (rename_i j B;simp only [xop,j,B];cases d;exact r)
 case idx x i=>unfold zdw at d;split at d<;>first | (cases d;done) | (rename_i j B;simp only [xop,j,B];split at d<;>first | (cases d;done) | (rename_i q;cases d;exact ⟨q.1,q.2,r⟩))
 case idxA m sz x i=>unfold z8w at d;split at d<;>first | (cases d;done) | (rename_i j B;simp only [xop,j,B];split at d<;>first | (cases d;done) | (rename_i q;cases d;exact ⟨q.1,q.2,r⟩))
 case ext x i=>unfold zcR at d;split at d<;>first | (cases d;done) | (rename_i j;simp only [xop,j];split at d<;>first | (cases d;done) | (rename_i q;cases d;exact ⟨q,r⟩))
 case un op x=>
  unfold eUn at d
  split at d
  ·rename_i j;cases d;simp only [xop,xun,j];exact r
  ·rename_i j;cases d;simp only [xop,xun,j];exact r
  ·rename_i j;cases d;simp only [xop,xun,j];exact r
  ·rename_i j
   obtain ⟨q,u⟩:=ZI d
   rw [oms] at q;obtain ⟨b,q,w⟩:=q
   subst u;subst w
   simp only [xop,xun,j]
   exact ⟨_,q,r⟩
  ·cases d
end
section
variable {gl:Nat->Option (List IV)} {lk:Lk} {n0:Nat} {e:Opd->IV} {p:IV × Eff}
noncomputable def kLim:IntKind->Nat:=@IntKind.rec (fun _=>Nat) 128 32768 2147483648 9223372036854775808 256 65536 4294967296 18446744073709551616
noncomputable def kIx:IntKind->Nat:=@IntKind.rec (fun _=>Nat) 0 1 2 3 4 5 6 7
theorem z9p {a b:IntKind} (h:Nat.beq (kIx a) (kIx b)=true):a=b:=by
 cases a<;>cases b<;>first | rfl | cases h
theorem z09 {k:IntKind} {n:Nat} (h:n<kLim k):k.wrap (n:Int)=n:=by
 cases k<;>simp only [kLim] at h<;>simp only [IntKind.wrap]<;>simp [IntKind.bits,IntKind.signed]<;>omega
noncomputable def wrapR (k:IntKind):Int->Int:=@Int.rec (fun _=>Int) (fun n=>@Bool.rec (fun _=>Int) (k.wrap (.ofNat n)) (.ofNat n) (Nat.blt n (kLim k))) (fun n=>k.wrap (.negSucc n))
theorem Vj {k:IntKind} {z:Int}:wrapR k z=k.wrap z:=by
 cases z with
 | ofNat n=>
  show @Bool.rec (fun _=>Int) (k.wrap (.ofNat n)) (.ofNat n) (Nat.blt n (kLim k))=_
  cases h:Nat.blt n (kLim k) with
  | false=>rfl
  | true=>exact (z09 (Nat.le_of_ble_eq_true h)).symm
 | negSucc n=>rfl
noncomputable def iEq:Int->Int->Bool:=@Int.rec (fun _=>Int->Bool) (fun a=>@Int.rec (fun _=>Bool) (fun b=>Nat.beq a b) (fun _=>false)) (fun a=>@Int.rec (fun _=>Bool) (fun _=>false) (fun b=>Nat.beq a b))
theorem z9h {a b:Int}:iEq a b=decide (a=b):=by
 cases a<;>cases b<;>simp only [iEq]
 ·rename_i m n;rw [Bool.eq_iff_iff];simp only [Nat.beq_eq,decide_eq_true_eq];exact ⟨fun h=>by rw [h],fun h=>Int.ofNat.inj h⟩
 ·rename_i m n;exact (decide_eq_false (by simp)).symm
 ·rename_i m n;exact (decide_eq_false (by simp)).symm
 ·rename_i m n;rw [Bool.eq_iff_iff];simp only [Nat.beq_eq,decide_eq_true_eq,Int.negSucc.injEq]
noncomputable def iLt:Int->Int->Bool:=@Int.rec (fun _=>Int->Bool) (fun a=>@Int.rec (fun _=>Bool) (fun b=>Nat.blt a b) (fun _=>false)) (fun a=>@Int.rec (fun _=>Bool) (fun _=>true) (fun b=>Nat.blt b a))
theorem z2S {a b:Int}:iLt a b=decide (a<b):=by
 have d:∀m n:Nat,Nat.blt m n=decide (m<n):=fun m n=>by
  rw [Bool.eq_iff_iff,decide_eq_true_eq]
  exact ⟨fun h=>Nat.le_of_ble_eq_true h,fun h=>Nat.ble_eq_true_of_le h⟩
 cases a with
 | ofNat m=>cases b with
  | ofNat n=>
   show Nat.blt m n=_
   rw [d,Bool.eq_iff_iff,decide_eq_true_eq,decide_eq_true_eq];exact Int.ofNat_lt.symm
  | negSucc n=>
   show false=_
   exact (decide_eq_false (fun h=>by have:=Int.negSucc_lt_zero n;have j:(0:Int)<=Int.ofNat m:=Int.natCast_nonneg m;omega)).symm
 | negSucc m=>cases b with
  | ofNat n=>
   show true=_
   exact (decide_eq_true (by have:=Int.negSucc_lt_zero m;have j:(0:Int)<=Int.ofNat n:=Int.natCast_nonneg n;omega)).symm
  | negSucc n=>
   show Nat.blt n m=_
   rw [d,Bool.eq_iff_iff,decide_eq_true_eq,decide_eq_true_eq];omega
noncomputable def bitR (f:Nat->Nat->Nat) (slow:Int->Int->Int) (k:IntKind):Int->Int->Int:=@Int.rec (fun _=>Int->Int) (fun a=>@Int.rec (fun _=>Int) (fun b=>@Bool.rec (fun _=>Int) (slow (.ofNat a) (.ofNat b)) (.ofNat (f a b)) (Nat.blt a (kLim k)&&Nat.blt b (kLim k))) (fun b=>slow (.ofNat a) (.negSucc b))) (fun a=>slow (.negSucc a))
theorem z1C {f:Nat->Nat->Nat} {d:Int->Int->Int} {k:IntKind} {a b:Int} (h:∀m n:Nat,m<kLim k->n<kLim k->d m n=(f m n:Nat)):bitR f d k a b=d a b:=by
 cases a<;>cases b<;>try rfl
 rename_i m n
 show @Bool.rec (fun _=>Int) (d (.ofNat m) (.ofNat n)) (.ofNat (f m n)) (Nat.blt m (kLim k)&&Nat.blt n (kLim k))=_
 cases hc:(Nat.blt m (kLim k)&&Nat.blt n (kLim k)) with
 | false=>rfl
 | true=>
  rw [Bool.and_eq_true] at hc
  exact (h m n (Nat.le_of_ble_eq_true hc.1) (Nat.le_of_ble_eq_true hc.2)).symm
theorem Vo (k:IntKind):∃j,kLim k=2^j/\j<=k.bits:=by
 cases k<;>first
  | exact ⟨7,rfl,by decide⟩
  | exact ⟨15,rfl,by decide⟩
  | exact ⟨31,rfl,by decide⟩
  | exact ⟨63,rfl,by decide⟩
  | exact ⟨8,rfl,by decide⟩
  | exact ⟨16,rfl,by decide⟩
  | exact ⟨32,rfl,by decide⟩
  | exact ⟨64,rfl,by decide⟩
theorem Y1 {k:IntKind} {n:Nat} (h:n<kLim k):(BitVec.ofInt k.bits (n:Int)).toNat=n:=by
 obtain ⟨j,d,b⟩:=Vo k
 rw [BitVec.ofInt_natCast,BitVec.toNat_ofNat,Nat.mod_eq_of_lt]
 rw [d] at h
 exact Nat.lt_of_lt_of_le h (Nat.pow_le_pow_right od b)
theorem z7S {k:IntKind} {m n:Nat} (l:m<kLim k) (d:n<kLim k):k.wrap ((BitVec.ofInt k.bits (m:Int)&&&BitVec.ofInt k.bits (n:Int)).toNat:Int)=(Nat.land m n:Nat):=by
 rw [BitVec.toNat_and,Y1 l,Y1 d]
 obtain ⟨j,h,q⟩:=Vo k
 have b:n<2^j:=h▸d
 exact z09 (by rw [h];exact Nat.and_lt_two_pow _ b)
theorem z9X {k:IntKind} {m n:Nat} (q:m<kLim k) (l:n<kLim k):k.wrap ((BitVec.ofInt k.bits (m:Int)|||BitVec.ofInt k.bits (n:Int)).toNat:Int)=(Nat.lor m n:Nat):=by
 rw [BitVec.toNat_or,Y1 q,Y1 l]
 obtain ⟨j,b,r⟩:=Vo k
 have h:m<2^j:=b▸q
 have d:n<2^j:=b▸l
 exact z09 (by rw [b];exact Nat.or_lt_two_pow h d)
theorem z7R {k:IntKind} {m n:Nat} (q:m<kLim k) (l:n<kLim k):k.wrap ((BitVec.ofInt k.bits (m:Int)^^^BitVec.ofInt k.bits (n:Int)).toNat:Int)=(Nat.xor m n:Nat):=by
 rw [BitVec.toNat_xor,Y1 q,Y1 l]
 obtain ⟨j,b,r⟩:=Vo k
 have h:m<2^j:=b▸q
 have d:n<2^j:=b▸l
 exact z09 (by rw [b];exact Nat.xor_lt_two_pow h d)
noncomputable def int1:IV->IntKind->Int->(IntKind->Int->Int->OR)->(IV->IV->OR)->OR:=@IV.rec (fun _=>IntKind->Int->(IntKind->Int->Int->OR)->(IV->IV->OR)->OR) (fun _=>Unit) (fun _=>Unit) (fun b k_ a_ _ sl_=>sl_ (.int k_ a_) (.bool b)) (fun k n k_ a_ g_ sl_=>@Bool.rec (fun _=>OR) (sl_ (.int k_ a_) (.int k n)) (g_ k_ a_ n) (Nat.beq (kIx k_) (kIx k))) (fun s k_ a_ _ sl_=>sl_ (.int k_ a_) (.str s)) (fun v k_ a_ _ sl_=>sl_ (.int k_ a_) (.raw v)) (fun k_ a_ _ sl_=>sl_ (.int k_ a_) .und) (fun s r o k_ a_ _ sl_=>sl_ (.int k_ a_) (.ptr s r o)) (fun s off len cap k_ a_ _ sl_=>sl_ (.int k_ a_) (.sl s off len cap)) (fun rows _ k_ a_ _ sl_=>sl_ (.int k_ a_) (.isl rows)) (fun rows r o _ k_ a_ _ sl_=>sl_ (.int k_ a_) (.iptr rows r o)) (fun k_ a_ _ sl_=>sl_ (.int k_ a_) .esl) (fun k_ a_ _ sl_=>sl_ (.int k_ a_) .nsl) (fun cs _ k_ a_ _ sl_=>sl_ (.int k_ a_) (.agg cs)) (fun cs _ k_ a_ _ sl_=>sl_ (.int k_ a_) (.tup cs)) (fun f a b _ _ k_ a_ _ sl_=>sl_ (.int k_ a_) (.fn f a b)) (fun t v _ k_ a_ _ sl_=>sl_ (.int k_ a_) (.iface t v)) (fun s k_ a_ _ sl_=>sl_ (.int k_ a_) (.mp s)) (fun s k_ a_ _ sl_=>sl_ (.int k_ a_) (.yld s)) () (fun _ _ _ _=>()) () (fun _ _ _ _=>())
noncomputable def int2:IV->IV->(IntKind->Int->Int->OR)->(IV->IV->OR)->OR:=@IV.rec (fun _=>IV->(IntKind->Int->Int->OR)->(IV->IV->OR)->OR) (fun _=>Unit) (fun _=>Unit) (fun b y_ _ sl_=>sl_ (.bool b) y_) (fun k n y_ g_ sl_=>int1 y_ k n g_ sl_) (fun s y_ _ sl_=>sl_ (.str s) y_) (fun v y_ _ sl_=>sl_ (.raw v) y_) (fun y_ _ sl_=>sl_ .und y_) (fun s r o y_ _ sl_=>sl_ (.ptr s r o) y_) (fun s off len cap y_ _ sl_=>sl_ (.sl s off len cap) y_) (fun rows _ y_ _ sl_=>sl_ (.isl rows) y_) (fun rows r o _ y_ _ sl_=>sl_ (.iptr rows r o) y_) (fun y_ _ sl_=>sl_ .esl y_) (fun y_ _ sl_=>sl_ .nsl y_) (fun cs _ y_ _ sl_=>sl_ (.agg cs) y_) (fun cs _ y_ _ sl_=>sl_ (.tup cs) y_) (fun f a b _ _ y_ _ sl_=>sl_ (.fn f a b) y_) (fun t v _ y_ _ sl_=>sl_ (.iface t v) y_) (fun s y_ _ sl_=>sl_ (.mp s) y_) (fun s y_ _ sl_=>sl_ (.yld s) y_) () (fun _ _ _ _=>()) () (fun _ _ _ _=>())
noncomputable def sh1:IV->IntKind->Int->(IntKind->Int->Int->OR)->(IV->IV->OR)->OR:=@IV.rec (fun _=>IntKind->Int->(IntKind->Int->Int->OR)->(IV->IV->OR)->OR) (fun _=>Unit) (fun _=>Unit) (fun b k_ a_ _ sl_=>sl_ (.int k_ a_) (.bool b)) (fun k n k_ a_ g_ sl_=>@Int.rec (fun _=>OR) (fun m_=>g_ k_ a_ (.ofNat m_)) (fun m_=>sl_ (.int k_ a_) (.int k (.negSucc m_))) n) (fun s k_ a_ _ sl_=>sl_ (.int k_ a_) (.str s)) (fun v k_ a_ _ sl_=>sl_ (.int k_ a_) (.raw v)) (fun k_ a_ _ sl_=>sl_ (.int k_ a_) .und) (fun s r o k_ a_ _ sl_=>sl_ (.int k_ a_) (.ptr s r o)) (fun s off len cap k_ a_ _ sl_=>sl_ (.int k_ a_) (.sl s off len cap)) (fun rows _ k_ a_ _ sl_=>sl_ (.int k_ a_) (.isl rows)) (fun rows r o _ k_ a_ _ sl_=>sl_ (.int k_ a_) (.iptr rows r o)) (fun k_ a_ _ sl_=>sl_ (.int k_ a_) .esl) (fun k_ a_ _ sl_=>sl_ (.int k_ a_) .nsl) (fun cs _ k_ a_ _ sl_=>sl_ (.int k_ a_) (.agg cs)) (fun cs _ k_ a_ _ sl_=>sl_ (.int k_ a_) (.tup cs)) (fun f a b _ _ k_ a_ _ sl_=>sl_ (.int k_ a_) (.fn f a b)) (fun t v _ k_ a_ _ sl_=>sl_ (.int k_ a_) (.iface t v)) (fun s k_ a_ _ sl_=>sl_ (.int k_ a_) (.mp s)) (fun s k_ a_ _ sl_=>sl_ (.int k_ a_) (.yld s)) () (fun _ _ _ _=>()) () (fun _ _ _ _=>())
noncomputable def sh2:IV->IV->(IntKind->Int->Int->OR)->(IV->IV->OR)->OR:=@IV.rec (fun _=>IV->(IntKind->Int->Int->OR)->(IV->IV->OR)->OR) (fun _=>Unit) (fun _=>Unit) (fun b y_ _ sl_=>sl_ (.bool b) y_) (fun k n y_ g_ sl_=>sh1 y_ k n g_ sl_) (fun s y_ _ sl_=>sl_ (.str s) y_) (fun v y_ _ sl_=>sl_ (.raw v) y_) (fun y_ _ sl_=>sl_ .und y_) (fun s r o y_ _ sl_=>sl_ (.ptr s r o) y_) (fun s off len cap y_ _ sl_=>sl_ (.sl s off len cap) y_) (fun rows _ y_ _ sl_=>sl_ (.isl rows) y_) (fun rows r o _ y_ _ sl_=>sl_ (.iptr rows r o) y_) (fun y_ _ sl_=>sl_ .esl y_) (fun y_ _ sl_=>sl_ .nsl y_) (fun cs _ y_ _ sl_=>sl_ (.agg cs) y_) (fun cs _ y_ _ sl_=>sl_ (.tup cs) y_) (fun f a b _ _ y_ _ sl_=>sl_ (.fn f a b) y_) (fun t v _ y_ _ sl_=>sl_ (.iface t v) y_) (fun s y_ _ sl_=>sl_ (.mp s) y_) (fun s y_ _ sl_=>sl_ (.yld s) y_) () (fun _ _ _ _=>()) () (fun _ _ _ _=>())
noncomputable def nthK {α:Type}:List α->Nat->(α->OR)->OR:=@List.rec α (fun _=>Nat->(α->OR)->OR) (fun _ _=>none) (fun x _ ih n k=>@Nat.rec (fun _=>OR) (k x) (fun m _=>ih m k) n)
noncomputable def setK {α:Type}:List α->Nat->α->(List α->OR)->OR:=@List.rec α (fun _=>Nat->α->(List α->OR)->OR) (fun _ _ _=>none) (fun y l ih n x k=>@Nat.rec (fun _=>OR) (k (x::l)) (fun m _=>ih m x fun l'=>k (y::l')) n)
noncomputable def nth2 (rows:List (List IV)) (r o:Nat):OR:=nthK rows r fun row=>nthK row o yes
noncomputable def ldB:Blk->Nat->Nat->OR:=@Blk.rec (fun _=>Nat->Nat->OR) (fun _ rows r o=>nth2 rows r o) (fun _ _ _ _=>none) (fun _ _ rows r o=>nth2 rows r o) (fun _ _ _ _=>none) (fun _ _ _=>none) (fun _ _ _ _=>none) (fun _ _=>none) (fun _ _=>none)
noncomputable def obK (x:Option Blk) (k:Blk->OR):OR:=@Option.rec Blk (fun _=>OR) none k x
noncomputable def ld1:IV->(Nat->Option (List IV))->Lk->OR:=@IV.rec (fun _=>(Nat->Option (List IV))->Lk->OR) (fun _=>Unit) (fun _=>Unit) (fun _ _ _=>none) (fun _ _ _ _=>none) (fun _ _ _=>none) (fun v gl_ lk_=>wZ gl_ lk_ (.raw v)) (fun _ _=>none) (fun s r o _ lk_=>obK (lk_ s) fun b=>ldB b r o) (fun _ _ _ _ _ _=>none) (fun _ _ _ _=>none) (fun rows r o _ _ _=>nth2 rows r o) (fun _ _=>none) (fun _ _=>none) (fun _ _ _ _=>none) (fun _ _ _ _=>none) (fun _ _ _ _ _ _ _=>none) (fun _ _ _ _ _=>none) (fun _ _ _=>none) (fun _ _ _=>none) () (fun _ _ _ _=>()) () (fun _ _ _ _=>())
noncomputable def oneC:IV->Bool:=@IV.rec (fun _=>Bool) (fun _=>Unit) (fun _=>Unit) (fun _=>true) (fun _ _=>true) (fun _=>true) (fun v=>zU (.raw v)) (false) (fun _ _ _=>true) (fun _ _ _ _=>true) (fun _ _=>true) (fun _ _ _ _=>true) (true) (true) (fun _ _=>false) (fun _ _=>false) (fun _ _ _ _ _=>true) (fun _ _ _=>true) (fun _=>true) (fun _=>true) () (fun _ _ _ _=>()) () (fun _ _ _ _=>())
noncomputable def stB:Blk->Nat->Nat->Nat->IV->OR:=@Blk.rec (fun _=>Nat->Nat->Nat->IV->OR) (fun sz rows s r o x=>nthK rows r fun row=>setK row o x fun row'=>setK rows r row' fun rows'=>some (.und,.set s (.cells sz rows'))) (fun _ _ _ _ _ _=>none) (fun ty sz rows s r o x=>nthK rows r fun row=>setK row o x fun row'=>setK rows r row' fun rows'=>some (.und,.set s (.tcells ty sz rows'))) (fun _ _ _ _ _ _=>none) (fun _ _ _ _ _=>none) (fun _ _ _ _ _ _=>none) (fun _ _ _ _=>none) (fun _ _ _ _=>none)
noncomputable def st1:IV->IV->Lk->OR:=@IV.rec (fun _=>IV->Lk->OR) (fun _=>Unit) (fun _=>Unit) (fun _ _ _=>none) (fun _ _ _ _=>none) (fun _ _ _=>none) (fun _ _ _=>none) (fun _ _=>none) (fun s r o x_ lk_=>@Bool.rec (fun _=>OR) (Wj lk_ 1 (.ptr s r o) x_) (obK (lk_ s) fun b=>stB b s r o x_) (oneC x_)) (fun _ _ _ _ _ _=>none) (fun _ _ _ _=>none) (fun _ _ _ _ _ _=>none) (fun _ _=>none) (fun _ _=>none) (fun _ _ _ _=>none) (fun _ _ _ _=>none) (fun _ _ _ _ _ _ _=>none) (fun _ _ _ _ _=>none) (fun _ _ _=>none) (fun _ _ _=>none) () (fun _ _ _ _=>()) () (fun _ _ _ _=>())
noncomputable def stR (n:Nat) (a x:IV) (lk:Lk):OR:=@Bool.rec (fun _=>OR) (Wj lk n a x) (st1 a x lk) (Nat.beq n 1)
noncomputable def fldR:IV->Nat->OR:=@IV.rec (fun _=>Nat->OR) (fun _=>Unit) (fun _=>Unit) (fun _ _=>none) (fun _ _ _=>none) (fun _ _=>none) (fun v f_=>z5r f_ (.raw v)) (fun _=>none) (fun s r o f_=>yes (.ptr s r (Nat.add o f_))) (fun _ _ _ _ _=>none) (fun _ _ _=>none) (fun rows r o _ f_=>yes (.iptr rows r (Nat.add o f_))) (fun _=>none) (fun _=>none) (fun _ _ _=>none) (fun _ _ _=>none) (fun _ _ _ _ _ _=>none) (fun _ _ _ _=>none) (fun _ _=>none) (fun _ _=>none) () (fun _ _ _ _=>()) () (fun _ _ _ _=>())
noncomputable def nckR:IV->OR:=@IV.rec (fun _=>OR) (fun _=>Unit) (fun _=>Unit) (fun _=>none) (fun _ _=>none) (fun _=>none) (fun v=>J6 (.raw v)) (none) (fun s r o=>yes (.ptr s r o)) (fun _ _ _ _=>none) (fun _ _=>none) (fun rows r o _=>yes (.iptr rows r o)) (none) (none) (fun _ _=>none) (fun _ _=>none) (fun f a b _ _=>J6 (.fn f a b)) (fun _ _ _=>none) (fun _=>none) (fun _=>none) () (fun _ _ _ _=>()) () (fun _ _ _ _=>())
noncomputable def szBR:Blk->Nat->Bool:=@Blk.rec (fun _=>Nat->Bool) (fun sz _ m=>Nat.beq sz m) (fun _ _ _=>false) (fun _ sz _ m=>Nat.beq sz m) (fun _ _ _=>false) (fun _ _=>false) (fun _ _ _=>false) (fun _=>false) (fun _=>false)
noncomputable def ixS1:IV->Nat->Nat->Nat->Nat->Nat->Lk->OR:=@IV.rec (fun _=>Nat->Nat->Nat->Nat->Nat->Lk->OR) (fun _=>Unit) (fun _=>Unit) (fun _ _ _ _ _ _ _=>none) (fun _ n m_ s_ off_ len_ _ lk_=>@Int.rec (fun _=>OR) (fun i_=>obK (lk_ s_) fun b=>@Bool.rec (fun _=>OR) none (yes (.ptr s_ (Nat.add off_ i_) 0)) (szBR b m_&&Nat.blt i_ len_)) (fun _=>none) n) (fun _ _ _ _ _ _ _=>none) (fun _ _ _ _ _ _ _=>none) (fun _ _ _ _ _ _=>none) (fun _ _ _ _ _ _ _ _ _=>none) (fun _ _ _ _ _ _ _ _ _ _=>none) (fun _ _ _ _ _ _ _ _=>none) (fun _ _ _ _ _ _ _ _ _ _=>none) (fun _ _ _ _ _ _=>none) (fun _ _ _ _ _ _=>none) (fun _ _ _ _ _ _ _ _=>none) (fun _ _ _ _ _ _ _ _=>none) (fun _ _ _ _ _ _ _ _ _ _ _=>none) (fun _ _ _ _ _ _ _ _ _=>none) (fun _ _ _ _ _ _ _=>none) (fun _ _ _ _ _ _ _=>none) () (fun _ _ _ _=>()) () (fun _ _ _ _=>())
noncomputable def ixS:IV->IV->Nat->Lk->OR:=@IV.rec (fun _=>IV->Nat->Lk->OR) (fun _=>Unit) (fun _=>Unit) (fun _ _ _ _=>none) (fun _ _ _ _ _=>none) (fun _ _ _ _=>none) (fun _ _ _ _=>none) (fun _ _ _=>none) (fun _ _ _ _ _ _=>none) (fun s off len cap i_ m_ lk_=>ixS1 i_ m_ s off len cap lk_) (fun rows _ i_ m_ lk_=>z6v lk_ m_ (.isl rows) i_) (fun _ _ _ _ _ _ _=>none) (fun _ _ _=>none) (fun _ _ _=>none) (fun _ _ _ _ _=>none) (fun _ _ _ _ _=>none) (fun _ _ _ _ _ _ _ _=>none) (fun _ _ _ _ _ _=>none) (fun _ _ _ _=>none) (fun _ _ _ _=>none) () (fun _ _ _ _=>()) () (fun _ _ _ _=>())
noncomputable def cvR:IV->IntKind->OR:=@IV.rec (fun _=>IntKind->OR) (fun _=>Unit) (fun _=>Unit) (fun _ _=>none) (fun _ n k_=>yes (.int k_ (wrapR k_ n))) (fun _ _=>none) (fun _ _=>none) (fun _=>none) (fun _ _ _ _=>none) (fun _ _ _ _ _=>none) (fun _ _ _=>none) (fun _ _ _ _ _=>none) (fun _=>none) (fun _=>none) (fun _ _ _=>none) (fun _ _ _=>none) (fun _ _ _ _ _ _=>none) (fun _ _ _ _=>none) (fun _ _=>none) (fun _ _=>none) () (fun _ _ _ _=>()) () (fun _ _ _ _=>())
noncomputable def extR:IV->Nat->OR:=@IV.rec (fun _=>Nat->OR) (fun _=>Unit) (fun _=>Unit) (fun _ _=>none) (fun _ _ _=>none) (fun _ _=>none) (fun _ _=>none) (fun _=>none) (fun _ _ _ _=>none) (fun _ _ _ _ _=>none) (fun _ _ _=>none) (fun _ _ _ _ _=>none) (fun _=>none) (fun _=>none) (fun _ _ _=>none) (fun cs _ i_=>nthK cs i_ yes) (fun _ _ _ _ _ _=>none) (fun _ _ _ _=>none) (fun _ _=>none) (fun _ _=>none) () (fun _ _ _ _=>()) () (fun _ _ _ _=>())
noncomputable def lenR:IV->OR:=@IV.rec (fun _=>OR) (fun _=>Unit) (fun _=>Unit) (fun _=>none) (fun _ _=>none) (fun _=>none) (fun v=>zey (.raw v)) (none) (fun _ _ _=>none) (fun _ _ len _=>yes (.int .i64 (.ofNat len))) (fun rows _=>yes (.int .i64 (.ofNat rows.length))) (fun _ _ _ _=>none) (yes (.int .i64 (.ofNat 0))) (yes (.int .i64 (.ofNat 0))) (fun _ _=>none) (fun _ _=>none) (fun _ _ _ _ _=>none) (fun _ _ _=>none) (fun _=>none) (fun _=>none) () (fun _ _ _ _=>()) () (fun _ _ _ _=>())
noncomputable def lnSR:IV->OR:=@IV.rec (fun _=>OR) (fun _=>Unit) (fun _=>Unit) (fun _=>none) (fun _ _=>none) (fun s=>yes (.int .i64 (.ofNat s.length))) (fun _=>none) (none) (fun _ _ _=>none) (fun _ _ _ _=>none) (fun _ _=>none) (fun _ _ _ _=>none) (none) (none) (fun _ _=>none) (fun _ _=>none) (fun _ _ _ _ _=>none) (fun _ _ _=>none) (fun _=>none) (fun _=>none) () (fun _ _ _ _=>()) () (fun _ _ _ _=>())
noncomputable def pkR:IV->IV->IV->OR:=@IV.rec (fun _=>IV->IV->OR) (fun _=>Unit) (fun _=>Unit) (fun b a_ b_=>@Bool.rec (fun _=>OR) (yes b_) (yes a_) b) (fun _ _ _ _=>none) (fun _ _ _=>none) (fun _ _ _=>none) (fun _ _=>none) (fun _ _ _ _ _=>none) (fun _ _ _ _ _ _=>none) (fun _ _ _ _=>none) (fun _ _ _ _ _ _=>none) (fun _ _=>none) (fun _ _=>none) (fun _ _ _ _=>none) (fun _ _ _ _=>none) (fun _ _ _ _ _ _ _=>none) (fun _ _ _ _ _=>none) (fun _ _ _=>none) (fun _ _ _=>none) () (fun _ _ _ _=>()) () (fun _ _ _ _=>())
def zl4 (k:IntKind) (a b:Int):Int:=k.wrap (BitVec.ofInt k.bits a&&&BitVec.ofInt k.bits b).toNat
def sOr (k:IntKind) (a b:Int):Int:=k.wrap (BitVec.ofInt k.bits a|||BitVec.ofInt k.bits b).toNat
def zjQ (k:IntKind) (a b:Int):Int:=k.wrap (BitVec.ofInt k.bits a^^^BitVec.ofInt k.bits b).toNat
noncomputable def shrR (k:IntKind):Int->Int->Int:=@Int.rec (fun _=>Int->Int) (fun a=>@Int.rec (fun _=>Int) (fun b=>.ofNat (Nat.div a (Nat.pow 2 (min b k.bits)))) (fun b=>(Int.ofNat a).fdiv (2^min (Int.negSucc b).toNat k.bits))) (fun a b=>(Int.negSucc a).fdiv (2^min b.toNat k.bits))
noncomputable def binR:BinOp->IV->IV->OR:=@BinOp.rec (fun _=>IV->IV->OR) (fun x y=>int2 x y (fun k a b=>yes (.int k (wrapR k (Int.add a b)))) (WO .add)) (fun x y=>int2 x y (fun k a b=>yes (.int k (wrapR k (Int.sub a b)))) (WO .sub)) (fun x y=>int2 x y (fun k a b=>yes (.int k (wrapR k (Int.mul a b)))) (WO .mul)) (fun x y=>WO .quo x y) (fun x y=>WO .rem x y) (fun x y=>int2 x y (fun k a b=>yes (.int k (bitR Nat.land (zl4 k) k a b))) (WO .and)) (fun x y=>int2 x y (fun k a b=>yes (.int k (bitR Nat.lor (sOr k) k a b))) (WO .or)) (fun x y=>int2 x y (fun k a b=>yes (.int k (bitR Nat.xor (zjQ k) k a b))) (WO .xor)) (fun x y=>WO .shl x y) (fun x y=>sh2 x y (fun k a b=>yes (.int k (shrR k a b))) (WO .shr)) (fun x y=>WO .andNot x y) (fun x y=>int2 x y (fun k a b=>yes (.bool (iEq a b))) (WO .eql)) (fun x y=>int2 x y (fun k a b=>yes (.bool (!iEq a b))) (WO .neq)) (fun x y=>int2 x y (fun k a b=>yes (.bool (iLt a b))) (WO .lss)) (fun x y=>int2 x y (fun k a b=>yes (.bool (!iLt b a))) (WO .leq)) (fun x y=>int2 x y (fun k a b=>yes (.bool (iLt b a))) (WO .gtr)) (fun x y=>int2 x y (fun k a b=>yes (.bool (!iLt a b))) (WO .geq))
noncomputable def opR:XO->(Nat->Option (List IV))->Lk->Nat->(Opd->IV)->OR:=@XO.rec (fun _=>(Nat->Option (List IV))->Lk->Nat->(Opd->IV)->OR) (fun x _ _ _ e=>yes (e x)) (fun c a b _ _ _ e=>pkR (e c) (e a) (e b)) (fun zero _ _ n0 _=>some (.ptr n0 0 0,.push (.cells zero.length [zero]))) (fun x _ _ n0 e=>some (.ptr n0 0 0,.push (.cells (cellsOf (e x)).length [cellsOf (e x)]))) (fun zero ps _ _ _ e=>z2M zero (ps.map fun p=>(p.1,p.2.1,e p.2.2))) (fun sz zero len ps _ _ n0 e=>JQ n0 sz zero len (ps.map fun p=>(p.1,e p.2))) (fun a gl lk _ e=>ld1 (e a) gl lk) (fun n a gl lk _ e=>Jn gl lk n (e a)) (fun n a x _ lk _ e=>stR n (e a) (e x) lk) (fun x _ _ _ e=>nckR (e x)) (fun op x y _ _ _ e=>binR op (e x) (e y)) (fun neg x y _ _ _ e=>zdf neg (e x) (e y)) (fun op x _ _ _ e=>eUn op (e x)) (fun k x _ _ _ e=>cvR (e x) k) (fun x _ _ _ e=>wL (e x)) (fun x gl lk n0 e=>opE gl lk n0 e (.cvStr x)) (fun off x _ _ _ e=>fldR (e x) off) (fun off n agg x _ _ _ e=>zd1 off n agg (e x)) (fun m x i _ lk _ e=>ixS (e x) (e i) m lk) (fun m sz x i _ _ _ e=>z8w m sz (e x) (e i)) (fun x i _ _ _ e=>zdw (e x) (e i)) (fun m x lo hi _ lk _ e=>z3e lk m (e x) (lo.map e) (hi.map e)) (fun x lo hi _ _ _ e=>z0b (e x) (lo.map e) (hi.map e)) (fun x _ _ _ e=>JS (e x)) (fun f a b _ _ _ e=>yes (.fn f (a.map e) (b.map e))) (fun zero bytes len cap _ _ n0 e=>Vu n0 zero bytes (e len) (e cap)) (fun x _ _ _ e=>lenR (e x)) (fun x _ _ _ e=>lnSR (e x)) (fun sz bytes s x _ lk n0 e=>z9B lk n0 sz bytes (e s) (e x)) (fun x y _ _ _ e=>zd2 (e x) (e y)) (fun x y _ _ _ e=>zdP (e x) (e y)) (fun _ _ _ _ _ _=>none) (fun _ _ _ _ _ _=>none) (fun k neg x _ _ _ e=>jX ((z7b k (e x)).map fun b=>.bool (if neg then !b else b))) (fun x _ _ n0 e=>zdn n0 (e x)) (fun t _ lk _ e=>zcY lk (e t)) (fun t i _ _ _ e=>extR (e t) i) (fun k xs _ lk n0 e=>eEx lk n0 k (xs.map e))
theorem z9C {x y:IV} {g:IntKind->Int->Int->OR} {sl:IV->IV->OR}:int2 x y g sl=sl x y\/∃k a b,x=.int k a/\y=.int k b/\int2 x y g sl=g k a b:=by
 cases x<;>try exact .inl rfl
 rename_i k a
 cases y<;>try exact .inl rfl
 rename_i d b
 show (@Bool.rec (fun _=>OR) (sl (.int k a) (.int d b)) (g k a b) (Nat.beq (kIx k) (kIx d)))=_\/∃k1 j h,_/\_/\(@Bool.rec (fun _=>OR) (sl (.int k a) (.int d b)) (g k a b) (Nat.beq (kIx k) (kIx d)))=_
 cases hk:Nat.beq (kIx k) (kIx d) with
 | false=>exact .inl rfl
 | true=>
  have:=z9p hk
  subst this
  exact .inr ⟨k,a,b,rfl,rfl,rfl⟩
theorem zc7 {x y:IV} {g:IntKind->Int->Int->OR} {sl:IV->IV->OR}:sh2 x y g sl=sl x y\/∃k d a,∃m:Nat,x=.int k a/\y=.int d m/\sh2 x y g sl=g k a m:=by
 cases x<;>try exact .inl rfl
 rename_i k a
 cases y<;>try exact .inl rfl
 rename_i d b
 cases b with
 | ofNat m=>exact .inr ⟨k,d,a,m,rfl,rfl,rfl⟩
 | negSucc m=>exact .inl rfl
theorem VW {α:Type}:∀{l:List α} {n:Nat} {k:α->OR},nthK l n k=some p->∃x,l[n]?=some x/\k x=some p
 | [],_,_,h=>by cases h
 | x::l,0,k,h=>⟨x,rfl,h⟩
 | x::l,n+1,k,h=>by
  obtain ⟨y,d,b⟩:=VW (l:=l) (n:=n) h
  exact ⟨y,by simpa using d,b⟩
theorem z1T {α:Type}:∀{l:List α} {n:Nat} {x:α} {k:List α->OR},setK l n x k=some p->n<l.length/\k (l.set n x)=some p
 | [],_,_,_,h=>by cases h
 | y::l,0,x,k,h=>⟨Nat.zero_lt_succ _,h⟩
 | y::l,n+1,x,k,h=>by
  obtain ⟨j,b⟩:=z1T (l:=l) (n:=n) (x:=x) (k:=fun d=>k (y::d)) h
  exact ⟨Nat.succ_lt_succ j,b⟩
theorem z1H {rows:List (List IV)} {r o:Nat} (h:nth2 rows r o=some p):r<rows.length/\o<(rows.getD r []).length/\yes ((rows.getD r []).getD o .und)=some p:=by
 obtain ⟨b,d,l⟩:=VW h
 obtain ⟨x,j,q⟩:=VW l
 have m:rows.getD r []=b:=by rw [List.getD_eq_getElem?_getD,d];rfl
 rw [m]
 refine ⟨(List.getElem?_eq_some_iff.1 d).1,(List.getElem?_eq_some_iff.1 j).1,?_⟩
 rw [List.getD_eq_getElem?_getD,j];exact q
theorem z6G {x:Option Blk} {k:Blk->OR} (h:obK x k=some p):∃b,x=some b/\k b=some p:=by
 cases x with
 | none=>cases h
 | some b=>exact ⟨b,rfl,h⟩
theorem zbT {a:IV} (h:ld1 a gl lk=some p):wZ gl lk a=some p:=by
 cases a<;>try (cases h;done)
 case raw v=>exact h
 case iptr rows r o=>
  obtain ⟨j,d,l⟩:=z1H (rows:=rows) (r:=r) (o:=o) h
  show (if r<rows.length/\o<(rows.getD r []).length then yes ((rows.getD r []).getD o .und) else none)=_
  rw [if_pos ⟨j,d⟩];exact l
 case ptr s r o=>
  obtain ⟨b,m,h⟩:=z6G (x:=lk s) (k:=fun b=>ldB b r o) h
  cases b<;>try (cases h;done)
  case cells sz rows=>
   obtain ⟨j,d,l⟩:=z1H (rows:=rows) (r:=r) (o:=o) h
   unfold wZ YI
   simp only [m]
   rw [if_pos ⟨j,d⟩];exact l
  case tcells ty sz rows=>
   obtain ⟨j,d,l⟩:=z1H (rows:=rows) (r:=r) (o:=o) h
   unfold wZ YI
   simp only [m]
   rw [if_pos ⟨j,d⟩];exact l
theorem z9s {x:IV} (h:oneC x=true):cellsOf x=[x]/\zU x=true:=by
 cases x<;>first
  | exact ⟨rfl,rfl⟩
  | exact ⟨rfl,h⟩
  | cases h
theorem z4d {l:List IV} {o:Nat} {x:IV} (h:o<l.length):splice l o [x]=l.set o x:=by
 unfold splice
 rw [List.set_eq_take_append_cons_drop,if_pos h]
 simp
theorem zcd {n:Nat} {a x:IV} (h:stR n a x lk=some p):Wj lk n a x=some p:=by
 unfold stR at h
 cases q:Nat.beq n 1 with
 | false=>rw [q] at h;exact h
 | true=>
  rw [q] at h
  have q:=Nat.eq_of_beq_eq_true q
  subst q
  cases a<;>try (cases h;done)
  rename_i s r o
  have h:@Bool.rec (fun _=>OR) (Wj lk 1 (.ptr s r o) x) (obK (lk s) fun b=>stB b s r o x) (oneC x)=some p:=h
  cases hc:oneC x with
  | false=>rw [hc] at h;exact h
  | true=>
   rw [hc] at h
   obtain ⟨w,J⟩:=z9s hc
   obtain ⟨b,A,h⟩:=z6G (x:=lk s) (k:=fun b=>stB b s r o x) h
   have key:∀{rows:List (List IV)} {K:List (List IV)->OR},(nthK rows r fun d=>setK d o x fun l=>setK rows r l K)=some p->r<rows.length/\o<(rows.getD r []).length/\K (rows.set r (splice (rows.getD r []) o (cellsOf x)))=some p:=by
    intro rows K hh
    obtain ⟨d,u,m⟩:=VW hh
    obtain ⟨j,D⟩:=z1T m
    obtain ⟨M,G⟩:=z1T D
    have I:rows.getD r []=d:=by rw [List.getD_eq_getElem?_getD,u];rfl
    rw [I,w,z4d j]
    exact ⟨M,j,G⟩
   have B:(cellsOf x).length=1:=by rw [w];rfl
   have ha:(cellsOf x).all zU=true:=by rw [w];simp [J]
   cases b<;>try (cases h;done)
   case cells sz rows=>
    obtain ⟨u,m,j⟩:=key (rows:=rows) (K:=fun rows'=>some (.und,.set s (.cells sz rows'))) h
    unfold Wj
    simp only [A]
    rw [if_pos ⟨u,m,B,ha⟩];exact j
   case tcells ty sz rows=>
    obtain ⟨u,m,j⟩:=key (rows:=rows) (K:=fun rows'=>some (.und,.set s (.tcells ty sz rows'))) h
    unfold Wj
    simp only [A]
    rw [if_pos ⟨u,m,B,ha⟩];exact j
theorem zcp {x i:IV} {m:Nat} (h:ixS x i m lk=some p):z6v lk m x i=some p:=by
 cases x<;>try (cases h;done)
 case isl rows=>exact h
 case sl s off len cap=>
  cases i<;>try (cases h;done)
  rename_i k n
  cases n with
  | negSucc n=>cases h
  | ofNat n=>
   obtain ⟨b,q,h⟩:=z6G (x:=lk s) (k:=fun b=>@Bool.rec (fun _=>OR) none (yes (.ptr s (Nat.add off n) 0)) (szBR b m&&Nat.blt n len)) h
   cases hc:(szBR b m&&Nat.blt n len) with
   | false=>rw [hc] at h;cases h
   | true=>
    rw [hc] at h
    rw [Bool.and_eq_true] at hc
    have j:n<len:=Nat.le_of_ble_eq_true hc.2
    have r:z0O lk s=some m:=by
     unfold z0O
     cases b<;>first
      | (simp only [q];exact congrArg some (Nat.eq_of_beq_eq_true hc.1))
      | cases hc.1
    have l:(0:Int)<=Int.ofNat n:=Int.natCast_nonneg n
    have d:Int.ofNat n<(len:Int):=Int.ofNat_lt.2 j
    show (if z0O lk s=some m/\0<=Int.ofNat n/\Int.ofNat n<(len:Int) then yes (.ptr s (off+(Int.ofNat n).toNat) 0) else none)=_
    rw [if_pos ⟨r,l,d⟩];exact h
theorem z9D {op:BinOp} {x y:IV} (h:binR op x y=some p):WO op x y=some p:=by
 have t1:∀{g:IntKind->Int->Int->OR} {op:BinOp},(∀k a b,g k a b=WO op (.int k a) (.int k b))->int2 x y g (WO op)=some p->WO op x y=some p:=by
  intro g op hg hh
  rcases z9C (x:=x) (y:=y) (g:=g) (sl:=WO op) with d | ⟨k,a,b,rfl,rfl,d⟩
  ·rw [<-d];exact hh
  ·rw [<-hg,<-d];exact hh
 cases op<;>try exact h
 case add=>exact t1 (fun k a b=>by rw [Vj];show _=jX (ZR .add (.int k a) (.int k b));simp only [ZR,if_true];rfl) h
 case sub=>exact t1 (fun k a b=>by rw [Vj];show _=jX (ZR .sub (.int k a) (.int k b));simp only [ZR,if_true];rfl) h
 case mul=>exact t1 (fun k a b=>by rw [Vj];show _=jX (ZR .mul (.int k a) (.int k b));simp only [ZR,if_true];rfl) h
 case and=>exact t1 (fun k a b=>by rw [z1C (fun m n l j=>z7S l j)];show _=jX (ZR .and (.int k a) (.int k b));simp only [ZR,if_true];rfl) h
 case or=>exact t1 (fun k a b=>by rw [z1C (fun m n l j=>z9X l j)];show _=jX (ZR .or (.int k a) (.int k b));simp only [ZR,if_true];rfl) h
 case xor=>exact t1 (fun k a b=>by rw [z1C (fun m n l j=>z7R l j)];show _=jX (ZR .xor (.int k a) (.int k b));simp only [ZR,if_true];rfl) h
 case eql=>exact t1 (fun k a b=>by rw [z9h];show _=jX (ZR .eql (.int k a) (.int k b));simp only [ZR,if_true];rfl) h
 case neq=>exact t1 (fun k a b=>by rw [z9h];show _=jX (ZR .neq (.int k a) (.int k b));simp only [ZR,if_true];rfl) h
 case lss=>exact t1 (fun k a b=>by rw [z2S];show _=jX (ZR .lss (.int k a) (.int k b));simp only [ZR,if_true];rfl) h
 case gtr=>exact t1 (fun k a b=>by rw [z2S];show _=jX (ZR .gtr (.int k a) (.int k b));simp only [ZR,if_true];rfl) h
 case leq=>exact t1 (fun k a b=>by
  rw [z2S,show (!decide (b<a))=decide (a<=b) by rw [Bool.eq_iff_iff];simp];show _=jX (ZR .leq (.int k a) (.int k b));simp only [ZR,if_true];rfl) h
 case geq=>exact t1 (fun k a b=>by
  rw [z2S,show (!decide (a<b))=decide (b<=a) by rw [Bool.eq_iff_iff];simp];show _=jX (ZR .geq (.int k a) (.int k b));simp only [ZR,if_true];rfl) h
 case shr=>
  have h:sh2 x y (fun k a b=>yes (.int k (shrR k a b))) (WO .shr)=some p:=h
  rcases zc7 (x:=x) (y:=y) (g:=fun k a b=>yes (.int k (shrR k a b))) (sl:=WO .shr) with d | ⟨k,q,a,m,rfl,rfl,d⟩
  ·rw [<-d];exact h
  ·rw [d] at h
   show jX (ZR .shr (.int k a) (.int q m))=_
   have r:(0:Int)<=(m:Int):=Int.natCast_nonneg m
   simp only [ZR,if_pos r]
   rw [<-h]
   show some (IV.int k (a.fdiv (2^min (m:Int).toNat k.bits)),Eff.no)=some (IV.int k (shrR k a m),Eff.no)
   have:shrR k a (m:Int)=a.fdiv (2^min (m:Int).toNat k.bits):=by
    cases a with
    | negSucc a=>rfl
    | ofNat a=>
     show Int.ofNat (Nat.div a (Nat.pow 2 (min m k.bits)))=_
     rw [Int.toNat_natCast,Int.fdiv_eq_ediv_of_nonneg _ (by exact Int.le_of_lt (Int.pow_pos (by decide)))]
     have:((2:Int)^min m k.bits)=((2^min m k.bits:Nat):Int):=by simp
     rw [this];rfl
   rw [this]
theorem zc5 {c a b:IV} (h:pkR c a b=some p):z7Y c a b=some p:=by
 cases c<;>try (cases h;done)
 rename_i t
 cases t<;>exact h
theorem z9T {x:IV} (h:nckR x=some p):J6 x=some p:=by
 cases x<;>first
  | exact h
  | (cases h;done)
theorem zcw {x:IV} {k:IntKind} (h:cvR x k=some p):z3b k x=some p:=by
 cases x<;>try (cases h;done)
 rename_i b n
 show yes (.int k (k.wrap n))=_
 rw [<-Vj];exact h
theorem z9w {x:IV} {off:Nat} (h:fldR x off=some p):z5r off x=some p:=by
 cases x<;>first
  | exact h
  | (cases h;done)
theorem zao {x:IV} (h:lenR x=some p):zey x=some p:=by
 cases x<;>first
  | exact h
  | (cases h;done)
theorem z9J {x:IV} (h:lnSR x=some p):z7N x=some p:=by
 cases x<;>first
  | exact h
  | (cases h;done)
theorem zai {x:IV} {i:Nat} (h:extR x i=some p):zcR x i=some p:=by
 cases x<;>try (cases h;done)
 rename_i cs
 obtain ⟨x,b,d⟩:=VW (l:=cs) (n:=i) (k:=yes) h
 show (if i<cs.length then yes (cs.getD i .und) else none)=_
 rw [if_pos (List.getElem?_eq_some_iff.1 b).1,List.getD_eq_getElem?_getD,b];exact d
theorem zci {o:XO} (h:opR o gl lk n0 e=some p):opE gl lk n0 e o=some p:=by
 cases o<;>try exact h
 case load1 a=>exact zbT h
 case store n a x=>exact zcd h
 case bin op x y=>exact z9D h
 case idxS m x i=>exact zcp h
 case pick c a b=>exact zc5 h
 case nilck x=>exact z9T h
 case cvInt k x=>exact zcw h
 case fldA off x=>exact z9w h
 case len x=>exact zao h
 case lenS x=>exact z9J h
 case ext t i=>exact zai h
end
section
variable {E:Env}
theorem one {C:Ctx} {x:IV} {vs:List Value} (d:[x].length=vs.length) (b:∀(i:Nat) (z:IV),[x][i]?=some z->VR C z (vs.getD i undef)):∃a,vs=[a]/\VR C x a:=by
 match vs,d with
 | [a],_=>exact ⟨a,rfl,b 0 x rfl⟩
theorem z1M {f : FuncId} {fn : Func} (l : E.P.funcs[f]? = some fn) (d : (fn.name == "runtime.NumGoroutine") = false)
  (r:fn.body.isNone=true) (j:Extern.findNext fn=none) (h:Extern.find fn=some Extern.MathFloatBits.float64bits) (b:Nat) :
  z4q E f [.raw (.float .f64 b)] (.int .u64 b):=by
 refine z2v l d r j h fun C vs _ m s=>?_
 obtain ⟨a,rfl,q⟩:=one m s
 cases q
 exact ⟨.int .u64 b,rfl,.int _ _⟩
theorem z1Y {f : FuncId} {fn : Func} (j : E.P.funcs[f]? = some fn) (b : (fn.name == "runtime.NumGoroutine") = false)
  (q:fn.body.isNone=true) (h:Extern.findNext fn=none) (d:Extern.find fn=some Extern.MathFloatBits.float64frombits) (n:Int) :
  z4q E f [.int .u64 n] (.raw (.float .f64 n.toNat)):=by
 refine z2v j b q h d fun C vs _ l r=>?_
 obtain ⟨a,rfl,m⟩:=one l r
 cases m
 exact ⟨.float .f64 n.toNat,rfl,.raw _ rfl⟩
theorem z4E {f : FuncId} {fn : Func} {h : Array Value → Sem Value} {u v : Value} (A : E.P.funcs[f]? = some fn) (b : (fn.name == "runtime.NumGoroutine") = false)
  (r:fn.body.isNone=true) (m:Extern.findNext fn=none) (j:Extern.find fn=some h) (s:∀w:World,(h #[u]).run E.P w=.ok v w) (l:zca v=true) :
  z4q E f [.raw u] (.raw v):=by
 refine z2v A b r m j fun C vs _ q d=>?_
 obtain ⟨a,rfl,B⟩:=one q d
 cases B
 exact ⟨v,s C.w,.raw _ l⟩
end
end Go.X
end
