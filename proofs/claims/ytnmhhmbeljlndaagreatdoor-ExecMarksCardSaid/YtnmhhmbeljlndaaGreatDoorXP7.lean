/- Parts of the proof: XExtern, XOut, XRange, XEval, XOwn, XFlt. -/
import Derived.Test.YtnmhhmbeljlndaaGreatDoorXP6
import Derived.Lib.Bytealg
set_option linter.unusedVariables false
set_option linter.unusedSimpArgs false
set_option linter.unusedSectionVars false
section
namespace Go.X
open Go
section
variable {E:Env}
theorem z1a {f : FuncId} {fn : Func} {en : Array Value → Sem Value} {args : List IV} {r : IV} (hf : E.P.funcs[f]? = some fn) (hname : (fn.name == "runtime.NumGoroutine") = false)
  (hb:fn.body.isNone=true) (hn:Extern.findNext fn=none) (he:Extern.find fn=some en)
  (h:∀(C:Ctx) (vs:List Value),E.G C.w→args.length=vs.length→(∀(i:Nat) (x:IV),args[i]?=some x→VR C x (vs.getD i undef))→∃v,(en vs.toArray).run E.P C.w=.ok v C.w∧VR C r v):XExt E f args r:=by
 intro C vs hG hl hv
 obtain ⟨v,h1,h2⟩:=h C vs hG hl hv
 refine ⟨v,?_,h2⟩
 rw [run_callFunc_extern hf hname hb hn he,h1];rfl
theorem two {C:Ctx} {x y:IV} {vs:List Value} (hl:[x,y].length=vs.length) (hv:∀(i:Nat) (z:IV),[x,y][i]?=some z->VR C z (vs.getD i undef)) :
  ∃a b,vs=[a,b]/\VR C x a/\VR C y b:=by
 match vs,hl with
 | [a,b],_=>exact ⟨a,b,rfl,hv 0 x rfl,hv 1 y rfl⟩
end
end Go.X
end
section
namespace Go.X
open Go
section
variable {E:Env} {ρ:Rho} {L:List Blk} {KV:IV->List Blk->Prop}
@[go_sem] theorem zfT {α:Type} {J:List α} {x:α}:(J++[x])[J.length]?=some x:=by simp
@[go_sem] theorem zgN {α:Type} {J:List α} {x y:α}:(J++[x]).set J.length y=J++[y]:=by simp
theorem Yf {α:Type} {f:α->Option α}:∀{l:List α},(∀x∈l,f x=some x)->mapO f l=some l
 | [],_=>rfl
 | x::r,h=>by simp only [mapO];rw [h x List.mem_cons_self,Yf fun y hy=>h y (List.mem_cons_of_mem _ hy)]
@[go_sem] theorem zdh {sz:Nat} {zero:List IV} {x:IV} (h1:zero.length=sz) (h2:(cellsOf x).length=sz):xop E (.bslice sz zero 1 [(0,.c x)]) cev L KV=KV (.sl L.length 0 1 1) (L++[.cells sz [cellsOf x]]):=by
 simp only [xop,List.map_cons,List.map_nil,zU,Zi,List.replicate,h1,h2,llc,lln,true_and]
 simp
@[go_sem] theorem zeq {zero:List IV} {bytes:Nat} {k k':IntKind} {n m:Int}:xop E (.mkslice zero bytes (.c (.int k n)) (.c (.int k' m))) cev L KV =
  (0<=n/\n<=m/\m<=9223372036854775807/\m*bytes<=281474976710656/\KV (.sl L.length 0 n.toNat m.toNat) (L++[.cells zero.length (List.replicate m.toNat zero)])):=nr rfl
def szB (b:Option Blk):Option Nat:=match b with | some (.cells sz _)=>some sz | some (.tcells _ sz _)=>some sz | _=>none
@[go_sem] theorem zfG {s:Nat}:szOf L s=szB L[s]?:=nr rfl
@[go_sem] theorem zcR {ty sz:Nat} {rows:List (List IV)}:szB (some (.tcells ty sz rows))=some sz:=nr rfl
@[go_sem] theorem zdF {sz:Nat} {rows:List (List IV)}:szB (some (.cells sz rows))=some sz:=nr rfl
end
end Go.X
end
section
namespace Go.X
open Go

def y9 (l:List IV):Rho:=fun n=>l.getD n .und
def vT (l:List IV) (ps:List Nat) (args:List IV):List IV:=(ps.zip args).foldl (fun t p=>t.set p.1 p.2) l
def yEnd (r0:Loop) (l:List IV) (s:Nat) (K:IV->List Blk->Prop):XE->List Blk->Prop
 | .normal,L=>K (.bool true) (L.set s (.lp r0 l))
 | .ret,L=>K (.bool false) (L.set s (.lp { r0 with state:=.done,pending:=some .ret } l))
 | .exit i,L=>K (.bool false) (L.set s (.lp { r0 with state:=.done,pending:=some (.exit i) } l))
 | .goto i,L=>K (.bool false) (L.set s (.lp { r0 with state:=.done,pending:=some (.goto i) } l))
def yOf (E:Env) (N:Nat) (ps:List Nat) (xa xb:XC):ze6:=fun s args L K=>
 ∃r0 l,L[s]?=some (.lp r0 l)/\r0.state=.ready/\r0.pending=none/\Jd E.P N ps xa xb r0/\args.length=ps.length/\(∀p∈ps,p<N)/\WU xa=true/\WU xb=true/\l.length=N/\
  xrun E xa (y9 (vT l ps args)) L fun e1 ρ1 L1=>e1=.normal/\L1[s]?=some (.lp r0 l)/\
   xrun E xb ρ1 (L1.set s (.lp { r0 with state:=.busy } l)) fun e _ L2=>L2[s]?=some (.lp { r0 with state:=.busy } l)/\yEnd r0 l s K e L2
theorem z8W {r0:Loop} {l:List IV} {s:Nat} {K K':IV->List Blk->Prop} (hk:∀v L,K v L->K' v L):∀{e:XE} {L:List Blk},yEnd r0 l s K e L->yEnd r0 l s K' e L
 | .normal,_,h=>hk _ _ h
 | .ret,_,h=>hk _ _ h
 | .exit _,_,h=>hk _ _ h
 | .goto _,_,h=>hk _ _ h
theorem zaB {E:Env} {N:Nat} {ps:List Nat} {xa xb:XC} (s:Nat) (args:List IV) (L:List Blk) (K K':IV->List Blk->Prop) (hk:∀v L,K v L->K' v L) (h:yOf E N ps xa xb s args L K):yOf E N ps xa xb s args L K':=by
 obtain ⟨r0,l,h1,h2,h3,h4,h5,h6,h7,h8,h9,h⟩:=h
 exact ⟨r0,l,h1,h2,h3,h4,h5,h6,h7,h8,h9,zB _ (fun e1 ρ1 L1 ⟨h10,h11,h12⟩=>⟨h10,h11,zB _ (fun e _ L2 ⟨h13,h14⟩=>⟨h13,z8W hk h14⟩) h12⟩) h⟩
theorem z0Q {C:Ctx} {N:Nat}:∀(ps:List Nat) (args:List IV) (vs:List Value) (l:List IV) (t:Array Value),args.length=ps.length->args.length=vs.length->(∀p∈ps,p<N)->l.length=N->t.size=N->
  (∀(i:Nat) (x:IV),args[i]?=some x->VR C x (vs.getD i undef))->(∀n,VR C (l.getD n .und) (t.getD n undef))->
  ((ps.zip vs).foldl (fun t (p,a)=>t.setIfInBounds p a) t).size=N/\∀n,VR C ((vT l ps args).getD n .und) (((ps.zip vs).foldl (fun t (p,a)=>t.setIfInBounds p a) t).getD n undef)
 | [],args,vs,l,t,h1,h2,_,_,ht,_,hl=>by
  cases args with
  | nil=>exact ⟨ht,hl⟩
  | cons=>cases h1
 | p::ps,args,vs,l,t,h1,h2,hp,hll,ht,hv,hl=>by
  cases args with
  | nil=>cases h1
  | cons x args=>cases vs with
   | nil=>cases h2
   | cons v vs=>
    simp only [vT,List.zip_cons_cons,List.foldl_cons]
    refine z0Q ps args vs (l.set p x) (t.setIfInBounds p v) (by simpa using h1) (by simpa using h2) (fun q hq=>hp q (List.mem_cons_of_mem _ hq)) (by simpa using hll) (by simpa using ht) (fun i y hi=>by simpa using hv (i+1) y (by simpa using hi)) (fun n=>?_)
    have hpN:p<N:=hp p List.mem_cons_self
    rw [yf (by rw [ht];exact hpN),List.getD_eq_getElem?_getD,List.getElem?_set]
    by_cases hn:n=p
    ·subst hn
     rw [if_pos rfl,if_pos (by rw [hll];exact hpN),if_pos rfl]
     exact hv 0 x rfl
    ·rw [if_neg (Ne.symm hn),if_neg hn,<-List.getD_eq_getElem?_getD]
     exact hl n
theorem z9C {E:Env} (hpl:E.plain) (hnp:∀x L,¬E.pan x L) {N:Nat} {ps:List Nat} {xa xb:XC} (C:Ctx) (s:Nat) (args:List IV) (vs:List Value) (K:IV->List Blk->Prop) (wf:Wf E.g0 C) (sim:Sim C) (hG:E.G C.w) (hl:args.length=vs.length)
  (hv:∀(i:Nat) (x:IV),args[i]?=some x->VR C x (vs.getD i undef)) (h:yOf E N ps xa xb s args C.L K) :
  ∃fn tmps asg body,(Instr.yield (C.φ s).blk vs.toArray).run E.P C.w=.ok (.round (C.φ s).blk fn tmps asg body) C.w/\
   ∀F,FOk F->RoundIn F 0 E.P (C.φ s).blk fn tmps asg body C.w fun e w'=>∃v,e=.returned v/\z9P E.g0 C K v w':=by
 obtain ⟨r0,l,hL,hst,hpe,⟨hps,hxa,hxb,hN⟩,hal,hpN,hna,hnb,hlN,h⟩:=h
 obtain ⟨hb,hlv⟩:=sim s _ hL
 have hsz:vs.toArray.size=r0.params.size:=by rw [<-Array.length_toList,<-Array.length_toList,hps];simp [<-hl,hal]
 refine ⟨_,_,_,_,run_yield hb hsz,fun F hF=>?_⟩
 have hF':FOk (F.inRound (C.φ s).blk):=by
  rcases hF with rfl | ⟨l',rfl⟩
  ·exact .inr ⟨_,rfl⟩
  ·exact .inr ⟨_,rfl⟩
 obtain ⟨h1,h2⟩:=z0Q (C:=C) (N:=N) ps args vs l r0.tmps hal hl hpN hlN hN hv hlv
 have hfold:(r0.params.zip vs.toArray).foldl (fun tmps (x:Nat × Value)=>tmps.setIfInBounds x.1 x.2) r0.tmps=(ps.zip vs).foldl (fun t (p:Nat × Value)=>t.setIfInBounds p.1 p.2) r0.tmps:=by
  rw [<-Array.foldl_toList,Array.toList_zip,hps]
 refine roundIn_of_wpIn (hF.fn _) ?_
 refine yI (E:=E) (N:=N) hF' (C0:=C) wf hG (yX r0.assign) r0.assign (Nat.le_refl _) xa hxa (.inr hna) (.inl hpl) (y9 (vT l ps args)) C.L _ _ _ C.w (fun x v L' φ' a w' h=>absurd h (hnp x L')) h
  ⟨by show Array.size _=N;rw [<-h1];exact congrArg Array.size hfold,C.φ,wf,sim,Ext.refl C,fun n=>by
   have:=h2 n
   rw [<-hfold] at this
   exact this,(DOkE.none hpl.2).2 trivial,jo hpl.1⟩ ?_
 rintro e1 ρ1 L1 a1 w1 ⟨rfl,hL1,hrun⟩ ⟨hN1,φ1,wf1,sim1,ext1,hρ1,hd1⟩
 have hs1:φ1 s=C.φ s:=ext1.slot s ⟨_,hL,rfl⟩
 obtain ⟨hb1,hlv1⟩:=sim1 s _ hL1
 have hb1':w1.heap[(C.φ s).blk]?=some (.loop r0):=by rw [<-hs1];exact hb1
 have hne:∀(r:Loop) c e fr,Obj.loop r≠.cells c e fr:=fun _ _ _ _ h=>by cases h
 let C1:Ctx:=⟨w1,φ1,L1,C.X⟩
 let C2:Ctx:=setC C1 s (.loop { r0 with state:=.busy }) (.lp { r0 with state:=.busy } l)
 have e2:Ext C1 C2:=Wv hL1 rfl hb1 (hne _)
 have hw2:C2.w=w1.putObj (C.φ s).blk (.loop { r0 with state:=.busy }):=by
  show setW w1 (φ1 s).blk _=_
  rw [hs1];rfl
 have wf2:Wf E.g0 C2:=Jy wf1 hL1 rfl
 have sim2:Sim C2:=vw wf1 sim1 hL1 rfl hb1 (hne _) ⟨zD (Array.getElem?_eq_some_iff.1 hb1).1,fun n=>(hlv1 n).mono e2⟩
 refine ⟨C2.w,by rw [hw2];exact run_beginRound hb1' hst,?_⟩
 refine yI (E:=E) (N:=N) hF' (C0:=C) wf hG (yX r0.body) r0.body (Nat.le_refl _) xb hxb (.inr hnb) (.inl hpl) ρ1 _ _ _ a1 C2.w (fun x v L' φ' a w' h=>absurd h (hnp x L')) hrun ⟨hN1,φ1,wf2,sim2,ext1.trans e2,fun n=>(hρ1 n).mono e2,hd1.1.mono e2,hd1.2⟩ ?_
 rintro e ρ2 L2 a2 w2 ⟨hL2,hend⟩ ⟨hN2,φ2,wf3,sim3,ext3,hρ3,hd3⟩
 have hs2:φ2 s=C.φ s:=ext3.slot s ⟨_,hL,rfl⟩
 obtain ⟨hb2,hlv2⟩:=sim3 s _ hL2
 have hb2':w2.heap[(C.φ s).blk]?=some (.loop { r0 with state:=.busy }):=by rw [<-hs2];exact hb2
 let C3:Ctx:=⟨w2,φ2,L2,C.X⟩
 have fin:∀(jump:Option Code) (r:Loop) (b:Bool),r={ r0 with state:=if jump.isNone then .ready else .done,pending:=jump }->b=jump.isNone->K (.bool b) (L2.set s (.lp r l))->
   ∃v w',(Instr.endRound (C.φ s).blk jump).run E.P w2=.ok v w'/\∃v',Ending.returned v=.returned v'/\z9P E.g0 C K v' w':=by
  rintro jump r b rfl rfl hk
  let C4:Ctx:=setC C3 s (.loop { r0 with state:=if jump.isNone then .ready else .done,pending:=jump }) (.lp { r0 with state:=if jump.isNone then .ready else .done,pending:=jump } l)
  have e4:Ext C3 C4:=Wv hL2 rfl hb2 (hne _)
  have hw4:C4.w=w2.putObj (C.φ s).blk (.loop { r0 with state:=if jump.isNone then .ready else .done,pending:=jump }):=by
   show setW w2 (φ2 s).blk _=_
   rw [hs2];rfl
  refine ⟨.bool jump.isNone,C4.w,by rw [hw4];exact run_endRound (r:={ r0 with state:=.busy }) jump hb2',_,rfl,.bool jump.isNone,C4.L,φ2,hk,Jy wf3 hL2 rfl,?_,ext3.trans e4,.bool _⟩
  exact vw wf3 sim3 hL2 rfl hb2 (hne _) ⟨zD (Array.getElem?_eq_some_iff.1 hb2).1,fun n=>(hlv2 n).mono e4⟩
 cases e with
 | normal=>
  refine fin none r0 true ?_ rfl hend
  obtain ⟨st,pe,_,_,_,_,_,_⟩:=r0
  simp only at hst hpe;subst hst;subst hpe;rfl
 | ret=>exact fin (some .ret) _ false rfl rfl hend
 | exit i=>exact fin (some (.exit i)) _ false rfl rfl hend
 | goto i=>exact fin (some (.goto i)) _ false rfl rfl hend
def Env.withY (E:Env) (N:Nat) (ps:List Nat) (xa xb:XC):Env:=
 { E with lo:=0,kept:=fun _=>undef,base:=none,yl:=yOf E.noPan N ps xa xb,pan:=fun _ _=>False,hylm:=zaB,hyl:=fun C s args vs K wf sim hG hl hv h=>z9C (E:=E.noPan) ⟨rfl,rfl⟩ (fun _ _ h=>h) C s args vs K wf sim hG hl hv h }
end Go.X
end
section
namespace Go.X
open Go

def Opd.evL (ρ:List IV):Opd->IV
 | .t n=>ρ.getD n .und
 | .c v=>v
 | .g n=>.raw (.pointer (some ⟨n,0,none⟩))
 | .f n=>.fn (.func n) [] []
theorem z5w {ρ:List IV}:Opd.evL ρ=Opd.ev (y9 ρ):=by funext x;cases x<;>rfl
abbrev JR:=FuncId->List IV->List Blk->Option (IV × List Blk)
def zcb (op:BinOp) (x y:IV):Option IV:=
 match op,x,y with
 | .shl,.int k a,.int _ b=>if 0<=b then some (.int k (k.wrap (a*2^min b.toNat k.bits))) else none
 | .shr,.int k a,.int _ b=>if 0<=b then some (.int k (a.fdiv (2^min b.toNat k.bits))) else none
 | .add,.int k a,.int k' b=>if k=k' then some (.int k (k.wrap (a+b))) else none
 | .sub,.int k a,.int k' b=>if k=k' then some (.int k (k.wrap (a - b))) else none
 | .mul,.int k a,.int k' b=>if k=k' then some (.int k (k.wrap (a*b))) else none
 | .quo,.int k a,.int k' b=>if k=k'/\b≠0 then some (.int k (k.wrap (a.tdiv b))) else none
 | .rem,.int k a,.int k' b=>if k=k'/\b≠0 then some (.int k (a.tmod b)) else none
 | .and,.int k a,.int k' b=>if k=k' then some (.int k (k.wrap (BitVec.ofInt k.bits a&&&BitVec.ofInt k.bits b).toNat)) else none
 | .or,.int k a,.int k' b=>if k=k' then some (.int k (k.wrap (BitVec.ofInt k.bits a|||BitVec.ofInt k.bits b).toNat)) else none
 | .xor,.int k a,.int k' b=>if k=k' then some (.int k (k.wrap (BitVec.ofInt k.bits a^^^BitVec.ofInt k.bits b).toNat)) else none
 | .eql,.int k a,.int k' b=>if k=k' then some (.bool (decide (a=b))) else none
 | .neq,.int k a,.int k' b=>if k=k' then some (.bool (!decide (a=b))) else none
 | .lss,.int k a,.int k' b=>if k=k' then some (.bool (decide (a<b))) else none
 | .leq,.int k a,.int k' b=>if k=k' then some (.bool (decide (a<=b))) else none
 | .gtr,.int k a,.int k' b=>if k=k' then some (.bool (decide (b<a))) else none
 | .geq,.int k a,.int k' b=>if k=k' then some (.bool (decide (b<=a))) else none
 | .add,.str a,.str b=>if a.length+b.length<=9223372036854775807 then some (.str (a++b)) else none
 | .eql,.str a,.str b=>some (.bool (decide (a=b)))
 | .neq,.str a,.str b=>some (.bool (!decide (a=b)))
 | .andNot,.int k a,.int k' b=>if k=k' then some (.int k (k.wrap (BitVec.ofInt k.bits a&&&~~~BitVec.ofInt k.bits b).toNat)) else none
 | op,.raw u,.raw v=>WO op u v
 | _,_,_=>none
theorem z4M {op : BinOp} {x y r : IV} {K : IV -> Prop} (h : zcb op x y = some r) (hk : K r) : xbin op x y K := by
  unfold zcb at h
  split at h <;> first
    | (split at h
       · rename_i hc; cases h; first | exact ⟨hc, hk⟩ | exact ⟨hc.1, hc.2, hk⟩
       · cases h)
    | (cases h; exact hk)
    | (rw [z5t]; exact ⟨_, h, hk⟩)
    | cases h

def evB (x:Option IV) (d:Nat):Option Nat:=
 match x with
 | none=>some d
 | some (.int _ n)=>if 0<=n then some n.toNat else none
 | _=>none
theorem YG {x:Option IV} {d n:Nat} {K:Nat->Prop} (h:evB x d=some n) (hk:K n):bnd x d K:=by
 unfold evB at h
 split at h
 ·cases h;exact hk
 ·split at h
  ·rename_i hc;cases h;exact ⟨hc,hk⟩
  ·cases h
 ·cases h
def zai (m:Nat) (rows:List (List IV)):Bool:=rows.all fun row=>row.length==m
def z8C (m:Nat) (rows:List (List IV)):Bool:=rows.all fun row=>row.length==m&&row.all zJ
theorem Ju {m:Nat} {rows:List (List IV)} (h:zai m rows=true):Rows m rows:=fun row hr=>by
 simp only [zai,List.all_eq_true] at h
 simpa using h row hr
theorem z2N {m:Nat} {rows:List (List IV)} (h:z8C m rows=true):yj m rows:=fun row hr=>by
 simp only [z8C,List.all_eq_true,Bool.and_eq_true,beq_iff_eq] at h
 exact ⟨(h row hr).1,by rw [List.all_eq_true];exact (h row hr).2⟩
def z2c (sz bytes:Nat) (s x:IV) (L:List Blk):Option (IV × List Blk):=
 match rowsOf L x with
 | none=>none
 | some rs=>if z8C sz rs then
   match s with
   | .nsl | .esl=>if rs.isEmpty then some (s,L) else if rs.length*bytes<=70368744177664 then some (.sl L.length 0 rs.length rs.length,L++[.cells sz rs]) else none
   | .sl t off len cap=>match L[t]? with
    | some (.cells sz' rows)=>if sz'=sz/\off+cap<=rows.length then
      if len+rs.length<=cap then some (.sl t off (len+rs.length) cap,L.set t (.cells sz (splice rows (off+len) rs)))
      else if (len+rs.length)*bytes<=70368744177664 then some (.sl L.length 0 (len+rs.length) (len+rs.length),L.set t .dead++[.cells sz ((rows.drop off).take len++rs)]) else none
     else none
    | _=>none
   | _=>none
  else none
theorem z0v {sz bytes:Nat} {s x:IV} {L:List Blk} {r:IV} {L':List Blk} {K:IV->List Blk->Prop} (h:z2c sz bytes s x L=some (r,L')) (hk:K r L'):ZA sz bytes s x L K:=by
 unfold z2c at h
 unfold ZA
 split at h
 ·cases h
 ·rename_i rs hrs
  simp only [hrs]
  split at h
  ·rename_i hc
   refine ⟨z2N hc,?_⟩
   split at h
   ·split at h
    ·rename_i he;cases h
     have:rs=[]:=by simpa using he
     exact ⟨fun _=>hk,fun hn=>absurd this hn⟩
    ·rename_i he
     split at h
     ·rename_i hb;cases h
      exact ⟨fun hn=>absurd (by simp [hn]) he,fun _=>⟨hb,hk⟩⟩
     ·cases h
   ·split at h
    ·rename_i he;cases h
     have:rs=[]:=by simpa using he
     exact ⟨fun _=>hk,fun hn=>absurd this hn⟩
    ·rename_i he
     split at h
     ·rename_i hb;cases h
      exact ⟨fun hn=>absurd (by simp [hn]) he,fun _=>⟨hb,hk⟩⟩
     ·cases h
   ·split at h
    ·rename_i sz' rows hL
     simp only [hL]
     split at h
     ·rename_i hs
      refine ⟨hs.1,hs.2,?_⟩
      split at h
      ·rename_i hle;cases h;rw [if_pos hle];exact hk
      ·rename_i hle
       rw [if_neg hle]
       split at h
       ·rename_i hb;cases h;exact ⟨hb,hk⟩
       ·cases h
     ·cases h
    ·cases h
   ·cases h
  ·cases h
def zc9 (k:Nat) (x:IV):Option Bool:=
 match k,x with
 | 0,.nsl=>some true
 | 0,.isl rows=>if rows.isEmpty then none else some false
 | 0,.sl _ _ _ cap=>if cap=0 then none else some false
 | 1,.iface _ _=>some false
 | 1,.raw .nilIface=>some true
 | 1,.raw (.iface _ _)=>some false
 | 2,.fn _ _ _=>some false
 | 2,.raw .nilFunc=>some true
 | _,_=>none
theorem z4Q {k : Nat} {x : IV} {b : Bool} {K : Bool -> Prop} (h : zc9 k x = some b) (hk : K b) : xnil k x K := by
  unfold zc9 at h
  split at h <;> first
    | (cases h; exact hk)
    | cases h
    | (split at h
       · cases h
       · rename_i hc; cases h; exact ⟨hk, fun hn => absurd (by simp [hn]) hc⟩)

def jK:Nat->IV->Bool
 | 0,_=>false
 | n+1,x=>match x with
  | .bool _ | .int .. | .str _ | .raw _ | .und | .isl _ | .iptr ..=>true
  | .agg cs | .tup cs=>cs.all (jK n)
  | .fn _ a b=>a.all (jK n)&&b.all (jK n)
  | .iface _ v=>jK n v
  | _=>false
theorem Yh {L:List Blk} {m:Ren}:∀{n:Nat} {x:IV},jK n x=true->conv L n m x=some x
 | 0,_,h=>by cases h
 | n+1,x,h=>by
  have hl:∀{l:List IV},l.all (jK n)=true->mapO (conv L n m) l=some l:=fun {l} hl=>Yf fun x hx=>Yh (by rw [List.all_eq_true] at hl;exact hl x hx)
  cases x<;>simp only [jK] at h<;>first
   | rfl
   | cases h
   | skip
  case agg cs=>simp only [conv,hl h];rfl
  case tup cs=>simp only [conv,hl h];rfl
  case fn f a b=>
   rw [Bool.and_eq_true] at h
   simp only [conv,hl h.1,hl h.2]
  case iface t v=>simp only [conv,Yh h];rfl
def evOp (call:JR) (pf:FuncId->List IV->Option IV) (gl:Nat->Option (List IV)) (o:XO) (e:Opd->IV) (L:List Blk):Option (IV × List Blk):=
 match o with
 | .mov x=>some (e x,L)
 | .pick c a b=>match e c with
  | .bool t=>some (if t then e a else e b,L)
  | _=>none
 | .alloc zero=>some (.ptr L.length 0 0,L++[.cells zero.length [zero]])
 | .box x=>some (.ptr L.length 0 0,L++[.cells (cellsOf (e x)).length [cellsOf (e x)]])
 | .build zero parts=>match z0o zero (parts.map fun p=>(p.1,p.2.1,e p.2.2)) with
  | some cs=>some (.agg cs,L)
  | none=>none
 | .bslice sz zero len parts=>if zero.length=sz then match Zi sz (List.replicate len zero) (parts.map fun p=>(p.1,e p.2)) with
   | some rows=>some (.sl L.length 0 len len,L++[.cells sz rows])
   | none=>none
  else none
 | .load1 a=>match ZH gl L (e a) with
  | some (rows,r,o)=>if r<rows.length/\o<(rows.getD r []).length then some ((rows.getD r []).getD o .und,L) else none
  | none=>none
 | .loadN n a=>match ZH gl L (e a) with
  | some (rows,r,o)=>if r<rows.length/\o+n<=(rows.getD r []).length then some (.agg (((rows.getD r []).drop o).take n),L) else none
  | none=>none
 | .store n a x=>match e a with
  | .ptr s r o=>match L[s]? with
   | some (.cells sz rows)=>if r<rows.length/\o+n<=(rows.getD r []).length/\(cellsOf (e x)).length=n/\(cellsOf (e x)).all zJ=true then
     some (.und,L.set s (.cells sz (rows.set r (splice (rows.getD r []) o (cellsOf (e x)))))) else none
   | _=>none
  | _=>none
 | .nilck x=>match e x with
  | .ptr s r o=>some (.ptr s r o,L)
  | .iptr rows r o=>some (.iptr rows r o,L)
  | .fn (.func f) a b=>some (.fn (.func f) a b,L)
  | _=>none
 | .bin op x y=>(zcb op (e x) (e y)).map fun v=>(v,L)
 | .eqB neg x y=>match e x,e y with
  | .bool a,.bool b=>some (.bool (if neg then !decide (a=b) else decide (a=b)),L)
  | _,_=>none
 | .un op x=>match op,e x with
  | .not,.bool b=>some (.bool !b,L)
  | .neg,.int k n=>some (.int k (k.wrap (0 - n)),L)
  | .xor,.int k n=>some (.int k (k.wrap (BitVec.ofInt k.bits (if k.signed then -1 else k.max)^^^BitVec.ofInt k.bits n).toNat),L)
  | .neg,.raw v=>(z7s v).map fun r=>(.raw r,L)
  | _,_=>none
 | .ex k vs=>match k,vs with
  | .ru op,[x]=>match e x with
   | .raw v=>(z3W op v).map fun r=>(r,L)
   | _=>none
  | .itof f,[x]=>match e x with
   | .int _ n=>some (.raw (.float f (floatOfInt f n)),L)
   | _=>none
  | .cpx,[x,y]=>match e x,e y with
   | .raw (.float k a),.raw (.float k' b)=>if k=k' then some (.raw (.complex k a b),L) else none
   | _,_=>none
  | .bStr,[x]=>((yx L (e x)).bind (mapO byteOf)).map fun s=>(.str s,L)
  | _,_=>none
 | .cvInt k x=>match e x with
  | .int _ n=>some (.int k (k.wrap n),L)
  | _=>none
 | .cvIntStr x=>match e x with
  | .int _ n=>some (.str (Utf8.encode n).data.toList,L)
  | _=>none
 | .cvStr x=>match e x with
  | .str s=>some (.str s,L)
  | _=>none
 | .fldA off x=>match e x with
  | .ptr s r o=>some (.ptr s r (o+off),L)
  | .iptr rows r o=>some (.iptr rows r (o+off),L)
  | _=>none
 | .fld off n agg x=>match e x with
  | .agg cs=>if off+n<=cs.length then (if agg then some (.agg ((cs.drop off).take n),L) else if off<cs.length then some (cs.getD off .und,L) else none) else none
  | _=>none
 | .idxS m x i=>match e x,e i with
  | .isl rows,.int _ n=>if zai m rows=true/\0<=n/\n<rows.length then some (.iptr rows n.toNat 0,L) else none
  | .sl s off len _,.int _ n=>if szOf L s=some m/\0<=n/\n<len then some (.ptr s (off+n.toNat) 0,L) else none
  | _,_=>none
 | .idxA m sz x i=>match e x,e i with
  | .ptr s r o,.int _ n=>if 0<=n/\n<m then some (.ptr s r (o+n.toNat*sz),L) else none
  | .iptr rows r o,.int _ n=>if 0<=n/\n<m then some (.iptr rows r (o+n.toNat*sz),L) else none
  | .raw (.pointer (some ⟨b,o,none⟩)),.int _ n=>if 0<=n/\n<m then some (.raw (.pointer (some ⟨b,o+n.toNat*sz,none⟩)),L) else none
  | _,_=>none
 | .idx x i=>match e x,e i with
  | .str s,.int _ n=>if 0<=n/\n<s.length then some (.int .u8 (s.getD n.toNat 0).toNat,L) else none
  | _,_=>none
 | .slice m x lo hi=>match e x with
  | .isl rows=>if zai m rows then match evB (lo.map e) 0,evB (hi.map e) rows.length with
    | some l,some h=>if l<=h/\h<=rows.length then some (.isl ((rows.take h).drop l),L) else none
    | _,_=>none
   else none
  | .sl s off len cap=>if szOf L s=some m then match evB (lo.map e) 0,evB (hi.map e) len with
    | some l,some h=>if l<=h/\h<=cap then some (.sl s (off+l) (h - l) (cap - l),L) else none
    | _,_=>none
   else none
  | _=>none
 | .sliceS x lo hi=>match e x with
  | .str s=>match evB (lo.map e) 0,evB (hi.map e) s.length with
   | some l,some h=>if l<=h/\h<=s.length then some (.str ((s.take h).drop l),L) else none
   | _,_=>none
  | _=>none
 | .slice0 x=>match e x with
  | .isl _ | .sl .. | .esl | .nsl=>some (.esl,L)
  | _=>none
 | .mkfn f a b=>some (.fn f (a.map e) (b.map e),L)
 | .mkslice zero bytes len cap=>match e len,e cap with
  | .int _ n,.int _ m=>if 0<=n/\n<=m/\m<=9223372036854775807/\m*bytes<=281474976710656 then
    some (.sl L.length 0 n.toNat m.toNat,L++[.cells zero.length (List.replicate m.toNat zero)]) else none
  | _,_=>none
 | .len x=>(lenOf (e x)).map fun (n:Nat)=>(IV.int .i64 n,L)
 | .lenS x=>match e x with
  | .str s=>some (.int .i64 s.length,L)
  | _=>none
 | .append sz bytes s x=>z2c sz bytes (e s) (e x) L
 | .max2 x y=>match e x,e y with
  | .int k a,.int _ b=>some (.int k (if b>a then b else a),L)
  | _,_=>none
 | .min2 x y=>match e x,e y with
  | .int k a,.int _ b=>some (.int k (if b<a then b else a),L)
  | _,_=>none
 | .call f args=>match e f with
  | .fn (.func n) a b=>call n (a++args.map e++b) L
  | _=>none
 | .isNil k neg x=>(zc9 k (e x)).map fun b=>(.bool (if neg then !b else b),L)
 | .rng x=>match e x with
  | .str s=>some (.ptr L.length 0 0,L++[.siter s 0])
  | _=>none
 | .nxt t=>match e t with
  | .ptr s 0 0=>match L[s]? with
   | some (.siter str pos)=>if pos<str.length then some (.tup [.bool true,.int .i64 pos,.int .i32 (Utf8.decode ⟨str.toArray⟩ pos).1],L.set s (.siter str (pos+(Utf8.decode ⟨str.toArray⟩ pos).2)))
     else some (.tup [.bool false],L)
   | _=>none
  | _=>none
 | .ext t i=>match e t with
  | .tup cs=>if i<cs.length then some (cs.getD i .und,L) else none
  | _=>none
 | .pcall f args=>match e f with
  | .fn (.func n) a b=>match mapO (conv L fuel zV) (a++args.map e++b) with
   | some args'=>match pf n args' with
    | some r=>if jK fuel r then some (r,L) else none
    | none=>none
   | none=>none
  | _=>none
def z7O (E:Env) (call:JR):Prop:=∀f args L r L' (K:IV->List Blk->Prop),call f args L=some (r,L')->K r L'->YW E f args L K
theorem jr {E:Env} {call:JR} {pf:FuncId->List IV->Option IV} (hc:z7O E call) (hp:∀f as' r,pf f as'=some r->zI E f as' r) {o:XO} {e:Opd->IV} {L:List Blk} {r:IV} {L':List Blk} {K:IV->List Blk->Prop} (h:evOp call pf E.gl o e L=some (r,L')) (hk:K r L'):xop E o e L K:=by
 cases o<;>simp only [evOp] at h
 case bin op x y=>
  rw [oms] at h;obtain ⟨v,h1,h2⟩:=h;cases h2
  exact z4M (K:=fun v=>K v L) h1 hk
 case append sz b s x=>exact z0v h hk
 case isNil k neg x=>
  rw [oms] at h;obtain ⟨v,h1,h2⟩:=h;cases h2
  exact z4Q (K:=fun b=>K (.bool (if neg then !b else b)) L) h1 hk
 case len x=>
  rw [oms] at h;obtain ⟨v,h1,h2⟩:=h;cases h2
  unfold xop;simp only;rw [h1];exact hk
 case call f as=>
  split at h
  ·rename_i hx
   simp only [xop,hx]
   exact hc _ _ _ _ _ _ h hk
  ·cases h
 case mov=>cases h;exact hk
 case alloc=>cases h;exact hk
 case ex k vs=>
  split at h
  ·split at h
   ·rename_i hx
    rw [oms] at h;obtain ⟨v,h1,h2⟩:=h;cases h2
    simp only [xop,List.map_cons,List.map_nil,hx]
    exact ⟨_,h1,hk⟩
   ·cases h
  ·split at h
   ·rename_i hx;cases h
    simp only [xop,List.map_cons,List.map_nil,hx]
    exact hk
   ·cases h
  ·split at h
   ·rename_i hx hy
    split at h
    ·rename_i hkk;cases h
     simp only [xop,List.map_cons,List.map_nil,hx,hy]
     exact ⟨hkk,hk⟩
    ·cases h
   ·cases h
  ·rw [oms] at h;obtain ⟨v,h1,h2⟩:=h;cases h2
   simp only [xop,List.map_cons,List.map_nil,xex,h1]
   exact hk
  ·cases h
 case box=>cases h;exact hk
 case mkfn=>cases h;exact hk
 case un op x=>
  split at h
  ·rename_i hx;cases h;simp only [xop,xun,hx];exact hk
  ·rename_i hx;cases h;simp only [xop,xun,hx];exact hk
  ·rename_i hx;cases h;simp only [xop,xun,hx];exact hk
  ·rename_i hx
   rw [oms] at h;obtain ⟨v,h1,h2⟩:=h;cases h2
   simp only [xop,xun,hx]
   exact ⟨_,h1,hk⟩
  ·cases h
 case pcall f as'=>
  split at h
  ·rename_i hx
   simp only [xop,hx]
   split at h
   ·rename_i args' h1
    split at h
    ·rename_i r0 h2
     split at h
     ·rename_i h3;cases h
      exact .inl ⟨false,args',_,h1,hp _ _ _ h2,(fun h=>by cases h),fun m=>Yh h3,hk⟩
     ·cases h
    ·cases h
   ·cases h
  ·cases h
 case fld off n agg x=>
  split at h
  ·rename_i cs hx
   simp only [xop,hx]
   split at h
   ·rename_i h1
    refine ⟨h1,?_⟩
    split at h
    ·rename_i h2;cases h;rw [if_pos h2];exact hk
    ·rename_i h2;rw [if_neg h2]
     split at h
     ·rename_i h3;cases h;exact ⟨h3,hk⟩
     ·cases h
   ·cases h
  ·cases h
 case slice m x lo hi=>
  split at h
  ·rename_i hx
   simp only [xop,hx]
   split at h
   ·rename_i h1
    split at h
    ·rename_i l hh h2 h3
     split at h
     ·rename_i h4;cases h
      exact ⟨Ju h1,YG h2 (YG h3 ⟨h4.1,h4.2,hk⟩)⟩
     ·cases h
    ·cases h
   ·cases h
  ·rename_i hx
   simp only [xop,hx]
   split at h
   ·rename_i h1
    split at h
    ·rename_i l hh h2 h3
     split at h
     ·rename_i h4;cases h
      exact ⟨h1,YG h2 (YG h3 ⟨h4.1,h4.2,hk⟩)⟩
     ·cases h
    ·cases h
   ·cases h
  ·cases h
 case sliceS x lo hi=>
  split at h
  ·rename_i hx
   simp only [xop,hx]
   split at h
   ·rename_i l hh h2 h3
    split at h
    ·rename_i h4;cases h
     exact YG h2 (YG h3 ⟨h4.1,h4.2,hk⟩)
    ·cases h
   ·cases h
  ·cases h
 case idxS m x i=>
  split at h
  ·rename_i hx hi
   simp only [xop,hx,hi]
   split at h
   ·rename_i h1;cases h;exact ⟨Ju h1.1,h1.2.1,h1.2.2,hk⟩
   ·cases h
  ·rename_i hx hi
   simp only [xop,hx,hi]
   split at h
   ·rename_i h1;cases h;exact ⟨h1.1,h1.2.1,h1.2.2,hk⟩
   ·cases h
  ·cases h
 case nxt t=>
  split at h
  ·rename_i hx
   simp only [xop,hx]
   split at h
   ·rename_i hL
    simp only [hL]
    split at h
    ·rename_i h1;cases h;rw [if_pos h1];exact hk
    ·rename_i h1;cases h;rw [if_neg h1];exact hk
   ·cases h
  ·cases h
 case bslice sz z len ps=>
  split at h
  ·rename_i h1
   simp only [xop]
   refine ⟨h1,?_⟩
   split at h
   ·rename_i hx;simp only [hx];cases h;exact hk
   ·cases h
  ·cases h
 case store n a x=>
  split at h
  ·rename_i hx
   simp only [xop,hx]
   split at h
   ·rename_i hL
    simp only [hL]
    split at h
    ·rename_i h1;cases h;exact ⟨h1.1,h1.2.1,h1.2.2.1,h1.2.2.2,hk⟩
    ·cases h
   ·cases h
  ·cases h
 case slice0 x=>split at h<;>first | (cases h;done) | (rename_i hx;simp only [xop,hx];cases h;exact hk)
 case pick c a b=>split at h<;>first | (cases h;done) | (rename_i hx;simp only [xop,hx];cases h;exact hk)
 case build z ps=>split at h<;>first | (cases h;done) | (rename_i hx;simp only [xop,hx];cases h;exact hk)
 case nilck x=>split at h<;>first | (cases h;done) | (rename_i hx;simp only [xop,hx];cases h;exact hk)
 case eqB x=>split at h<;>first | (cases h;done) | (rename_i hx hy;simp only [xop,hx,hy];cases h;exact hk)
 case cvInt x=>split at h<;>first | (cases h;done) | (rename_i hx;simp only [xop,hx];cases h;exact hk)
 case cvIntStr x=>split at h<;>first | (cases h;done) | (rename_i hx;simp only [xop,hx];cases h;exact hk)
 case cvStr x=>split at h<;>first | (cases h;done) | (rename_i hx;simp only [xop,hx];cases h;exact hk)
 case fldA x=>split at h<;>first | (cases h;done) | (rename_i hx;simp only [xop,hx];cases h;exact hk)
 case lenS x=>split at h<;>first | (cases h;done) | (rename_i hx;simp only [xop,hx];cases h;exact hk)
 case rng x=>split at h<;>first | (cases h;done) | (rename_i hx;simp only [xop,hx];cases h;exact hk)
 case max2 x=>split at h<;>first | (cases h;done) | (rename_i hx hy;simp only [xop,hx,hy];cases h;exact hk)
 case min2 x=>split at h<;>first | (cases h;done) | (rename_i hx hy;simp only [xop,hx,hy];cases h;exact hk)
 case idx x i=>split at h<;>first | (cases h;done) | (rename_i hx hy;simp only [xop,hx,hy];split at h<;>first | (cases h;done) | (rename_i h1;cases h;exact ⟨h1.1,h1.2,hk⟩))
 case idxA x i=>split at h<;>first | (cases h;done) | (rename_i hx hy;simp only [xop,hx,hy];split at h<;>first | (cases h;done) | (rename_i h1;cases h;exact ⟨h1.1,h1.2,hk⟩))
 case load1 x=>split at h<;>first | (cases h;done) | (rename_i hx;simp only [xop,hx];split at h<;>first | (cases h;done) | (rename_i h1;cases h;exact ⟨h1.1,h1.2,hk⟩))
 case loadN x=>split at h<;>first | (cases h;done) | (rename_i hx;simp only [xop,hx];split at h<;>first | (cases h;done) | (rename_i h1;cases h;exact ⟨h1.1,h1.2,hk⟩))
 case ext x i=>split at h<;>first | (cases h;done) | (rename_i hx;simp only [xop,hx];split at h<;>first | (cases h;done) | (rename_i h1;cases h;exact ⟨h1,hk⟩))
 case mkslice z b l c=>split at h<;>first | (cases h;done) | (rename_i hx hy;simp only [xop,hx,hy];split at h<;>first | (cases h;done) | (rename_i h1;cases h;exact ⟨h1.1,h1.2.1,h1.2.2.1,h1.2.2.2,hk⟩))
theorem z8G {ρ:List IV} {d:Option Nat} {v:IV} {ρ':List IV} (h:(match d with | none=>some ρ | some d=>if d<ρ.length then some (ρ.set d v) else none)=some ρ'):put (y9 ρ) d v=y9 ρ':=by
 cases d with
 | none=>cases h;rfl
 | some d=>
  simp only at h
  split at h
  ·rename_i hd
   cases h
   funext n
   simp only [put,y9,List.getD_eq_getElem?_getD,List.getElem?_set]
   by_cases hn:n=d
   ·subst hn;rw [if_pos rfl,if_pos rfl,if_pos hd];rfl
   ·rw [if_neg hn,if_neg (Ne.symm hn)]
  ·cases h
def zad (ρ:List IV) (d:Option Nat) (v:IV):Option (List IV):=match d with | none=>some ρ | some d=>if d<ρ.length then some (ρ.set d v) else none
def z2C (call:JR) (pf:FuncId->List IV->Option IV) (gl:Nat->Option (List IV)):List zk->List IV->List Blk->Option (List IV × List Blk)
 | [],ρ,L=>some (ρ,L)
 | o::r,ρ,L=>
  let go:Option (List IV × List Blk):=match evOp call pf gl o.op (Opd.evL ρ) L with
   | some (v,L')=>match zad ρ o.dst v with
    | some ρ'=>z2C call pf gl r ρ' L'
    | none=>none
   | none=>none
  let skip:Option (List IV × List Blk):=match zad ρ o.dst .und with
    | some ρ'=>z2C call pf gl r ρ' L
    | none=>none
  match o.guard with
  | none=>go
  | some (t,want)=>match ρ.getD t .und with
   | .bool b=>if b=want then go else skip
   | .und=>skip
   | _=>none
theorem Ye {E:Env} {call:JR} {pf:FuncId->List IV->Option IV} (hc:z7O E call) (hp:∀f as' r,pf f as'=some r->zI E f as' r):∀{l:List zk} {ρ:List IV} {L:List Blk} {ρ':List IV} {L':List Blk} {K:Rho->List Blk->Prop},z2C call pf E.gl l ρ L=some (ρ',L')->K (y9 ρ') L'->xops E l (y9 ρ) L K
 | [],ρ,L,ρ',L',K,h,hk=>by cases h;exact hk
 | o::r,ρ,L,ρ',L',K,h,hk=>by
  rw [vG]
  have hgo:(match evOp call pf E.gl o.op (Opd.evL ρ) L with
   | some (v,L')=>match zad ρ o.dst v with
    | some ρ'=>z2C call pf E.gl r ρ' L'
    | none=>none
   | none=>none)=some (ρ',L')->xop E o.op (Opd.ev (y9 ρ)) L fun v L'=>xops E r (put (y9 ρ) o.dst v) L' K:=fun h=>by
   split at h
   ·rename_i v L1 h1
    split at h
    ·rename_i ρ1 h2
     rw [<-z5w]
     refine jr hc hp h1 ?_
     rw [z8G h2]
     exact Ye hc hp h hk
    ·cases h
   ·cases h
  have hskip:(match zad ρ o.dst .und with
    | some ρ'=>z2C call pf E.gl r ρ' L
    | none=>none)=some (ρ',L')->xops E r (put (y9 ρ) o.dst .und) L K:=fun h=>by
   split at h
   ·rename_i ρ1 h2
    rw [z8G h2]
    exact Ye hc hp h hk
   ·cases h
  unfold z2C at h
  unfold zX
  cases hg:o.guard with
  | none=>rw [hg] at h;exact hgo h
  | some p=>
   obtain ⟨t,want⟩:=p
   rw [hg] at h
   simp only at h ⊢
   have ht:y9 ρ t=ρ.getD t .und:=rfl
   rw [ht]
   split at h
   ·rename_i b hb
    rw [hb]
    split at h
    ·rename_i hw;exact ⟨fun _=>hgo h,fun hn=>absurd hw hn⟩
    ·rename_i hw;exact ⟨fun hn=>absurd hn hw,fun _=>hskip h⟩
   ·rename_i hb;rw [hb];exact hskip h
   ·cases h
def z1k.get:z1k->Nat->Option XC
 | .nil,_=>none
 | .cons l c r,n=>if n=l then some c else r.get n
theorem z2d {E:Env}:∀{ls:z1k} {n:Nat},wF E ls n=(ls.get n).map (xrun E)
 | .nil,_=>rfl
 | .cons l c r,n=>by
  simp only [wF,z1k.get]
  split
  ·rfl
  ·exact z2d
abbrev EvR:=Option (XE × List IV × List Blk)
def jW (call:JR) (pf:FuncId->List IV->Option IV) (gl:Nat->Option (List IV)):Nat->XC->List IV->List Blk->EvR
 | 0,_,_,_=>none
 | n+1,c,ρ,L=>match c with
  | .skip | .label _=>some (.normal,ρ,L)
  | .ops l | .drawE l=>match z2C call pf gl l ρ L with
   | some (ρ',L')=>some (.normal,ρ',L')
   | none=>none
  | .draw l=>if l.all (fun o=>o.op.quiet) then match z2C call pf gl l ρ L with
    | some (ρ',L')=>some (.normal,ρ',L')
    | none=>none
   else none
  | .seq a b=>match jW call pf gl n a ρ L with
   | some (.normal,ρ',L')=>jW call pf gl n b ρ' L'
   | r=>r
  | .cond c t e=>match c.evL ρ with
   | .bool true=>jW call pf gl n t ρ L
   | .bool false=>jW call pf gl n e ρ L
   | _=>none
  | .block id b=>match jW call pf gl n b ρ L with
   | some (.exit i,ρ',L')=>if i=id then some (.normal,ρ',L') else some (.exit i,ρ',L')
   | r=>r
  | .loop b=>match jW call pf gl n b ρ L with
   | some (.normal,ρ',L')=>jW call pf gl n (.loop b) ρ' L'
   | r=>r
  | .scope b ls=>match jW call pf gl n b ρ L with
   | some (.goto l,ρ',L')=>match ls.get l with
    | some c=>jW call pf gl n (.scope c ls) ρ' L'
    | none=>some (.goto l,ρ',L')
   | r=>r
  | .exit id=>some (.exit id,ρ,L)
  | .goto l=>some (.goto l,ρ,L)
  | .ret=>some (.ret,ρ,L)
  | .bad | .drawR _=>none
  | .rngF ..=>none
theorem z4u {E:Env} {call:JR} {pf:FuncId->List IV->Option IV} (hc:z7O E call) (hp:∀f as' r,pf f as'=some r->zI E f as' r):∀{n:Nat} {c:XC} {ρ:List IV} {L:List Blk} {e:XE} {ρ':List IV} {L':List Blk} {K:XE->Rho->List Blk->Prop},
  jW call pf E.gl n c ρ L=some (e,ρ',L')->K e (y9 ρ') L'->xrun E c (y9 ρ) L K:=by
 intro n
 induction n with
 | zero=>intro c ρ L e ρ' L' K h;cases h
 | succ n ih=>
  intro c ρ L e ρ' L' K h hk
  cases c<;>simp only [jW] at h
  case skip=>cases h;exact hk
  case label=>cases h;exact hk
  case exit=>cases h;exact hk
  case goto=>cases h;exact hk
  case ret=>cases h;exact hk
  case bad=>cases h
  case drawR=>cases h
  case rngF=>cases h
  case ops l=>
   split at h
   ·rename_i h1;cases h;exact Ye (K:=fun ρ L=>K .normal ρ L) hc hp h1 hk
   ·cases h
  case drawE l=>
   split at h
   ·rename_i h1;cases h;exact Ye (K:=fun ρ L=>K .normal ρ L) hc hp h1 hk
   ·cases h
  case draw l=>
   split at h
   ·rename_i h0
    split at h
    ·rename_i h1;cases h;exact ⟨h0,Ye (K:=fun ρ L=>K .normal ρ L) hc hp h1 hk⟩
    ·cases h
   ·cases h
  case seq a b=>
   simp only [xrun]
   split at h
   ·rename_i ρ1 L1 h1
    exact ih h1 (ih h hk)
   ·rename_i r hr
    cases e with
    | normal=>exact absurd h (hr _ _)
    | exit=>exact ih h hk
    | goto=>exact ih h hk
    | ret=>exact ih h hk
  case cond q t e'=>
   simp only [xrun]
   have hq:q.ev (y9 ρ)=q.evL ρ:=by rw [z5w]
   rw [hq]
   split at h
   ·rename_i hb;rw [hb];exact ⟨fun _=>ih h hk,fun hn=>by cases hn⟩
   ·rename_i hb;rw [hb];exact ⟨fun hn=>(by cases hn),fun _=>ih h hk⟩
   ·cases h
  case block id b=>
   simp only [xrun]
   split at h
   ·rename_i i ρ1 L1 h1
    refine ih h1 ?_
    simp only [XE.inBlock]
    split at h
    ·rename_i hi;cases h;rw [if_pos hi];exact hk
    ·rename_i hi;cases h;rw [if_neg hi];exact hk
   ·rename_i r hr
    refine ih h ?_
    cases e with
    | exit i=>exact absurd h (hr _ _ _)
    | normal=>exact hk
    | goto=>exact hk
    | ret=>exact hk
  case loop b=>
   simp only [xrun]
   split at h
   ·rename_i ρ1 L1 h1
    have h2:=ih h hk
    simp only [xrun] at h2
    obtain ⟨m,h2⟩:=h2
    exact ⟨m+1,ih h1 h2⟩
   ·rename_i r hr
    refine ⟨1,ih h ?_⟩
    cases e with
    | normal=>exact absurd h (hr _ _)
    | exit=>exact hk
    | goto=>exact hk
    | ret=>exact hk
  case scope b ls=>
   simp only [xrun]
   split at h
   ·rename_i l ρ1 L1 h1
    split at h
    ·rename_i c hcl
     have h2:=ih h hk
     simp only [xrun] at h2
     obtain ⟨m,h2⟩:=h2
     refine ⟨m+1,ih h1 ?_⟩
     unfold Ya
     rw [z2d,hcl]
     exact h2
    ·rename_i hcl
     cases h
     refine ⟨0,ih h1 ?_⟩
     unfold Ya
     rw [z2d,hcl]
     exact hk
   ·rename_i r hr
    refine ⟨0,ih h ?_⟩
    cases e with
    | goto l=>exact absurd h (hr _ _ _)
    | normal=>exact hk
    | exit=>exact hk
    | ret=>exact hk
structure Tab where
 T:FuncId->Option (Nat × XFn)
 pre:FuncId->List IV->Option IV
 ext:FuncId->List IV->Option IV
structure zeI (E:Env) (t:Tab):Prop where
 T : ∀ f n F, t.T f = some (n, F) → ∃ fn, E.P.funcs[f]? = some fn ∧ Y3 E.P fn = some F ∧ fn.name ≠ "runtime.NumGoroutine" ∧ fn.ntmps = n
 pre:∀f args r,t.pre f args=some r→zI E f args r
 ext:∀f args r,t.ext f args=some r→XExt E f args r
def z2q (gl:Nat->Option (List IV)) (ρ:List IV) (L:List Blk):List XRes->Option (List IV)
 | []=>some []
 | .tmp t::r=>(z2q gl ρ L r).map (ρ.getD t .und::·)
 | .cell1 a::r=>match evOp (fun _ _ _=>none) (fun _ _=>none) gl (.load1 (.t a)) (Opd.evL ρ) L with
  | some (v,_)=>(z2q gl ρ L r).map (v::·)
  | none=>none
 | .cellN a n::r=>match evOp (fun _ _ _=>none) (fun _ _=>none) gl (.loadN n (.t a)) (Opd.evL ρ) L with
  | some (v,_)=>(z2q gl ρ L r).map (v::·)
  | none=>none
def z5F (fn:FuncId->List IV->Option IV) (f:FuncId) (args:List IV) (L:List Blk):Option (IV × List Blk):=
 match mapO (conv L fuel zV) args with
 | some as=>match fn f as with
  | some r=>(conv [] fuel (ZB L.length) r).map fun r'=>(r',L)
  | none=>none
 | none=>match mapO (conv L fuel zy) args with
  | some as=>match fn f as with
   | some r=>if yE r then (conv [] fuel (ZB L.length) r).map fun r'=>(r',L) else none
   | none=>none
  | none=>none
theorem z2R {E:Env} {fn:FuncId->List IV->Option IV} (hf:∀f as r,fn f as=some r->zI E f as r) {f:FuncId} {args:List IV} {L:List Blk} {r:IV} {L':List Blk} {K:IV->List Blk->Prop}
  (h:z5F fn f args L=some (r,L')) (hk:K r L'):YW E f args L K:=by
 unfold z5F at h
 split at h
 ·rename_i as has
  split at h
  ·rename_i r0 h0
   rw [oms] at h
   obtain ⟨r',h1,h2⟩:=h;cases h2
   refine .inl ⟨false,as,has,(hf _ _ _ h0).mono ?_⟩
   rintro _ _ ⟨rfl,rfl⟩
   exact ⟨(fun h=>by cases h),_,[],h1,rfl,by simpa using hk⟩
  ·cases h
 ·split at h
  ·rename_i as has
   split at h
   ·rename_i r0 h0
    split at h
    ·rename_i hn
     rw [oms] at h
     obtain ⟨r',h1,h2⟩:=h;cases h2
     refine .inl ⟨true,as,has,(hf _ _ _ h0).mono ?_⟩
     rintro _ _ ⟨rfl,rfl⟩
     exact ⟨fun _=>⟨hn,rfl⟩,_,[],h1,rfl,by simpa using hk⟩
    ·cases h
   ·cases h
  ·cases h
def Yp (t:Tab) (gl:Nat->Option (List IV)) (m:Nat):Nat->FuncId->List IV->Option IV
 | 0,_,_=>none
 | n+1,f,args=>match t.pre f args with
  | some r=>some r
  | none=>match t.T f with
   | some (nt,F)=>if args.length<=nt then
     match jW (fun f as L=>match t.ext f as with
       | some r=>some (r,L)
       | none=>z5F (Yp t gl m n) f as L) (Yp t gl m n) gl m F.body (args++List.replicate (nt - args.length) .und) [] with
     | some (e,ρ,L)=>if e=.ret\/e=.normal then (z2q gl ρ L F.results).bind fun vs=>conv L fuel zy (je vs) else none
     | none=>none
    else none
   | none=>none
theorem wo {E:Env} {L:List Blk} {ρ:List IV}:∀{rs:List XRes} {vs:List IV} {K:List IV->Prop},z2q E.gl ρ L rs=some vs->K vs->wW E (y9 ρ) L rs K
 | [],vs,K,h,hk=>by cases h;exact hk
 | .tmp t::r,vs,K,h,hk=>by
  simp only [z2q,oms] at h
  obtain ⟨ws,h1,rfl⟩:=h
  exact wo (K:=fun vs=>K (_::vs)) h1 hk
 | .cell1 a::r,vs,K,h,hk=>by
  simp only [z2q] at h
  split at h
  ·rename_i v L1 h0
   rw [oms] at h
   obtain ⟨ws,h1,rfl⟩:=h
   have h2:xop E (.load1 (.t a)) (Opd.ev (y9 ρ)) L fun v _=>wW E (y9 ρ) L r fun vs=>K (v::vs):=by
    rw [<-z5w]
    exact jr (pf:=fun _ _=>none) (fun _ _ _ _ _ _ h=>by cases h) (fun _ _ _ h=>by cases h) h0 (wo (K:=fun vs=>K (_::vs)) h1 hk)
   exact h2
  ·cases h
 | .cellN a n::r,vs,K,h,hk=>by
  simp only [z2q] at h
  split at h
  ·rename_i v L1 h0
   rw [oms] at h
   obtain ⟨ws,h1,rfl⟩:=h
   have h2:xop E (.loadN n (.t a)) (Opd.ev (y9 ρ)) L fun v _=>wW E (y9 ρ) L r fun vs=>K (v::vs):=by
    rw [<-z5w]
    exact jr (pf:=fun _ _=>none) (fun _ _ _ _ _ _ h=>by cases h) (fun _ _ _ h=>by cases h) h0 (wo (K:=fun vs=>K (_::vs)) h1 hk)
   exact h2
  ·cases h
theorem z98 {args:List IV} {k:Nat}:entry args=y9 (args++List.replicate k .und):=by
 funext n
 simp only [entry,y9,List.getD_eq_getElem?_getD]
 by_cases h:n<args.length
 ·rw [List.getElem?_append_left h]
 ·rw [List.getElem?_append_right (by omega),List.getElem?_replicate,List.getElem?_eq_none (by omega)]
  split<;>rfl
theorem zL {E:Env} {t:Tab} (ht:zeI E t) {m:Nat}:∀{n:Nat} {f:FuncId} {args:List IV} {r:IV},Yp t E.gl m n f args=some r->zI E f args r:=by
 intro n
 induction n with
 | zero=>intro f args r h;cases h
 | succ n ih=>
  intro f args r h
  simp only [Yp] at h
  split at h
  ·rename_i hp;cases h;exact ht.pre _ _ _ hp
  ·split at h
   ·rename_i nt F hT
    obtain ⟨fn,hf,hF,hnm,hnt⟩:=ht.T _ _ _ hT
    split at h
    ·rename_i hlen
     split at h
     ·rename_i e ρ L hr
      split at h
      ·rename_i he
       rw [obs] at h
       obtain ⟨vs,h1,h2⟩:=h
       refine wJ hf hF hnm (by omega) ?_
       rw [z98 (k:=nt - args.length)]
       refine z4u (E:=E.noPan) (K:=fun e ρ L'=>(e=.ret\/e=.normal)/\Zg E.noPan F.results ρ L' fun r'=>conv L' fuel zy r'=some r) (call:=_) (pf:=_) ?_ (fun f as' r h=>(ih h).np) hr ⟨he,wo (E:=E.noPan) (K:=fun vs=>conv L fuel zy (je vs)=some r) h1 h2⟩
       intro f as L r L' K hcall hk
       have hcall:(match t.ext f as with | some r=>some (r,L) | none=>z5F (Yp t E.gl m n) f as L)=some (r,L'):=hcall
       split at hcall
       ·rename_i hx;cases hcall;exact z8p (E:=E.noPan) (ht.ext _ _ _ hx) hk
       ·exact z2R (E:=E.noPan) (fun f as r h=>(ih h).np) hcall hk
      ·cases h
     ·cases h
    ·cases h
   ·cases h
def tabT (P:Program) (f:FuncId):Option (Nat × XFn):=
 match P.funcs[f]? with
 | some fn => if fn.name = "runtime.NumGoroutine" then none else (Y3 P fn).map fun F => (fn.ntmps, F)
 | none=>none
theorem zcE {P : Program} : ∀ f n F, tabT P f = some (n, F) → ∃ fn, P.funcs[f]? = some fn ∧ Y3 P fn = some F ∧ fn.name ≠ "runtime.NumGoroutine" ∧ fn.ntmps = n := by
 intro f n F h
 unfold tabT at h
 split at h
 ·rename_i fn hf
  split at h
  ·cases h
  ·rename_i hn
   rw [oms] at h
   obtain ⟨F',h1,h2⟩:=h;cases h2
   exact ⟨fn,hf,h1,hn,rfl⟩
 ·cases h
end Go.X
end
section
namespace Go.X
open Go
section
variable {E:Env} {ρ:Rho} {L:List Blk} {KV:IV->List Blk->Prop}
@[go_sem] theorem zdR {sz:Nat} {zero:List IV} (h1:zero.length=sz):xop E (.bslice sz zero 0 []) cev L KV=KV (.sl L.length 0 0 0) (L++[.cells sz []]):=by
 simp [xop,Zi,h1]
@[go_sem] theorem zdN {sz:Nat} {zero:List IV} {x y:IV} (h1:zero.length=sz) (h2:(cellsOf x).length=sz) (h3:(cellsOf y).length=sz):xop E (.bslice sz zero 2 [(0,.c x),(1,.c y)]) cev L KV=KV (.sl L.length 0 2 2) (L++[.cells sz [cellsOf x,cellsOf y]]):=by
 simp [xop,Zi,h1,h2,h3,zU,List.replicate]
end
end Go.X
end
section
namespace Go.X
open Go
section
variable {E:Env}
theorem one {C:Ctx} {x:IV} {vs:List Value} (hl:[x].length=vs.length) (hv:∀(i:Nat) (z:IV),[x][i]?=some z->VR C z (vs.getD i undef)):∃a,vs=[a]/\VR C x a:=by
 match vs,hl with
 | [a],_=>exact ⟨a,rfl,hv 0 x rfl⟩
theorem z4I {f : FuncId} {fn : Func} (hf : E.P.funcs[f]? = some fn) (hname : (fn.name == "runtime.NumGoroutine") = false)
  (hb:fn.body.isNone=true) (hn:Extern.findNext fn=none) (he:Extern.find fn=some Extern.MathFloatBits.float64bits) (b:Nat) :
  XExt E f [.raw (.float .f64 b)] (.int .u64 b):=by
 refine z1a hf hname hb hn he fun C vs _ hl hv=>?_
 obtain ⟨a,rfl,h1⟩:=one hl hv
 cases h1
 exact ⟨.int .u64 b,rfl,.int _ _⟩
theorem z4l {f : FuncId} {fn : Func} (hf : E.P.funcs[f]? = some fn) (hname : (fn.name == "runtime.NumGoroutine") = false)
  (hb:fn.body.isNone=true) (hn:Extern.findNext fn=none) (he:Extern.find fn=some Extern.MathFloatBits.float64frombits) (n:Int) :
  XExt E f [.int .u64 n] (.raw (.float .f64 n.toNat)):=by
 refine z1a hf hname hb hn he fun C vs _ hl hv=>?_
 obtain ⟨a,rfl,h1⟩:=one hl hv
 cases h1
 exact ⟨.float .f64 n.toNat,rfl,.raw _ rfl⟩
theorem z8d {f : FuncId} {fn : Func} {en : Array Value → Sem Value} {u v : Value} (hf : E.P.funcs[f]? = some fn) (hname : (fn.name == "runtime.NumGoroutine") = false)
  (hb:fn.body.isNone=true) (hn:Extern.findNext fn=none) (he:Extern.find fn=some en) (hr:∀w:World,(en #[u]).run E.P w=.ok v w) (hv:zdK v=true) :
  XExt E f [.raw u] (.raw v):=by
 refine z1a hf hname hb hn he fun C vs _ hl hv'=>?_
 obtain ⟨a,rfl,h1⟩:=one hl hv'
 cases h1
 exact ⟨v,hr C.w,.raw _ hv⟩
end
end Go.X
end
