/- Parts of the proof: XExtern, XOut, XRange, XEval, XOwn, XFlt. -/
import Derived.Test.YtnmhhmbeljlndaaGreatDoorXP6
import Derived.Lib.Bytealg
set_option linter.unusedVariables false
set_option linter.unusedSimpArgs false
set_option linter.unusedSectionVars false
section
namespace Go.X
open Go
section
variable {E:Env}
theorem z9m {f : FuncId} {fn : Func} {d : Array Value → Sem Value} {args : List IV} {r : IV} (q : E.P.funcs[f]? = some fn) (b : (fn.name == "runtime.NumGoroutine") = false)
  (s:fn.body.isNone=true) (m:Extern.findNext fn=none) (j:Extern.find fn=some d)
  (h:∀(C:Ctx) (vs:List Value),E.G C.w→args.length=vs.length→(∀(i:Nat) (x:IV),args[i]?=some x→VR C x (vs.getD i undef))→∃v,(d vs.toArray).run E.P C.w=.ok v C.w∧VR C r v):ze1 E f args r:=by
 intro C vs hG p l
 obtain ⟨v,h1,h2⟩:=h C vs hG p l
 refine ⟨v,?_,h2⟩
 rw [run_callFunc_extern q b s m j,h1];rfl
theorem two {C:Ctx} {x y:IV} {vs:List Value} (h:[x,y].length=vs.length) (d:∀(i:Nat) (z:IV),[x,y][i]?=some z->VR C z (vs.getD i undef)) :
  ∃a b,vs=[a,b]/\VR C x a/\VR C y b:=by
 match vs,h with
 | [a,b],_=>exact ⟨a,b,rfl,d 0 x rfl,d 1 y rfl⟩
end
section
variable {E:Env} {ρ:Rho} {L:List Blk} {KV:IV->List Blk->Prop}
@[go_sem] theorem zhm {b:Type} {J:List b} {x:b}:(J++[x])[J.length]?=some x:=by simp
@[go_sem] theorem zjo {b:Type} {J:List b} {x y:b}:(J++[x]).set J.length y=J++[y]:=by simp
theorem wz {b:Type} {f:b->Option b}:∀{l:List b},(∀x∈l,f x=some x)->zJ f l=some l
 | [],_=>rfl
 | x::r,h=>by simp only [zJ];rw [h x List.mem_cons_self,wz fun y d=>h y (List.mem_cons_of_mem _ d)]
@[go_sem] theorem zgD {sz:Nat} {zero:List IV} {x:IV} (h1:zero.length=sz) (h2:(cellsOf x).length=sz):xop E (.bslice sz zero 1 [(0,.c x)]) cev L KV=KV (.sl L.length 0 1 1) (L++[.cells sz [cellsOf x]]):=by
 simp only [xop,List.map_cons,List.map_nil,Z9,Zn,List.replicate,h1,h2,llc,lln,true_and]
 simp
def szB (b:Option Blk):Option Nat:=match b with | some (.cells sz _)=>some sz | some (.tcells _ sz _)=>some sz | _=>none
@[go_sem] theorem zgU {s:Nat}:Yk L s=szB L[s]?:=nr rfl
@[go_sem] theorem zeN {ty sz:Nat} {rows:List (List IV)}:szB (some (.tcells ty sz rows))=some sz:=nr rfl
@[go_sem] theorem zgb {sz:Nat} {rows:List (List IV)}:szB (some (.cells sz rows))=some sz:=nr rfl
end
def yc (l:List IV):Rho:=fun n=>l.getD n .und
def VE (l:List IV) (ps:List Nat) (args:List IV):List IV:=(ps.zip args).foldl (fun t p=>t.set p.1 p.2) l
def zeo (r0:Loop) (l:List IV) (s:Nat) (K:IV->List Blk->Prop):XE->List Blk->Prop
 | .normal,L=>K (.bool true) (L.set s (.lp r0 l))
 | .ret,L=>K (.bool false) (L.set s (.lp { r0 with state:=.done,pending:=some .ret } l))
 | .exit i,L=>K (.bool false) (L.set s (.lp { r0 with state:=.done,pending:=some (.exit i) } l))
 | .goto i,L=>K (.bool false) (L.set s (.lp { r0 with state:=.done,pending:=some (.goto i) } l))
def yOf (E:Env) (N:Nat) (ps:List Nat) (xa xb:XC):zfW:=fun s args L K=>
 ∃r0 l,L[s]?=some (.lp r0 l)/\r0.state=.ready/\r0.pending=none/\z1V E.P N ps xa xb r0/\args.length=ps.length/\(∀p∈ps,p<N)/\vW xa=true/\vW xb=true/\l.length=N/\
  Zg E xa (yc (VE l ps args)) L fun e1 ρ1 L1=>e1=.normal/\L1[s]?=some (.lp r0 l)/\
   Zg E xb ρ1 (L1.set s (.lp { r0 with state:=.busy } l)) fun e _ L2=>L2[s]?=some (.lp { r0 with state:=.busy } l)/\zeo r0 l s K e L2
theorem za8 {r0:Loop} {l:List IV} {s:Nat} {K K':IV->List Blk->Prop} (b:∀v L,K v L->K' v L):∀{e:XE} {L:List Blk},zeo r0 l s K e L->zeo r0 l s K' e L
 | .normal,_,h=>b _ _ h
 | .ret,_,h=>b _ _ h
 | .exit _,_,h=>b _ _ h
 | .goto _,_,h=>b _ _ h
theorem zbP {E:Env} {N:Nat} {ps:List Nat} {q r:XC} (s:Nat) (args:List IV) (L:List Blk) (K K':IV->List Blk->Prop) (D:∀v L,K v L->K' v L) (h:yOf E N ps q r s args L K):yOf E N ps q r s args L K':=by
 obtain ⟨r0,l,h1,h2,M,B,G,w,I,u,J,h⟩:=h
 exact ⟨r0,l,h1,h2,M,B,G,w,I,u,J,zK _ (fun e1 A L1 ⟨p,j,d⟩=>⟨p,j,zK _ (fun e _ L2 ⟨b,m⟩=>⟨b,za8 D m⟩) d⟩) h⟩
theorem z0S {C:Ctx} {N:Nat}:∀(ps:List Nat) (args:List IV) (vs:List Value) (l:List IV) (t:Array Value),args.length=ps.length->args.length=vs.length->(∀p∈ps,p<N)->l.length=N->t.size=N->
  (∀(i:Nat) (x:IV),args[i]?=some x->VR C x (vs.getD i undef))->(∀n,VR C (l.getD n .und) (t.getD n undef))->
  ((ps.zip vs).foldl (fun t (p,a)=>t.setIfInBounds p a) t).size=N/\∀n,VR C ((VE l ps args).getD n .und) (((ps.zip vs).foldl (fun t (p,a)=>t.setIfInBounds p a) t).getD n undef)
 | [],args,vs,l,t,h1,h2,_,_,ht,_,hl=>by
  cases args with
  | nil=>exact ⟨ht,hl⟩
  | cons=>cases h1
 | p::ps,args,vs,l,t,h1,h2,hp,hll,ht,hv,hl=>by
  cases args with
  | nil=>cases h1
  | cons x args=>cases vs with
   | nil=>cases h2
   | cons v vs=>
    simp only [VE,List.zip_cons_cons,List.foldl_cons]
    refine z0S ps args vs (l.set p x) (t.setIfInBounds p v) (by simpa using h1) (by simpa using h2) (fun q d=>hp q (List.mem_cons_of_mem _ d)) (by simpa using hll) (by simpa using ht) (fun i y hi=>by simpa using hv (i+1) y (by simpa using hi)) (fun n=>?_)
    have b:p<N:=hp p List.mem_cons_self
    rw [yN (by rw [ht];exact b),List.getD_eq_getElem?_getD,List.getElem?_set]
    by_cases hn:n=p
    ·subst hn
     rw [if_pos rfl,if_pos (by rw [hll];exact b),if_pos rfl]
     exact hv 0 x rfl
    ·rw [if_neg (Ne.symm hn),if_neg hn,<-List.getD_eq_getElem?_getD]
     exact hl n
theorem z8k {E:Env} (q:E.plain) (ah:∀x L,¬E.pan x L) {N:Nat} {ps:List Nat} {xa xb:XC} (C:Ctx) (s:Nat) (args:List IV) (vs:List Value) (K:IV->List Blk->Prop) (wf:Wf E.g0 C) (ae:Sim C) (hG:E.G C.w) (hl:args.length=vs.length)
  (hv:∀(i:Nat) (x:IV),args[i]?=some x->VR C x (vs.getD i undef)) (h:yOf E N ps xa xb s args C.L K) :
  ∃fn tmps bf body,(Instr.yield (C.φ s).blk vs.toArray).run E.P C.w=.ok (.round (C.φ s).blk fn tmps bf body) C.w/\
   ∀F,FOk F->RoundIn F 0 E.P (C.φ s).blk fn tmps bf body C.w fun e w'=>∃v,e=.returned v/\zcy E.g0 C K v w':=by
 obtain ⟨r0,l,hL,T,ai,⟨aj,cu,eu,hN⟩,af,dm,gm,dw,gq,h⟩:=h
 obtain ⟨hb,gp⟩:=ae s _ hL
 have hsz:vs.toArray.size=r0.params.size:=by rw [<-Array.length_toList,<-Array.length_toList,aj];simp [<-hl,af]
 refine ⟨_,_,_,_,run_yield hb hsz,fun F hF=>?_⟩
 have az:FOk (F.inRound (C.φ s).blk):=by
  rcases hF with rfl | ⟨l',rfl⟩
  ·exact .inr ⟨_,rfl⟩
  ·exact .inr ⟨_,rfl⟩
 obtain ⟨h1,h2⟩:=z0S (C:=C) (N:=N) ps args vs l r0.tmps af hl dm gq hN hv gp
 have m:(r0.params.zip vs.toArray).foldl (fun tmps (x:Nat × Value)=>tmps.setIfInBounds x.1 x.2) r0.tmps=(ps.zip vs).foldl (fun t (p:Nat × Value)=>t.setIfInBounds p.1 p.2) r0.tmps:=by
  rw [<-Array.foldl_toList,Array.toList_zip,aj]
 refine roundIn_of_wpIn (hF.fn _) ?_
 refine Yt (E:=E) (N:=N) az (C0:=C) wf hG (Yi r0.assign) r0.assign (Nat.le_refl _) xa cu (.inr gm) (.inl q) (yc (VE l ps args)) C.L _ _ _ C.w (fun x v L' dn a w' h=>absurd h (ah x L')) h
  ⟨by show Array.size _=N;rw [<-h1];exact congrArg Array.size m,C.φ,wf,ae,Ext.refl C,fun n=>by
   have:=h2 n
   rw [<-m] at this
   exact this,(z4e.none q.2).2 trivial,VU q.1⟩ ?_
 rintro e1 df L1 a1 w1 ⟨rfl,B,au⟩ ⟨bz,φ1,ak,Q,S,bn,ax⟩
 have U:φ1 s=C.φ s:=S.slot s ⟨_,hL,rfl⟩
 obtain ⟨M,ag⟩:=Q s _ B
 have bu:w1.heap[(C.φ s).blk]?=some (.loop r0):=by rw [<-U];exact M
 have I:∀(r:Loop) c e fr,Obj.loop r≠.cells c e fr:=fun _ _ _ _ h=>by cases h
 let C1:Ctx:=⟨w1,φ1,L1,C.X⟩
 let C2:Ctx:=jM C1 s (.loop { r0 with state:=.busy }) (.lp { r0 with state:=.busy } l)
 have e2:Ext C1 C2:=Vh B rfl M (I _)
 have di:C2.w=w1.putObj (C.φ s).blk (.loop { r0 with state:=.busy }):=by
  show setW w1 (φ1 s).blk _=_
  rw [U];rfl
 have dh:Wf E.g0 C2:=z1f ak B rfl
 have bg:Sim C2:=J7 ak Q B rfl M (I _) ⟨zT (Array.getElem?_eq_some_iff.1 M).1,fun n=>(ag n).mono e2⟩
 refine ⟨C2.w,by rw [di];exact run_beginRound bu T,?_⟩
 refine Yt (E:=E) (N:=N) az (C0:=C) wf hG (Yi r0.body) r0.body (Nat.le_refl _) xb eu (.inr dw) (.inl q) df _ _ _ a1 C2.w (fun x v L' dn a w' h=>absurd h (ah x L')) au ⟨bz,φ1,dh,bg,S.trans e2,fun n=>(bn n).mono e2,ax.1.mono e2,ax.2⟩ ?_
 rintro e gz L2 a2 Z ⟨A,j⟩ ⟨ig,u,bi,O,R,gu,gy⟩
 have V:u s=C.φ s:=R.slot s ⟨_,hL,rfl⟩
 obtain ⟨J,ay⟩:=O s _ A
 have Y:Z.heap[(C.φ s).blk]?=some (.loop { r0 with state:=.busy }):=by rw [<-V];exact J
 let C3:Ctx:=⟨Z,u,L2,C.X⟩
 have D:∀(d:Option Code) (r:Loop) (b:Bool),r={ r0 with state:=if d.isNone then .ready else .done,pending:=d }->b=d.isNone->K (.bool b) (L2.set s (.lp r l))->
   ∃v w',(Instr.endRound (C.φ s).blk d).run E.P Z=.ok v w'/\∃v',Ending.returned v=.returned v'/\zcy E.g0 C K v' w':=by
  rintro d r b rfl rfl hk
  let C4:Ctx:=jM C3 s (.loop { r0 with state:=if d.isNone then .ready else .done,pending:=d }) (.lp { r0 with state:=if d.isNone then .ready else .done,pending:=d } l)
  have e4:Ext C3 C4:=Vh A rfl J (I _)
  have ed:C4.w=Z.putObj (C.φ s).blk (.loop { r0 with state:=if d.isNone then .ready else .done,pending:=d }):=by
   show setW Z (u s).blk _=_
   rw [V];rfl
  refine ⟨.bool d.isNone,C4.w,by rw [ed];exact run_endRound (r:={ r0 with state:=.busy }) d Y,_,rfl,.bool d.isNone,C4.L,u,hk,z1f bi A rfl,?_,R.trans e4,.bool _⟩
  exact J7 bi O A rfl J (I _) ⟨zT (Array.getElem?_eq_some_iff.1 J).1,fun n=>(ay n).mono e4⟩
 cases e with
 | normal=>
  refine D none r0 true ?_ rfl j
  obtain ⟨st,pe,_,_,_,_,_,_⟩:=r0
  simp only at T ai;subst T;subst ai;rfl
 | ret=>exact D (some .ret) _ false rfl rfl j
 | exit i=>exact D (some (.exit i)) _ false rfl rfl j
 | goto i=>exact D (some (.goto i)) _ false rfl rfl j
def Env.withY (E:Env) (N:Nat) (ps:List Nat) (xa xb:XC):Env:=
 { E with lo:=0,kept:=fun _=>undef,base:=none,yl:=yOf E.noPan N ps xa xb,pan:=fun _ _=>False,hylm:=zbP,hyl:=fun C s args vs K wf sim hG hl hv h=>z8k (E:=E.noPan) ⟨rfl,rfl⟩ (fun _ _ h=>h) C s args vs K wf sim hG hl hv h }
def Opd.evL (ρ:List IV):Opd->IV
 | .t n=>ρ.getD n .und
 | .c v=>v
 | .g n=>.raw (.pointer (some ⟨n,0,none⟩))
 | .f n=>.fn (.func n) [] []
theorem z5J {ρ:List IV}:Opd.evL ρ=Opd.ev (yc ρ):=by funext x;cases x<;>rfl
abbrev JO:=FuncId->List IV->List Blk->Option (IV × List Blk)
def zeA (op:BinOp) (x y:IV):Option IV:=
 match op,x,y with
 | .shl,.int k a,.int _ b=>if 0<=b then some (.int k (k.wrap (a*2^min b.toNat k.bits))) else none
 | .shr,.int k a,.int _ b=>if 0<=b then some (.int k (a.fdiv (2^min b.toNat k.bits))) else none
 | .add,.int k a,.int k' b=>if k=k' then some (.int k (k.wrap (a+b))) else none
 | .sub,.int k a,.int k' b=>if k=k' then some (.int k (k.wrap (a - b))) else none
 | .mul,.int k a,.int k' b=>if k=k' then some (.int k (k.wrap (a*b))) else none
 | .quo,.int k a,.int k' b=>if k=k'/\b≠0 then some (.int k (k.wrap (a.tdiv b))) else none
 | .rem,.int k a,.int k' b=>if k=k'/\b≠0 then some (.int k (a.tmod b)) else none
 | .and,.int k a,.int k' b=>if k=k' then some (.int k (k.wrap (BitVec.ofInt k.bits a&&&BitVec.ofInt k.bits b).toNat)) else none
 | .or,.int k a,.int k' b=>if k=k' then some (.int k (k.wrap (BitVec.ofInt k.bits a|||BitVec.ofInt k.bits b).toNat)) else none
 | .xor,.int k a,.int k' b=>if k=k' then some (.int k (k.wrap (BitVec.ofInt k.bits a^^^BitVec.ofInt k.bits b).toNat)) else none
 | .eql,.int k a,.int k' b=>if k=k' then some (.bool (decide (a=b))) else none
 | .neq,.int k a,.int k' b=>if k=k' then some (.bool (!decide (a=b))) else none
 | .lss,.int k a,.int k' b=>if k=k' then some (.bool (decide (a<b))) else none
 | .leq,.int k a,.int k' b=>if k=k' then some (.bool (decide (a<=b))) else none
 | .gtr,.int k a,.int k' b=>if k=k' then some (.bool (decide (b<a))) else none
 | .geq,.int k a,.int k' b=>if k=k' then some (.bool (decide (b<=a))) else none
 | .add,.str a,.str b=>if a.length+b.length<=9223372036854775807 then some (.str (a++b)) else none
 | .eql,.str a,.str b=>some (.bool (decide (a=b)))
 | .neq,.str a,.str b=>some (.bool (!decide (a=b)))
 | .andNot,.int k a,.int k' b=>if k=k' then some (.int k (k.wrap (BitVec.ofInt k.bits a&&&~~~BitVec.ofInt k.bits b).toNat)) else none
 | op,.raw u,.raw v=>wE op u v
 | _,_,_=>none
theorem z5B {op : BinOp} {x y r : IV} {K : IV → Prop} (h : zeA op x y = some r) (hk : K r) : VM op x y K := by
  unfold zeA at h
  split at h <;> first
    | (split at h
       · rename_i hc; cases h; first | exact ⟨hc, hk⟩ | exact ⟨hc.1, hc.2, hk⟩
       · cases h)
    | (cases h; exact hk)
    | (rw [z5L]; exact ⟨_, h, hk⟩)
    | cases h
def evB (x:Option IV) (d:Nat):Option Nat:=
 match x with
 | none=>some d
 | some (.int _ n)=>if 0<=n then some n.toNat else none
 | _=>none
theorem YW {x:Option IV} {d n:Nat} {K:Nat->Prop} (h:evB x d=some n) (b:K n):bnd x d K:=by
 unfold evB at h
 split at h
 ·cases h;exact b
 ·split at h
  ·rename_i hc;cases h;exact ⟨hc,b⟩
  ·cases h
 ·cases h
def zbs (m:Nat) (rows:List (List IV)):Bool:=rows.all fun row=>row.length==m
def zb7 (m:Nat) (rows:List (List IV)):Bool:=rows.all fun row=>row.length==m&&row.all zG
theorem JU {m:Nat} {rows:List (List IV)} (h:zbs m rows=true):Rows m rows:=fun row b=>by
 simp only [zbs,List.all_eq_true] at h
 simpa using h row b
theorem z3o {m:Nat} {rows:List (List IV)} (h:zb7 m rows=true):yz m rows:=fun row b=>by
 simp only [zb7,List.all_eq_true,Bool.and_eq_true,beq_iff_eq] at h
 exact ⟨(h row b).1,by rw [List.all_eq_true];exact (h row b).2⟩
def z1z (sz bytes:Nat) (s x:IV) (L:List Blk):Option (IV × List Blk):=
 match rowsOf L x with
 | none=>none
 | some rs=>if zb7 sz rs then
   match s with
   | .nsl | .esl=>if rs.isEmpty then some (s,L) else if rs.length*bytes<=70368744177664 then some (.sl L.length 0 rs.length rs.length,L++[.cells sz rs]) else none
   | .sl t off len cap=>match L[t]? with
    | some (.cells sz' rows)=>if sz'=sz/\off+cap<=rows.length then
      if len+rs.length<=cap then some (.sl t off (len+rs.length) cap,L.set t (.cells sz (splice rows (off+len) rs)))
      else if (len+rs.length)*bytes<=70368744177664 then some (.sl L.length 0 (len+rs.length) (len+rs.length),L.set t .dead++[.cells sz ((rows.drop off).take len++rs)]) else none
     else none
    | _=>none
   | _=>none
  else none
theorem z0l {sz bytes:Nat} {s x:IV} {L:List Blk} {r:IV} {L':List Blk} {K:IV->List Blk->Prop} (h:z1z sz bytes s x L=some (r,L')) (l:K r L'):ZQ sz bytes s x L K:=by
 unfold z1z at h
 unfold ZQ
 split at h
 ·cases h
 ·rename_i rs p
  simp only [p]
  split at h
  ·rename_i hc
   refine ⟨z3o hc,?_⟩
   split at h
   ·split at h
    ·rename_i b;cases h
     have:rs=[]:=by simpa using b
     exact ⟨fun _=>l,fun d=>absurd this d⟩
    ·rename_i b
     split at h
     ·rename_i m;cases h
      exact ⟨fun d=>absurd (by simp [d]) b,fun _=>⟨m,l⟩⟩
     ·cases h
   ·split at h
    ·rename_i b;cases h
     have:rs=[]:=by simpa using b
     exact ⟨fun _=>l,fun d=>absurd this d⟩
    ·rename_i b
     split at h
     ·rename_i m;cases h
      exact ⟨fun d=>absurd (by simp [d]) b,fun _=>⟨m,l⟩⟩
     ·cases h
   ·split at h
    ·rename_i q rows u
     simp only [u]
     split at h
     ·rename_i hs
      refine ⟨hs.1,hs.2,?_⟩
      split at h
      ·rename_i j;cases h;rw [if_pos j];exact l
      ·rename_i j
       rw [if_neg j]
       split at h
       ·rename_i m;cases h;exact ⟨m,l⟩
       ·cases h
     ·cases h
    ·cases h
   ·cases h
  ·cases h
def zdR (k:Nat) (x:IV):Option Bool:=
 match k,x with
 | 0,.nsl=>some true
 | 0,.isl rows=>if rows.isEmpty then none else some false
 | 0,.sl _ _ _ cap=>if cap=0 then none else some false
 | 1,.iface _ _=>some false
 | 1,.raw .nilIface=>some true
 | 1,.raw (.iface _ _)=>some false
 | 2,.fn _ _ _=>some false
 | 2,.raw .nilFunc=>some true
 | _,_=>none
theorem z4z {k : Nat} {x : IV} {b : Bool} {K : Bool → Prop} (h : zdR k x = some b) (hk : K b) : zdH k x K := by
  unfold zdR at h
  split at h <;> first
    | (cases h; exact hk)
    | cases h
    | (split at h
       · cases h
       · rename_i hc; cases h; exact ⟨hk, fun hn => absurd (by simp [hn]) hc⟩)
def jD:Nat->IV->Bool
 | 0,_=>false
 | n+1,x=>match x with
  | .bool _ | .int .. | .str _ | .raw _ | .und | .isl _ | .iptr ..=>true
  | .agg cs | .tup cs=>cs.all (jD n)
  | .fn _ a b=>a.all (jD n)&&b.all (jD n)
  | .iface _ v=>jD n v
  | _=>false
theorem Yx {L:List Blk} {m:Ren}:∀{n:Nat} {x:IV},jD n x=true->conv L n m x=some x
 | 0,_,h=>by cases h
 | n+1,x,h=>by
  have d:∀{l:List IV},l.all (jD n)=true->zJ (conv L n m) l=some l:=fun {l} d=>wz fun x j=>Yx (by rw [List.all_eq_true] at d;exact d x j)
  cases x<;>simp only [jD] at h<;>first
   | rfl
   | cases h
   | skip
  case agg cs=>simp only [conv,d h];rfl
  case tup cs=>simp only [conv,d h];rfl
  case fn f a b=>
   rw [Bool.and_eq_true] at h
   simp only [conv,d h.1,d h.2]
  case iface t v=>simp only [conv,Yx h];rfl
def zfe (call:JO) (pf:FuncId->List IV->Option IV) (gl:Nat->Option (List IV)) (o:XO) (e:Opd->IV) (L:List Blk):Option (IV × List Blk):=
 match o with
 | .mov x=>some (e x,L)
 | .pick c a b=>match e c with
  | .bool t=>some (if t then e a else e b,L)
  | _=>none
 | .alloc zero=>some (.ptr L.length 0 0,L++[.cells zero.length [zero]])
 | .box x=>some (.ptr L.length 0 0,L++[.cells (cellsOf (e x)).length [cellsOf (e x)]])
 | .build zero parts=>match z0i zero (parts.map fun p=>(p.1,p.2.1,e p.2.2)) with
  | some cs=>some (.agg cs,L)
  | none=>none
 | .bslice sz zero len parts=>if zero.length=sz then match Zn sz (List.replicate len zero) (parts.map fun p=>(p.1,e p.2)) with
   | some rows=>some (.sl L.length 0 len len,L++[.cells sz rows])
   | none=>none
  else none
 | .load1 a=>match y8 gl L (e a) with
  | some (rows,r,o)=>if r<rows.length/\o<(rows.getD r []).length then some ((rows.getD r []).getD o .und,L) else none
  | none=>none
 | .loadN n a=>match y8 gl L (e a) with
  | some (rows,r,o)=>if r<rows.length/\o+n<=(rows.getD r []).length then some (.agg (((rows.getD r []).drop o).take n),L) else none
  | none=>none
 | .store n a x=>match e a with
  | .ptr s r o=>match L[s]? with
   | some (.cells sz rows)=>if r<rows.length/\o+n<=(rows.getD r []).length/\(cellsOf (e x)).length=n/\(cellsOf (e x)).all zG=true then
     some (.und,L.set s (.cells sz (rows.set r (splice (rows.getD r []) o (cellsOf (e x)))))) else none
   | _=>none
  | _=>none
 | .nilck x=>match e x with
  | .ptr s r o=>some (.ptr s r o,L)
  | .iptr rows r o=>some (.iptr rows r o,L)
  | .fn (.func f) a b=>some (.fn (.func f) a b,L)
  | _=>none
 | .bin op x y=>(zeA op (e x) (e y)).map fun v=>(v,L)
 | .eqB neg x y=>match e x,e y with
  | .bool a,.bool b=>some (.bool (if neg then !decide (a=b) else decide (a=b)),L)
  | _,_=>none
 | .un op x=>match op,e x with
  | .not,.bool b=>some (.bool !b,L)
  | .neg,.int k n=>some (.int k (k.wrap (0 - n)),L)
  | .xor,.int k n=>some (.int k (k.wrap (BitVec.ofInt k.bits (if k.signed then -1 else k.max)^^^BitVec.ofInt k.bits n).toNat),L)
  | .neg,.raw v=>(zb2 v).map fun r=>(.raw r,L)
  | _,_=>none
 | .ex k vs=>match k,vs with
  | .ru op,[x]=>match e x with
   | .raw v=>(z4G op v).map fun r=>(r,L)
   | _=>none
  | .itof f,[x]=>match e x with
   | .int _ n=>some (.raw (.float f (floatOfInt f n)),L)
   | _=>none
  | .cpx,[x,y]=>match e x,e y with
   | .raw (.float k a),.raw (.float k' b)=>if k=k' then some (.raw (.complex k a b),L) else none
   | _,_=>none
  | .bStr,[x]=>((yG L (e x)).bind (zJ byteOf)).map fun s=>(.str s,L)
  | _,_=>none
 | .cvInt k x=>match e x with
  | .int _ n=>some (.int k (k.wrap n),L)
  | _=>none
 | .cvIntStr x=>match e x with
  | .int _ n=>some (.str (Utf8.encode n).data.toList,L)
  | _=>none
 | .fldA off x=>match e x with
  | .ptr s r o=>some (.ptr s r (o+off),L)
  | .iptr rows r o=>some (.iptr rows r (o+off),L)
  | _=>none
 | .idxS m x i=>match e x,e i with
  | .isl rows,.int _ n=>if zbs m rows=true/\0<=n/\n<rows.length then some (.iptr rows n.toNat 0,L) else none
  | .sl s off len _,.int _ n=>if Yk L s=some m/\0<=n/\n<len then some (.ptr s (off+n.toNat) 0,L) else none
  | _,_=>none
 | .idxA m sz x i=>match e x,e i with
  | .ptr s r o,.int _ n=>if 0<=n/\n<m then some (.ptr s r (o+n.toNat*sz),L) else none
  | .iptr rows r o,.int _ n=>if 0<=n/\n<m then some (.iptr rows r (o+n.toNat*sz),L) else none
  | .raw (.pointer (some ⟨b,o,none⟩)),.int _ n=>if 0<=n/\n<m then some (.raw (.pointer (some ⟨b,o+n.toNat*sz,none⟩)),L) else none
  | _,_=>none
 | .idx x i=>match e x,e i with
  | .str s,.int _ n=>if 0<=n/\n<s.length then some (.int .u8 (s.getD n.toNat 0).toNat,L) else none
  | _,_=>none
 | .slice m x lo hi=>match e x with
  | .isl rows=>if zbs m rows then match evB (lo.map e) 0,evB (hi.map e) rows.length with
    | some l,some h=>if l<=h/\h<=rows.length then some (.isl ((rows.take h).drop l),L) else none
    | _,_=>none
   else none
  | .sl s off len cap=>if Yk L s=some m then match evB (lo.map e) 0,evB (hi.map e) len with
    | some l,some h=>if l<=h/\h<=cap then some (.sl s (off+l) (h - l) (cap - l),L) else none
    | _,_=>none
   else none
  | _=>none
 | .sliceS x lo hi=>match e x with
  | .str s=>match evB (lo.map e) 0,evB (hi.map e) s.length with
   | some l,some h=>if l<=h/\h<=s.length then some (.str ((s.take h).drop l),L) else none
   | _,_=>none
  | _=>none
 | .mkfn f a b=>some (.fn f (a.map e) (b.map e),L)
 | .len x=>(lenOf (e x)).map fun (n:Nat)=>(IV.int .i64 n,L)
 | .lenS x=>match e x with
  | .str s=>some (.int .i64 s.length,L)
  | _=>none
 | .append sz bytes s x=>z1z sz bytes (e s) (e x) L
 | .max2 x y=>match e x,e y with
  | .int k a,.int _ b=>some (.int k (if b>a then b else a),L)
  | _,_=>none
 | .call f args=>match e f with
  | .fn (.func n) a b=>call n (a++args.map e++b) L
  | _=>none
 | .isNil k neg x=>(zdR k (e x)).map fun b=>(.bool (if neg then !b else b),L)
 | .ext t i=>match e t with
  | .tup cs=>if i<cs.length then some (cs.getD i .und,L) else none
  | _=>none
 | .pcall f args=>match e f with
  | .fn (.func n) a b=>match zJ (conv L fuel Za) (a++args.map e++b) with
   | some args'=>match pf n args' with
    | some r=>if jD fuel r then some (r,L) else none
    | none=>none
   | none=>none
  | _=>none
def z8J (E:Env) (call:JO):Prop:=∀f args L r L' (K:IV->List Blk->Prop),call f args L=some (r,L')->K r L'->vJ E f args L K
theorem VV {E:Env} {call:JO} {pf:FuncId->List IV->Option IV} (hc:z8J E call) (D:∀f u r,pf f u=some r->zD E f u r) {o:XO} {e:Opd->IV} {L:List Blk} {r:IV} {L':List Blk} {K:IV->List Blk->Prop} (h:zfe call pf E.gl o e L=some (r,L')) (j:K r L'):xop E o e L K:=by
 cases o<;>simp only [zfe] at h
 case bin op x y=>
  rw [oms] at h;obtain ⟨v,h1,h2⟩:=h;cases h2
  exact z5B (K:=fun v=>K v L) h1 j
 case append sz b s x=>exact z0l h j
 case isNil k neg x=>
  rw [oms] at h;obtain ⟨v,h1,h2⟩:=h;cases h2
  exact z4z (K:=fun b=>K (.bool (if neg then !b else b)) L) h1 j
 case len x=>
  rw [oms] at h;obtain ⟨v,h1,h2⟩:=h;cases h2
  unfold xop;simp only;rw [h1];exact j
 case call f as=>
  split at h
  ·rename_i d
   simp only [xop,d]
   exact hc _ _ _ _ _ _ h j
  ·cases h
 case mov=>cases h;exact j
 case alloc=>cases h;exact j
 case ex k vs=>
  split at h
  ·split at h
   ·rename_i d
    rw [oms] at h;obtain ⟨v,h1,h2⟩:=h;cases h2
    simp only [xop,List.map_cons,List.map_nil,d]
    exact ⟨_,h1,j⟩
   ·cases h
  ·split at h
   ·rename_i d;cases h
    simp only [xop,List.map_cons,List.map_nil,d]
    exact j
   ·cases h
  ·split at h
   ·rename_i d p
    split at h
    ·rename_i A;cases h
     simp only [xop,List.map_cons,List.map_nil,d,p]
     exact ⟨A,j⟩
    ·cases h
   ·cases h
  ·rw [oms] at h;obtain ⟨v,h1,h2⟩:=h;cases h2
   simp only [xop,List.map_cons,List.map_nil,xex,h1]
   exact j
  ·cases h
 case box=>cases h;exact j
 case mkfn=>cases h;exact j
 case un op x=>
  split at h
  ·rename_i d;cases h;simp only [xop,xun,d];exact j
  ·rename_i d;cases h;simp only [xop,xun,d];exact j
  ·rename_i d;cases h;simp only [xop,xun,d];exact j
  ·rename_i d
   rw [oms] at h;obtain ⟨v,h1,h2⟩:=h;cases h2
   simp only [xop,xun,d]
   exact ⟨_,h1,j⟩
  ·cases h
 case pcall f u=>
  split at h
  ·rename_i d
   simp only [xop,d]
   split at h
   ·rename_i args' h1
    split at h
    ·rename_i r0 h2
     split at h
     ·rename_i w;cases h
      exact .inl ⟨false,args',_,h1,D _ _ _ h2,(fun h=>by cases h),fun m=>Yx w,j⟩
     ·cases h
    ·cases h
   ·cases h
  ·cases h
 case slice m x lo hi=>
  split at h
  ·rename_i d
   simp only [xop,d]
   split at h
   ·rename_i h1
    split at h
    ·rename_i l hh h2 w
     split at h
     ·rename_i q;cases h
      exact ⟨JU h1,YW h2 (YW w ⟨q.1,q.2,j⟩)⟩
     ·cases h
    ·cases h
   ·cases h
  ·rename_i d
   simp only [xop,d]
   split at h
   ·rename_i h1
    split at h
    ·rename_i l hh h2 w
     split at h
     ·rename_i q;cases h
      exact ⟨h1,YW h2 (YW w ⟨q.1,q.2,j⟩)⟩
     ·cases h
    ·cases h
   ·cases h
  ·cases h
 case sliceS x lo hi=>
  split at h
  ·rename_i d
   simp only [xop,d]
   split at h
   ·rename_i l hh h2 w
    split at h
    ·rename_i q;cases h
     exact YW h2 (YW w ⟨q.1,q.2,j⟩)
    ·cases h
   ·cases h
  ·cases h
 case idxS m x i=>
  split at h
  ·rename_i d hi
   simp only [xop,d,hi]
   split at h
   ·rename_i h1;cases h;exact ⟨JU h1.1,h1.2.1,h1.2.2,j⟩
   ·cases h
  ·rename_i d hi
   simp only [xop,d,hi]
   split at h
   ·rename_i h1;cases h;exact ⟨h1.1,h1.2.1,h1.2.2,j⟩
   ·cases h
  ·cases h
 case bslice sz z len ps=>
  split at h
  ·rename_i h1
   simp only [xop]
   refine ⟨h1,?_⟩
   split at h
   ·rename_i d;simp only [d];cases h;exact j
   ·cases h
  ·cases h
 case store n a x=>
  split at h
  ·rename_i d
   simp only [xop,d]
   split at h
   ·rename_i B
    simp only [B]
    split at h
    ·rename_i h1;cases h;exact ⟨h1.1,h1.2.1,h1.2.2.1,h1.2.2.2,j⟩
    ·cases h
   ·cases h
  ·cases h
 case pick c a b=>split at h<;>first | (cases h;done) | (rename_i d;simp only [xop,d];cases h;exact j)
 case build z ps=>split at h<;>first | (cases h;done) | (rename_i d;simp only [xop,d];cases h;exact j)
 case nilck x=>split at h<;>first | (cases h;done) | (rename_i d;simp only [xop,d];cases h;exact j)
 case eqB x=>split at h<;>first | (cases h;done) | (rename_i d p;simp only [xop,d,p];cases h;exact j)
 case cvInt x=>split at h<;>first | (cases h;done) | (rename_i d;simp only [xop,d];cases h;exact j)
 case cvIntStr x=>split at h<;>first | (cases h;done) | (rename_i d;simp only [xop,d];cases h;exact j)
 case fldA x=>split at h<;>first | (cases h;done) | (rename_i d;simp only [xop,d];cases h;exact j)
 case lenS x=>split at h<;>first | (cases h;done) | (rename_i d;simp only [xop,d];cases h;exact j)
 case max2 x=>split at h<;>first | (cases h;done) | (rename_i d p;simp only [xop,d,p];cases h;exact j)
 case idx x i=>split at h<;>first | (cases h;done) | (rename_i d p;simp only [xop,d,p];split at h<;>first | (cases h;done) | (rename_i h1;cases h;exact ⟨h1.1,h1.2,j⟩))
 case idxA x i=>split at h<;>first | (cases h;done) | (rename_i d p;simp only [xop,d,p];split at h<;>first | (cases h;done) | (rename_i h1;cases h;exact ⟨h1.1,h1.2,j⟩))
 case load1 x=>split at h<;>first | (cases h;done) | (rename_i d;simp only [xop,d];split at h<;>first | (cases h;done) | (rename_i h1;cases h;exact ⟨h1.1,h1.2,j⟩))
 case loadN x=>split at h<;>first | (cases h;done) | (rename_i d;simp only [xop,d];split at h<;>first | (cases h;done) | (rename_i h1;cases h;exact ⟨h1.1,h1.2,j⟩))
 case ext x i=>split at h<;>first | (cases h;done) | (rename_i d;simp only [xop,d];split at h<;>first | (cases h;done) | (rename_i h1;cases h;exact ⟨h1,j⟩))
theorem zay {ρ:List IV} {d:Option Nat} {v:IV} {ρ':List IV} (h:(match d with | none=>some ρ | some d=>if d<ρ.length then some (ρ.set d v) else none)=some ρ'):put (yc ρ) d v=yc ρ':=by
 cases d with
 | none=>cases h;rfl
 | some d=>
  simp only at h
  split at h
  ·rename_i hd
   cases h
   funext n
   simp only [put,yc,List.getD_eq_getElem?_getD,List.getElem?_set]
   by_cases hn:n=d
   ·subst hn;rw [if_pos rfl,if_pos rfl,if_pos hd];rfl
   ·rw [if_neg hn,if_neg (Ne.symm hn)]
  ·cases h
def zcr (ρ:List IV) (d:Option Nat) (v:IV):Option (List IV):=match d with | none=>some ρ | some d=>if d<ρ.length then some (ρ.set d v) else none
def z3H (call:JO) (pf:FuncId->List IV->Option IV) (gl:Nat->Option (List IV)):List zq->List IV->List Blk->Option (List IV × List Blk)
 | [],ρ,L=>some (ρ,L)
 | o::r,ρ,L=>
  let go:Option (List IV × List Blk):=match zfe call pf gl o.op (Opd.evL ρ) L with
   | some (v,L')=>match zcr ρ o.dst v with
    | some ρ'=>z3H call pf gl r ρ' L'
    | none=>none
   | none=>none
  let skip:Option (List IV × List Blk):=match zcr ρ o.dst .und with
    | some ρ'=>z3H call pf gl r ρ' L
    | none=>none
  match o.guard with
  | none=>go
  | some (t,want)=>match ρ.getD t .und with
   | .bool b=>if b=want then go else skip
   | .und=>skip
   | _=>none
theorem YB {E:Env} {call:JO} {pf:FuncId->List IV->Option IV} (hc:z8J E call) (A:∀f j r,pf f j=some r->zD E f j r):∀{l:List zq} {ρ:List IV} {L:List Blk} {ρ':List IV} {L':List Blk} {K:Rho->List Blk->Prop},z3H call pf E.gl l ρ L=some (ρ',L')->K (yc ρ') L'->Wp E l (yc ρ) L K
 | [],ρ,L,ρ',L',K,h,hk=>by cases h;exact hk
 | o::r,ρ,L,ρ',L',K,h,hk=>by
  rw [Jn]
  have m:(match zfe call pf E.gl o.op (Opd.evL ρ) L with
   | some (v,L')=>match zcr ρ o.dst v with
    | some ρ'=>z3H call pf E.gl r ρ' L'
    | none=>none
   | none=>none)=some (ρ',L')->xop E o.op (Opd.ev (yc ρ)) L fun v L'=>Wp E r (put (yc ρ) o.dst v) L' K:=fun h=>by
   split at h
   ·rename_i v L1 h1
    split at h
    ·rename_i s h2
     rw [<-z5J]
     refine VV hc A h1 ?_
     rw [zay h2]
     exact YB hc A h hk
    ·cases h
   ·cases h
  have d:(match zcr ρ o.dst .und with
    | some ρ'=>z3H call pf E.gl r ρ' L
    | none=>none)=some (ρ',L')->Wp E r (put (yc ρ) o.dst .und) L K:=fun h=>by
   split at h
   ·rename_i s h2
    rw [zay h2]
    exact YB hc A h hk
   ·cases h
  unfold z3H at h
  unfold Zo
  cases hg:o.guard with
  | none=>rw [hg] at h;exact m h
  | some p=>
   obtain ⟨t,B⟩:=p
   rw [hg] at h
   simp only at h ⊢
   have D:yc ρ t=ρ.getD t .und:=rfl
   rw [D]
   split at h
   ·rename_i b u
    rw [u]
    split at h
    ·rename_i w;exact ⟨fun _=>m h,fun q=>absurd w q⟩
    ·rename_i w;exact ⟨fun q=>absurd q w,fun _=>d h⟩
   ·rename_i u;rw [u];exact d h
   ·cases h
def z2j.get:z2j->Nat->Option XC
 | .nil,_=>none
 | .cons l c r,n=>if n=l then some c else r.get n
theorem z1x {E:Env}:∀{b:z2j} {n:Nat},Wq E b n=(b.get n).map (Zg E)
 | .nil,_=>rfl
 | .cons l c r,n=>by
  simp only [Wq,z2j.get]
  split
  ·rfl
  ·exact z1x
abbrev EvR:=Option (XE × List IV × List Blk)
def jO (call:JO) (pf:FuncId->List IV->Option IV) (gl:Nat->Option (List IV)):Nat->XC->List IV->List Blk->EvR
 | 0,_,_,_=>none
 | n+1,c,ρ,L=>match c with
  | .skip | .label _=>some (.normal,ρ,L)
  | .ops l | .drawE l=>match z3H call pf gl l ρ L with
   | some (ρ',L')=>some (.normal,ρ',L')
   | none=>none
  | .draw l=>if l.all (fun o=>o.op.quiet) then match z3H call pf gl l ρ L with
    | some (ρ',L')=>some (.normal,ρ',L')
    | none=>none
   else none
  | .seq a b=>match jO call pf gl n a ρ L with
   | some (.normal,ρ',L')=>jO call pf gl n b ρ' L'
   | r=>r
  | .cond c t e=>match c.evL ρ with
   | .bool true=>jO call pf gl n t ρ L
   | .bool false=>jO call pf gl n e ρ L
   | _=>none
  | .block id b=>match jO call pf gl n b ρ L with
   | some (.exit i,ρ',L')=>if i=id then some (.normal,ρ',L') else some (.exit i,ρ',L')
   | r=>r
  | .loop b=>match jO call pf gl n b ρ L with
   | some (.normal,ρ',L')=>jO call pf gl n (.loop b) ρ' L'
   | r=>r
  | .scope b ls=>match jO call pf gl n b ρ L with
   | some (.goto l,ρ',L')=>match ls.get l with
    | some c=>jO call pf gl n (.scope c ls) ρ' L'
    | none=>some (.goto l,ρ',L')
   | r=>r
  | .exit id=>some (.exit id,ρ,L)
  | .goto l=>some (.goto l,ρ,L)
  | .ret=>some (.ret,ρ,L)
  | .bad | .drawR _=>none
  | .rngF ..=>none
theorem z5y {E:Env} {call:JO} {pf:FuncId->List IV->Option IV} (hc:z8J E call) (B:∀f v r,pf f v=some r->zD E f v r):∀{n:Nat} {c:XC} {ρ:List IV} {L:List Blk} {e:XE} {ρ':List IV} {L':List Blk} {K:XE->Rho->List Blk->Prop},
  jO call pf E.gl n c ρ L=some (e,ρ',L')->K e (yc ρ') L'->Zg E c (yc ρ) L K:=by
 intro n
 induction n with
 | zero=>intro c ρ L e ρ' L' K h;cases h
 | succ n j=>
  intro c ρ L e ρ' L' K h d
  cases c<;>simp only [jO] at h
  case skip=>cases h;exact d
  case label=>cases h;exact d
  case exit=>cases h;exact d
  case goto=>cases h;exact d
  case ret=>cases h;exact d
  case bad=>cases h
  case drawR=>cases h
  case rngF=>cases h
  case ops l=>
   split at h
   ·rename_i h1;cases h;exact YB (K:=fun ρ L=>K .normal ρ L) hc B h1 d
   ·cases h
  case drawE l=>
   split at h
   ·rename_i h1;cases h;exact YB (K:=fun ρ L=>K .normal ρ L) hc B h1 d
   ·cases h
  case draw l=>
   split at h
   ·rename_i D
    split at h
    ·rename_i h1;cases h;exact ⟨D,YB (K:=fun ρ L=>K .normal ρ L) hc B h1 d⟩
    ·cases h
   ·cases h
  case seq a b=>
   simp only [Zg]
   split at h
   ·rename_i s L1 h1
    exact j h1 (j h d)
   ·rename_i r p
    cases e with
    | normal=>exact absurd h (p _ _)
    | exit=>exact j h d
    | goto=>exact j h d
    | ret=>exact j h d
  case cond q t I=>
   simp only [Zg]
   have G:q.ev (yc ρ)=q.evL ρ:=by rw [z5J]
   rw [G]
   split at h
   ·rename_i A;rw [A];exact ⟨fun _=>j h d,fun w=>by cases w⟩
   ·rename_i A;rw [A];exact ⟨fun w=>(by cases w),fun _=>j h d⟩
   ·cases h
  case block id b=>
   simp only [Zg]
   split at h
   ·rename_i i s L1 h1
    refine j h1 ?_
    simp only [XE.inBlock]
    split at h
    ·rename_i hi;cases h;rw [if_pos hi];exact d
    ·rename_i hi;cases h;rw [if_neg hi];exact d
   ·rename_i r p
    refine j h ?_
    cases e with
    | exit i=>exact absurd h (p _ _ _)
    | normal=>exact d
    | goto=>exact d
    | ret=>exact d
  case loop b=>
   simp only [Zg]
   split at h
   ·rename_i s L1 h1
    have h2:=j h d
    simp only [Zg] at h2
    obtain ⟨m,h2⟩:=h2
    exact ⟨m+1,j h1 h2⟩
   ·rename_i r p
    refine ⟨1,j h ?_⟩
    cases e with
    | normal=>exact absurd h (p _ _)
    | exit=>exact d
    | goto=>exact d
    | ret=>exact d
  case scope b J=>
   simp only [Zg]
   split at h
   ·rename_i l s L1 h1
    split at h
    ·rename_i c u
     have h2:=j h d
     simp only [Zg] at h2
     obtain ⟨m,h2⟩:=h2
     refine ⟨m+1,j h1 ?_⟩
     unfold Yz
     rw [z1x,u]
     exact h2
    ·rename_i u
     cases h
     refine ⟨0,j h1 ?_⟩
     unfold Yz
     rw [z1x,u]
     exact d
   ·rename_i r p
    refine ⟨0,j h ?_⟩
    cases e with
    | goto l=>exact absurd h (p _ _ _)
    | normal=>exact d
    | exit=>exact d
    | ret=>exact d
structure Tab where
 T:FuncId->Option (Nat × XFn)
 pre:FuncId->List IV->Option IV
 ext:FuncId->List IV->Option IV
structure zgE (E:Env) (t:Tab):Prop where
 T : ∀ f n F, t.T f = some (n, F) → ∃ fn, E.P.funcs[f]? = some fn ∧ wo E.P fn = some F ∧ fn.name ≠ "runtime.NumGoroutine" ∧ fn.ntmps = n
 pre:∀f args r,t.pre f args=some r→zD E f args r
 ext:∀f args r,t.ext f args=some r→ze1 E f args r
def z3t (gl:Nat->Option (List IV)) (ρ:List IV) (L:List Blk):List z2p->Option (List IV)
 | []=>some []
 | .tmp t::r=>(z3t gl ρ L r).map (ρ.getD t .und::·)
 | .cell1 a::r=>match zfe (fun _ _ _=>none) (fun _ _=>none) gl (.load1 (.t a)) (Opd.evL ρ) L with
  | some (v,_)=>(z3t gl ρ L r).map (v::·)
  | none=>none
 | .cellN a n::r=>match zfe (fun _ _ _=>none) (fun _ _=>none) gl (.loadN n (.t a)) (Opd.evL ρ) L with
  | some (v,_)=>(z3t gl ρ L r).map (v::·)
  | none=>none
def z6q (fn:FuncId->List IV->Option IV) (f:FuncId) (args:List IV) (L:List Blk):Option (IV × List Blk):=
 match zJ (conv L fuel Za) args with
 | some as=>match fn f as with
  | some r=>(conv [] fuel (ZR L.length) r).map fun r'=>(r',L)
  | none=>none
 | none=>match zJ (conv L fuel zF) args with
  | some as=>match fn f as with
   | some r=>if yV r then (conv [] fuel (ZR L.length) r).map fun r'=>(r',L) else none
   | none=>none
  | none=>none
theorem z3v {E:Env} {fn:FuncId->List IV->Option IV} (j:∀f as r,fn f as=some r->zD E f as r) {f:FuncId} {args:List IV} {L:List Blk} {r:IV} {L':List Blk} {K:IV->List Blk->Prop}
  (h:z6q fn f args L=some (r,L')) (l:K r L'):vJ E f args L K:=by
 unfold z6q at h
 split at h
 ·rename_i as b
  split at h
  ·rename_i r0 d
   rw [oms] at h
   obtain ⟨p,h1,h2⟩:=h;cases h2
   refine .inl ⟨false,as,b,(j _ _ _ d).mono ?_⟩
   rintro _ _ ⟨rfl,rfl⟩
   exact ⟨(fun h=>by cases h),_,[],h1,rfl,by simpa using l⟩
  ·cases h
 ·split at h
  ·rename_i as b
   split at h
   ·rename_i r0 d
    split at h
    ·rename_i m
     rw [oms] at h
     obtain ⟨p,h1,h2⟩:=h;cases h2
     refine .inl ⟨true,as,b,(j _ _ _ d).mono ?_⟩
     rintro _ _ ⟨rfl,rfl⟩
     exact ⟨fun _=>⟨m,rfl⟩,_,[],h1,rfl,by simpa using l⟩
    ·cases h
   ·cases h
  ·cases h
def yw (t:Tab) (gl:Nat->Option (List IV)) (m:Nat):Nat->FuncId->List IV->Option IV
 | 0,_,_=>none
 | n+1,f,args=>match t.pre f args with
  | some r=>some r
  | none=>match t.T f with
   | some (nt,F)=>if args.length<=nt then
     match jO (fun f as L=>match t.ext f as with
       | some r=>some (r,L)
       | none=>z6q (yw t gl m n) f as L) (yw t gl m n) gl m F.body (args++List.replicate (nt - args.length) .und) [] with
     | some (e,ρ,L)=>if e=.ret\/e=.normal then (z3t gl ρ L F.results).bind fun vs=>conv L fuel zF (VJ vs) else none
     | none=>none
    else none
   | none=>none
theorem wM {E:Env} {L:List Blk} {ρ:List IV}:∀{rs:List z2p} {vs:List IV} {K:List IV->Prop},z3t E.gl ρ L rs=some vs->K vs->WL E (yc ρ) L rs K
 | [],vs,K,h,hk=>by cases h;exact hk
 | .tmp t::r,vs,K,h,hk=>by
  simp only [z3t,oms] at h
  obtain ⟨d,h1,rfl⟩:=h
  exact wM (K:=fun vs=>K (_::vs)) h1 hk
 | .cell1 a::r,vs,K,h,hk=>by
  simp only [z3t] at h
  split at h
  ·rename_i v L1 b
   rw [oms] at h
   obtain ⟨d,h1,rfl⟩:=h
   have h2:xop E (.load1 (.t a)) (Opd.ev (yc ρ)) L fun v _=>WL E (yc ρ) L r fun vs=>K (v::vs):=by
    rw [<-z5J]
    exact VV (pf:=fun _ _=>none) (fun _ _ _ _ _ _ h=>by cases h) (fun _ _ _ h=>by cases h) b (wM (K:=fun vs=>K (_::vs)) h1 hk)
   exact h2
  ·cases h
 | .cellN a n::r,vs,K,h,hk=>by
  simp only [z3t] at h
  split at h
  ·rename_i v L1 b
   rw [oms] at h
   obtain ⟨d,h1,rfl⟩:=h
   have h2:xop E (.loadN n (.t a)) (Opd.ev (yc ρ)) L fun v _=>WL E (yc ρ) L r fun vs=>K (v::vs):=by
    rw [<-z5J]
    exact VV (pf:=fun _ _=>none) (fun _ _ _ _ _ _ h=>by cases h) (fun _ _ _ h=>by cases h) b (wM (K:=fun vs=>K (_::vs)) h1 hk)
   exact h2
  ·cases h
theorem z8K {args:List IV} {k:Nat}:entry args=yc (args++List.replicate k .und):=by
 funext n
 simp only [entry,yc,List.getD_eq_getElem?_getD]
 by_cases h:n<args.length
 ·rw [List.getElem?_append_left h]
 ·rw [List.getElem?_append_right od,List.getElem?_replicate,List.getElem?_eq_none od]
  split<;>rfl
theorem zy {E:Env} {t:Tab} (j:zgE E t) {m:Nat}:∀{n:Nat} {f:FuncId} {args:List IV} {r:IV},yw t E.gl m n f args=some r->zD E f args r:=by
 intro n
 induction n with
 | zero=>intro f args r h;cases h
 | succ n l=>
  intro f args r h
  simp only [yw] at h
  split at h
  ·rename_i I;cases h;exact j.pre _ _ _ I
  ·split at h
   ·rename_i A F M
    obtain ⟨fn,w,G,d,v⟩:=j.T _ _ _ M
    split at h
    ·rename_i q
     split at h
     ·rename_i e ρ L u
      split at h
      ·rename_i s
       rw [obs] at h
       obtain ⟨vs,h1,h2⟩:=h
       refine WC w G d od ?_
       rw [z8K (k:=A - args.length)]
       refine z5y (E:=E.noPan) (K:=fun e ρ L'=>(e=.ret\/e=.normal)/\Zq E.noPan F.results ρ L' fun B=>conv L' fuel zF B=some r) (call:=_) (pf:=_) ?_ (fun f D r h=>(l h).np) u ⟨s,wM (E:=E.noPan) (K:=fun vs=>conv L fuel zF (VJ vs)=some r) h1 h2⟩
       intro f as L r L' K b p
       have b:(match t.ext f as with | some r=>some (r,L) | none=>z6q (yw t E.gl m n) f as L)=some (r,L'):=b
       split at b
       ·rename_i J;cases b;exact z9C (E:=E.noPan) (j.ext _ _ _ J) p
       ·exact z3v (E:=E.noPan) (fun f as r h=>(l h).np) b p
      ·cases h
     ·cases h
    ·cases h
   ·cases h
def zik (P:Program) (f:FuncId):Option (Nat × XFn):=
 match P.funcs[f]? with
 | some fn => if fn.name = "runtime.NumGoroutine" then none else (wo P fn).map fun F => (fn.ntmps, F)
 | none=>none
theorem zeu {P : Program} : ∀ f n F, zik P f = some (n, F) → ∃ fn, P.funcs[f]? = some fn ∧ wo P fn = some F ∧ fn.name ≠ "runtime.NumGoroutine" ∧ fn.ntmps = n := by
 intro f n F h
 unfold zik at h
 split at h
 ·rename_i fn b
  split at h
  ·cases h
  ·rename_i d
   rw [oms] at h
   obtain ⟨F',h1,h2⟩:=h;cases h2
   exact ⟨fn,b,h1,d,rfl⟩
 ·cases h
section
variable {E:Env} {ρ:Rho} {L:List Blk} {KV:IV->List Blk->Prop}
@[go_sem] theorem zg4 {sz:Nat} {zero:List IV} (h1:zero.length=sz):xop E (.bslice sz zero 0 []) cev L KV=KV (.sl L.length 0 0 0) (L++[.cells sz []]):=by
 simp [xop,Zn,h1]
@[go_sem] theorem zfT {sz:Nat} {zero:List IV} {x y:IV} (h1:zero.length=sz) (h2:(cellsOf x).length=sz) (b:(cellsOf y).length=sz):xop E (.bslice sz zero 2 [(0,.c x),(1,.c y)]) cev L KV=KV (.sl L.length 0 2 2) (L++[.cells sz [cellsOf x,cellsOf y]]):=by
 simp [xop,Zn,h1,h2,b,Z9,List.replicate]
end
section
variable {E:Env}
theorem one {C:Ctx} {x:IV} {vs:List Value} (b:[x].length=vs.length) (d:∀(i:Nat) (z:IV),[x][i]?=some z->VR C z (vs.getD i undef)):∃a,vs=[a]/\VR C x a:=by
 match vs,b with
 | [a],_=>exact ⟨a,rfl,d 0 x rfl⟩
theorem z5h {f : FuncId} {fn : Func} (m : E.P.funcs[f]? = some fn) (d : (fn.name == "runtime.NumGoroutine") = false)
  (j:fn.body.isNone=true) (q:Extern.findNext fn=none) (l:Extern.find fn=some Extern.MathFloatBits.float64bits) (b:Nat) :
  ze1 E f [.raw (.float .f64 b)] (.int .u64 b):=by
 refine z9m m d j q l fun C vs _ h p=>?_
 obtain ⟨a,rfl,h1⟩:=one h p
 cases h1
 exact ⟨.int .u64 b,rfl,.int _ _⟩
theorem z4m {f : FuncId} {fn : Func} (l : E.P.funcs[f]? = some fn) (b : (fn.name == "runtime.NumGoroutine") = false)
  (h:fn.body.isNone=true) (p:Extern.findNext fn=none) (j:Extern.find fn=some Extern.MathFloatBits.float64frombits) (n:Int) :
  ze1 E f [.int .u64 n] (.raw (.float .f64 n.toNat)):=by
 refine z9m l b h p j fun C vs _ d m=>?_
 obtain ⟨a,rfl,h1⟩:=one d m
 cases h1
 exact ⟨.float .f64 n.toNat,rfl,.raw _ rfl⟩
theorem z8L {f : FuncId} {fn : Func} {h : Array Value → Sem Value} {u v : Value} (r : E.P.funcs[f]? = some fn) (b : (fn.name == "runtime.NumGoroutine") = false)
  (s:fn.body.isNone=true) (p:Extern.findNext fn=none) (j:Extern.find fn=some h) (l:∀w:World,(h #[u]).run E.P w=.ok v w) (m:zgx v=true) :
  ze1 E f [.raw u] (.raw v):=by
 refine z9m r b s p j fun C vs _ q d=>?_
 obtain ⟨a,rfl,h1⟩:=one q d
 cases h1
 exact ⟨v,l C.w,.raw _ m⟩
end
end Go.X
end
