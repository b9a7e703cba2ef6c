/- Parts of the proof: XSound, XFun, XLib, XStep, XLoop, XMerge, XDone, XRace. -/
import Derived.Test.YtnmhhmbeljlndaaGreatDoorXP5
import Derived.Sort.QuietThIn
import Derived.LoopNIn
import Derived.RangeFuncCalls
set_option linter.unusedVariables false
set_option linter.unusedSimpArgs false
set_option linter.unusedSectionVars false
section
namespace Go.X
open Go
section
variable {E:Env} {F:Fence} {C0:Ctx} {N:Nat}
theorem FOk.fn {F:Fence} (h:FOk F) (f:FuncId):F.fn f:=by
 rcases h with rfl | ⟨l,rfl⟩<;>trivial
theorem FOk.depth {F:Fence} (h:FOk F):F.depth=none:=by
 rcases h with rfl | ⟨l,rfl⟩<;>rfl
theorem FOk.calls {F:Fence} (b:FOk F) {n:Nat} {P:Program} {f:FuncId} {args:Array Value} {w:World} {R:Ending->World->Prop} (h:Calls P f args w R):CallsIn F n P f args w R:=by
 rcases b with rfl | ⟨l,rfl⟩
 ·exact callsIn_wide.2 h
 ·exact CallsIn.inRound l (callsIn_wide.2 h)
def DOk (n0:Nat) (C:Ctx):List Deferred->Prop
 | []=>True
 | d::ds=>(∃D,d={ target:=.collected D,args:=#[] }/\n0<=D/\D<C.w.heap.size/\¬C.mine D/\C.w.heap[D]?=some (.deferred (some []))/\∀d'∈ds,d'.target≠.collected D)/\DOk n0 C ds
def z4e (E:Env) (n0:Nat) (C:Ctx) (ds:List Deferred):Prop:=match E.base with
 | none=>DOk n0 C ds
 | some B=>ds=B
def zcQ (E:Env) (a:Act):Prop:=∀t,t<E.lo->a.tmps.getD t undef=E.kept t
def Env.plain (E:Env):Prop:=E.lo=0/\E.base=none
theorem DOk.mono {n0:Nat} {C C':Ctx} (h:Ext C C'):∀{j:List Deferred},DOk n0 C j->DOk n0 C' j
 | [],_=>trivial
 | d::j,⟨⟨D,h1,h2,h3,h4,h5,h6⟩,h7⟩=>
  ⟨⟨D,h1,h2,Nat.lt_of_lt_of_le h3 h.size,fun l=>(h.sub D l).elim h4 (fun b=>absurd h3 (Nat.not_lt.2 b)),(h.frame D h3 h4).trans h5,h6⟩,h7.mono h⟩
theorem z4e.mono {E:Env} {n0:Nat} {C C':Ctx} (h:Ext C C') {d:List Deferred} (hd:z4e E n0 C d):z4e E n0 C' d:=by
 unfold z4e at *
 split
 ·rename_i b;rw [b] at hd;exact DOk.mono h hd
 ·rename_i B b;rw [b] at hd;exact hd
theorem z4e.none {E:Env} (d:E.base=none) {n0:Nat} {C:Ctx} {b:List Deferred}:z4e E n0 C b↔DOk n0 C b:=by
 unfold z4e;rw [d]
theorem VU {E:Env} (h:E.lo=0) {a:Act}:zcQ E a:=fun t b=>by rw [h] at b;omega
def Rel (E:Env) (C0:Ctx) (N:Nat) (ρ:Rho) (L:List Blk) (a:Act) (w:World):Prop:=
 a.tmps.size=N/\∃φ,Wf E.g0 ⟨w,φ,L,C0.X⟩/\Sim ⟨w,φ,L,C0.X⟩/\Ext C0 ⟨w,φ,L,C0.X⟩/\(∀n,VR ⟨w,φ,L,C0.X⟩ (ρ n) (a.tmps.getD n undef))/\z4e E C0.w.heap.size ⟨w,φ,L,C0.X⟩ a.defers/\zcQ E a
def z2m (E:Env) (C0:Ctx) (N:Nat) (Q:Exit->Act->World->Prop):Prop:=
 ∀(x:IV) (v:Value) (L':List Blk) (φ':Nat->Loc) (a:Act) (w':World),E.pan x L'->a.tmps.size=N->Wf E.g0 ⟨w',φ',L',C0.X⟩->Sim ⟨w',φ',L',C0.X⟩->Ext C0 ⟨w',φ',L',C0.X⟩->
  VR ⟨w',φ',L',C0.X⟩ x v->z4e E C0.w.heap.size ⟨w',φ',L',C0.X⟩ a.defers->zcQ E a->(∃ρ:Rho,∀n,VR ⟨w',φ',L',C0.X⟩ (ρ n) (a.tmps.getD n undef))->Q (.panic [{ v,recovered:=false }]) a w'
theorem z4k {E:Env} {C0:Ctx} (d:Wf E.g0 C0) (hG:E.G C0.w) {w:World} {l:Nat->Loc} {L:List Blk} (h:Ext C0 ⟨w,l,L,C0.X⟩):E.G w:=by
 refine E.hG C0.w w (fun b j=>?_) hG
 exact h.frame b (Nat.lt_of_lt_of_le j d.g) (fun m=>absurd (d.lo b m) (Nat.not_le.2 j))
theorem yN {t:Array Value} {d n:Nat} {v:Value} (hd:d<t.size):(t.setIfInBounds d v).getD n undef=if n=d then v else t.getD n undef:=by
 rw [Array.getD_eq_getD_getElem?,Array.getD_eq_getD_getElem?,Array.getElem?_setIfInBounds]
 by_cases h:n=d
 ·subst h;rw [if_pos rfl,if_pos hd,if_pos rfl];rfl
 ·rw [if_neg (Ne.symm h),if_neg h]
theorem z1w {E:Env} {C0:Ctx} {N:Nat} {ρ:Rho} {L L':List Blk} {a:Act} {w w':World} {u b:Nat->Loc} {dst:Option Nat} {r:IV} {v:Value} (s:a.tmps.size=N) (hd:∀d,dst=some d->d<N)
  (D:Ext C0 ⟨w,u,L,C0.X⟩) (q:∀n,VR ⟨w,u,L,C0.X⟩ (ρ n) (a.tmps.getD n undef)) (l:z4e E C0.w.heap.size ⟨w,u,L,C0.X⟩ a.defers/\zcQ E a) (A:E.lo=0\/∀d,dst=some d->E.lo<=d) (p:Wf E.g0 ⟨w',b,L',C0.X⟩) (m:Sim ⟨w',b,L',C0.X⟩)
  (j:Ext ⟨w,u,L,C0.X⟩ ⟨w',b,L',C0.X⟩) (G:VR ⟨w',b,L',C0.X⟩ r v):Rel E C0 N (put ρ dst r) L' (a.put dst v) w':=by
 cases dst with
 | none=>exact ⟨s,b,p,m,D.trans j,fun n=>(q n).mono j,l.1.mono j,l.2⟩
 | some d=>
  refine ⟨by simpa [Act.put] using s,b,p,m,D.trans j,fun n=>?_,l.1.mono j,fun t B=>?_⟩
  rotate_left
  ·show (a.tmps.setIfInBounds d v).getD t undef=_
   rw [yN (by rw [s];exact hd d rfl),if_neg,l.2 t B]
   rcases A with h | h
   ·rw [h] at B;omega
   ·have:=h d rfl;omega
  show VR _ (if n=d then r else ρ n) ((a.tmps.setIfInBounds d v).getD n undef)
  rw [yN (by rw [s];exact hd d rfl)]
  by_cases h:n=d
  ·rw [if_pos h,if_pos h];exact G
  ·rw [if_neg h,if_neg h];exact (q n).mono j
theorem z5G {P:Program} {o:Op} {x:XO} (h:WA P o=some x):∀c,o≠.defer c:=by
 rintro c rfl;cases h
theorem Vb {P:Program} {N:Nat} {ops:List Oper} {o:Oper} {x:zq} (h:Ym P N ops o=some x) :
  WA P o.op=some x.op/\x.dst=o.dst/\(∀d,o.dst=some d->d<N)/\((o.guard=none/\x.guard=none)\/∃j b t,o.guard=some (j,b)/\(ops[j]?).bind (·.dst)=some t/\x.guard=some (t,b)):=by
 unfold Ym at h
 rw [obs] at h
 obtain ⟨y,m,h⟩:=h
 split at h
 ·rename_i hd
  have l:∀d,o.dst=some d->d<N:=fun d q=>by
   rw [q] at hd;simpa [zfS] using hd
  split at h
  ·rename_i hg
   simp only [sij] at h;subst h
   exact ⟨m,rfl,l,.inl ⟨hg,rfl⟩⟩
  ·rename_i j b hg
   rw [oms] at h
   obtain ⟨t,p,rfl⟩:=h
   exact ⟨m,rfl,l,.inr ⟨j,b,t,hg,p,rfl⟩⟩
 ·cases h
theorem z0F {ops:Array Oper} {tmps:Array Value} {j t:Nat} (h:(ops.toList[j]?).bind (·.dst)=some t) {b:Bool} (d:tmps.getD t undef=.bool b):yielded ops tmps j=some b:=by
 unfold yielded
 rw [<-Array.getElem?_toList,h]
 simp only [Option.bind_some]
 rw [Array.getD_eq_getD_getElem?] at d
 cases ht:tmps[t]? with
 | none=>rw [ht] at d;cases d
 | some v=>rw [ht] at d;simp at d;subst d;rfl
theorem JX {ops:Array Oper} {tmps:Array Value} {j t:Nat} (h:(ops.toList[j]?).bind (·.dst)=some t) (b:tmps.getD t undef=undef):yielded ops tmps j=none:=by
 unfold yielded
 rw [<-Array.getElem?_toList,h]
 simp only [Option.bind_some]
 rw [Array.getD_eq_getD_getElem?] at b
 cases ht:tmps[t]? with
 | none=>rfl
 | some v=>rw [ht] at b;simp at b;subst b;rfl
def JR (lo:Nat) (o:zq):Bool:=match o.dst with | none=>true | some d=>decide (lo<=d)
theorem z1i {lo:Nat} {o:zq} (h:JR lo o=true):∀d,o.dst=some d->lo<=d:=fun d hd=>by
 unfold JR at h;rw [hd] at h;simpa using h
theorem JA (Z:FOk F) (aj:Wf E.g0 C0) (ak:E.G C0.w) {ops:Array Oper} {KV:IV->List Blk->Prop} {next:Act->World->Prop} {Q:Exit->Act->World->Prop} (hP:z2m E C0 N Q) {i:Nat} {o:Oper} {x:zq}
  (af:E.lo=0\/∀d,x.dst=some d->E.lo<=d) (ho:ops[i]?=some o) (hx:Ym E.P N ops.toList o=some x) {ρ:Rho} {L:List Blk} {a:Act} {w:World} (h:Zo E x ρ L KV) (hr:Rel E C0 N ρ L a w)
  (hn:∀v L' a' w',KV v L'->Rel E C0 N (put ρ x.dst v) L' a' w'->next a' w'):wpOpIn F 0 E.P ops Q i next a w:=by
 obtain ⟨ah,q,ai,R⟩:=Vb hx
 obtain ⟨hN,φ,wf,ae,s,I,M⟩:=hr
 have hG:=z4k aj ak s
 have p:∀f,o.about E.P w a.eval=some f->F.fn f:=fun f _=>Z.fn f
 have J:KV .und L->next (a.put o.dst undef) w:=fun hs=>
  hn .und L _ w hs (by rw [q];exact z1w hN ai s I M (by rw [<-q];exact af) wf ae (Ext.refl _) .und)
 have B:xop E x.op (Opd.ev ρ) L KV->o.wpIn F 0 E.P a w next Q:=fun he=>by
  refine ⟨p,?_⟩
  rw [Oper.semAt_eq _ _ _ (z5G ah)]
  have U:=z9D (E:=E) (C:=⟨w,φ,L,C0.X⟩) (a:=a) wf ae hG (JE I) ah he
  have m:∀v w',Post E ⟨w,φ,L,C0.X⟩ KV v w'->next (a.put o.dst v) w':=by
   rintro v w' ⟨r,L',ag,h1,h2,h3,Y,h5⟩
   exact hn r L' _ w' h1 (by rw [q];exact z1w hN ai s I M (by rw [<-q];exact af) h2 h3 Y h5)
  have S:∀v w',Post E ⟨w,φ,L,C0.X⟩ E.pan v w'->Q (.panic [{ v,recovered:=false }]) a w':=by
   rintro v w' ⟨r,L',ag,h1,h2,h3,Y,h5⟩
   exact hP r v L' ag a w' h1 hN h2 h3 (s.trans Y) h5 (M.1.mono Y) M.2 ⟨ρ,fun n=>(I n).mono Y⟩
  rcases U with ⟨v,w',h1,h2⟩ | ⟨w',h1,h2⟩ | ⟨f,args,w',h1,h2⟩ | ⟨l,fn,tmps,au,body,w',h1,h2⟩ | ⟨v,w',h1,h2⟩
  ·rw [h1];exact m v w' h2
  ·rw [h1];exact m undef w' h2
  ·rw [h1]
   refine ⟨(fun h=>by rw [Z.depth] at h;cases h),(Z.calls h2).mono ?_⟩
   rintro e O ⟨v,⟨rfl,hp⟩ | ⟨rfl,hp⟩⟩
   ·exact m v O hp
   ·exact S v O hp
  ·rw [h1]
   refine ⟨(fun h=>by rw [Z.depth] at h;cases h),(h2 F Z).mono ?_⟩
   rintro e O ⟨v,rfl,hp⟩
   exact m v O hp
  ·rw [h1];exact S v w' h2
 unfold wpOpIn
 simp only [ho]
 unfold Zo at h
 rcases R with ⟨hg,V⟩ | ⟨j,b,t,hg,ht,V⟩
 ·rw [V] at h
  rw [if_pos (by simp [Region.wanted,hg])]
  exact B h
 ·rw [V] at h
  simp only at h
  have A:=I t
  split at h
  ·rename_i b' T
   rw [T] at A
   have D:a.tmps.getD t undef=.bool b':=by generalize a.tmps.getD t undef=u at A;cases A;rfl
   have hy:=z0F ht D
   by_cases hbb:b'=b
   ·rw [if_pos (by simp [Region.wanted,hg,hy,hbb])]
    exact B (h.1 hbb)
   ·rw [if_neg (by simp [Region.wanted,hg,hy,hbb])]
    exact ⟨p,J (h.2 hbb)⟩
  ·rename_i T
   rw [T] at A
   have D:a.tmps.getD t undef=undef:=by generalize a.tmps.getD t undef=u at A;cases A;rfl
   have hy:=JX ht D
   rw [if_neg (by simp [Region.wanted,hg,hy])]
   exact ⟨p,J h⟩
  ·exact h.elim
theorem z1d (A:FOk F) (j:Wf E.g0 C0) (l:E.G C0.w) {ops:Array Oper} {K:Rho->List Blk->Prop} {Q:Exit->Act->World->Prop} (B:z2m E C0 N Q)
  (D:∀ρ L a w,K ρ L->Rel E C0 N ρ L a w->Q .normal a w) :
  ∀(m k:Nat) (xs:List zq) (ρ:Rho) (L:List Blk) (a:Act) (w:World),(E.lo=0\/xs.all (JR E.lo)=true)->k+m=ops.size->zJ (Ym E.P N ops.toList) (ops.toList.drop k)=some xs->Wp E xs ρ L K->Rel E C0 N ρ L a w->
   wpOpsIn F 0 E.P ops Q (List.range' k m) a w
 | 0,k,xs,ρ,L,a,w,hlo,hk,hxs,h,hr=>by
  have:ops.toList.drop k=[]:=List.drop_eq_nil_of_le (by simp;omega)
  rw [this] at hxs
  simp only [zJ,sij] at hxs;subst hxs
  exact D ρ L a w h hr
 | m+1,k,xs,ρ,L,a,w,hlo,hk,hxs,h,hr=>by
  have d:k<ops.toList.length:=by simp;omega
  obtain ⟨o,u⟩:∃o,ops.toList[k]?=some o:=⟨_,List.getElem?_eq_getElem d⟩
  have b:ops.toList.drop k=o::ops.toList.drop (k+1):=by
   rw [List.drop_eq_getElem_cons d]
   congr 1
   exact Option.some.inj ((List.getElem?_eq_getElem d).symm.trans u)
  rw [b] at hxs
  simp only [zJ] at hxs
  split at hxs
  ·split at hxs
   ·rename_i x M _ I r
    simp only [sij] at hxs;subst hxs
    rw [Jn] at h
    have p:ops[k]?=some o:=by rw [<-Array.getElem?_toList];exact u
    show wpOpsIn F 0 E.P ops Q (k::List.range' (k+1) m) a w
    rw [wpOpsIn_cons]
    simp only [List.all_cons,Bool.and_eq_true] at hlo
    exact JA A j l B (hlo.imp (fun h=>h) fun h=>z1i h.1) p M h hr fun v L' J w' q s=>z1d A j l B D m (k+1) I _ L' J w' (hlo.imp id And.right) od r q s
   ·cases hxs
  ·cases hxs
theorem zfM {o:zq} {ρ:Rho} {L:List Blk} {KV:IV->List Blk->Prop} (h:Zo E o.toP ρ L KV):Zo E o ρ L KV:=by
 obtain ⟨d,op,g⟩:=o
 cases g with
 | none=>exact z5C h
 | some p=>
  obtain ⟨t,w⟩:=p
  simp only [Zo,zq.toP] at h ⊢
  split at h
  ·exact ⟨fun b=>z5C (h.1 b),h.2⟩
  ·exact h
  ·exact h.elim
theorem zb3 {ops:Array Oper} {xs:List zq} (h:zcA ops xs=true):z8w ops xs=true:=by
 unfold zcA at h
 rw [Bool.and_eq_true] at h
 exact h.2
theorem yQ (hF:FOk F) (S:Wf E.g0 C0) (T:E.G C0.w) {id:Nat} {ops:Array Oper} {K:Rho->List Blk->Prop} {Q:Exit->Act->World->Prop} (hP:z2m E C0 N Q) (hm:E.P.follows .mixedOrders=true)
  {j xs:List zq} (R:E.lo=0\/xs.all (JR E.lo)=true) (D:zJ (Ym E.P N ops.toList) ops.toList=some j) (I:∀(i:Nat) (x:zq),xs[i]?=some x->∃l,j[i]?=some l/\(x=l\/x=l.toP)) (hl:xs.length=j.length) (Y:zaH ops xs=true)
  {ρ:Rho} {L:List Blk} {a:Act} {w:World} (h:Wp E xs ρ L K) (p:Rel E C0 N ρ L a w) (Z:∀ρ L a w,K ρ L->Rel E C0 N ρ L a w->Q .normal a w):(Code.region id ops true).wpIn F 0 E.P Q a w:=by
 unfold zaH at Y
 have d:xs.length=ops.size:=by rw [hl,zQ D];simp
 have m:Rel E C0 N ρ L a w.drew:=by
  obtain ⟨hN,φ,wf,J,u,U,r⟩:=p
  exact ⟨hN,φ,y9 wf,ZE J,u.trans (Ze _),fun n=>(U n).mono (Ze _),r.1.mono (Ze _),r.2⟩
 refine wpIn_region_any hm ?_
 have B:zbn E ops xs K ops.size (Array.replicate ops.size false) ρ L:=by
  have:=JM (E:=E) (K:=K) d xs 0 (Array.replicate ops.size false) ρ L (by simp) (by simp) (by rw [d];exact Y) h
  rwa [d] at this
 have key:∀(fuel:Nat) (b:Array Bool) (ρ:Rho) (L:List Blk) (a:Act) (w:World),zbn E ops xs K fuel b ρ L->Rel E C0 N ρ L a w->wpAnyIn F 0 E.P .any ops Q fuel b a w:=by
  intro fuel
  induction fuel with
  | zero=>intro b ρ L a w h p;exact ⟨h.1,Z ρ L a w h.2 p⟩
  | succ fuel ih=>
   intro b ρ L a w h p
   refine ⟨fun h0=>Z ρ L a w (h.1 h0) p,fun i hi=>?_⟩
   have h1:=h.2 i hi
   obtain ⟨_,o,O,_⟩:=mem_ready.1 hi
   have s:i<xs.length:=by rw [d];exact (Array.getElem?_eq_some_iff.1 O).1
   obtain ⟨x,X⟩:∃x,xs[i]?=some x:=⟨_,List.getElem?_eq_getElem s⟩
   obtain ⟨l,V,A⟩:=I i x X
   obtain ⟨o',q,hc⟩:=zW D i l V
   rw [Array.getElem?_toList,O] at q
   obtain rfl:=Option.some.inj q
   simp only [sOp,X] at h1
   have hd:x.dst=l.dst:=by rcases A with rfl | rfl<;>rfl
   have h2:Zo E l ρ L fun v L'=>zbn E ops xs K fuel (b.setIfInBounds i true) (put ρ x.dst v) L':=by
    rcases A with rfl | rfl
    ·exact h1
    ·exact zfM h1
   exact JA hF S T hP (R.imp (fun h=>h) fun h=>by rw [<-hd];rw [List.all_eq_true] at h;exact z1i (h x (List.mem_of_getElem? X))) O hc h2 p fun v L' a' w' M m=>ih _ _ L' a' w' M (by rw [hd];exact m)
 exact key _ _ _ _ _ _ B m
theorem z3j (Z:FOk F) (ak:Wf E.g0 C0) (au:E.G C0.w) {ops:Array Oper} {KV:IV->List Blk->Prop} {next:Act->World->Prop} {Q:Exit->Act->World->Prop} (hP:z2m E C0 N Q) {i g:Nat} {o:Oper} {x:zq}
  (af:E.lo=0\/∀d,x.dst=some d->E.lo<=d) (ho:ops[i]?=some o) (hx:Ym E.P N ops.toList o=some x) {ρ:Rho} {L:List Blk} {a:Act} {w:World} (h:z3w E x g ρ L KV) (hr:Rel E C0 N ρ L a w)
  (hn:∀v L' a' w',KV v L'->Rel E C0 N (put ρ x.dst v) L' a' w'->next a' w'):wpOpIn F 0 E.P ops Q i next a w:=by
 obtain ⟨ah,q,ai,R⟩:=Vb hx
 obtain ⟨hN,φ,wf,ae,s,I,M⟩:=hr
 have hG:=z4k ak au s
 have p:∀f,o.about E.P w a.eval=some f->F.fn f:=fun f _=>Z.fn f
 have J:KV .und L->next (a.put o.dst undef) w:=fun hs=>
  hn .und L _ w hs (by rw [q];exact z1w hN ai s I M (by rw [<-q];exact af) wf ae (Ext.refl _) .und)
 have B:z4g E x.op (Opd.ev ρ) g L KV->o.wpIn F 0 E.P a w next Q:=fun he=>by
  refine ⟨p,?_⟩
  rw [Oper.semAt_eq _ _ _ (z5G ah)]
  obtain ⟨g',aj,hT⟩:=zfE he
  have U:=z1a (E:=E) (C:=⟨w,φ,L,C0.X⟩) (a:=a) aj wf ae hG (JE I) ah hT
  have m:∀v w',Post E ⟨w,φ,L,C0.X⟩ KV v w'->next (a.put o.dst v) w':=by
   rintro v w' ⟨r,L',ag,h1,h2,h3,Y,h5⟩
   exact hn r L' _ w' h1 (by rw [q];exact z1w hN ai s I M (by rw [<-q];exact af) h2 h3 Y h5)
  have S:∀v w',Post E ⟨w,φ,L,C0.X⟩ E.pan v w'->Q (.panic [{ v,recovered:=false }]) a w':=by
   rintro v w' ⟨r,L',ag,h1,h2,h3,Y,h5⟩
   exact hP r v L' ag a w' h1 hN h2 h3 (s.trans Y) h5 (M.1.mono Y) M.2 ⟨ρ,fun n=>(I n).mono Y⟩
  rcases U with ⟨v,w',h1,h2⟩ | ⟨w',h1,h2⟩ | ⟨f,args,w',h1,h2⟩ | ⟨l,fn,tmps,ax,body,w',h1,h2⟩ | ⟨v,w',h1,h2⟩
  ·rw [h1];exact m v w' h2
  ·rw [h1];exact m undef w' h2
  ·rw [h1]
   refine ⟨(fun h=>by rw [Z.depth] at h;cases h),(Z.calls h2).mono ?_⟩
   rintro e O ⟨v,⟨rfl,hp⟩ | ⟨rfl,hp⟩⟩
   ·exact m v O hp
   ·exact S v O hp
  ·rw [h1]
   refine ⟨(fun h=>by rw [Z.depth] at h;cases h),(h2 F Z).mono ?_⟩
   rintro e O ⟨v,rfl,hp⟩
   exact m v O hp
  ·rw [h1];exact S v w' h2
 unfold wpOpIn
 simp only [ho]
 unfold z3w at h
 rcases R with ⟨hg,V⟩ | ⟨j,b,t,hg,ht,V⟩
 ·rw [V] at h
  rw [if_pos (by simp [Region.wanted,hg])]
  exact B h
 ·rw [V] at h
  simp only at h
  have A:=I t
  split at h
  ·rename_i b' T
   rw [T] at A
   have D:a.tmps.getD t undef=.bool b':=by generalize a.tmps.getD t undef=u at A;cases A;rfl
   have hy:=z0F ht D
   by_cases hbb:b'=b
   ·rw [if_pos (by simp [Region.wanted,hg,hy,hbb])]
    exact B (h.1 hbb)
   ·rw [if_neg (by simp [Region.wanted,hg,hy,hbb])]
    exact ⟨p,J (h.2 hbb)⟩
  ·rename_i T
   rw [T] at A
   have D:a.tmps.getD t undef=undef:=by generalize a.tmps.getD t undef=u at A;cases A;rfl
   have hy:=JX ht D
   rw [if_neg (by simp [Region.wanted,hg,hy])]
   exact ⟨p,J h⟩
  ·exact h.elim
theorem z6L {o:XO} {e:Opd->IV} {g:Nat} {L:List Blk} {K:IV->List Blk->Prop} (h:z4g E o.toP e g L K):z4g E o e g L K:=by
 cases o with
 | call f as=>exact z5C (o:=.call f as) h
 | _=>exact h
theorem zgn {o:zq} {g:Nat} {ρ:Rho} {L:List Blk} {KV:IV->List Blk->Prop} (h:z3w E o.toP g ρ L KV):z3w E o g ρ L KV:=by
 obtain ⟨d,op,b⟩:=o
 cases b with
 | none=>exact z6L h
 | some p=>
  obtain ⟨t,w⟩:=p
  simp only [z3w,zq.toP] at h ⊢
  split at h
  ·exact ⟨fun j=>z6L (h.1 j),h.2⟩
  ·exact h
  ·exact h.elim
theorem rel_keep {ρ:Rho} {L:List Blk} {a:Act} {w:World} (m:Nat) (h:Rel E C0 N ρ L a w):Rel E C0 N ρ (L++List.replicate m .unborn) a w:=by
 obtain ⟨G,A,wf,v,r,D,q⟩:=h
 let C:Ctx:=⟨w,A,L,C0.X⟩
 let C':Ctx:=⟨w,A,L++List.replicate m .unborn,C0.X⟩
 have d:∀(s:Nat) (k:Blk),C'.L[s]?=some k->k.alive=true->C.L[s]?=some k:=fun s k p ha=>by
  rcases Nat.lt_or_ge s L.length with h1 | h1
  ·rw [show C'.L=L++List.replicate m .unborn from rfl,List.getElem?_append_left h1] at p;exact p
  ·rw [show C'.L=L++List.replicate m .unborn from rfl,List.getElem?_append_right h1,List.getElem?_replicate] at p
   split at p
   ·cases p;cases ha
   ·cases p
 have j:∀b,C'.mine b->C.mine b:=by
  rintro b ⟨s,k,p,ha,rfl⟩
  exact ⟨s,k,d s k p ha,ha,rfl⟩
 have u:Ext C C':=⟨Nat.le_refl _,fun _ _ _=>rfl,fun b h=>.inl (j b h),fun _ _=>rfl,fun s hs=>by
  obtain ⟨k,h1,h2⟩:=hs
  exact ⟨k,by show (L++_)[s]?=_;rw [List.getElem?_append_left (zf h1)];exact h1,h2⟩,by simp [C,C'],fun b c e I h=>⟨c,e,I,h,rfl⟩,rfl,rfl,rfl,rfl⟩
 refine ⟨G,A,⟨fun s t k l hs M as at_ B=>wf.inj s t k l (d s k hs as) (d t l M at_) as at_ B,fun b h=>wf.lo b (j b h),fun b J h=>wf.apart b J (j b h),wf.exlo,wf.g⟩,?_,r.trans u,fun n=>(D n).mono u,q.1.mono u,q.2⟩
 intro s k p
 by_cases ha:k.alive=true
 ·exact (v s k (d s k p ha)).mono u (d s k p ha) rfl
 ·cases k<;>first | trivial | (exfalso;exact ha rfl)
theorem Yl {a:Array Bool} {i:Nat} {d:Bool} (h:i<a.size):a.getD i d=a[i]:=by
 rw [Array.getD_eq_getD_getElem?,Array.getElem?_eq_getElem h];rfl
theorem z4c (hF:FOk F) (kw:Wf E.g0 C0) (lh:E.G C0.w) {id:Nat} {ops:Array Oper} {K:Rho->List Blk->Prop} {Q:Exit->Act->World->Prop} (hP:z2m E C0 N Q) (hm:E.P.follows .mixedOrders=true)
  {T:List zq} (gu:E.lo=0\/T.all (JR E.lo)=true) (iy:zJ (Ym E.P N ops.toList) ops.toList=some T) {xs:List (zq × List Nat × Bool)} (eu:xs.map (·.1)=T.map zq.toP) (hB:zbX ops xs=true)
  {ρ:Rho} {L:List Blk} {a:Act} {w:World} (h:yg E 0 [] xs ρ L K) (S:Rel E C0 N ρ L a w) (hQ:∀ρ L a w,K ρ L->Rel E C0 N ρ L a w->Q .normal a w):(Code.region id ops true).wpIn F 0 E.P Q a w:=by
 obtain ⟨bz,lm,q,ah⟩:=z8I hB
 obtain ⟨tr,m,ρ',L',hK,bu,ak⟩:=trace xs 0 [] ρ L lm h
 obtain ⟨ig,ku,di⟩:=zcW _ _ _ _ bu
 obtain ⟨_,iq⟩:=z1H xs 0 [] tr ak
 let l:=xs.map (·.1)
 let n:=ops.size
 have hyl:l.length=n:=by simp [l,n,bz]
 have lq:tr.length=n:=by rw [<-ig];exact hyl
 let s0:St:=(ρ,L++List.replicate m .unborn)
 have ay:∀(i:Nat) (o:zq),l[i]?=some o->∃D keep,xs[i]?=some (o,D,keep):=fun i o hi=>by
  simp only [l,List.getElem?_map,oms] at hi
  obtain ⟨⟨o',D,keep⟩,h1,rfl⟩:=hi
  exact ⟨D,keep,h1⟩
 have V:∀(i:Nat) (o:zq) (t:Tr),l[i]?=some o->tr[i]?=some t->zge E o t (SS l tr (fun _=>true) s0 i):=ku
 have hfit:∀t∈tr,Fits t:=fun t Z=>by
  obtain ⟨i,hi,rfl⟩:=List.mem_iff_getElem.1 Z
  have kz:i<l.length:=by omega
  exact (V i _ _ (List.getElem?_eq_getElem kz) (List.getElem?_eq_getElem hi)).1
 have ae:∀(i j:Nat) (o:zq) (t:Tr) (p:zq) (u:Tr),i<j->j∉vS ops i->l[i]?=some o->tr[i]?=some t->l[j]?=some p->tr[j]?=some u->Ind o t p u:=fun i j o t p u d hw hi Z hj hu=>by
  obtain ⟨D,keep,h1⟩:=ay i o hi
  obtain ⟨af,J,h2⟩:=ay j p hj
  rcases ah i j o D keep p af J d h1 h2 with Y | ⟨Y,h4,X,h6⟩
  ·exact absurd Y hw
  ·refine ⟨Y,h4,X,?_⟩
   obtain ⟨_,a1,a2,_⟩:=V i o t hi Z
   obtain ⟨_,b1,b2,_⟩:=V j p u hj hu
   by_cases hrc:racy o p=true
   ·obtain ⟨h7,h8⟩:=h6 hrc
    exact iq i j o D keep t p af J u d h1 Z h2 hu h7 (by rw [Nat.zero_add];exact h8)
   ·simp only [racy,Bool.and_eq_true,Bool.not_eq_true',beq_eq_false_iff_ne,ne_eq,Bool.and_eq_false_iff,not_and,not_or] at hrc
    by_cases A:o.op.rk=0
    ·obtain ⟨e1,e2⟩:=a1 A;rw [e1,e2];exact z6c
    ·by_cases U:p.op.rk=0
     ·obtain ⟨e1,e2⟩:=b1 U;rw [e1,e2];exact z6i
     ·have h9:=hrc ⟨A,U⟩
      have gy:o.op.rk=1:=by
       by_cases h10:o.op.rk=1
       ·exact h10
       ·exact absurd h10 h9.1
      have gq:p.op.rk=1:=by
       by_cases h10:p.op.rk=1
       ·exact h10
       ·exact absurd h10 h9.2
      rw [a2 gy,b2 gq]
      exact ⟨fun i h=>by simp at h,fun i h=>by simp at h⟩
 have ik:Rel E C0 N s0.1 s0.2 a w.drew:=by
  refine rel_keep m ?_
  obtain ⟨hN,φ,wf,gm,bi,iw,bg⟩:=S
  exact ⟨hN,φ,y9 wf,ZE gm,bi.trans (Ze _),fun n=>(iw n).mono (Ze _),bg.1.mono (Ze _),bg.2⟩
 refine wpIn_region_any hm ?_
 have key:∀(fuel:Nat) (b:Array Bool) (a:Act) (w:World),b.size=n->(∀(j:Nat) (o:Oper),ops[j]?=some o->b.getD j true=true->∀e∈o.after,Region.binds .any e=true->b.getD e.on true=true)->
   ((List.range n).filter fun i=>!b.getD i true).length=fuel->
   Rel E C0 N (SS l tr (fun i=>b.getD i true) s0 n).1 (SS l tr (fun i=>b.getD i true) s0 n).2 a w->wpAnyIn F 0 E.P .any ops Q fuel b a w:=by
  intro fuel
  have ag:∀(b:Array Bool) (a:Act) (w:World),b.size=n->Region.ready .any ops b=[]->
    Rel E C0 N (SS l tr (fun i=>b.getD i true) s0 n).1 (SS l tr (fun i=>b.getD i true) s0 n).2 a w->Q .normal a w:=by
   intro b a w hsz I S
   have au:∀i,i<n->b.getD i true=true:=by
    intro i
    induction i using Nat.strongRecOn with
    | ind i ih=>
     intro hi
     by_cases hli:b.getD i true=true
     ·exact hli
     ·exfalso
      have:i∈Region.ready .any ops b:=by
       rw [mem_ready]
       refine ⟨by simpa using hli,ops[i],Array.getElem?_eq_getElem hi,fun e he hb=>?_⟩
       have h1:=q i _ (Array.getElem?_eq_getElem hi) e he hb
       have h2:=ih e.on h1 od
       rw [Yl od] at h2 ⊢
       exact h2
      rw [I] at this;cases this
   have e1:SS l tr (fun i=>b.getD i true) s0 n=SS l tr (fun _=>true) s0 n:=z1K n fun i hi=>au i hi
   rw [e1] at S
   have e2:SS l tr (fun _=>true) s0 n=(ρ',L'):=by rw [<-hyl];exact di
   rw [e2] at S
   exact hQ _ _ _ _ hK S
  induction fuel with
  | zero=>
   intro b a w hsz aj M S
   have I:Region.ready .any ops b=[]:=by
    cases I:Region.ready .any ops b with
    | nil=>rfl
    | cons i r=>
     exfalso
     have hi:i∈Region.ready .any ops b:=by rw [I];exact List.mem_cons_self
     obtain ⟨h1,o,A,_⟩:=mem_ready.1 hi
     have:i∈(List.range n).filter fun i=>!b.getD i true:=by
      simp only [List.mem_filter,List.mem_range,Bool.not_eq_true']
      exact ⟨(Array.getElem?_eq_some_iff.1 A).1,h1⟩
     rw [List.eq_nil_of_length_eq_zero M] at this;cases this
   exact ⟨I,ag b a w hsz I S⟩
  | succ fuel ih=>
   intro b a w hsz aj M S
   refine ⟨fun h0=>ag b a w hsz h0 S,fun j hj=>?_⟩
   obtain ⟨s,o,A,O⟩:=mem_ready.1 hj
   have ax:j<n:=(Array.getElem?_eq_some_iff.1 A).1
   obtain ⟨p,U⟩:∃p,l[j]?=some p:=⟨_,List.getElem?_eq_getElem od⟩
   obtain ⟨u,hu⟩:∃u,tr[j]?=some u:=⟨_,List.getElem?_eq_getElem od⟩
   have R:∀i,b.getD i true=false->∀k,k∈vS ops i->b.getD k true=false:=by
    intro i hi
    intro k
    induction k using Nat.strongRecOn with
    | ind k ed=>
     intro hk
     by_cases hki:k=i
     ·subst hki;exact hi
     ·obtain ⟨o',e,h1,h2,Y,h4⟩:=(wZ ops i).edge k hk hki
      have X:=ed e.on (q k o' h1 e h2 Y) h4
      by_cases h6:b.getD k true=true
      ·have:=aj k o' h1 h6 e h2 Y
       rw [X] at this;cases this
      ·simpa using h6
   have gp:∀i,b.getD i true=false->i<j->j∉vS ops i:=fun i hi d hw=>by
    obtain ⟨o',e,h1,h2,Y,h4⟩:=(wZ ops i).edge j hw od
    rw [A] at h1;cases h1
    have X:=O e h2 Y
    have h6:=R i hi e.on h4
    have h7:=q j o A e h2 Y
    rw [Yl od] at X h6
    rw [X] at h6;cases h6
   have dw:∀(i:Nat) (o:zq) (t:Tr),i<j->(fun i=>b.getD i true) i=false->l[i]?=some o->tr[i]?=some t->Ind o t p u:=fun i o t d hi B Z=>ae i j o t p u d (gp i hi d) B Z U hu
   have bf:∀(i:Nat) (o:zq) (t:Tr),j<i->(fun i=>b.getD i true) i=true->l[i]?=some o->tr[i]?=some t->Ind o t p u:=fun i o t d hi B Z=>
    (ae j i p u o t d (fun hw=>by have:=R j s i hw;simp only at hi;rw [this] at hi;cases hi) U hu B Z).symm
   have cu:=(zcG hfit (s0:=s0) U hu s dw bf n).2 od
   obtain ⟨_,_,_,ai⟩:=V j p u U hu
   have gz:=ai (SS l tr (fun i=>b.getD i true) s0 n).1 (SS l tr (fun i=>b.getD i true) s0 n).2 cu.1 cu.2.1 (fun v L''=>v=u.v/\L''=V9 (SS l tr (fun i=>b.getD i true) s0 n).2 u.wl) ⟨rfl,rfl⟩
   have df:(T.map zq.toP)[j]?=some p:=by rw [<-eu];exact U
   rw [List.getElem?_map,oms] at df
   obtain ⟨x0,dn,rfl⟩:=df
   obtain ⟨o',B,hc⟩:=zW iy j x0 dn
   rw [Array.getElem?_toList,A] at B
   obtain rfl:=Option.some.inj B
   refine z3j hF kw lh hP (gu.imp (fun h=>h) fun h=>by rw [List.all_eq_true] at h;exact z1i (h x0 (List.mem_of_getElem? dn))) A hc (zgn gz) S fun v L'' a' w' hv bn=>?_
   obtain ⟨rfl,rfl⟩:=hv
   refine ih (b.setIfInBounds j true) a' w' (by simp [hsz]) ?_ ?_ ?_
   ·intro k o' hk dh e he hb
    by_cases hkj:j=k
    ·subst hkj
     rw [A] at hk;cases hk
     have X:=O e he hb
     have h7:=q j o A e he hb
     have h8:b.getD e.on true=true:=by rw [Yl od] at X ⊢;exact X
     rw [Go.getD_set_ne true od];exact h8
    ·rw [Go.getD_set_ne true hkj] at dh
     have:=aj k o' hk dh e he hb
     by_cases hej:j=e.on
     ·rw [<-hej,Yl (by simp;omega)];simp
     ·rw [Go.getD_set_ne true hej];exact this
   ·have h1:((List.range n).filter fun i=>!b.getD i true)=((List.range n).filter fun i=>!b.getD i true):=rfl
    have dm:j∈(List.range n).filter fun i=>!b.getD i true:=by
     simp only [List.mem_filter,List.mem_range,Bool.not_eq_true'];exact ⟨ax,s⟩
    have he:((List.range n).filter fun i=>!(b.setIfInBounds j true).getD i true)=((List.range n).filter fun i=>!b.getD i true).erase j:=by
     rw [List.Nodup.erase_eq_filter (show List.Nodup _ from List.Pairwise.filter _ List.nodup_range),List.filter_filter]
     refine List.filter_congr fun i hi=>?_
     by_cases d:j=i
     ·subst d
      rw [Yl (by simp;omega)];simp
     ·rw [Go.getD_set_ne true d]
      have:(i !=j)=true:=by simp [Ne.symm d]
      rw [this,Bool.true_and]
    rw [he,List.length_erase_of_mem dm,M];rfl
   ·have az:=zgi hfit (s0:=s0) (lst':=fun i=>(b.setIfInBounds j true).getD i true) U hu s (by rw [Yl (by simp;omega)];simp) (fun i hi=>by rw [Go.getD_set_ne true (Ne.symm hi)]) bf n ax
    rw [az]
    exact bn
 have h0:SS l tr (fun i=>(Array.replicate ops.size false).getD i true) s0 n=s0:=by
  have:∀k,k<=n->SS l tr (fun i=>(Array.replicate ops.size false).getD i true) s0 k=s0:=by
   intro k
   induction k with
   | zero=>intro _;rfl
   | succ k ih=>
    intro hk
    simp only [SS]
    rw [if_neg (by rw [Yl (by simp;omega)];simp)]
    exact ih od
  exact this n (Nat.le_refl _)
 refine key ops.size (Array.replicate ops.size false) a w.drew (by simp [n]) (fun j o A hl=>?_) ?_ (by rw [h0];exact ik)
 ·rw [Yl (by simpa using (Array.getElem?_eq_some_iff.1 A).1)] at hl
  simp at hl
 ·rw [List.filter_eq_self.2,List.length_range]
  intro i hi
  rw [Yl (by simpa using List.mem_range.1 hi)]
  simp
def XE.to:XE->Exit
 | .normal=>.normal
 | .exit id=>.exit id
 | .goto l=>.goto l
 | .ret=>.ret
theorem z4R {P:Program} {b:Frame} {a:Act} {k:List Item} {cs:List Frame} {w:World} {c:Code}:step P (lone (b.atR a (.code (.scope c)::k)) cs w)=.next (lone (b.atR a (.code c::.inScope c::k)) cs w):=
 step_lone_go (by simp [stepG,stepG.exec,Frame.atR])
theorem Vs {P:Program} {b:Frame} {a:Act} {k:List Item} {cs:List Frame} {w:World} {c:Code}:step P (lone (b.atR a (.inScope c::k)) cs w)=.next (lone (b.atR a k) cs w):=
 step_lone_go (by simp [stepG,stepG.exec,Frame.atR])
def vO (F:Fence) (n:Nat) (P:Program) (c:Code) (Q:Exit->Act->World->Prop):Nat->Exit->Act->World->Prop
 | m,.goto l,a,w=>match findLabel c l with
  | none=>Q (.goto l) a w
  | some rest=>match m with
   | 0=>False
   | m+1=>rest.wpIn F n P (vO F n P c Q m) a w
 | _,e,a,w=>Q e a w
theorem z7I {F:Fence} {n:Nat} {P:Program} {c:Code} {Q:Exit->Act->World->Prop} (k:Nat) {b:List PanicEntry} {a:Act} {w:World}:vO F n P c Q k (.panic b) a w=Q (.panic b) a w:=by
 cases k<;>rfl
theorem z2m.scope {E:Env} {C0:Ctx} {N:Nat} {F:Fence} {n:Nat} {P:Program} {c:Code} {Q:Exit->Act->World->Prop} (k:Nat) (h:z2m E C0 N Q):z2m E C0 N (vO F n P c Q k):=
 fun x v L' b a w' h1 h2 p j l d m=>by rw [z7I];exact h x v L' b a w' h1 h2 p j l d m
theorem z6W {n:Nat} {P:Program} {Q:Exit->Act->World->Prop} {a:Act} {w:World} {c:Code} (m:Nat) (h:c.wpIn F n P (vO F n P c Q m) a w):(Code.scope c).wpIn F n P Q a w:=by
 intro b k cs J I D
 have key:∀m c' a w,Code.wpIn F n P c' (vO F n P c Q m) a w->
   ∃e M w',Q e M w'/\ArrivesIn (Machine.fenced P F) P (lone (b.atR a (.code c'::.inScope c::k)) cs w) b k cs e M w':=by
  intro m
  induction m with
  | zero=>
   intro c' a w h
   obtain ⟨e,j,p,q,d⟩:=h b (.inScope c::k) cs J I D
   cases e with
   | normal=>exact ⟨_,j,p,q,StepsIn.trans d (.one (fenced_calm I D rfl) Vs)⟩
   | exit id=>exact ⟨_,j,p,q,⟨fun u r=>d.1 u (by simpa [exitTo] using r),fun h1 r=>d.2 h1 (by simpa [exitTo] using r)⟩⟩
   | goto l=>
    unfold vO at q
    cases hf:findLabel c l with
    | none=>
     simp only [hf] at q
     exact ⟨_,j,p,q,⟨fun u r=>d.1 u (by simpa [gotoIn,hf] using r),fun h1 r=>d.2 h1 (by simpa [gotoIn,hf] using r)⟩⟩
    | some rest=>simp only [hf] at q
   | ret=>exact ⟨_,j,p,q,d⟩
   | panic R=>exact ⟨_,j,p,q,d⟩
   | outgrown=>exact ⟨_,j,p,q,d⟩
  | succ m O=>
   intro c' a w h
   obtain ⟨e,j,p,q,d⟩:=h b (.inScope c::k) cs J I D
   cases e with
   | normal=>exact ⟨_,j,p,q,StepsIn.trans d (.one (fenced_calm I D rfl) Vs)⟩
   | exit id=>exact ⟨_,j,p,q,⟨fun u r=>d.1 u (by simpa [exitTo] using r),fun h1 r=>d.2 h1 (by simpa [exitTo] using r)⟩⟩
   | goto l=>
    unfold vO at q
    cases hf:findLabel c l with
    | none=>
     simp only [hf] at q
     exact ⟨_,j,p,q,⟨fun u r=>d.1 u (by simpa [gotoIn,hf] using r),fun h1 r=>d.2 h1 (by simpa [gotoIn,hf] using r)⟩⟩
    | some rest=>
     simp only [hf] at q
     obtain ⟨G,B,A,v,s⟩:=O rest j p q
     exact ⟨G,B,A,v,.of_steps (d.1 _ (by simp [gotoIn,hf])) s⟩
   | ret=>exact ⟨_,j,p,q,d⟩
   | panic R=>exact ⟨_,j,p,q,d⟩
   | outgrown=>exact ⟨_,j,p,q,d⟩
 obtain ⟨e,M,w',q,d⟩:=key m c a w h
 exact ⟨e,M,w',q,.of_steps (.one (fenced_calm I D rfl) z4R) d⟩
theorem Vr {P:Program} {N l:Nat} {ops:Array Oper}:(J5 P N ops).find l=none:=by
 unfold J5
 split
 ·split
  ·repeat' split
   all_goals rfl
  ·rfl
 ·rfl
theorem VC {P:Program} {N:Nat}:∀{c:Code} {x:XC},comp P N c=some x->∀l,(findLabel c l=none/\x.find l=none)\/∃rest d,findLabel c l=some rest/\x.find l=some d/\comp P N rest=some d
 | .seq a b,x,h,l=>by
  simp only [comp,obs,oms] at h
  obtain ⟨s,ha,q,j,rfl⟩:=h
  simp only [findLabel,XC.find]
  rcases VC ha l with ⟨h1,h2⟩ | ⟨r,d,h1,h2,m⟩
  ·rw [h1,h2];exact VC j l
  ·rw [h1,h2];exact .inr ⟨_,_,rfl,rfl,by simp only [comp,m,j,Option.bind_some,Option.map_some]⟩
 | .label l',x,h,l=>by
  simp only [comp,sij] at h;subst h
  simp only [findLabel,XC.find]
  by_cases hl:l'=l
  ·subst hl;simp [comp]
  ·have:(l'==l)=false:=by simpa using hl
   simp [this]
 | .skip,x,h,l=>by simp only [comp,sij] at h;subst h;exact .inl ⟨rfl,rfl⟩
 | .region _ ops false,x,h,l=>by
  simp only [comp] at h
  split at h<;>(simp only [sij] at h;subst h;exact .inl ⟨rfl,rfl⟩)
 | .region _ ops true,x,h,l=>by simp only [comp,sij] at h;subst h;exact .inl ⟨rfl,Vr⟩
 | .cond c t e,x,h,l=>by
  simp only [comp,obs,oms] at h
  obtain ⟨c',_,t',_,p,_,rfl⟩:=h;exact .inl ⟨rfl,rfl⟩
 | .block id b,x,h,l=>by simp only [comp,oms] at h;obtain ⟨y,_,rfl⟩:=h;exact .inl ⟨rfl,rfl⟩
 | .loop b,x,h,l=>by simp only [comp,oms] at h;obtain ⟨y,_,rfl⟩:=h;exact .inl ⟨rfl,rfl⟩
 | .exit id,x,h,l=>by simp only [comp,sij] at h;subst h;exact .inl ⟨rfl,rfl⟩
 | .scope b,x,h,l=>by simp only [comp,oms] at h;obtain ⟨y,_,rfl⟩:=h;exact .inl ⟨rfl,rfl⟩
 | .goto l',x,h,l=>by simp only [comp,sij] at h;subst h;exact .inl ⟨rfl,rfl⟩
 | .ret,x,h,l=>by simp only [comp,sij] at h;subst h;exact .inl ⟨rfl,rfl⟩
 | .refuse _,x,h,l=>by simp only [comp,sij] at h;subst h;exact .inl ⟨rfl,rfl⟩
 | .rangeFunc ..,x,h,l=>by
  simp only [comp] at h
  split at h<;>(simp only [sij] at h;subst h;exact .inl ⟨rfl,rfl⟩)
theorem Wj {P:Program} {N:Nat}:∀{c:Code} {x:XC},comp P N c=some x->∀l,x.find l≠none->l∈labels c
 | .seq a b,x,h,l,hf=>by
  simp only [comp,obs,oms] at h
  obtain ⟨j,ha,p,d,rfl⟩:=h
  simp only [XC.find] at hf
  simp only [labels,List.mem_append]
  cases h1:j.find l with
  | none=>rw [h1] at hf;exact .inr (Wj d l hf)
  | some r=>exact .inl (Wj ha l (by rw [h1];simp))
 | .label l',x,h,l,hf=>by
  simp only [comp,sij] at h;subst h
  simp only [XC.find] at hf
  split at hf
  ·rename_i m
   have:l'=l:=by simpa using m
   simp [labels,this]
  ·exact absurd rfl hf
 | .skip,x,h,l,hf=>by simp only [comp,sij] at h;subst h;exact absurd rfl hf
 | .region _ ops false,x,h,l,hf=>by
  simp only [comp] at h
  split at h<;>(simp only [sij] at h;subst h;exact absurd rfl hf)
 | .region _ ops true,x,h,l,hf=>by simp only [comp,sij] at h;subst h;exact absurd Vr hf
 | .cond c t e,x,h,l,hf=>by
  simp only [comp,obs,oms] at h
  obtain ⟨c',_,t',_,q,_,rfl⟩:=h;exact absurd rfl hf
 | .block id b,x,h,l,hf=>by simp only [comp,oms] at h;obtain ⟨y,_,rfl⟩:=h;exact absurd rfl hf
 | .loop b,x,h,l,hf=>by simp only [comp,oms] at h;obtain ⟨y,_,rfl⟩:=h;exact absurd rfl hf
 | .exit id,x,h,l,hf=>by simp only [comp,sij] at h;subst h;exact absurd rfl hf
 | .scope b,x,h,l,hf=>by simp only [comp,oms] at h;obtain ⟨y,_,rfl⟩:=h;exact absurd rfl hf
 | .goto l',x,h,l,hf=>by simp only [comp,sij] at h;subst h;exact absurd rfl hf
 | .ret,x,h,l,hf=>by simp only [comp,sij] at h;subst h;exact absurd rfl hf
 | .refuse _,x,h,l,hf=>by simp only [comp,sij] at h;subst h;exact absurd rfl hf
 | .rangeFunc ..,x,h,l,hf=>by
  simp only [comp] at h
  split at h<;>(simp only [sij] at h;subst h;exact absurd rfl hf)
theorem Vp (b:XC) (l:Nat):∀d:List Nat,(l∈d\/b.find l=none)->Wq E (z01 b d) l=(b.find l).map (Zg E)
 | [],h=>by
  have:=h.resolve_left (by simp)
  rw [this];simp [z01,Wq]
 | l'::r,h=>by
  simp only [z01]
  by_cases hl:l=l'
  ·subst hl
   cases hf:b.find l with
   | none=>simp only;rw [Vp b l r (.inr hf),hf]
   | some c=>simp only [Wq,if_true,Option.map_some]
  ·cases hf:b.find l' with
   | none=>simp only;exact Vp b l r (h.imp (fun h=>(List.mem_cons.1 h).resolve_left hl) id)
   | some c=>simp only [Wq,hl,if_false];exact Vp b l r (h.imp (fun h=>(List.mem_cons.1 h).resolve_left hl) id)
def vW:XC->Bool
 | .seq a b=>vW a&&vW b
 | .cond _ t e=>vW t&&vW e
 | .block _ b | .loop b | .scope b _=>vW b
 | .rngF ..=>false
 | _=>true
theorem ji {l:Nat}:∀{x r:XC},vW x=true->x.find l=some r->vW r=true
 | .seq a b,r,h,hf=>by
  simp only [vW,Bool.and_eq_true] at h
  simp only [XC.find] at hf
  cases ha:a.find l with
  | none=>rw [ha] at hf;exact ji h.2 hf
  | some d=>
   rw [ha] at hf
   simp only [sij] at hf;subst hf
   simp only [vW,Bool.and_eq_true]
   exact ⟨ji h.1 ha,h.2⟩
 | .label l',r,_,hf=>by
  simp only [XC.find] at hf
  split at hf
  ·simp only [sij] at hf;subst hf;rfl
  ·cases hf
 | .skip,_,_,hf | .ops _,_,_,hf | .draw _,_,_,hf | .drawE _,_,_,hf | .drawR _,_,_,hf | .bad,_,_,hf | .rngF ..,_,_,hf | .cond ..,_,_,hf | .block ..,_,_,hf | .loop _,_,_,hf | .exit _,_,_,hf | .scope ..,_,_,hf | .goto _,_,_,hf | .ret,_,_,hf=>by cases hf
def zbI (C:Ctx) (o:Obj):Ctx:=⟨yK C.w o,C.φ,C.L,C.X⟩
theorem zaM (C:Ctx) (o:Obj):Ext C (zbI C o) where
 size:=by simp [zbI,yK]
 frame:=fun b d _=>yt d
 sub:=fun b h=>.inl h
 slot:=fun _ _=>rfl
 bo:=fun _ h=>h
 len:=Nat.le_refl _
 cap:=fun b c e j h=>⟨c,e,j,(yt (Array.getElem?_eq_some_iff.1 h).1).trans h,rfl⟩
 ex:=rfl
 os:=rfl
 tape:=rfl
 output:=rfl
theorem zgl {g0:Nat} {C:Ctx} {o:Obj} (wf:Wf g0 C):Wf g0 (zbI C o):=
 ⟨wf.inj,wf.lo,wf.apart,fun b d=>Nat.lt_of_lt_of_le (wf.exlo b d) (by simp [zbI,yK]),Nat.le_trans wf.g (by simp [zbI,yK])⟩
theorem z97 {C:Ctx} {o:Obj} (b:Sim C):Sim (zbI C o):=fun s k d=>by
 by_cases ha:k.alive=true
 ·exact (b s k d).mono (zaM C o) d (yt (Y7 b ⟨s,k,d,ha,rfl⟩))
 ·cases k<;>first | trivial | (exfalso;exact ha rfl)
theorem zas {b:Type} {N n:Nat} {f:Nat->b} {d:b} (h:n<N):((List.range N).map f).getD n d=f n:=by
 simp [List.getD,h]
theorem z6V (T:E.plain) (di:Wf E.g0 C0) (eu:E.G C0.w) {g:Operand} {g':Opd} {ps:Array Tmp} {ag body:Code} {xa xb:XC} (hg:opd g=some g') (bg:comp E.P N ag=some xa) (dn:comp E.P N body=some xb)
  {ρ:Rho} {L:List Blk} {K:XE→Rho→List Blk→Prop} {Q:Exit→Act→World→Prop} {a:Act} {w:World} (h:Zg E (.rngF g' N ps.toList xa xb) ρ L K) (hr:Rel E C0 N ρ L a w)
  (hQ:∀e ρ L a w,K e ρ L→Rel E C0 N ρ L a w→Q e.to a w):(Code.rangeFunc g ps ag body).wpIn Fence.wide 0 E.P Q a w:=by
 obtain ⟨hN,φ,wf,V,M,aj,Y,gp⟩:=hr
 rw [z4e.none T.2] at Y
 simp only [Zg] at h
 have af:=JE aj g g' hg
 split at h
 case h_2=>exact h.elim
 rename_i gf caps dh
 rw [dh] at af
 generalize hav:a.eval g=gv at af
 cases af with
 | fn _ _ _ va vb ha hb gm df=>
 have:va=[]:=List.eq_nil_of_length_eq_zero (by simpa using ha.symm)
 subst this
 refine wpIn_rangeFunc fun fn gq=>?_
 obtain ⟨b,j⟩:∃b:Loop,b={ state:=.ready,pending:=none,fn,tmps:=a.tmps,params:=ps,assign:=ag,body,defers:=w.heap.size }:=⟨_,rfl⟩
 have ak:b.tmps=a.tmps:=by rw [j]
 let C:Ctx:=⟨w,φ,L,C0.X⟩
 let C1:Ctx:=zbI C (.deferred (some []))
 let l:=(List.range N).map ρ
 let C2:Ctx:=⟨yK C1.w (.loop b),newφ C1 L.length 0,L++[.lp b l],C0.X⟩
 have ae:Yf C1 L.length (.loop b) (.lp b l) 0=C2:=by
  show (⟨yK C1.w (.loop b),newφ C1 L.length 0,Z4 L L.length (.lp b l),C0.X⟩:Ctx)=⟨yK C1.w (.loop b),newφ C1 L.length 0,L++[.lp b l],C0.X⟩
  rw [Zw]
 have ah:Free C1.L L.length:=.inl rfl
 have e1:Ext C C1:=zaM C _
 have e2:Ext C1 C2:=ae▸wV ah (.loop b) (.lp b l) 0
 have bf:Ext C0 C2:=M.trans (e1.trans e2)
 have R:∀n,VR C2 (ρ n) (a.tmps.getD n undef):=fun n=>(aj n).mono (e1.trans e2)
 have bi:Wf E.g0 C2:=ae▸z0u ah (zgl wf) (z97 V)
 have u:C1.w.heap.size=w.heap.size+1:=by simp [C1,zbI,yK,C]
 have B:C2.φ L.length=⟨w.heap.size+1,0,0⟩:=by
  show (if L.length=L.length then _ else _)=_
  rw [if_pos rfl,u]
 have O:Ws C2 L.length (.lp b l):=⟨by
   show (yK C1.w (.loop b)).heap[(C2.φ L.length).blk]?=_
   rw [B,←u];exact ZB,fun n=>by
   by_cases hn:n<N
   ·rw [zas hn,ak];exact R n
   ·rw [ak]
    have h1:l.getD n .und=.und:=by simp [l,List.getD,hn]
    have h2:a.tmps.getD n undef=undef:=by rw [Array.getD_eq_getD_getElem?,Array.getElem?_eq_none od];rfl
    rw [h1,h2];exact .und⟩
 have au:Sim C2:=by
  rw [←ae] at O ⊢
  exact VQ ah (z97 V) O
 obtain ⟨⟨bz,bn,ed,Z⟩,m⟩:=h b (by rw [j]) (by rw [j]) ⟨by rw [j],by rw [j];exact bg,by rw [j];exact dn,by rw [j];exact hN⟩
 have m:=m C2.w C2.φ C0.X (.func (.yield (w.heap.size+1)) #[] #[]::vb) bi au (z4k di eu bf) (by simp [hb]) (fun i x hi=>by
  cases i with
  | zero=>
   simp only [List.getElem?_cons_zero,sij] at hi;subst hi
   have:=VR.yld (C:=C2) L.length ⟨.lp b l,by show (L++[Blk.lp b l])[L.length]?=_;simp,rfl⟩
   rw [B] at this
   exact this
  | succ i=>exact (df i x (by simpa using hi)).mono (e1.trans e2))
 refine ⟨w.heap.size+1,[{ target:=.collected w.heap.size,args:=#[] }],C2.w,{ target:=.fn (.func gf) vb.toArray,args:=#[.func (.yield (w.heap.size+1)) #[] #[]] },C2.w,gf,
  (.func (.yield (w.heap.size+1)) #[] #[]::vb).toArray,C2.w,?_,?_,?_,?_,(fun h=>by cases h),?_⟩
 ·rw [show C2.w=(w.alloc (.deferred (some []))).alloc (.loop b) from rfl,j];exact run_enterLoop_outer _ _ _ _ _
 ·simp only [resolve,hav]
  simp [Deferred.ofValue,Act.eval]
 ·intro f' _;trivial
 ·simp only [invoke]
  have:(#[Value.func (.yield (w.heap.size+1)) #[] #[]]++vb.toArray)=(.func (.yield (w.heap.size+1)) #[] #[]::vb).toArray:=by apply Array.ext';simp
  rw [this]
  unfold callFunc
  rw [Sem.run_bind,run_program]
  have ay : (bz.name == "runtime.NumGoroutine") = false := by simpa using ed
  simp only [Result.andThen_ok,bn,ay,Bool.false_eq_true,if_false,Z]
  rfl
 ·refine (callsIn_wide.2 m).mono ?_
  rintro e w' ⟨r,L',p,v,⟨r1,I,bu,hK⟩,rfl,az,J,ext', -⟩
  let C':Ctx:=⟨w',p,L',C0.X⟩
  have q:p L.length=⟨w.heap.size+1,0,0⟩:=(ext'.slot L.length ⟨.lp b l,by show (L++[Blk.lp b l])[L.length]?=_;simp,rfl⟩).trans B
  have U:=(J _ _ I).1
  rw [show (⟨w',p,L',C0.X⟩:Ctx).φ L.length=p L.length from rfl,q] at U
  have ax:∀c e fr,Obj.loop r1≠.cells c e fr:=fun _ _ _ h=>by cases h
  have S:C'.w.heap[(C'.φ L.length).blk]?=some (.loop r1):=by show w'.heap[(p L.length).blk]?=_;rw [q];exact U
  let C3:Ctx:=jM C' L.length (.loop { r1 with state:=.exhausted }) .dead
  have dw:Wf E.g0 C3:=z1f az I rfl
  have ai:Sim C3:=J7 az J I rfl S ax trivial
  have e3:Ext C' C3:=Vh I rfl S ax
  have cu:C3.w=w'.putObj (w.heap.size+1) (.loop { r1 with state:=.exhausted }):=by
   show setW w' (p L.length).blk _=_
   rw [q];rfl
  have dm:DOk C0.w.heap.size C2 ({ target:=.collected w.heap.size,args:=#[] }::a.defers):=by
   refine ⟨⟨w.heap.size,rfl,M.size,?_,?_,?_,?_⟩,Y.mono (e1.trans e2)⟩
   ·have:C2.w.heap.size=w.heap.size+2:=by simp [C2,C1,zbI,yK,C]
    omega
   ·intro hm
    rcases e2.sub _ hm with h1 | h1
    ·exact absurd (Y7 V h1) (Nat.lt_irrefl _)
    ·rw [u] at h1;omega
   ·show (yK C1.w (.loop b)).heap[w.heap.size]?=_
    rw [yt (by rw [u];omega)]
    exact ZB
   ·intro d' s hc
    have:∀(ds:List Deferred),DOk C0.w.heap.size C ds→∀d'∈ds,d'.target≠.collected w.heap.size:=by
     intro ds
     induction ds with
     | nil=>intro _ d' s;cases s
     | cons d ds ih=>
      rintro ⟨⟨D,h1,_,h3,_⟩,h7⟩ d' s
      rcases List.mem_cons.1 s with rfl | s
      ·rw [h1];intro hc;cases hc;exact absurd h3 (Nat.lt_irrefl _)
      ·exact ih h7 d' s
    exact this _ Y d' s hc
  have A:Rel E C0 N ρ (L'.set L.length .dead) { a with defers:=[{ target:=.collected w.heap.size,args:=#[] }]++a.defers } C3.w:=
   ⟨hN,p,dw,ai,(bf.trans ext').trans e3,fun n=>((R n).mono ext').mono e3,(z4e.none T.2).2 ((dm.mono ext').mono e3),VU T.1⟩
  refine ⟨r1.pending,C3.w,by rw [cu];exact run_endLoop U bu,?_⟩
  cases hp:r1.pending with
  | none=>rw [hp] at hK;exact hQ .normal _ _ _ _ hK A
  | some c=>
   rw [hp] at hK
   cases c with
   | ret=>exact wpIn_ret (hQ .ret _ _ _ _ hK A)
   | exit i=>exact wpIn_exit (hQ (.exit i) _ _ _ _ hK A)
   | goto l=>exact wpIn_goto (hQ (.goto l) _ _ _ _ hK A)
   | _=>exact hK.elim
def Yi:Code->Nat
 | .seq a b=>Yi a+Yi b+1
 | .cond _ t e=>Yi t+Yi e+1
 | .block _ b=>Yi b+1
 | .loop b=>Yi b+1
 | .scope b=>Yi b+1
 | _=>1
theorem jg {l:Nat}:∀{c rest:Code},findLabel c l=some rest->Yi rest<=Yi c
 | .seq a b,rest,hf=>by
  simp only [findLabel] at hf
  split at hf
  ·rename_i r d
   simp only [sij] at hf;subst hf
   have:=jg d
   simp only [Yi];omega
  ·have:=jg hf
   simp only [Yi];omega
 | .label l',rest,hf=>by
  simp only [findLabel] at hf
  split at hf
  ·simp only [sij] at hf;subst hf;exact Nat.le_refl _
  ·cases hf
 | .skip,_,hf=>by cases hf
 | .region ..,_,hf=>by cases hf
 | .cond ..,_,hf=>by cases hf
 | .block ..,_,hf=>by cases hf
 | .loop ..,_,hf=>by cases hf
 | .exit ..,_,hf=>by cases hf
 | .scope ..,_,hf=>by cases hf
 | .goto ..,_,hf=>by cases hf
 | .ret,_,hf=>by cases hf
 | .refuse ..,_,hf=>by cases hf
 | .rangeFunc ..,_,hf=>by cases hf
def safe (lo:Nat):XC->Bool
 | .ops l | .draw l | .drawE l=>l.all (JR lo)
 | .drawR l=>l.all fun p=>JR lo p.1
 | .seq a b=>safe lo a&&safe lo b
 | .cond _ t e=>safe lo t&&safe lo e
 | .block _ b | .loop b | .scope b _=>safe lo b
 | .rngF ..=>false
 | _=>true
theorem Jl {lo l:Nat}:∀{x r:XC},safe lo x=true->x.find l=some r->safe lo r=true
 | .seq a b,r,h,hf=>by
  simp only [safe,Bool.and_eq_true] at h
  simp only [XC.find] at hf
  cases ha:a.find l with
  | none=>rw [ha] at hf;exact Jl h.2 hf
  | some d=>
   rw [ha] at hf
   simp only [sij] at hf;subst hf
   simp only [safe,Bool.and_eq_true]
   exact ⟨Jl h.1 ha,h.2⟩
 | .label l',r,h,hf=>by
  simp only [XC.find] at hf
  split at hf
  ·simp only [sij] at hf;subst hf;rfl
  ·cases hf
 | .skip,_,_,hf=>by cases hf
 | .ops _,_,_,hf=>by cases hf
 | .draw _,_,_,hf=>by cases hf
 | .drawE _,_,_,hf=>by cases hf
 | .drawR _,_,_,hf=>by cases hf
 | .bad,_,_,hf=>by cases hf
 | .rngF ..,_,_,hf=>by cases hf
 | .cond ..,_,_,hf=>by cases hf
 | .block ..,_,_,hf=>by cases hf
 | .loop ..,_,_,hf=>by cases hf
 | .exit ..,_,_,hf=>by cases hf
 | .scope ..,_,_,hf=>by cases hf
 | .goto ..,_,_,hf=>by cases hf
 | .ret,_,_,hf=>by cases hf
theorem z0V:∀{l:List zq},(Vf l).length=l.length
 | []=>rfl
 | o::r=>by simp only [Vf,llc,z0V]
theorem z16:∀{l:List zq} (i:Nat) (x:zq),(Vf l)[i]?=some x->∃b,l[i]?=some b/\(x=b\/x=b.toP)
 | [],i,x,h=>by simp [Vf] at h
 | o::r,0,x,h=>by
  simp only [Vf,List.getElem?_cons_zero,sij] at h
  refine ⟨o,rfl,?_⟩
  split at h
  ·exact .inr h.symm
  ·exact .inl h.symm
 | o::r,i+1,x,h=>by
  simp only [Vf,List.getElem?_cons_succ] at h
  exact z16 i x h
theorem zbB {lo:Nat} {xs:List zq}:(xs.map zq.toP).all (JR lo)=xs.all (JR lo):=by
 rw [List.all_map];rfl
theorem zat {lo:Nat} {ops:Array Oper} {xs:List zq} (h:(z1e ops (xs.map zq.toP)).all (fun p=>JR lo p.1)=true):xs.all (JR lo)=true:=by
 rw [<-zbB]
 have h1:(z1e ops (xs.map zq.toP)).map (·.1)=xs.map zq.toP:=by simp [z1e,List.map_map,Function.comp_def,List.zipIdx_map_fst]
 rw [<-h1,List.all_map];exact h
theorem Yt (V:FOk F) (M:Wf E.g0 C0) (O:E.G C0.w):∀(m:Nat) (c:Code),Yi c<=m->∀(x:XC),comp E.P N c=some x->(F=Fence.wide\/vW x=true)->(E.plain\/safe E.lo x=true)->
  ∀(ρ:Rho) (L:List Blk) (K:XE->Rho->List Blk->Prop) (Q:Exit->Act->World->Prop) (a:Act) (w:World),z2m E C0 N Q->Zg E x ρ L K->Rel E C0 N ρ L a w->
   (∀e ρ L a w,K e ρ L->Rel E C0 N ρ L a w->Q e.to a w)->c.wpIn F 0 E.P Q a w:=by
 intro m
 induction m with
 | zero=>intro c hc;exfalso;cases c<;>simp [Yi] at hc
 | succ m Y=>
  intro c hc x v J j ρ L K Q a w R h p B
  cases c with
  | skip=>simp only [comp,sij] at v;subst v;exact wpIn_skip (B .normal ρ L a w h p)
  | label l=>simp only [comp,sij] at v;subst v;exact wpIn_label (B .normal ρ L a w h p)
  | exit id=>simp only [comp,sij] at v;subst v;exact wpIn_exit (B (.exit id) ρ L a w h p)
  | goto l=>simp only [comp,sij] at v;subst v;exact wpIn_goto (B (.goto l) ρ L a w h p)
  | ret=>simp only [comp,sij] at v;subst v;exact wpIn_ret (B .ret ρ L a w h p)
  | refuse s=>simp only [comp,sij] at v;subst v;exact h.elim
  | rangeFunc g ps az body=>
   simp only [comp] at v
   split at v
   ·rename_i g' xa U hg ae ax
    simp only [sij] at v;subst v
    obtain rfl:=J.resolve_right (by simp [vW])
    exact z6V (j.resolve_right (by simp [safe])) M O hg ae ax h p B
   ·simp only [sij] at v;subst v;exact h.elim
  | region id ops d=>
   cases d
   ·simp only [comp] at v
    split at v
    ·rename_i xs I
     simp only [sij] at v;subst v
     refine wpIn_region ?_
     rw [List.range_eq_range']
     exact z1d V M O R (fun ρ L a w A p=>B .normal ρ L a w A p) ops.size 0 xs ρ L a w (j.imp And.left fun h=>h) od (by simpa using I) h p
    ·simp only [sij] at v;subst v;exact h.elim
   ·simp only [comp,sij] at v
    subst v
    unfold J5 at h j
    split at h
    ·rename_i X
     rw [if_pos X] at j
     split at h
     ·rename_i xs I
      rw [I] at j
      simp only at j
      split at h
      ·rename_i hc
       rw [if_pos hc] at j
       simp only [Bool.and_eq_true] at hc
       exact yQ V M O R (K:=fun ρ' L'=>K .normal ρ' L') X (j.imp And.left fun h=>h) I (fun i x v=>⟨x,v,.inl rfl⟩) rfl (JJ (zb3 hc.2)) h.2 p fun ρ L a w A p=>B .normal ρ L a w A p
      ·rename_i af
       rw [if_neg af] at j
       split at h
       ·rename_i hc
        rw [if_pos hc] at j
        simp only [Bool.and_eq_true] at hc
        exact yQ V M O R (K:=fun ρ' L'=>K .normal ρ' L') X (j.imp And.left fun h=>h) I (fun i x v=>⟨x,v,.inl rfl⟩) rfl (JJ hc.2) h p fun ρ L a w A p=>B .normal ρ L a w A p
       ·rename_i au
        rw [if_neg au] at j
        split at h
        ·rename_i hc
         rw [if_pos hc] at j
         simp only [Bool.and_eq_true] at hc
         refine yQ V M O R (K:=fun ρ' L'=>K .normal ρ' L') X (j.imp And.left fun h=>h) I (fun i x v=>?_) (by simp [z6H]) hc.2 h p fun ρ L a w A p=>B .normal ρ L a w A p
         simp only [z6H] at v
         rw [List.getElem?_map,oms] at v
         obtain ⟨y,hy,rfl⟩:=v
         exact ⟨y,hy,by split;exact .inl rfl;exact .inr rfl⟩
        ·rename_i ag
         rw [if_neg ag] at j
         split at h
         ·rename_i hc
          rw [if_pos hc] at j
          simp only [Bool.and_eq_true] at hc
          exact yQ V M O R (K:=fun ρ' L'=>K .normal ρ' L') X (j.imp And.left fun h=>h) I z16 z0V hc.2 h p fun ρ L a w A p=>B .normal ρ L a w A p
         ·rename_i aj
          rw [if_neg aj] at j
          split at h
          ·rename_i hc
           rw [if_pos hc] at j
           have hc:=JJ (zb3 hc)
           refine yQ V M O R (K:=fun ρ' L'=>K .normal ρ' L') X (j.imp And.left fun h=>h) I (fun i x v=>?_) (by simp) hc h p fun ρ L a w A p=>B .normal ρ L a w A p
           rw [List.getElem?_map,oms] at v
           obtain ⟨y,hy,rfl⟩:=v
           exact ⟨y,hy,.inr rfl⟩
          ·rename_i ah
           rw [if_neg ah] at j
           split at h
           ·rename_i hc
            rw [if_pos hc] at j
            exact z4c V M O R (K:=fun ρ' L'=>K .normal ρ' L') X (j.imp And.left zat) I (by simp [z1e,List.map_map,Function.comp_def,List.zipIdx_map_fst]) hc h p fun ρ L a w A p=>B .normal ρ L a w A p
           ·rename_i ak
            rw [if_neg ak] at j
            split at h
            ·rename_i hc
             rw [if_pos hc] at j
             exact yQ V M O R (K:=fun ρ' L'=>K .normal ρ' L') X (j.imp And.left fun h=>h) I (fun i x v=>⟨x,v,.inl rfl⟩) rfl (JJ hc) h p fun ρ L a w A p=>B .normal ρ L a w A p
            ·rename_i ay
             rw [if_neg ay] at j
             split at h
             ·rename_i hc
              rw [if_pos hc] at j
              refine yQ V M O R (K:=fun ρ' L'=>K .normal ρ' L') X (j.imp And.left fun h=>h) I (fun i x v=>?_) (by simp) (JJ hc) h p fun ρ L a w A p=>B .normal ρ L a w A p
              rw [List.getElem?_map,oms] at v
              obtain ⟨y,hy,rfl⟩:=v
              exact ⟨y,hy,.inr rfl⟩
             ·exact h.elim
     ·exact h.elim
    ·exact h.elim
  | seq c1 c2=>
   simp only [comp,obs,oms] at v
   obtain ⟨x1,h1,x2,h2,rfl⟩:=v
   simp only [vW,Bool.and_eq_true] at J
   simp only [safe,Bool.and_eq_true] at j
   simp only [Yi] at hc
   refine wpIn_seq (Y c1 od x1 h1 (J.imp id And.left) (j.imp id And.left) ρ L _ _ a w R h p ?_)
   intro e ρ' L' T w' A D
   cases e with
   | normal=>exact Y c2 od x2 h2 (J.imp id And.right) (j.imp id And.right) ρ' L' K Q T w' R A D B
   | exit id=>exact B _ ρ' L' T w' A D
   | goto l=>exact B _ ρ' L' T w' A D
   | ret=>exact B _ ρ' L' T w' A D
  | cond c1 t e=>
   simp only [comp,obs,oms] at v
   obtain ⟨q,hq,xt,ht,xe,he,rfl⟩:=v
   simp only [vW,Bool.and_eq_true] at J
   simp only [safe,Bool.and_eq_true] at j
   simp only [Yi] at hc
   simp only [Zg] at h
   have hv:VR _ (q.ev ρ) (a.eval c1):=JE p.2.choose_spec.2.2.2.1 c1 q hq
   split at h
   ·rename_i b S
    rw [S] at hv
    have ai:a.eval c1=.bool b:=by generalize a.eval c1=u at hv;cases hv;rfl
    exact wpIn_cond_split ai (fun S=>Y t od xt ht (J.imp id And.left) (j.imp id And.left) ρ L K Q a w R (h.1 S) p B) (fun S=>Y e od xe he (J.imp id And.right) (j.imp id And.right) ρ L K Q a w R (h.2 S) p B)
   ·exact h.elim
  | block id b=>
   simp only [comp,oms] at v;obtain ⟨U,S,rfl⟩:=v
   simp only [Yi] at hc
   refine wpIn_block (Y b od U S J j ρ L _ _ a w R h p ?_)
   intro e ρ' L' T w' A D
   cases e with
   | normal=>exact B .normal ρ' L' T w' A D
   | exit i=>
    simp only [XE.inBlock] at A
    simp only [XE.to,Exit.inBlock]
    split at A
    ·rename_i hi;rw [if_pos hi];exact B .normal ρ' L' T w' A D
    ·rename_i hi;rw [if_neg hi];exact B (.exit i) ρ' L' T w' A D
   | goto l=>exact B _ ρ' L' T w' A D
   | ret=>exact B _ ρ' L' T w' A D
  | loop b=>
   simp only [comp,oms] at v;obtain ⟨U,S,rfl⟩:=v
   simp only [Yi] at hc
   simp only [Zg] at h
   obtain ⟨n,h⟩:=h
   refine wpIn_loop_rounds n ?_
   have key:∀n ρ L a w,z7f (Zg E U) n ρ L K->Rel E C0 N ρ L a w->Code.roundsIn F 0 E.P b Q n a w:=by
    intro n
    induction n with
    | zero=>intro ρ L a w h;exact h.elim
    | succ n Z=>
     intro ρ L a w h p
     refine Y b od U S J j ρ L _ _ a w R h p ?_
     intro e ρ' L' T w' A D
     cases e with
     | normal=>exact Z ρ' L' T w' A D
     | exit i=>exact B _ ρ' L' T w' A D
     | goto l=>exact B _ ρ' L' T w' A D
     | ret=>exact B _ ρ' L' T w' A D
   exact key n ρ L a w h p
  | scope b=>
   simp only [comp,oms] at v;obtain ⟨U,S,rfl⟩:=v
   simp only [Yi] at hc
   simp only [Zg] at h
   obtain ⟨n,h⟩:=h
   refine z6W n (Y b od U S J j ρ L _ _ a w (R.scope n) h p ?_)
   have key:∀n e ρ L a w,Yz (Wq E (z01 U (labels b))) n e ρ L K->Rel E C0 N ρ L a w->vO F 0 E.P b Q n e.to a w:=by
    intro n
    induction n with
    | zero=>
     intro e ρ L a w h p
     cases e with
     | normal=>exact B .normal ρ L a w h p
     | exit id=>exact B (.exit id) ρ L a w h p
     | ret=>exact B .ret ρ L a w h p
     | goto l=>
      simp only [Yz] at h
      rw [Vp U l (labels b) (by
       cases hf:U.find l with
       | none=>exact .inr rfl
       | some r=>exact .inl (Wj S l (by rw [hf];simp)))] at h
      simp only [XE.to]
      unfold vO
      rcases VC S l with ⟨h1,h2⟩ | ⟨rest,xr,h1,h2,h3⟩
      ·rw [h2] at h;simp only [Option.map_none] at h
       simp only [h1];exact B (.goto l) ρ L a w h p
      ·rw [h2] at h;simp only [Option.map_some] at h
    | succ n Z=>
     intro e ρ L a w h p
     cases e with
     | normal=>exact B .normal ρ L a w h p
     | exit id=>exact B (.exit id) ρ L a w h p
     | ret=>exact B .ret ρ L a w h p
     | goto l=>
      simp only [Yz] at h
      rw [Vp U l (labels b) (by
       cases hf:U.find l with
       | none=>exact .inr rfl
       | some r=>exact .inl (Wj S l (by rw [hf];simp)))] at h
      simp only [XE.to]
      unfold vO
      rcases VC S l with ⟨h1,h2⟩ | ⟨rest,xr,h1,h2,h3⟩
      ·rw [h2] at h;simp only [Option.map_none] at h
       simp only [h1];exact B (.goto l) ρ L a w h p
      ·rw [h2] at h;simp only [Option.map_some] at h
       simp only [h1]
       have hsz:=jg h1
       exact Y rest od xr h3 (J.imp id (fun h=>ji h h2)) (j.imp id (fun h=>Jl h h2)) ρ L _ _ a w (R.scope n) h p (fun e ρ L a w A p=>Z e ρ L a w A p)
   exact fun e ρ L a w A p=>key n e ρ L a w A p
end
section
variable {E:Env}
inductive z2p where
 | tmp (t:Nat)
 | cell1 (a:Nat)
 | cellN (a n:Nat)
def V6 (P:Program):ResultVar->Option z2p
 | .tmp t=>some (.tmp t)
 | .cell a t=>(z07 P t).bind fun g=>(Zx P t).map fun n=>if g then .cellN a n else .cell1 a
def z3B (E:Env) (ρ:Rho) (L:List Blk):z2p->(IV->Prop)->Prop
 | .tmp t,K=>K (ρ t)
 | .cell1 a,K=>xop E (.load1 (.t a)) (Opd.ev ρ) L fun r _=>K r
 | .cellN a n,K=>xop E (.loadN n (.t a)) (Opd.ev ρ) L fun r _=>K r
def WL (E:Env) (ρ:Rho) (L:List Blk):List z2p->(List IV->Prop)->Prop
 | [],K=>K []
 | r::l,K=>z3B E ρ L r fun v=>WL E ρ L l fun vs=>K (v::vs)
def VJ:List IV->IV
 | [x]=>x
 | l=>.tup l
def Zq (E:Env) (rs:List z2p) (ρ:Rho) (L:List Blk) (K:IV->Prop):Prop:=WL E ρ L rs fun vs=>K (VJ vs)
def Yn (n:Nat) (keep:List Nat):Ren:=fun s=>if s<n then some (some s) else
 match pos keep s n with
 | some i=>some (some i)
 | none=>some none
def Leave (n:Nat) (r:IV) (L':List Blk) (R:IV->List Blk->Prop):Prop:=
 ∃keep:List Nat,keep.Pairwise (·<·)/\(∀s∈keep,n<=s/\s<L'.length)/\∃r' L'',conv L' fuel (Yn n keep) r=some r'/\
  zJ (Y4 L' fuel (Yn n keep)) (L'.take n++keep.map fun s=>L'.getD s .dead)=some L''/\R r' L''
def entry (args:List IV):Rho:=fun n=>args.getD n .und
structure XFn where
 ntmps:Nat
 results:List z2p
 body:XC
def zlN (E:Env) (F:XFn) (args:List IV) (L:List Blk) (R:IV->List Blk->Prop):Prop:=
 Zg E F.body (entry args) L fun e ρ L'=>(e=.ret\/e=.normal)/\Zq E F.results ρ L' fun r=>Leave L.length r L' R
def wo (P:Program) (fn:Func):Option XFn:=
 fn.body.bind fun c=>(comp P fn.ntmps c).bind fun x=>(zJ (V6 P) fn.results.toList).map fun rs=>⟨fn.ntmps,rs,x⟩
def z9y (tmps:Array Value):ResultVar->Sem Value
 | .tmp t=>pure (tmps.getD t undef)
 | .cell a t=>do loadVar t (<-asAddr (tmps.getD a undef))
theorem z7A {C:Ctx} (sim:Sim C) (hG:E.G C.w) {ρ:Rho} {tmps:Array Value} (hρ:∀n,VR C (ρ n) (tmps.getD n undef)) {rv:ResultVar} {x:z2p} (hx:V6 E.P rv=some x) {K:IV->Prop} (h:z3B E ρ C.L x K) :
  ∃v r,(z9y tmps rv).run E.P C.w=.ok v C.w/\VR C r v/\K r:=by
 have hload:∀(t:TypeId) (at_:Nat) (Q:IV->List Blk->Prop) (xo:XO),WA E.P (.load t (.tmp at_))=some xo->xo.quiet=true->xop E xo (Opd.ev ρ) C.L Q->
   ∃v r,(do loadVar t (<-asAddr (tmps.getD at_ undef)):Sem Value).run E.P C.w=.ok v C.w/\VR C r v/\Q r C.L:=by
  intro t at_ Q xo hxo hq hxop
  obtain ⟨v,r,h1,h2,h3⟩:=zaE (E:=E) (C:=C) (a:=⟨tmps,[]⟩) (o:={ (default:Oper) with op:=.load t (.tmp at_) }) (x:=xo) sim hG (JE hρ) rfl hxo hxop
  refine ⟨v,r,?_,h2,h3⟩
  have h4:(execOp (Act.eval ⟨tmps,[]⟩) { (default:Oper) with op:=.load t (.tmp at_) }).run E.P C.w=((Instr.loadAt t (tmps.getD at_ undef)).run E.P C.w).andThen fun v w'=>.ok (.value v) w':=by
   show (do pure (Next.value (<-Instr.loadAt t (tmps.getD at_ undef))):Sem Next).run E.P C.w=_
   rw [Sem.run_bind];rfl
  rw [h4] at h1
  have h5:(Instr.loadAt t (tmps.getD at_ undef)).run E.P C.w=.ok v C.w:=by
   cases hr:(Instr.loadAt t (tmps.getD at_ undef)).run E.P C.w with
   | ok u w'=>rw [hr] at h1;simp only [Result.andThen_ok,Result.ok.injEq,Next.value.injEq] at h1;rw [h1.1,h1.2]
   | halt hh w'=>rw [hr] at h1;cases h1
  unfold Instr.loadAt at h5
  rw [Sem.run_bind] at h5 ⊢
  cases hv:tmps.getD at_ undef with
  | pointer p=>
   cases p with
   | none=>rw [hv] at h5;cases h5
   | some p=>rw [hv] at h5;exact h5
  | _=>rw [hv] at h5;cases h5
 cases rv with
 | tmp t=>simp only [V6,sij] at hx;subst hx;exact ⟨_,_,rfl,hρ t,h⟩
 | cell at_ t=>
  simp only [V6,obs,oms] at hx
  obtain ⟨g,hg,n,hn,rfl⟩:=hx
  cases g
  ·simp only [Bool.false_eq_true,if_false,z3B] at h
   exact hload t at_ (fun r _=>K r) (.load1 (.t at_)) (by simp [WA,hg,hn,opd]) rfl h
  ·simp only [if_true,z3B] at h
   exact hload t at_ (fun r _=>K r) (.loadN n (.t at_)) (by simp [WA,hg,hn,opd]) rfl h
theorem z0O {C:Ctx} (d:Sim C) (hG:E.G C.w) {ρ:Rho} {tmps:Array Value} (j:∀n,VR C (ρ n) (tmps.getD n undef)):∀(b:List ResultVar) (xs:List z2p) (K:List IV->Prop),zJ (V6 E.P) b=some xs->WL E ρ C.L xs K->
  ∃vs rs,(b.mapM (z9y tmps)).run E.P C.w=.ok vs C.w/\rs.length=vs.length/\
   (∀(i:Nat) (x:IV),rs[i]?=some x->VR C x (vs.getD i undef))/\K rs
 | [],xs,K,hx,h=>by
  simp only [zJ,sij] at hx;subst hx
  exact ⟨[],[],rfl,rfl,fun i x hi=>by simp at hi,h⟩
 | rv::b,xs,K,hx,h=>by
  simp only [zJ] at hx
  split at hx
  ·split at hx
   ·rename_i x m _ p l
    simp only [sij] at hx;subst hx
    obtain ⟨v,r,h1,h2,B⟩:=z7A (E:=E) d hG j m h
    obtain ⟨vs,rs,s,u,q,A⟩:=z0O d hG j b p _ l B
    refine ⟨v::vs,r::rs,?_,by simp [u],fun i x hi=>?_,A⟩
    ·rw [List.mapM_cons,Sem.run_bind,h1]
     simp only [Result.andThen_ok]
     rw [Sem.run_bind,s]
     rfl
    ·cases i with
     | zero=>simp at hi;subst hi;exact h2
     | succ i=>simpa using q i x (by simpa using hi)
   ·cases hx
  ·cases hx
theorem Vd {C:Ctx} (j:Sim C) (hG:E.G C.w) {ρ:Rho} {tmps:Array Value} (l:∀n,VR C (ρ n) (tmps.getD n undef)) {fn:Func} {xs:List z2p} {K:IV->Prop} (s:zJ (V6 E.P) fn.results.toList=some xs) (h:Zq E xs ρ C.L K) :
  ∃v r,(results fn tmps).run E.P C.w=.ok v C.w/\VR C r v/\K r:=by
 obtain ⟨vs,rs,h1,h2,d,m⟩:=z0O (E:=E) j hG l fn.results.toList xs _ s h
 have b:(results fn tmps).run E.P C.w=.ok (if h:vs.toArray.size=1 then vs.toArray[0] else .tuple vs.toArray) C.w:=by
  have p:results fn tmps=(do let vs <-fn.results.mapM (z9y tmps);pure (if h:vs.size=1 then vs[0] else .tuple vs)):=rfl
  rw [p,Sem.run_bind,Array.mapM_eq_mapM_toList,Sem.run_map,h1]
  rfl
 refine ⟨_,_,b,?_,m⟩
 clear h1 b m
 match rs,vs,h2,d with
 | [],[],_,_=>exact .tup [] [] rfl (fun i x hi=>by simp at hi)
 | [r],[v],_,d=>exact d 0 r rfl
 | r1::r2::rs,q::v2::vs,h2,d=>
  have:¬((q::v2::vs).toArray.size=1):=by simp
  rw [dif_neg this]
  exact .tup _ _ h2 d
theorem z4u {g0:Nat} {C0 C:Ctx} (wf:Wf g0 C) (U:Sim C) (ext:Ext C0 C) {r:IV} {v:Value} (hv:VR C r v) {R:IV->List Blk->Prop} (h:Leave C0.L.length r C.L R) :
  ∃r' L' j,R r' L'/\Wf g0 ⟨C.w,j,L',C.X⟩/\Sim ⟨C.w,j,L',C.X⟩/\Ext C0 ⟨C.w,j,L',C.X⟩/\VR ⟨C.w,j,L',C.X⟩ r' v:=by
 obtain ⟨keep,ae,J,r',L',hr,hL,hR⟩:=h
 let n:=C0.L.length
 have hn:n<=C.L.length:=ext.len
 let src:Nat->Nat:=fun s=>if s<n then s else keep.getD (s - n) 0
 let j:Nat->Loc:=fun s=>C.φ (src s)
 have aj:L'.length=n+keep.length:=by
  rw [zQ hL];simp only [lla,List.length_take,List.length_map];omega
 have A:∀s k,L'[s]?=some k->∃k0,C.L[src s]?=some k0/\Y4 C.L fuel (Yn n keep) k0=some k/\((s<n/\src s=s)\/(n<=s/\keep[s - n]?=some (src s))):=by
  intro s k hs
  obtain ⟨k0,h1,h2⟩:=zW hL s k hs
  by_cases m:s<n
  ·rw [List.getElem?_append_left (by rw [List.length_take];omega),List.getElem?_take,if_pos m] at h1
   exact ⟨k0,by simp only [src,m,if_true];exact h1,h2,.inl ⟨m,by simp only [src,m,if_true]⟩⟩
  ·have au:=zx hs
   rw [List.getElem?_append_right (by rw [List.length_take];omega),List.length_take,List.getElem?_map,oms] at h1
   obtain ⟨t,I,rfl⟩:=h1
   have e1:s - min n C.L.length=s - n:=by omega
   have V:keep[s - n]?=some t:=by rw [<-e1];exact I
   have T:src s=t:=by simp only [src,m,if_false];exact WO V
   have ai:t∈keep:=List.mem_of_getElem? V
   obtain ⟨B,h6⟩:=J t ai
   exact ⟨_,by rw [T];exact getD_get (d:=.dead) h6,h2,.inr ⟨od,by rw [T];exact V⟩⟩
 have p:∀b,(⟨C.w,j,L',C.X⟩:Ctx).mine b->C.mine b:=by
  rintro b ⟨s,k,M,ha,rfl⟩
  obtain ⟨k0,h1,h2,_⟩:=A s k M
  exact ⟨src s,k0,h1,by rw [<-zV h2];exact ha,rfl⟩
 have Y:Ext C0 ⟨C.w,j,L',C.X⟩:=
  ⟨ext.size,ext.frame,fun b Z=>ext.sub b (p b Z),fun s O=>by
   have hs:s<n:=O.lt
   show C.φ (src s)=_
   have:src s=s:=by simp only [src];exact if_pos hs
   rw [this];exact ext.slot s O,fun s O=>by
   have hs:s<n:=O.lt
   obtain ⟨k,h1,h2⟩:=ext.bo s O
   have I:(C.L.take n++keep.map fun s=>C.L.getD s .dead)[s]?=some k:=by
    rw [List.getElem?_append_left (by rw [List.length_take];omega),List.getElem?_take,if_pos hs];exact h1
   obtain ⟨k',q,B⟩:=ZV hL s k I
   exact ⟨k',q,by rw [yT B];exact h2⟩,by show n<=L'.length;omega,ext.cap,ext.ex,ext.os,ext.tape,ext.output⟩
 have af:∀s t,s<L'.length->t<L'.length->((s<n/\src s=s)\/(n<=s/\keep[s - n]?=some (src s)))->((t<n/\src t=t)\/(n<=t/\keep[t - n]?=some (src t)))->src s=src t->s=t:=by
  intro s t _ _ hs ht Q
  have M:∀i x,keep[i]?=some x->n<=x:=fun i x hx=>(J x (List.mem_of_getElem? hx)).1
  rcases hs with ⟨h1,h2⟩ | ⟨h1,h2⟩<;>rcases ht with ⟨I,q⟩ | ⟨I,q⟩
  ·omega
  ·have:=M _ _ q;omega
  ·have:=M _ _ h2;omega
  ·rw [Q] at h2
   rcases Nat.lt_trichotomy (s - n) (t - n) with B | B | B
   ·have h6:=List.pairwise_iff_getElem.1 ae (s - n) (t - n) (zx h2) (zx q) B
    have e1:=Option.some.inj ((List.getElem?_eq_getElem (zx h2)).symm.trans h2)
    have e2:=Option.some.inj ((List.getElem?_eq_getElem (zx q)).symm.trans q)
    omega
   ·omega
   ·have h6:=List.pairwise_iff_getElem.1 ae (t - n) (s - n) (zx q) (zx h2) B
    have e1:=Option.some.inj ((List.getElem?_eq_getElem (zx h2)).symm.trans h2)
    have e2:=Option.some.inj ((List.getElem?_eq_getElem (zx q)).symm.trans q)
    omega
 have S:z5x C ⟨C.w,j,L',C.X⟩ (Yn n keep):=by
  intro s k M
  refine ⟨fun D ha G=>?_,fun t D=>?_⟩
  ·have m:¬s<n:=by
    intro h;unfold Yn at D;rw [if_pos h] at D;cases D
   have ag:s∉keep:=by
    unfold Yn at D
    rw [if_neg m] at D
    split at D
    ·cases D
    ·rename_i hp;exact jU hp
   rcases G with hx | ⟨t,l,hl,ah,Q⟩
   ·exact wf.apart _ hx ⟨s,k,M,ha,rfl⟩
   ·obtain ⟨k0,h1,h2,I⟩:=A t l hl
    have:=wf.inj s (src t) k k0 M h1 ha (by rw [<-zV h2];exact ah) Q.symm
    rcases I with ⟨q,B⟩ | ⟨q,B⟩
    ·omega
    ·rw [<-this] at B;exact ag (List.mem_of_getElem? B)
  ·unfold Yn at D
   split at D
   ·rename_i m
    simp only [sij] at D;subst D
    refine ⟨fun Z=>?_,?_⟩
    ·have I:(C.L.take n++keep.map fun s=>C.L.getD s .dead)[s]?=some k:=by
      rw [List.getElem?_append_left (by rw [List.length_take];omega),List.getElem?_take,if_pos m];exact M
     obtain ⟨k',q,B⟩:=ZV hL s k I
     exact ⟨k',q,by rw [yT B];exact Z⟩
    show C.φ (src s)=_
    have:src s=s:=by simp only [src];exact if_pos m
    rw [this]
   ·rename_i m
    split at D
    ·rename_i i hp
     simp only [sij] at D;subst D
     obtain ⟨d,rfl,hd⟩:=wP hp
     have ak:=zx hd
     refine ⟨fun Z=>?_,?_⟩
     ·have I:(C.L.take n++keep.map fun s=>C.L.getD s .dead)[n+d]?=some k:=by
       rw [List.getElem?_append_right (by rw [List.length_take];omega),List.length_take,List.getElem?_map]
       have e1:n+d - min n C.L.length=d:=by omega
       rw [e1,hd]
       show some (C.L.getD s .dead)=_
       rw [List.getD_eq_getElem?_getD,M];rfl
      obtain ⟨k',q,B⟩:=ZV hL _ k I
      exact ⟨k',q,by rw [yT B];exact Z⟩
     show C.φ (src (n+d))=_
     have:src (n+d)=s:=by
      have h1:¬n+d<n:=by omega
      simp only [src,h1,if_false,Nat.add_sub_cancel_left];exact WO hd
     rw [this]
    ·cases D
 have G:∀b,(⟨C.w,j,L',C.X⟩:Ctx).own b->C.own b:=fun b h=>h.imp id (p b)
 refine ⟨r',L',j,hR,⟨?_,fun b h=>wf.lo b (p b h),fun b hx h=>wf.apart b hx (p b h),wf.exlo,wf.g⟩,?_,Y,ZA (C:=C) (C':=⟨C.w,j,L',C.X⟩) rfl U G fuel _ r r' v S hr hv⟩
 ·intro s t ks kt hs ht as at_ Q
  obtain ⟨k1,h1,h2,I⟩:=A s ks hs
  obtain ⟨k2,q,B,h6⟩:=A t kt ht
  exact af s t (zx hs) (zx ht) I h6 (wf.inj _ _ k1 k2 h1 q (by rw [<-zV h2];exact as) (by rw [<-zV B];exact at_) Q)
 ·intro s k M
  obtain ⟨k0,h1,h2,_⟩:=A s k M
  exact jV (C:=C) (C':=⟨C.w,j,L',C.X⟩) (s:=src s) rfl rfl (fun x x' u _ hc hu=>ZA (C:=C) (C':=⟨C.w,j,L',C.X⟩) rfl U G fuel _ x x' u S hc hu) h2 (U _ k0 h1)
theorem VR.keep {C C':Ctx} (hs:C'.w.heap.size=C.w.heap.size) (l:C'.φ=C.φ) (J:C'.L=C.L) (hX:C'.X=C.X) (hc:∀(b:Nat) c e G,C.w.heap[b]?=some (.cells c e G)->C'.w.heap[b]?=some (.cells c e G))
  {x:IV} {v:Value} (h:VR C x v):VR C' x v:=by
 have A:∀b,C'.own b↔C.own b:=fun b=>by simp only [Ctx.own,Ctx.mine,l,J,hX]
 have p:∀b o v,C.w.cell? ⟨b,o,none⟩=some v->C'.w.cell? ⟨b,o,none⟩=some v:=fun b o v m=>by
  simp only [World.cell?] at m ⊢
  cases q:C.w.heap[b]? with
  | none=>rw [q] at m;cases m
  | some ob=>cases ob with
   | cells c e G=>rw [q] at m;rw [hc b c e G q];exact m
   | _=>rw [q] at m;cases m
 induction h with
 | bool b=>exact .bool b
 | int k n=>exact .int k n
 | str s=>exact .str s
 | raw v h=>exact .raw v h
 | und=>exact .und
 | ptr s r o d=>rw [<-l];exact .ptr s r o (by unfold Ctx.born;rw [J];exact d)
 | sl s off len cap a cap' d I D ha U=>
  refine .sl s off len cap a cap' (by unfold Ctx.born;rw [J];exact d) I D ?_ U
  rcases ha with Q | ⟨ha,c,e,G,hh,T⟩
  ·exact .inl Q
  ·exact .inr ⟨by rw [l];exact ha,c,e,G,by rw [l];exact hc _ _ _ _ hh,by rw [l];exact T⟩
 | isl rows a cap' sz vals M hsz B ha m u=>
  refine .isl rows a cap' sz vals M hsz B ?_ u
  rcases ha with Q | ⟨b,o,ha,q,Z,D⟩
  ·exact .inl Q
  ·exact .inr ⟨b,o,ha,by rw [hs];exact q,fun h=>Z ((A b).1 h),fun i row hi j x S=>p _ _ _ (D i row hi j x S)⟩
 | iptr rows r o b base sz vals hsz B q ho ha m u=>
  exact .iptr rows r o b base sz vals hsz B (by rw [hs];exact q) (fun h=>ho ((A b).1 h)) (fun i row hi j x S=>p _ _ _ (ha i row hi j x S)) u
 | esl a=>exact .esl a
 | nsl=>exact .nsl
 | agg cs vs I m u=>exact .agg cs vs I u
 | tup cs vs I m u=>exact .tup cs vs I u
 | fn f as bs va vb ha q Y V R O=>exact .fn f as bs va vb ha q R O
 | iface t x v m u=>exact .iface t x v u
 | mp s d=>rw [<-l];exact .mp s (by unfold Ctx.born;rw [J];exact d)
 | yld s d=>rw [<-l];exact .yld s (by unfold Ctx.born;rw [J];exact d)
theorem jE {g0:Nat} {C0 C:Ctx} (wf:Wf g0 C) (d:Sim C) (ext:Ext C0 C) {r:IV} {v:Value} (l:VR C r v) {R:IV->List Blk->Prop} (h:Leave C0.L.length r C.L R\/R r C.L) :
  ∃j L' b,R j L'/\Wf g0 ⟨C.w,b,L',C.X⟩/\Sim ⟨C.w,b,L',C.X⟩/\Ext C0 ⟨C.w,b,L',C.X⟩/\VR ⟨C.w,b,L',C.X⟩ j v:=by
 rcases h with h | h
 ·exact z4u wf d ext l h
 ·exact ⟨r,C.L,C.φ,h,wf,d,ext,l⟩
def zjU (E:Env) (C0:Ctx) (xs:Nat->IV) (us:Nat->Value) (L:List Blk) (ds:List Deferred) (w:World):Prop:=
 ∃φ,Wf E.g0 ⟨w,φ,L,C0.X⟩/\Sim ⟨w,φ,L,C0.X⟩/\Ext C0 ⟨w,φ,L,C0.X⟩/\(∀n,VR ⟨w,φ,L,C0.X⟩ (xs n) (us n))/\DOk C0.w.heap.size ⟨w,φ,L,C0.X⟩ ds
theorem vY {C0:Ctx} {fn:Func} {xs:Nat->IV} {us:Nat->Value} {L:List Blk} {tmps:Array Value} {R:Ending->World->Prop} {u:FrameMode} (hu:u≠.run) (S:∀w,zjU E C0 xs us L [] w->LeavesInM Fence.wide 0 E.P fn tmps R [] u w) :
  ∀(G:List Deferred) (w:World),zjU E C0 xs us L G w->LeavesInM Fence.wide 0 E.P fn tmps R G u w
 | [],w,h=>S w h
 | d::G,w,h=>by
  obtain ⟨φ,wf,aj,A,ax,⟨⟨D,rfl,h2,h3,h4,h5,h6⟩,h7⟩⟩:=h
  refine ⟨hu,.inl ⟨D,w.putObj D (.deferred none),rfl,run_takeDeferred h5,vY hu S G _ ?_⟩⟩
  let C:Ctx:=⟨w,φ,L,C0.X⟩
  let C':Ctx:=⟨w.putObj D (.deferred none),φ,L,C0.X⟩
  have hsz:C'.w.heap.size=C.w.heap.size:=World.putObj_size
  have q:∀b,b≠D->C'.w.heap[b]?=C.w.heap[b]?:=fun b B=>World.putObj_heap_other B
  have J:∀(b:Nat) c e Q,C.w.heap[b]?=some (.cells c e Q)->C'.w.heap[b]?=some (.cells c e Q):=fun b c e Q B=>by
   rw [q b (fun h=>by subst h;rw [h5] at B;cases B)];exact B
  have M:∀{x v},VR C x v->VR C' x v:=fun h=>VR.keep hsz rfl rfl rfl J h
  have ae:Ext C0 C':=
   ⟨Nat.le_trans A.size (Nat.le_of_eq hsz.symm),fun b B hm=>(q b od).trans (A.frame b B hm),A.sub,A.slot,A.bo,A.len,
    fun b c e Q B=>by obtain ⟨c',e',T,O,h9⟩:=A.cap b c e Q B;exact ⟨c',e',T,J _ _ _ _ O,h9⟩,A.ex,A.os,A.tape,A.output⟩
  refine ⟨φ,⟨wf.inj,wf.lo,wf.apart,fun b B=>by rw [hsz];exact wf.exlo b B,by rw [hsz];exact wf.g⟩,?_,ae,fun n=>M (ax n),?_⟩
  ·intro s k hk
   have O:=aj s k hk
   by_cases ha:k.alive=true
   ·have B:(φ s).blk≠D:=fun h=>h4 ⟨s,k,hk,ha,h⟩
    cases k with
    | cells sz rows=>
     obtain ⟨h9,c,e,Q,V,U,Z,I⟩:=O
     exact ⟨h9,c,e,Q,J _ _ _ _ V,U,Z,fun i row hi=>⟨(I i row hi).1,fun j x hj=>let ⟨v,h13,h14⟩:=(I i row hi).2 j x hj;⟨v,h13,M h14⟩⟩⟩
    | tcells ty sz rows=>
     obtain ⟨⟨h9,c,e,Q,V,U,Z,I⟩,az,c',T,bi⟩:=O
     exact ⟨⟨h9,c,e,Q,J _ _ _ _ V,U,Z,fun i row hi=>⟨(I i row hi).1,fun j x hj=>let ⟨v,h13,h14⟩:=(I i row hi).2 j x hj;⟨v,h13,M h14⟩⟩⟩,az,c',T,J _ _ _ _ bi⟩
    | siter t p=>exact ⟨O.1,(q _ B).trans O.2⟩
    | map es c=>obtain ⟨ms,k1,k2,k3⟩:=O;exact ⟨ms,(q _ B).trans k1,k2,fun i e he=>by obtain ⟨m,k4,k5,k6,k7⟩:=k3 i e he;exact ⟨m,k4,k5,M k6,k7⟩⟩
    | mit m=>obtain ⟨k1,k2,Y,af,k3⟩:=O;exact ⟨k1,k2,Y,af,(q _ B).trans k3⟩
    | lp r l=>exact ⟨(q _ B).trans O.1,fun n=>M (O.2 n)⟩
    | dead=>trivial
    | unborn=>trivial
   ·cases k<;>first | trivial | (exfalso;exact ha rfl)
  ·have:∀G:List Deferred,(∀d'∈G,d'.target≠.collected D)->DOk C0.w.heap.size C G->DOk C0.w.heap.size C' G:=by
    intro G
    induction G with
    | nil=>intro _ _;trivial
    | cons d G ih=>
     rintro ag ⟨⟨D',h1,ai,ak,bf,ay,au⟩,ah⟩
     refine ⟨⟨D',h1,ai,by rw [hsz];exact ak,bf,?_,au⟩,ih (fun d' bg=>ag d' (List.mem_cons_of_mem _ bg)) ah⟩
     rw [q D' (fun h=>ag d List.mem_cons_self (by rw [h1,h]))];exact ay
   exact this G h6 h7
def Env.withPan (E:Env) (Q:IV->List Blk->Prop):Env:={ E with pan:=Q,lo:=0,kept:=fun _=>undef,base:=none }
def Env.noPan (E:Env):Env:={ E with pan:=fun _ _=>False,lo:=0,kept:=fun _=>undef,base:=none }
theorem Jr {f : FuncId} {fn : Func} {F : XFn} {args : List IV} {L : List Blk} {R Q : IV → List Blk → Prop} {pq : IV → List Blk → Prop} (Lv : IV → List Blk → (IV → List Blk → Prop) → Prop) (J : ∀ r L' R, Lv r L' R → Leave L.length r L' R ∨ R r L') (ag : ∀ x L', pq x L' → Lv x L' Q) (hf : E.P.funcs[f]? = some fn) (hF : wo E.P fn = some F) (ai : fn.name ≠ "runtime.NumGoroutine")
  (ah:args.length≤fn.ntmps) (h:Zg (E.withPan pq) F.body (entry args) L fun e ρ L'=>(e=.ret∨e=.normal)∧Zq (E.withPan pq) F.results ρ L' fun r=>Lv r L' R):XTP E f args L R Q:=by
 simp only [wo,obs,oms] at hF
 obtain ⟨c,hb,x,hx,rs,ae,rfl⟩:=hF
 refine ⟨⟨fn,hf,ai,by rw [hb];rfl⟩,fun w q X vs wf Y hG hl V=>?_⟩
 refine callsIn_wide.1 (callsIn_of_wp_marks (n:=0) hf hb trivial ?_)
 have G:Rel (E.withPan pq) ⟨w,q,L,X⟩ fn.ntmps (entry args) L { tmps:=vs.toArray++Array.replicate (fn.ntmps - vs.toArray.size) undef,defers:=[] } w:=by
  refine ⟨by simp;omega,q,wf,Y,Ext.refl _,fun n=>?_,(z4e.none (E:=E.withPan pq) rfl).2 trivial,VU rfl⟩
  show VR _ (args.getD n .und) _
  by_cases hn:n<args.length
  ·have h1:=V n _ (getD_get (d:=.und) hn)
   have h2:(vs.toArray++Array.replicate (fn.ntmps - vs.toArray.size) undef).getD n undef=vs.getD n undef:=by
    rw [Array.getD_eq_getD_getElem?,Array.getElem?_append_left (by simpa [←hl] using hn),List.getD_eq_getElem?_getD]
    simp
   rw [h2];exact h1
  ·have h1:args.getD n .und=.und:=by rw [List.getD_eq_getElem?_getD,List.getElem?_eq_none od];rfl
   have h2:(vs.toArray++Array.replicate (fn.ntmps - vs.toArray.size) undef).getD n undef=undef:=by
    rw [Array.getD_eq_getD_getElem?,Array.getElem?_append_right (by simp;omega),Array.getElem?_replicate]
    split<;>rfl
   rw [h1,h2];exact .und
 let P1:Ending→World→Prop:=fun e j=>∃r L'' b v',Wf E.g0 ⟨j,b,L'',X⟩∧Sim ⟨j,b,L'',X⟩∧Ext ⟨w,q,L,X⟩ ⟨j,b,L'',X⟩∧VR ⟨j,b,L'',X⟩ r v'∧
   ((R r L''∧e=.returned v')∨(Q r L''∧e=.panicked [{ v:=v',recovered:=false }]))
 refine Yt (E:=E.withPan pq) (F:=Fence.wide) (.inl rfl) (C0:=⟨w,q,L,X⟩) wf hG (Yi c) c (Nat.le_refl _) x hx (.inl rfl) (.inl ⟨rfl,rfl⟩) (entry args) L _ (bodyPostM Fence.wide 0 E.P fn P1) _ w ?_ h G ?_
 ·intro y v L' u a w' hy hN D p ext' hv hd _ _
  have hd:=(z4e.none (E:=E.withPan pq) rfl).1 hd
  refine vY (E:=E) (C0:=⟨w,q,L,X⟩) (fn:=fn) (xs:=fun _=>y) (us:=fun _=>v) (L:=L') (R:=P1) (by intro h;cases h) (fun j Z=>?_) a.defers w' ⟨u,D,p,ext',fun _=>hv,hd⟩
  obtain ⟨φ1,A,l,m,af,_⟩:=Z
  obtain ⟨r',L'',b,T,h5,h6,U,h8⟩:=jE (C0:=⟨w,q,L,X⟩) (C:=⟨j,φ1,L',X⟩) A l m (af 0) (J _ _ _ (ag y L' hy))
  exact ⟨r',L'',b,v,h5,h6,U,h8,.inr ⟨T,rfl⟩⟩
 rintro e ρ L' S w' ⟨he,I⟩ ⟨aj,u,D,p,ext',M,B,_⟩
 have B:=(z4e.none (E:=E.withPan pq) rfl).1 B
 have s:LeavesInM Fence.wide 0 E.P fn S.tmps P1 S.defers .returning w':=by
  refine vY (E:=E) (C0:=⟨w,q,L,X⟩) (xs:=ρ) (us:=fun n=>S.tmps.getD n undef) (L:=L') (by intro h;cases h) (fun j Z=>?_) S.defers w' ⟨u,D,p,ext',M,B⟩
  obtain ⟨φ1,A,l,m,O,_⟩:=Z
  obtain ⟨v,r,h1,h2,h3⟩:=Vd (E:=E.withPan pq) (C:=⟨j,φ1,L',X⟩) l (z4k (C0:=⟨w,q,L,X⟩) wf hG m) O ae I
  obtain ⟨r',L'',b,T,h5,h6,U,h8⟩:=jE (C0:=⟨w,q,L,X⟩) (C:=⟨j,φ1,L',X⟩) A l m h2 (J _ _ _ h3)
  exact ⟨v,h1,r',L'',b,v,h5,h6,U,h8,.inl ⟨T,rfl⟩⟩
 rcases he with rfl | rfl
 ·exact s
 ·exact s
theorem z7u {f : FuncId} {fn : Func} {F : XFn} {args : List IV} {L : List Blk} {R Q : IV → List Blk → Prop} {pq : IV → List Blk → Prop} (j : ∀ x L', pq x L' → Leave L.length x L' Q) (m : E.P.funcs[f]? = some fn) (l : wo E.P fn = some F) (d : fn.name ≠ "runtime.NumGoroutine")
  (b:args.length≤fn.ntmps) (h:zlN (E.withPan pq) F args L R):XTP E f args L R Q:=
 Jr (fun r L' R=>Leave L.length r L' R) (fun _ _ _ h=>.inl h) j m l d b h
theorem z5b {f : FuncId} {fn : Func} {F : XFn} {args : List IV} {L : List Blk} {R Q : IV → List Blk → Prop} (l : E.P.funcs[f]? = some fn) (j : wo E.P fn = some F) (d : fn.name ≠ "runtime.NumGoroutine")
  (b:args.length≤fn.ntmps) (h:Zg (E.withPan Q) F.body (entry args) L fun e ρ L'=>(e=.ret∨e=.normal)∧Zq (E.withPan Q) F.results ρ L' fun r=>R r L'):XTP E f args L R Q:=
 Jr (pq:=Q) (fun r L' R=>R r L') (fun _ _ _ h=>.inr h) (fun _ _ h=>h) l j d b h
theorem zdh {f:FuncId} {args:List IV} {L:List Blk} {R:IV->List Blk->Prop} (h:XTP E f args L R fun _ _=>False):XT E f args L R:=
 ⟨h.1,fun w p X vs wf j hG m l=>(h.2 w p X vs wf j hG m l).mono fun e w' ⟨r,L',d,v,h1,h2,s,q,b⟩=>by
  rcases b with ⟨b,rfl⟩ | ⟨b,_⟩
  ·exact ⟨r,L',d,v,b,rfl,h1,h2,s,q⟩
  ·exact b.elim⟩
theorem zfm {f:FuncId} {args:List IV} {L:List Blk} {R Q:IV->List Blk->Prop} (h:XT E f args L R):XTP E f args L R Q:=
 ⟨h.1,fun w p X vs wf d hG m l=>(h.2 w p X vs wf d hG m l).mono fun e w' ⟨r,L',b,v,h1,j,h2,u,q,s⟩=>⟨r,L',b,v,h2,u,q,s,.inl ⟨h1,j⟩⟩⟩
theorem zD.np {f:FuncId} {args:List IV} {r:IV} (h:zD E f args r):zD E.noPan f args r:=h
theorem zD.wp {f:FuncId} {args:List IV} {r:IV} {Q:IV->List Blk->Prop} (h:zD E f args r):zD (E.withPan Q) f args r:=h
theorem zaY {f : FuncId} {fn : Func} {F : XFn} {args : List IV} {L : List Blk} {R : IV → List Blk → Prop} (l : E.P.funcs[f]? = some fn) (j : wo E.P fn = some F) (d : fn.name ≠ "runtime.NumGoroutine")
  (b:args.length≤fn.ntmps) (h:zlN E.noPan F args L R):XT E f args L R:=
 zdh (z7u (pq:=fun _ _=>False) (fun _ _ h=>h.elim) l j d b h)
end
section
variable {E:Env}
theorem YD {K K':Rho->List Blk->Prop} (d:∀ρ L,K ρ L->K' ρ L):∀{l:List zq} {ρ:Rho} {L:List Blk},Wp E l ρ L K->Wp E l ρ L K'
 | [],ρ,L,h=>d _ _ h
 | o::r,ρ,L,h=>by
  simp only [Wp] at *
  split
  ·rename_i hg;rw [hg] at h;exact YM (fun v L'=>YD d) h
  ·rename_i t p hg
   rw [hg] at h
   simp only at h
   split
   ·rename_i b j;rw [j] at h
    exact ⟨fun m=>YM (fun v L'=>YD d) (h.1 m),fun m=>YD d (h.2 m)⟩
   ·rename_i j;rw [j] at h;exact YD d h
   ·split at h<;>simp_all
theorem YZ {K K':Rho->List Blk->Prop} (d:∀ρ L,K ρ L->K' ρ L):∀{l:List (zq × List Nat × Bool)} {i:Nat} {lg:List (Nat × List Nat × List Nat)} {ρ:Rho} {L:List Blk},yg E i lg l ρ L K->yg E i lg l ρ L K'
 | [],i,lg,ρ,L,h=>d _ _ h
 | (o,chk,keep)::r,i,lg,ρ,L,h=>by
  simp only [yg] at *
  split
  ·rename_i hg;rw [hg] at h;exact YM (fun v L' h=>⟨h.1,YZ d h.2⟩) h
  ·rename_i t p hg
   rw [hg] at h
   simp only at h
   split
   ·rename_i b j;rw [j] at h
    exact ⟨fun m=>YM (fun v L' h=>⟨h.1,YZ d h.2⟩) (h.1 m),fun m=>YZ d (h.2 m)⟩
   ·rename_i j;rw [j] at h;exact YZ d h
   ·split at h<;>simp_all
def zdG (f:Run):Prop:=∀(ρ:Rho) (L:List Blk) (K K':XE->Rho->List Blk->Prop),(∀e ρ L,K e ρ L->K' e ρ L)->f ρ L K->f ρ L K'
theorem z0I {f:Run} (d:zdG f) {K K':XE->Rho->List Blk->Prop} (b:∀e ρ L,K e ρ L->K' e ρ L) :
  ∀{n:Nat} {ρ:Rho} {L:List Blk},z7f f n ρ L K->z7f f n ρ L K'
 | 0,_,_,h=>h.elim
 | n+1,ρ,L,h=>d _ _ _ _ (fun e ρ L h=>by
   cases e with
   | normal=>exact z0I d b h
   | exit=>exact b _ _ _ h
   | goto=>exact b _ _ _ h
   | ret=>exact b _ _ _ h) h
theorem z0r {g:Nat->Option Run} (hg:∀l f,g l=some f->zdG f) {K K':XE->Rho->List Blk->Prop} (b:∀e ρ L,K e ρ L->K' e ρ L) :
  ∀{n:Nat} {e:XE} {ρ:Rho} {L:List Blk},Yz g n e ρ L K->Yz g n e ρ L K'
 | n,.normal,_,_,h=>by cases n<;>exact b _ _ _ h
 | n,.ret,_,_,h=>by cases n<;>exact b _ _ _ h
 | n,.exit id,_,_,h=>by cases n<;>exact b _ _ _ h
 | 0,.goto l,_,_,h=>by
  unfold Yz at *
  split at h
  ·exact b _ _ _ h
  ·exact h.elim
 | n+1,.goto l,_,_,h=>by
  unfold Yz at *
  split at h
  ·exact b _ _ _ h
  ·rename_i f d
   exact hg l f d _ _ _ _ (fun e ρ L h=>z0r hg b h) h
mutual
theorem zK:∀(c:XC) {ρ:Rho} {L:List Blk} {K K':XE->Rho->List Blk->Prop},(∀e ρ L,K e ρ L->K' e ρ L)->Zg E c ρ L K->Zg E c ρ L K'
 | .skip,_,_,_,_,d,h=>d _ _ _ h
 | .ops l,_,_,_,_,d,h=>YD (fun ρ L=>d _ ρ L) h
 | .draw l,_,_,_,_,d,h=>⟨h.1,YD (fun ρ L=>d _ ρ L) h.2⟩
 | .seq a b,_,_,_,_,d,h=>by
  simp only [Zg] at *
  exact zK a (fun e ρ L h=>by cases e<;>first | exact zK b d h | exact d _ _ _ h) h
 | .cond c t e,_,_,_,_,d,h=>by
  simp only [Zg] at *
  split
  ·rename_i j;rw [j] at h;exact ⟨fun p=>zK t d (h.1 p),fun p=>zK e d (h.2 p)⟩
  ·split at h<;>simp_all
 | .block id b,_,_,_,_,d,h=>by
  simp only [Zg] at *
  refine zK b (fun e ρ L h=>?_) h
  cases e with
  | exit i=>simp only [XE.inBlock] at *;split<;>simp_all
  | normal=>exact d _ _ _ h
  | goto l=>exact d _ _ _ h
  | ret=>exact d _ _ _ h
 | .loop b,_,_,_,_,d,h=>by
  simp only [Zg] at *
  obtain ⟨n,h⟩:=h
  exact ⟨n,z0I (f:=Zg E b) (fun _ _ _ _ d h=>zK b d h) d h⟩
 | .exit id,_,_,_,_,d,h=>d _ _ _ h
 | .scope b ls,_,_,_,_,d,h=>by
  simp only [Zg] at *
  obtain ⟨n,h⟩:=h
  exact ⟨n,zK b (fun e ρ L h=>z0r (fun _ _ s=>z0L ls s) d h) h⟩
 | .drawE l,_,_,_,_,d,h=>YD (fun ρ L=>d _ ρ L) h
 | .drawR l,_,_,_,_,d,h=>YZ (fun ρ L=>d _ ρ L) h
 | .bad,_,_,_,_,_,h=>h.elim
 | .rngF g N ps asg body,ρ,L,_,_,d,h=>by
  simp only [Zg] at *
  split at h
  ·rename_i j
   refine fun r0 h1 h2 w=>(h r0 h1 h2 w).mono fun r L' q=>?_
   obtain ⟨r1,u,v,m⟩:=q
   refine ⟨r1,u,v,?_⟩
   split at m<;>first
    | exact d _ _ _ m
    | exact m.elim
    | (rename_i A;rw [A];exact d _ _ _ m)
  ·exact h.elim
 | .label _,_,_,_,_,d,h=>d _ _ _ h
 | .goto l,_,_,_,_,d,h=>d _ _ _ h
 | .ret,_,_,_,_,d,h=>d _ _ _ h
theorem z0L:∀(b:z2j) {l:Nat} {f:Run},Wq E b l=some f->zdG f
 | .nil,_,_,h=>by cases h
 | .cons l' c r,l,f,h=>by
  simp only [Wq] at h
  split at h
  ·simp only [sij] at h;subst h;exact fun _ _ _ _ d h=>zK c d h
  ·exact z0L r h
end
def zeb (M:Rho->List Blk->Prop):XE->Rho->List Blk->Prop
 | .normal,ρ,L=>M ρ L
 | _,_,_=>False
theorem z9z {b:XC} {ρ:Rho} {L:List Blk} {K:XE->Rho->List Blk->Prop} (I:Nat->Rho->List Blk->Prop) {n:Nat} (l:I n ρ L)
  (hs:∀n ρ L,I n ρ L->Zg E b ρ L fun e ρ' L'=>match e with
   | .normal=>∃m,m<n/\I m ρ' L'
   | e=>K e ρ' L'):Zg E (.loop b) ρ L K:=by
 simp only [Zg]
 have key:∀n m ρ L,m<=n->I m ρ L->z7f (Zg E b) (n+1) ρ L K:=by
  intro n
  induction n with
  | zero=>
   intro m ρ L p h
   refine zK b (fun e ρ' L' d=>?_) (hs m ρ L h)
   cases e with
   | normal=>obtain ⟨k,q,_⟩:=d;omega
   | exit=>exact d
   | goto=>exact d
   | ret=>exact d
  | succ n j=>
   intro m ρ L p h
   refine zK b (fun e ρ' L' d=>?_) (hs m ρ L h)
   cases e with
   | normal=>obtain ⟨k,q,h2⟩:=d;exact j k ρ' L' od h2
   | exit=>exact d
   | goto=>exact d
   | ret=>exact d
 exact ⟨n+1,key n n ρ L (Nat.le_refl _) l⟩
theorem Yr {f:FuncId} {args args':List IV} {L:List Blk} {K:IV->List Blk->Prop} {r:IV} (hc:zJ (conv L fuel zF) args=some args') (h:zD E f args' r) (d:yV r=true) (j:conv [] fuel (ZR L.length) r=some r)
  (l:K r L):vJ E f args L K:=
 .inl ⟨true,args',hc,h.mono fun b L1 ⟨h1,h2⟩=>by
  subst h1;subst h2
  exact ⟨fun _=>⟨d,rfl⟩,b,[],j,rfl,by simpa using l⟩⟩
theorem z9C {f:FuncId} {args:List IV} {L:List Blk} {K:IV->List Blk->Prop} {r:IV} (h:ze1 E f args r) (b:K r L):vJ E f args L K:=.inr (.inl ⟨r,h,b⟩)
theorem WC {f : FuncId} {fn : Func} {F : XFn} {args : List IV} {r : IV} (B : E.P.funcs[f]? = some fn) (G : wo E.P fn = some F) (p : fn.name ≠ "runtime.NumGoroutine")
  (d:args.length≤fn.ntmps) (h:Zg E.noPan F.body (entry args) [] fun e ρ L'=>(e=.ret∨e=.normal)∧Zq E.noPan F.results ρ L' fun D=>conv L' fuel zF D=some r):zD E f args r:=by
 refine zaY B G p d (zK _ (fun e ρ L' ⟨h1,h2⟩=>⟨h1,?_⟩) h)
 have m:Yn 0 []=zF:=by funext s;simp [Yn,pos,zF]
 have key:∀(rs:List z2p) (K K':List IV→Prop),(∀v,K v→K' v)→WL E.noPan ρ L' rs K→WL E.noPan ρ L' rs K':=by
  intro rs
  induction rs with
  | nil=>intro K K' q h;exact q _ h
  | cons x l A=>
   intro K K' q h
   simp only [WL] at *
   have h1:∀(Q Q':IV→Prop),(∀v,Q v→Q' v)→z3B E.noPan ρ L' x Q→z3B E.noPan ρ L' x Q':=by
    intro Q Q' u w
    cases x with
    | tmp t=>exact u _ w
    | cell1 a=>exact YM (E:=E.noPan) (fun v _ j=>u v j) (by simpa only [z3B] using w)
    | cellN a n=>exact YM (E:=E.noPan) (fun v _ j=>u v j) (by simpa only [z3B] using w)
   exact h1 _ _ (fun v j=>A _ _ (fun vs b=>q _ b) j) h
 refine key _ _ _ (fun vs b=>?_) h2
 exact ⟨[],.nil,by simp,r,[],by simpa only [lln,m] using b,rfl,rfl,rfl⟩
end
section
variable {E:Env} {ρ:Rho} {L:List Blk} {KX:XE->Rho->List Blk->Prop} {KR:Rho->List Blk->Prop} {KV:IV->List Blk->Prop}
theorem nr {d:Sort _} {a b:d} (h:a=b):a=b:=h
def z8V (e:Opd->IV):Option Opd->Option Opd
 | none=>none
 | some x=>some (.c (e x))
def z4f (e:Opd->IV):List Opd->List Opd
 | []=>[]
 | x::r=>.c (e x)::z4f e r
def zdb (e:Opd->IV):List (Nat × Nat × Opd)->List (Nat × Nat × Opd)
 | []=>[]
 | (a,b,x)::r=>(a,b,.c (e x))::zdb e r
def zd8 (e:Opd->IV):List (Nat × Opd)->List (Nat × Opd)
 | []=>[]
 | (a,x)::r=>(a,.c (e x))::zd8 e r
def XO.sub (e:Opd->IV):XO->XO
 | .mov v_x=>.mov (.c (e v_x))
 | .pick v_c v_a v_b=>.pick (.c (e v_c)) (.c (e v_a)) (.c (e v_b))
 | .alloc v_zero=>.alloc v_zero
 | .box v_x=>.box (.c (e v_x))
 | .build v_zero v_parts=>.build v_zero (zdb e v_parts)
 | .bslice v_sz v_zero v_len v_parts=>.bslice v_sz v_zero v_len (zd8 e v_parts)
 | .load1 v_a=>.load1 (.c (e v_a))
 | .loadN v_n v_a=>.loadN v_n (.c (e v_a))
 | .store v_n v_a v_x=>.store v_n (.c (e v_a)) (.c (e v_x))
 | .nilck v_x=>.nilck (.c (e v_x))
 | .bin v_op v_x v_y=>.bin v_op (.c (e v_x)) (.c (e v_y))
 | .eqB v_neg v_x v_y=>.eqB v_neg (.c (e v_x)) (.c (e v_y))
 | .un v_op v_x=>.un v_op (.c (e v_x))
 | .cvInt v_k v_x=>.cvInt v_k (.c (e v_x))
 | .cvIntStr v_x=>.cvIntStr (.c (e v_x))
 | .fldA v_off v_x=>.fldA v_off (.c (e v_x))
 | .idxS v_n v_x v_i=>.idxS v_n (.c (e v_x)) (.c (e v_i))
 | .idxA v_n v_sz v_x v_i=>.idxA v_n v_sz (.c (e v_x)) (.c (e v_i))
 | .idx v_x v_i=>.idx (.c (e v_x)) (.c (e v_i))
 | .slice v_n v_x v_lo v_hi=>.slice v_n (.c (e v_x)) (z8V e v_lo) (z8V e v_hi)
 | .sliceS v_x v_lo v_hi=>.sliceS (.c (e v_x)) (z8V e v_lo) (z8V e v_hi)
 | .mkfn v_f v_first v_cap=>.mkfn v_f (z4f e v_first) (z4f e v_cap)
 | .len v_x=>.len (.c (e v_x))
 | .lenS v_x=>.lenS (.c (e v_x))
 | .append v_sz v_bytes v_s v_x=>.append v_sz v_bytes (.c (e v_s)) (.c (e v_x))
 | .max2 v_x v_y=>.max2 (.c (e v_x)) (.c (e v_y))
 | .call v_f v_args=>.call (.c (e v_f)) (z4f e v_args)
 | .ext v_t v_i=>.ext (.c (e v_t)) v_i
 | .pcall v_f v_args=>.pcall (.c (e v_f)) (z4f e v_args)
 | .isNil v_k v_n v_x=>.isNil v_k v_n (.c (e v_x))
 | .ex v_k v_xs=>.ex v_k (z4f e v_xs)
def cev:Opd->IV:=Opd.ev fun _=>.und
@[go_sem] theorem zje {e:Opd->IV} {v_x:Opd}:XO.sub e (XO.mov v_x)=.mov (.c (e v_x)):=nr rfl
@[go_sem] theorem zgV {e:Opd->IV} {v_c v_a v_b:Opd}:XO.sub e (XO.pick v_c v_a v_b)=.pick (.c (e v_c)) (.c (e v_a)) (.c (e v_b)):=nr rfl
@[go_sem] theorem zfJ {e:Opd->IV} {v_zero:List IV}:XO.sub e (XO.alloc v_zero)=.alloc v_zero:=nr rfl
@[go_sem] theorem ziJ {e:Opd->IV} {v_x:Opd}:XO.sub e (XO.box v_x)=.box (.c (e v_x)):=nr rfl
@[go_sem] theorem zg8 {e:Opd->IV} {v_zero:List IV} {v_parts:List (Nat × Nat × Opd)}:XO.sub e (XO.build v_zero v_parts)=.build v_zero (zdb e v_parts):=nr rfl
@[go_sem] theorem zfc {e:Opd->IV} {v_sz:Nat} {v_zero:List IV} {v_len:Nat} {v_parts:List (Nat × Opd)}:XO.sub e (XO.bslice v_sz v_zero v_len v_parts)=.bslice v_sz v_zero v_len (zd8 e v_parts):=nr rfl
@[go_sem] theorem zgA {e:Opd->IV} {v_a:Opd}:XO.sub e (XO.load1 v_a)=.load1 (.c (e v_a)):=nr rfl
@[go_sem] theorem zfx {e:Opd->IV} {v_n:Nat} {v_a:Opd}:XO.sub e (XO.loadN v_n v_a)=.loadN v_n (.c (e v_a)):=nr rfl
@[go_sem] theorem zgo {e:Opd->IV} {v_n:Nat} {v_a v_x:Opd}:XO.sub e (XO.store v_n v_a v_x)=.store v_n (.c (e v_a)) (.c (e v_x)):=nr rfl
@[go_sem] theorem zfn {e:Opd->IV} {v_x:Opd}:XO.sub e (XO.nilck v_x)=.nilck (.c (e v_x)):=nr rfl
@[go_sem] theorem zis {e:Opd->IV} {v_op:BinOp} {v_x v_y:Opd}:XO.sub e (XO.bin v_op v_x v_y)=.bin v_op (.c (e v_x)) (.c (e v_y)):=nr rfl
@[go_sem] theorem zjd {e:Opd->IV} {v_neg:Bool} {v_x v_y:Opd}:XO.sub e (XO.eqB v_neg v_x v_y)=.eqB v_neg (.c (e v_x)) (.c (e v_y)):=nr rfl
@[go_sem] theorem zlS {e:Opd->IV} {v_op:UnOp} {v_x:Opd}:XO.sub e (XO.un v_op v_x)=.un v_op (.c (e v_x)):=nr rfl
@[go_sem] theorem zg3 {e:Opd->IV} {v_k:IntKind} {v_x:Opd}:XO.sub e (XO.cvInt v_k v_x)=.cvInt v_k (.c (e v_x)):=nr rfl
@[go_sem] theorem zcX {e:Opd->IV} {v_x:Opd}:XO.sub e (XO.cvIntStr v_x)=.cvIntStr (.c (e v_x)):=nr rfl
@[go_sem] theorem zh5 {e:Opd->IV} {v_off:Nat} {v_x:Opd}:XO.sub e (XO.fldA v_off v_x)=.fldA v_off (.c (e v_x)):=nr rfl
@[go_sem] theorem zgT {e:Opd->IV} {v_n:Nat} {v_x v_i:Opd}:XO.sub e (XO.idxS v_n v_x v_i)=.idxS v_n (.c (e v_x)) (.c (e v_i)):=nr rfl
@[go_sem] theorem zhs {e:Opd->IV} {v_n v_sz:Nat} {v_x v_i:Opd}:XO.sub e (XO.idxA v_n v_sz v_x v_i)=.idxA v_n v_sz (.c (e v_x)) (.c (e v_i)):=nr rfl
@[go_sem] theorem zj4 {e:Opd->IV} {v_x v_i:Opd}:XO.sub e (XO.idx v_x v_i)=.idx (.c (e v_x)) (.c (e v_i)):=nr rfl
@[go_sem] theorem zfp {e:Opd->IV} {v_n:Nat} {v_x:Opd} {v_lo v_hi:Option Opd}:XO.sub e (XO.slice v_n v_x v_lo v_hi)=.slice v_n (.c (e v_x)) (z8V e v_lo) (z8V e v_hi):=nr rfl
@[go_sem] theorem zf1 {e:Opd->IV} {v_x:Opd} {v_lo v_hi:Option Opd}:XO.sub e (XO.sliceS v_x v_lo v_hi)=.sliceS (.c (e v_x)) (z8V e v_lo) (z8V e v_hi):=nr rfl
@[go_sem] theorem zhp {e:Opd->IV} {v_f:Fn} {v_first v_cap:List Opd}:XO.sub e (XO.mkfn v_f v_first v_cap)=.mkfn v_f (z4f e v_first) (z4f e v_cap):=nr rfl
@[go_sem] theorem zj7 {e:Opd->IV} {v_x:Opd}:XO.sub e (XO.len v_x)=.len (.c (e v_x)):=nr rfl
@[go_sem] theorem zhO {e:Opd->IV} {v_x:Opd}:XO.sub e (XO.lenS v_x)=.lenS (.c (e v_x)):=nr rfl
@[go_sem] theorem zeP {e:Opd->IV} {v_sz v_bytes:Nat} {v_s v_x:Opd}:XO.sub e (XO.append v_sz v_bytes v_s v_x)=.append v_sz v_bytes (.c (e v_s)) (.c (e v_x)):=nr rfl
@[go_sem] theorem zhB {e:Opd->IV} {v_x v_y:Opd}:XO.sub e (XO.max2 v_x v_y)=.max2 (.c (e v_x)) (.c (e v_y)):=nr rfl
@[go_sem] theorem zgO {e:Opd->IV} {v_f:Opd} {v_args:List Opd}:XO.sub e (XO.call v_f v_args)=.call (.c (e v_f)) (z4f e v_args):=nr rfl
@[go_sem] theorem ziG {e:Opd->IV} {v_t:Opd} {v_i:Nat}:XO.sub e (XO.ext v_t v_i)=.ext (.c (e v_t)) v_i:=nr rfl
@[go_sem] theorem zfX {e:Opd->IV} {v_f:Opd} {v_args:List Opd}:XO.sub e (XO.pcall v_f v_args)=.pcall (.c (e v_f)) (z4f e v_args):=nr rfl
@[go_sem] theorem zfk {e:Opd->IV} {v_k:Nat} {v_n:Bool} {v_x:Opd}:XO.sub e (XO.isNil v_k v_n v_x)=.isNil v_k v_n (.c (e v_x)):=nr rfl
@[go_sem] theorem zkQ {e:Opd->IV} {v_k:XX} {v_xs:List Opd}:XO.sub e (XO.ex v_k v_xs)=.ex v_k (z4f e v_xs):=nr rfl
@[go_sem] theorem Z9 {v:IV}:cev (.c v)=v:=nr rfl
theorem VH {e:Opd->IV}:∀{l:List Opd},(z4f e l).map cev=l.map e
 | []=>rfl
 | x::r=>by simp only [z4f,List.map_cons,Z9,VH]
theorem z6t {e:Opd->IV}:∀{l:List (Nat × Nat × Opd)},(zdb e l).map (fun p=>(p.1,p.2.1,cev p.2.2))=l.map fun p=>(p.1,p.2.1,e p.2.2)
 | []=>rfl
 | (a,b,x)::r=>by simp only [zdb,List.map_cons,Z9,z6t]
theorem z6e {e:Opd->IV}:∀{l:List (Nat × Opd)},(zd8 e l).map (fun p=>(p.1,cev p.2))=l.map fun p=>(p.1,e p.2)
 | []=>rfl
 | (a,x)::r=>by simp only [zd8,List.map_cons,Z9,z6e]
theorem zbH {e:Opd->IV} {x:Option Opd}:(z8V e x).map cev=x.map e:=by cases x<;>rfl
theorem z0a {E:Env} {o:XO} {e:Opd->IV} {L:List Blk} {K:IV->List Blk->Prop}:xop E o e L K=xop E (o.sub e) cev L K:=by
 cases o<;>first | rfl | simp only [XO.sub,xop,Z9,VH,z6t,z6e,zbH]
def zf4 (E:Env) (b:XC) (K:XE->Rho->List Blk->Prop):XE->Rho->List Blk->Prop
 | .normal,ρ,L=>Zg E b ρ L K
 | e,ρ,L=>K e ρ L
def same {α:Sort _} (a:α):α:=a
@[go_sem] theorem same_eq {b:Sort _} {a:b}:same a=a:=nr rfl
@[congr] theorem zf2 {c:XC} {ρ':Rho} {L':List Blk} (h:same ρ=ρ') (hL:same L=L'):Zg E c ρ L KX=Zg E c ρ' L' KX:=by rw [<-h,<-hL];rfl
@[congr] theorem zeT {l:List zq} {ρ':Rho} {L':List Blk} (h:same ρ=ρ') (hL:same L=L'):Wp E l ρ L KR=Wp E l ρ' L' KR:=by rw [<-h,<-hL];rfl
@[congr] theorem zgB {o o':XO} {e:Opd->IV} {L':List Blk} (ho:same o=o') (hL:same L=L'):xop E o e L KV=xop E o' e L' KV:=by rw [<-ho,<-hL];rfl
@[congr] theorem zeG {f:FuncId} {as as':List IV} {L':List Blk} (ho:same as=as') (hL:same L=L'):vJ E f as L KV=vJ E f as' L' KV:=by rw [<-ho,<-hL];rfl
@[go_sem ↓] theorem zkA:Zg E .skip ρ L KX=KX .normal ρ L:=nr rfl
@[go_sem ↓] theorem zmR {l:List zq}:Zg E (.ops l) ρ L KX=Wp E l ρ L fun ρ' L'=>KX .normal ρ' L':=nr rfl
@[go_sem ↓] theorem zjV {l:List zq}:Zg E (.draw l) ρ L KX=(l.all (fun o=>o.op.quiet)=true/\Wp E l ρ L fun ρ' L'=>KX .normal ρ' L'):=nr rfl
@[go_sem ↓] theorem ziu {l:List zq}:Zg E (.drawE l) ρ L KX=Wp E l ρ L fun ρ' L'=>KX .normal ρ' L':=nr rfl
theorem zet {b:XC}:(fun e ρ' L'=>match e with
  | .normal=>Zg E b ρ' L' KX
  | e=>KX e ρ' L')=zf4 E b KX:=by
 funext e ρ L;cases e<;>rfl
@[go_sem ↓] theorem znx {a b:XC}:Zg E (.seq a b) ρ L KX=Zg E a ρ L (zf4 E b KX):=by rw [<-zet];rfl
@[go_sem ↓] theorem zia {b:XC}:zf4 E b KX .normal ρ L=Zg E b ρ L KX:=nr rfl
@[go_sem ↓] theorem ziO {b:XC}:zf4 E b KX .ret ρ L=KX .ret ρ L:=nr rfl
@[go_sem ↓] theorem zhT {b:XC} {l:Nat}:zf4 E b KX (.goto l) ρ L=KX (.goto l) ρ L:=nr rfl
@[go_sem ↓] theorem zhS {b:XC} {id:Nat}:zf4 E b KX (.exit id) ρ L=KX (.exit id) ρ L:=nr rfl
@[go_sem ↓] theorem zix {id:Nat} {b:XC}:Zg E (.block id b) ρ L KX=Zg E b ρ L (XE.inBlock id KX):=nr rfl
@[go_sem ↓] theorem s_exit {id:Nat}:Zg E (.exit id) ρ L KX=KX (.exit id) ρ L:=nr rfl
@[go_sem ↓] theorem zi8 {id:Nat}:Zg E (.label id) ρ L KX=KX .normal ρ L:=nr rfl
@[go_sem ↓] theorem zkP {id:Nat}:Zg E (.goto id) ρ L KX=KX (.goto id) ρ L:=nr rfl
@[go_sem ↓] theorem zmP:Zg E .ret ρ L KX=KX .ret ρ L:=nr rfl
@[go_sem ↓] theorem ziW {c:Opd} {t e:XC} (h:c.ev ρ=.bool true):Zg E (.cond c t e) ρ L KX=Zg E t ρ L KX:=by
 simp [Zg,h]
@[go_sem ↓] theorem zi1 {c:Opd} {t e:XC} (h:c.ev ρ=.bool false):Zg E (.cond c t e) ρ L KX=Zg E e ρ L KX:=by
 simp [Zg,h]
theorem s_cond {c:Opd} {t e:XC} {b:Bool} (h:c.ev ρ=.bool b) (j:b=true->Zg E t ρ L KX) (d:b=false->Zg E e ρ L KX):Zg E (.cond c t e) ρ L KX:=by
 simp only [Zg,h];exact ⟨j,d⟩
@[go_sem ↓] theorem zle {id:Nat}:XE.inBlock id KX .normal ρ L=KX .normal ρ L:=nr rfl
@[go_sem ↓] theorem zlD {id:Nat}:XE.inBlock id KX .ret ρ L=KX .ret ρ L:=nr rfl
@[go_sem ↓] theorem zlM {id l:Nat}:XE.inBlock id KX (.goto l) ρ L=KX (.goto l) ρ L:=nr rfl
@[go_sem ↓] theorem zk5 {id:Nat}:XE.inBlock id KX (.exit id) ρ L=KX .normal ρ L:=by simp [XE.inBlock]
@[go_sem ↓] theorem zlY {id i:Nat} (h:¬i=id):XE.inBlock id KX (.exit i) ρ L=KX (.exit i) ρ L:=by simp [XE.inBlock,h]
@[go_sem ↓] theorem zni:Wp E [] ρ L KR=KR ρ L:=nr rfl
@[go_sem ↓] theorem zkq {d:Option Nat} {o:XO} {r:List zq}:Wp E (⟨d,o,none⟩::r) ρ L KR=xop E (o.sub (Opd.ev ρ)) cev L fun v L'=>Wp E r (put ρ d v) L' KR:=by
 simp only [Wp];exact z0a
@[go_sem ↓] theorem zny {d:Option Nat} {o:XO} {r:List zq} {t:Nat} {w:Bool} (h:ρ t=.bool w) :
  Wp E (⟨d,o,some (t,w)⟩::r) ρ L KR=xop E (o.sub (Opd.ev ρ)) cev L fun v L'=>Wp E r (put ρ d v) L' KR:=by
 rw [<-z0a];simp [Wp,h]
@[go_sem ↓] theorem zi2 {d:Option Nat} {o:XO} {r:List zq} {t:Nat} {w:Bool} (h:ρ t=.bool (!w)) :
  Wp E (⟨d,o,some (t,w)⟩::r) ρ L KR=Wp E r (put ρ d .und) L KR:=by
 cases w<;>simp [Wp,h]
@[go_sem ↓] theorem zkU {d:Option Nat} {o:XO} {r:List zq} {t:Nat} {w:Bool} (h:ρ t=.und) :
  Wp E (⟨d,o,some (t,w)⟩::r) ρ L KR=Wp E r (put ρ d .und) L KR:=by
 simp [Wp,h]
@[go_sem] theorem znJ {n:Nat}:Opd.ev ρ (.t n)=ρ n:=nr rfl
@[go_sem] theorem znL {v:IV}:Opd.ev ρ (.c v)=v:=nr rfl
@[go_sem] theorem znQ {n:Nat}:Opd.ev ρ (.f n)=.fn (.func n) [] []:=nr rfl
@[go_sem] theorem znI {n:Nat}:Opd.ev ρ (.g n)=.raw (.pointer (some ⟨n,0,none⟩)):=nr rfl
@[go_sem] theorem zhv {e:Opd->IV}:z4f e []=[]:=nr rfl
@[go_sem] theorem zfH {e:Opd->IV} {x:Opd} {r:List Opd}:z4f e (x::r)=.c (e x)::z4f e r:=nr rfl
@[go_sem] theorem zhn {e:Opd->IV}:zdb e []=[]:=nr rfl
@[go_sem] theorem zfR {e:Opd->IV} {a b:Nat} {x:Opd} {r:List (Nat × Nat × Opd)}:zdb e ((a,b,x)::r)=(a,b,.c (e x))::zdb e r:=nr rfl
@[go_sem] theorem zh9 {e:Opd->IV}:zd8 e []=[]:=nr rfl
@[go_sem] theorem zgs {e:Opd->IV} {a:Nat} {x:Opd} {r:List (Nat × Opd)}:zd8 e ((a,x)::r)=(a,.c (e x))::zd8 e r:=nr rfl
@[go_sem] theorem zg2 {e:Opd->IV}:z8V e none=none:=nr rfl
@[go_sem] theorem zfP {e:Opd->IV} {x:Opd}:z8V e (some x)=some (.c (e x)):=nr rfl
@[go_sem] theorem zj3 {d n:Nat} {v:IV}:put ρ (some d) v n=if n=d then v else ρ n:=nr rfl
@[go_sem] theorem zh7 {v:IV}:put ρ none v=ρ:=nr rfl
@[go_sem] theorem znp {v:IV}:xop E (.mov (.c v)) cev L KV=KV v L:=nr rfl
@[go_sem] theorem ziy {a b:IV}:xop E (.pick (.c (.bool true)) (.c a) (.c b)) cev L KV=KV a L:=nr rfl
@[go_sem] theorem zjg {a b:IV}:xop E (.pick (.c (.bool false)) (.c a) (.c b)) cev L KV=KV b L:=nr rfl
@[go_sem] theorem zhW {z:List IV}:xop E (.alloc z) cev L KV=KV (.ptr L.length 0 0) (L++[.cells z.length [z]]):=nr rfl
@[go_sem] theorem znt {x:IV}:xop E (.box (.c x)) cev L KV=KV (.ptr L.length 0 0) (L++[.cells (cellsOf x).length [cellsOf x]]):=nr rfl
@[go_sem] theorem zhx {s r o:Nat}:xop E (.nilck (.c (.ptr s r o))) cev L KV=KV (.ptr s r o) L:=nr rfl
@[go_sem] theorem zh6 {rows:List (List IV)} {r o:Nat}:xop E (.nilck (.c (.iptr rows r o))) cev L KV=KV (.iptr rows r o) L:=nr rfl
@[go_sem] theorem zhC {f:FuncId} {a b:List IV}:xop E (.nilck (.c (.fn (.func f) a b))) cev L KV=KV (.fn (.func f) a b) L:=nr rfl
@[go_sem] theorem znn {k:IntKind} {a b:Int}:xop E (.bin .add (.c (.int k a)) (.c (.int k b))) cev L KV=KV (.int k (k.wrap (a+b))) L:=by simp only [xop,VM,Z9,true_and]
@[go_sem] theorem znr {k:IntKind} {a b:Int}:xop E (.bin .sub (.c (.int k a)) (.c (.int k b))) cev L KV=KV (.int k (k.wrap (a - b))) L:=by simp only [xop,VM,Z9,true_and]
@[go_sem] theorem znd {k:IntKind} {a b:Int}:xop E (.bin .mul (.c (.int k a)) (.c (.int k b))) cev L KV=KV (.int k (k.wrap (a*b))) L:=by simp only [xop,VM,Z9,true_and]
@[go_sem] theorem zmY {k:IntKind} {a b:Int}:xop E (.bin .quo (.c (.int k a)) (.c (.int k b))) cev L KV=(b≠0/\KV (.int k (k.wrap (a.tdiv b))) L):=by simp only [xop,VM,Z9,true_and]
@[go_sem] theorem zmO {k:IntKind} {a b:Int}:xop E (.bin .rem (.c (.int k a)) (.c (.int k b))) cev L KV=(b≠0/\KV (.int k (a.tmod b)) L):=by simp only [xop,VM,Z9,true_and]
@[go_sem] theorem zmG {k:IntKind} {a b:Int}:xop E (.bin .eql (.c (.int k a)) (.c (.int k b))) cev L KV=KV (.bool (decide (a=b))) L:=by simp only [xop,VM,Z9,true_and]
@[go_sem] theorem znw {k:IntKind} {a b:Int}:xop E (.bin .neq (.c (.int k a)) (.c (.int k b))) cev L KV=KV (.bool (!decide (a=b))) L:=by simp only [xop,VM,Z9,true_and]
@[go_sem] theorem zn6 {k:IntKind} {a b:Int}:xop E (.bin .lss (.c (.int k a)) (.c (.int k b))) cev L KV=KV (.bool (decide (a<b))) L:=by simp only [xop,VM,Z9,true_and]
@[go_sem] theorem zno {k:IntKind} {a b:Int}:xop E (.bin .leq (.c (.int k a)) (.c (.int k b))) cev L KV=KV (.bool (decide (a<=b))) L:=by simp only [xop,VM,Z9,true_and]
@[go_sem] theorem zmQ {k:IntKind} {a b:Int}:xop E (.bin .gtr (.c (.int k a)) (.c (.int k b))) cev L KV=KV (.bool (decide (b<a))) L:=by simp only [xop,VM,Z9,true_and]
@[go_sem] theorem zmL {k:IntKind} {a b:Int}:xop E (.bin .geq (.c (.int k a)) (.c (.int k b))) cev L KV=KV (.bool (decide (b<=a))) L:=by simp only [xop,VM,Z9,true_and]
@[go_sem] theorem zmK {a b:List UInt8}:xop E (.bin .add (.c (.str a)) (.c (.str b))) cev L KV=(a.length+b.length<=9223372036854775807/\KV (.str (a++b)) L):=nr rfl
@[go_sem] theorem zki {a b:List UInt8}:xop E (.bin .eql (.c (.str a)) (.c (.str b))) cev L KV=KV (.bool (decide (a=b))) L:=nr rfl
@[go_sem] theorem zk6 {a b:List UInt8}:xop E (.bin .neq (.c (.str a)) (.c (.str b))) cev L KV=KV (.bool (!decide (a=b))) L:=nr rfl
@[go_sem] theorem zkT {a b:List UInt8}:xop E (.bin .lss (.c (.str a)) (.c (.str b))) cev L KV=KV (.bool (Op.bytesLess a b)) L:=nr rfl
@[go_sem] theorem znc {n a b:Bool}:xop E (.eqB n (.c (.bool a)) (.c (.bool b))) cev L KV=KV (.bool (if n=true then !decide (a=b) else decide (a=b))) L:=nr rfl
@[go_sem] theorem zn8 {b:Bool}:xop E (.un .not (.c (.bool b))) cev L KV=KV (.bool (!b)) L:=nr rfl
@[go_sem] theorem znB {k:IntKind} {n:Int}:xop E (.un .neg (.c (.int k n))) cev L KV=KV (.int k (k.wrap (0 - n))) L:=nr rfl
@[go_sem] theorem zji {k b:IntKind} {n:Int}:xop E (.cvInt k (.c (.int b n))) cev L KV=KV (.int k (k.wrap n)) L:=nr rfl
@[go_sem] theorem zeX {b:IntKind} {n:Int}:xop E (.cvIntStr (.c (.int b n))) cev L KV=KV (.str (Utf8.encode n).data.toList) L:=nr rfl
@[go_sem] theorem ziT {off s r o:Nat}:xop E (.fldA off (.c (.ptr s r o))) cev L KV=KV (.ptr s r (o+off)) L:=nr rfl
@[go_sem] theorem zjm {off:Nat} {rows:List (List IV)} {r o:Nat}:xop E (.fldA off (.c (.iptr rows r o))) cev L KV=KV (.iptr rows r (o+off)) L:=nr rfl
@[go_sem] theorem zj9 {m:Nat} {rows:List (List IV)} {k:IntKind} {n:Int}:xop E (.idxS m (.c (.isl rows)) (.c (.int k n))) cev L KV=(Rows m rows/\0<=n/\n<rows.length/\KV (.iptr rows n.toNat 0) L):=nr rfl
@[go_sem] theorem zic {m s off len cap:Nat} {k:IntKind} {n:Int}:xop E (.idxS m (.c (.sl s off len cap)) (.c (.int k n))) cev L KV=(Yk L s=some m/\0<=n/\n<len/\KV (.ptr s (off+n.toNat) 0) L):=nr rfl
@[go_sem] theorem ziR {m sz s r o:Nat} {k:IntKind} {n:Int}:xop E (.idxA m sz (.c (.ptr s r o)) (.c (.int k n))) cev L KV=(0<=n/\n<m/\KV (.ptr s r (o+n.toNat*sz)) L):=nr rfl
@[go_sem] theorem zib {m sz:Nat} {rows:List (List IV)} {r o:Nat} {k:IntKind} {n:Int}:xop E (.idxA m sz (.c (.iptr rows r o)) (.c (.int k n))) cev L KV=(0<=n/\n<m/\KV (.iptr rows r (o+n.toNat*sz)) L):=nr rfl
@[go_sem] theorem znb {s:List UInt8} {k:IntKind} {n:Int}:xop E (.idx (.c (.str s)) (.c (.int k n))) cev L KV=(0<=n/\n<s.length/\KV (.int .u8 (s.getD n.toNat 0).toNat) L):=nr rfl
@[go_sem] theorem zgJ {rows:List (List IV)} {r o:Nat}:xop E (.load1 (.c (.iptr rows r o))) cev L KV=(r<rows.length/\o<(rows.getD r []).length/\KV ((rows.getD r []).getD o .und) L):=nr rfl
@[go_sem] theorem zhJ {n:Nat} {rows:List (List IV)} {r o:Nat}:xop E (.loadN n (.c (.iptr rows r o))) cev L KV=(r<rows.length/\o+n<=(rows.getD r []).length/\KV (.agg (((rows.getD r []).drop o).take n)) L):=nr rfl
@[go_sem] theorem zbm {n o:Nat} {cs:List IV} (h:E.gl n=some cs):xop E (.load1 (.c (.raw (.pointer (some ⟨n,o,none⟩))))) cev L KV=(o<cs.length/\KV (cs.getD o .und) L):=by
 simp [xop,Z9,y8,h]
@[go_sem] theorem zgW {m n o:Nat} {cs:List IV} (h:E.gl n=some cs):xop E (.loadN m (.c (.raw (.pointer (some ⟨n,o,none⟩))))) cev L KV=(o+m<=cs.length/\KV (.agg ((cs.drop o).take m)) L):=by
 simp [xop,Z9,y8,h]
@[go_sem] theorem zhM {n o:Nat}:xop E (.nilck (.c (.raw (.pointer (some ⟨n,o,none⟩))))) cev L KV=KV (.raw (.pointer (some ⟨n,o,none⟩))) L:=nr rfl
@[go_sem] theorem ziV {off n o:Nat}:xop E (.fldA off (.c (.raw (.pointer (some ⟨n,o,none⟩))))) cev L KV=KV (.raw (.pointer (some ⟨n,o+off,none⟩))) L:=nr rfl
@[go_sem] theorem ziD {m sz b o:Nat} {k:IntKind} {n:Int}:xop E (.idxA m sz (.c (.raw (.pointer (some ⟨b,o,none⟩)))) (.c (.int k n))) cev L KV=(0<=n/\n<m/\KV (.raw (.pointer (some ⟨b,o+n.toNat*sz,none⟩))) L):=nr rfl
def zdq (b:Option Blk) (K:Nat->List (List IV)->Prop):Prop:=
 match b with
 | some (.cells sz rows)=>K sz rows
 | some (.tcells _ sz rows)=>K sz rows
 | _=>False
def zeS (b:Option Blk) (K:(List (List IV)->Blk)->List (List IV)->Prop):Prop:=
 match b with
 | some (.cells sz rows)=>K (.cells sz) rows
 | some (.tcells ty sz rows)=>K (.tcells ty sz) rows
 | _=>False
@[congr] theorem zf9 {b b':Option Blk} {K:(List (List IV)->Blk)->List (List IV)->Prop} (h:same b=b'):zeS b K=zeS b' K:=by rw [<-h];rfl
@[go_sem] theorem zeO {sz:Nat} {rows:List (List IV)} {K:(List (List IV)->Blk)->List (List IV)->Prop}:zeS (some (.cells sz rows)) K=K (.cells sz) rows:=nr rfl
@[go_sem] theorem zes {ty sz:Nat} {rows:List (List IV)} {K:(List (List IV)->Blk)->List (List IV)->Prop}:zeS (some (.tcells ty sz rows)) K=K (.tcells ty sz) rows:=nr rfl
@[congr] theorem zf3 {b b':Option Blk} {K:Nat->List (List IV)->Prop} (h:same b=b'):zdq b K=zdq b' K:=by rw [<-h];rfl
@[go_sem] theorem zfV {sz:Nat} {rows:List (List IV)} {K:Nat->List (List IV)->Prop}:zdq (some (.cells sz rows)) K=K sz rows:=nr rfl
@[go_sem] theorem zeU {ty sz:Nat} {rows:List (List IV)} {K:Nat->List (List IV)->Prop}:zdq (some (.tcells ty sz rows)) K=K sz rows:=nr rfl
@[go_sem] theorem zh1 {s r o:Nat}:xop E (.load1 (.c (.ptr s r o))) cev L KV=zdq L[s]? fun _ rows=>r<rows.length/\o<(rows.getD r []).length/\KV ((rows.getD r []).getD o .und) L:=by
 simp only [xop,Z9,y8,zdq,eq_iff_iff]
 split<;>split<;>simp_all
@[go_sem] theorem zgQ {n s r o:Nat}:xop E (.loadN n (.c (.ptr s r o))) cev L KV=zdq L[s]? fun _ rows=>r<rows.length/\o+n<=(rows.getD r []).length/\KV (.agg (((rows.getD r []).drop o).take n)) L:=by
 simp only [xop,Z9,y8,zdq,eq_iff_iff]
 split<;>split<;>simp_all
@[go_sem] theorem zgG {n s r o:Nat} {x:IV}:xop E (.store n (.c (.ptr s r o)) (.c x)) cev L KV=zeS L[s]? fun mk rows=>
  r<rows.length/\o+n<=(rows.getD r []).length/\(cellsOf x).length=n/\(cellsOf x).all zG=true/\
    KV .und (L.set s (mk (rows.set r (splice (rows.getD r []) o (cellsOf x))))):=by
 simp only [xop,Z9,zeS,eq_iff_iff]
 split<;>split<;>simp_all
def z7b {α:Type} (o:Option α) (K:α->Prop):Prop:=
 match o with
 | some x=>K x
 | none=>False
@[congr] theorem zeV {α:Type} {o o':Option α} {K:α->Prop} (h:same o=o'):z7b o K=z7b o' K:=by rw [<-h];rfl
@[go_sem] theorem zfq {b:Type} {x:b} {K:b->Prop}:z7b (some x) K=K x:=nr rfl
@[congr] theorem zfB {k:XX} {vs vs':List IV} {g g':Nat} {L':List Blk} (hv:same vs=vs') (hg:same g=g') (hL:same L=L'):xex E k vs g L KV=xex E k vs' g' L' KV:=by rw [<-hv,<-hg,<-hL];rfl
@[go_sem] theorem znH {k:XX} {xs:List Opd}:xop E (.ex k xs) cev L KV=xex E k (xs.map cev) L.length L KV:=nr rfl
@[go_sem] theorem zi6 {g t:Nat} {v:IV}:xex E .panic [.iface t v] g L KV=E.pan (.iface t v) L:=nr rfl
@[go_sem] theorem zkW {g t:Nat} {v:IV}:xex E (.mkif t) [v] g L KV=KV (.iface t v) L:=nr rfl
@[go_sem] theorem zns {g t:Nat} {v:IV}:xex E (.tas t) [.iface t v] g L KV=KV (.tup [v,.bool true]) L:=by simp only [xex,if_pos]
@[go_sem] theorem zjX {g ty:Nat} {s:List UInt8}:xex E (.strB ty) [.str s] g L KV=(s.length<=9223372036854775807/\KV (.sl g 0 s.length s.length) (Z4 L g (.tcells ty 1 (zk s)))):=nr rfl
@[go_sem] theorem zls {g:Nat} {v:IV}:xex E .bStr [v] g L KV=z7b ((yG L v).bind (zJ byteOf)) fun s=>KV (.str s) L:=by
 simp only [xex,z7b,eq_iff_iff]
 split<;>split<;>simp_all
theorem zfZ {g:Nat} {neg:Bool} {ks:List Nat} {a b:List IV}:xex E (.eqA neg ks) [.agg a,.agg b] g L KV=z7b (yx ks a b) fun t=>KV (.bool (if neg then !t else t)) L:=by
 simp only [xex,z7b,eq_iff_iff]
 split<;>split<;>simp_all
theorem zg5 {g:Nat} {neg:Bool} {a b:IV}:xex E (.eqP neg) [a,b] g L KV=z7b (vI a b) fun t=>KV (.bool (if neg then !t else t)) L:=by
 simp only [xex,z7b,eq_iff_iff]
 split<;>split<;>simp_all
@[go_sem] theorem zli {g:Nat} {ks:List Nat} {a b:List IV}:xex E (.eqA false ks) [.agg a,.agg b] g L KV=z7b (yx ks a b) fun t=>KV (.bool t) L:=zfZ
@[go_sem] theorem zjL {g:Nat} {ks:List Nat} {a b:List IV}:xex E (.eqA true ks) [.agg a,.agg b] g L KV=z7b (yx ks a b) fun t=>KV (.bool (!t)) L:=zfZ
@[go_sem] theorem zl6 {g:Nat} {a b:IV}:xex E (.eqP false) [a,b] g L KV=z7b (vI a b) fun t=>KV (.bool t) L:=zg5
@[go_sem] theorem zmh {g:Nat} {a b:IV}:xex E (.eqP true) [a,b] g L KV=z7b (vI a b) fun t=>KV (.bool (!t)) L:=zg5
@[go_sem] theorem zgm:vI (.raw (.pointer none)) (.raw (.pointer none))=some true:=nr rfl
@[go_sem] theorem zh8 {s r o:Nat}:vI (.ptr s r o) (.raw (.pointer none))=some false:=nr rfl
@[go_sem] theorem zfd {s r o:Nat}:vI (.ptr s r o) (.ptr s r o)=some true:=by simp [vI]
@[go_sem] theorem znP {g:Nat} {k:FloatKind} {a b:Nat}:xex E (.ru .re) [.raw (.complex k a b)] g L KV=KV (.raw (.float k a)) L:=by
 simp only [xex,z4G,sij,exists_eq_left']
@[go_sem] theorem znF {g:Nat} {k:FloatKind} {a b:Nat}:xex E (.ru .im) [.raw (.complex k a b)] g L KV=KV (.raw (.float k b)) L:=by
 simp only [xex,z4G,sij,exists_eq_left']
@[go_sem] theorem zk9:xop E (.len (.c (.raw (.slice none 0 0)))) cev L KV=KV (.int .i64 0) L:=nr rfl
@[go_sem] theorem zjO {g ty b:Nat} {s x:IV}:xex E (.appT ty b) [s,x] g L KV=Yj ty b s x g L KV:=nr rfl
@[go_sem] theorem zlg {b:Bool}:cellsOf (.bool b)=[.bool b]:=nr rfl
@[go_sem] theorem zmT {k:IntKind} {n:Int}:cellsOf (.int k n)=[.int k n]:=nr rfl
@[go_sem] theorem zmW {s:List UInt8}:cellsOf (.str s)=[.str s]:=nr rfl
@[go_sem] theorem zn0 {s r o:Nat}:cellsOf (.ptr s r o)=[.ptr s r o]:=nr rfl
@[go_sem] theorem zmn {rows:List (List IV)} {r o:Nat}:cellsOf (.iptr rows r o)=[.iptr rows r o]:=nr rfl
@[go_sem] theorem zna {rows:List (List IV)}:cellsOf (.isl rows)=[.isl rows]:=nr rfl
@[go_sem] theorem znM {s o l c:Nat}:cellsOf (.sl s o l c)=[.sl s o l c]:=nr rfl
@[go_sem] theorem zne:cellsOf .nsl=[.nsl]:=nr rfl
@[go_sem] theorem zmU:cellsOf .esl=[.esl]:=nr rfl
@[go_sem] theorem znK {f:Fn} {a b:List IV}:cellsOf (.fn f a b)=[.fn f a b]:=nr rfl
@[go_sem] theorem zmC {v:Value}:cellsOf (.raw v)=[.raw v]:=nr rfl
@[go_sem] theorem zmH {cs:List IV}:cellsOf (.agg cs)=cs:=nr rfl
@[go_sem] theorem zms {b:Bool}:zG (.bool b)=true:=nr rfl
@[go_sem] theorem zn5 {k:IntKind} {n:Int}:zG (.int k n)=true:=nr rfl
@[go_sem] theorem znu {s:List UInt8}:zG (.str s)=true:=nr rfl
@[go_sem] theorem zn9 {s r o:Nat}:zG (.ptr s r o)=true:=nr rfl
@[go_sem] theorem zkZ {rows:List (List IV)} {r o:Nat}:zG (.iptr rows r o)=true:=nr rfl
@[go_sem] theorem zn3 {rows:List (List IV)}:zG (.isl rows)=true:=nr rfl
@[go_sem] theorem znE {s o l c:Nat}:zG (.sl s o l c)=true:=nr rfl
@[go_sem] theorem znq:zG .nsl=true:=nr rfl
@[go_sem] theorem zmN:zG .esl=true:=nr rfl
@[go_sem] theorem znO {f:Fn} {a b:List IV}:zG (.fn f a b)=true:=nr rfl
@[go_sem] theorem zfg {b:Type} {l xs:List b} {i:Nat}:splice l i xs=l.take i++xs++l.drop (i+xs.length):=nr rfl
@[go_sem] theorem zfa {s:List UInt8}:xop E (.sliceS (.c (.str s)) none none) cev L KV=KV (.str s) L:=by simp [xop,Z9,bnd]
@[go_sem] theorem zf7 {s:List UInt8} {k:IntKind} {h:Int}:xop E (.sliceS (.c (.str s)) none (some (.c (.int k h)))) cev L KV=(0<=h/\h.toNat<=s.length/\KV (.str (s.take h.toNat)) L):=by simp [xop,Z9,bnd]
@[go_sem] theorem zeY {s:List UInt8} {k:IntKind} {l:Int}:xop E (.sliceS (.c (.str s)) (some (.c (.int k l))) none) cev L KV=(0<=l/\l.toNat<=s.length/\KV (.str (s.drop l.toNat)) L):=by simp [xop,Z9,bnd]
@[go_sem] theorem zf8 {s:List UInt8} {k b:IntKind} {l h:Int}:xop E (.sliceS (.c (.str s)) (some (.c (.int k l))) (some (.c (.int b h)))) cev L KV =
  (0<=l/\0<=h/\l.toNat<=h.toNat/\h.toNat<=s.length/\KV (.str ((s.take h.toNat).drop l.toNat)) L):=by simp [xop,Z9,bnd]
@[go_sem] theorem zlT {s:List UInt8}:xop E (.lenS (.c (.str s))) cev L KV=KV (.int .i64 s.length) L:=nr rfl
@[go_sem] theorem zm7 {rows:List (List IV)}:xop E (.len (.c (.isl rows))) cev L KV=KV (.int .i64 rows.length) L:=nr rfl
@[go_sem] theorem zkE {s off len cap:Nat}:xop E (.len (.c (.sl s off len cap))) cev L KV=KV (.int .i64 len) L:=nr rfl
@[go_sem] theorem zlL:xop E (.len (.c .nsl)) cev L KV=KV (.int .i64 0) L:=nr rfl
@[go_sem] theorem zl3:xop E (.len (.c .esl)) cev L KV=KV (.int .i64 0) L:=nr rfl
@[go_sem] theorem zkM {k d:IntKind} {a b:Int}:xop E (.max2 (.c (.int k a)) (.c (.int d b))) cev L KV=KV (.int k (if b>a then b else a)) L:=nr rfl
@[go_sem] theorem zn2 {cs:List IV} {i:Nat}:xop E (.ext (.c (.tup cs)) i) cev L KV=(i<cs.length/\KV (cs.getD i .und) L):=nr rfl
@[go_sem] theorem zku {f:FuncId} {a b:List IV} {as:List Opd}:xop E (.call (.c (.fn (.func f) a b)) as) cev L KV=vJ E f (a++as.map cev++b) L KV:=nr rfl
@[go_sem] theorem zjD {f:Fn} {a b:List Opd}:xop E (.mkfn f a b) cev L KV=KV (.fn f (a.map cev) (b.map cev)) L:=nr rfl
@[go_sem] theorem zi4 {z:List IV} {ps:List (Nat × Nat × Opd)} {cs:List IV} (h:z0i z (ps.map fun p=>(p.1,p.2.1,cev p.2.2))=some cs):xop E (.build z ps) cev L KV=KV (.agg cs) L:=by
 simp only [xop,h]
theorem zY {f:FuncId} {a b:List IV} {as:List Opd} {args':List IV} {r:IV} (hc:zJ (conv L fuel Za) (a++as.map cev++b)=some args') (h:zD E f args' r) (j:∀m,conv [] fuel (ZR m) r=some r) (d:KV r L) :
  xop E (.pcall (.c (.fn (.func f) a b)) as) cev L KV:=.inl ⟨false,args',r,hc,h,(fun h=>by cases h),j,d⟩
theorem WS {f:FuncId} {a b:List IV} {as:List Opd} {args':List IV} {r:IV} (hc:zJ (conv L fuel zF) (a++as.map cev++b)=some args') (h:zD E f args' r) (j:yV r=true) (l:∀m,conv [] fuel (ZR m) r=some r) (d:KV r L) :
  xop E (.pcall (.c (.fn (.func f) a b)) as) cev L KV:=.inl ⟨true,args',r,hc,h,fun _=>j,l,d⟩
theorem Zp {f:FuncId} {a b:List IV} {as:List Opd} (r:IV) (hc:zJ (conv L fuel Za) (a++as.map cev++b)=none) (h:∀L',(∀i,i<L.length->L'[i]?=L[i]?)->XT E f (a++as.map cev++b) L' fun v L''=>v=r/\L''=L') (d:KV r L) :
  xop E (.pcall (.c (.fn (.func f) a b)) as) cev L KV:=.inr ⟨r,hc,h,d⟩
@[go_sem] theorem zmJ {s:Nat} {as:List Opd}:xop E (.call (.c (.yld s)) as) cev L KV=E.yl s (as.map cev) L KV:=nr rfl
@[go_sem] theorem zmr {n:Bool}:xop E (.isNil 0 n (.c .nsl)) cev L KV=KV (.bool (if n then !true else true)) L:=nr rfl
@[go_sem] theorem zjK {n:Bool} {rows:List (List IV)}:xop E (.isNil 0 n (.c (.isl rows))) cev L KV=(KV (.bool (if n then !false else false)) L/\(rows=[]->KV (.bool (if n then !true else true)) L)):=nr rfl
@[go_sem] theorem zm8 {n:Bool} {s o l c:Nat}:xop E (.isNil 0 n (.c (.sl s o l c))) cev L KV=(KV (.bool (if n then !false else false)) L/\(c=0->KV (.bool (if n then !true else true)) L)):=nr rfl
@[go_sem] theorem zmt {n:Bool}:xop E (.isNil 0 n (.c .esl)) cev L KV=(KV (.bool (if n then !true else true)) L/\KV (.bool (if n then !false else false)) L):=nr rfl
@[go_sem] theorem zmp {n:Bool} {t:TypeId} {v:IV}:xop E (.isNil 1 n (.c (.iface t v))) cev L KV=KV (.bool (if n then !false else false)) L:=nr rfl
@[go_sem] theorem zlm {n:Bool}:xop E (.isNil 1 n (.c (.raw .nilIface))) cev L KV=KV (.bool (if n then !true else true)) L:=nr rfl
@[go_sem] theorem zl7 {n:Bool} {f:Fn} {a b:List IV}:xop E (.isNil 2 n (.c (.fn f a b))) cev L KV=KV (.bool (if n then !false else false)) L:=nr rfl
@[go_sem] theorem zjl {m:Nat} {rows:List (List IV)}:xop E (.slice m (.c (.isl rows)) none none) cev L KV=(Rows m rows/\KV (.isl rows) L):=by simp [xop,Z9,bnd]
@[go_sem] theorem zim {m:Nat} {rows:List (List IV)} {k:IntKind} {h:Int}:xop E (.slice m (.c (.isl rows)) none (some (.c (.int k h)))) cev L KV=(Rows m rows/\0<=h/\h.toNat<=rows.length/\KV (.isl (rows.take h.toNat)) L):=by simp [xop,Z9,bnd]
@[go_sem] theorem zhZ {m:Nat} {rows:List (List IV)} {k:IntKind} {l:Int}:xop E (.slice m (.c (.isl rows)) (some (.c (.int k l))) none) cev L KV=(Rows m rows/\0<=l/\l.toNat<=rows.length/\KV (.isl (rows.drop l.toNat)) L):=by simp [xop,Z9,bnd]
@[go_sem] theorem ziI {m:Nat} {rows:List (List IV)} {k b:IntKind} {l h:Int}:xop E (.slice m (.c (.isl rows)) (some (.c (.int k l))) (some (.c (.int b h)))) cev L KV =
  (Rows m rows/\0<=l/\0<=h/\l.toNat<=h.toNat/\h.toNat<=rows.length/\KV (.isl ((rows.take h.toNat).drop l.toNat)) L):=by simp [xop,Z9,bnd]
end
section
variable {E:Env} {ρ:Rho} {L:List Blk} {KX:XE->Rho->List Blk->Prop}
def z6T (I:Nat->Rho->List Blk->Prop) (n:Nat) (K:XE->Rho->List Blk->Prop):XE->Rho->List Blk->Prop
 | .normal,ρ,L=>∃m,m<n/\I m ρ L
 | e,ρ,L=>K e ρ L
@[go_sem ↓] theorem zhu {I:Nat->Rho->List Blk->Prop} {n:Nat}:z6T I n KX .normal ρ L=∃m,m<n/\I m ρ L:=nr rfl
@[go_sem ↓] theorem zhN {I:Nat->Rho->List Blk->Prop} {n:Nat}:z6T I n KX .ret ρ L=KX .ret ρ L:=nr rfl
@[go_sem ↓] theorem zhz {I:Nat->Rho->List Blk->Prop} {n l:Nat}:z6T I n KX (.goto l) ρ L=KX (.goto l) ρ L:=nr rfl
@[go_sem ↓] theorem zhi {I:Nat->Rho->List Blk->Prop} {n l:Nat}:z6T I n KX (.exit l) ρ L=KX (.exit l) ρ L:=nr rfl
theorem zC {b:XC} (I:Nat->Rho->List Blk->Prop) {n:Nat} (d:I n ρ L) (hs:∀n ρ L,I n ρ L->Zg E b ρ L (z6T I n KX)):Zg E (.loop b) ρ L KX:=by
 refine z9z I d fun n ρ L h=>zK _ (fun e ρ' L' h=>?_) (hs n ρ L h)
 cases e<;>exact h
def z3z (l:Nat) (I:Nat->Rho->List Blk->Prop) (n:Nat) (K:XE->Rho->List Blk->Prop):XE->Rho->List Blk->Prop
 | .goto l',ρ,L=>(l'=l->∃m,m<n/\I m ρ L)/\(l'≠l->K (.goto l') ρ L)
 | e,ρ,L=>K e ρ L
@[go_sem ↓] theorem zgP {I:Nat->Rho->List Blk->Prop} {n l:Nat}:z3z l I n KX (.goto l) ρ L=∃m,m<n/\I m ρ L:=by simp [z3z]
@[go_sem ↓] theorem zhI {I:Nat->Rho->List Blk->Prop} {n l:Nat}:z3z l I n KX .ret ρ L=KX .ret ρ L:=nr rfl
@[go_sem ↓] theorem zhy {I:Nat->Rho->List Blk->Prop} {n l:Nat}:z3z l I n KX .normal ρ L=KX .normal ρ L:=nr rfl
@[go_sem ↓] theorem zhr {I:Nat->Rho->List Blk->Prop} {n l i:Nat}:z3z l I n KX (.exit i) ρ L=KX (.exit i) ρ L:=nr rfl
theorem z9x {b c:XC} {l:Nat} (I:Nat->Rho->List Blk->Prop) (N:Nat) (u:Zg E b ρ L (z3z l I N KX)) (hs:∀n ρ L,I n ρ L->Zg E c ρ L (z3z l I n KX)) :
  Zg E (.scope b (.cons l c .nil)) ρ L KX:=by
 simp only [Zg]
 have hg:Wq E (.cons l c .nil) l=some (Zg E c):=by simp [Wq]
 have q:∀d,d≠l->Wq E (.cons l c .nil) d=none:=fun d h=>by simp [Wq,h]
 have key:∀n,(∀m ρ L,m<n->I m ρ L->Yz (Wq E (.cons l c .nil)) n (.goto l) ρ L KX)/\(∀e ρ L,z3z l I n KX e ρ L->Yz (Wq E (.cons l c .nil)) n e ρ L KX):=by
  intro n
  induction n with
  | zero=>
   refine ⟨fun m ρ L h=>by omega,fun e ρ L h=>?_⟩
   cases e with
   | normal=>simp only [Yz];exact h
   | ret=>simp only [Yz];exact h
   | exit i=>simp only [Yz];exact h
   | goto d=>
    by_cases j:d=l
    ·subst j;obtain ⟨m,r,_⟩:=h.1 rfl;omega
    ·unfold Yz;rw [q d j];exact h.2 j
  | succ n s=>
   have h1:∀m ρ L,m<n+1->I m ρ L->Yz (Wq E (.cons l c .nil)) (n+1) (.goto l) ρ L KX:=by
    intro m ρ L r h
    unfold Yz
    rw [hg]
    refine zK c (fun e ρ' L' p=>s.2 e ρ' L' ?_) (hs m ρ L h)
    cases e with
    | goto d=>
     refine ⟨fun j=>?_,p.2⟩
     obtain ⟨k,v,h2⟩:=p.1 j
     exact ⟨k,od,h2⟩
    | normal=>exact p
    | ret=>exact p
    | exit i=>exact p
   refine ⟨h1,fun e ρ L h=>?_⟩
   cases e with
   | normal=>simp only [Yz];exact h
   | ret=>simp only [Yz];exact h
   | exit i=>simp only [Yz];exact h
   | goto d=>
    by_cases j:d=l
    ·subst j;obtain ⟨m,r,h2⟩:=h.1 rfl;exact h1 m ρ L r h2
    ·unfold Yz;rw [q d j];exact h.2 j
 exact ⟨N,zK b (fun e ρ L h=>(key N).2 e ρ L h) u⟩
theorem y7 {b:XC} (h:Zg E b ρ L (z6T (fun _ _ _=>False) 0 KX)):Zg E (.loop b) ρ L KX:=by
 refine zC (fun _ ρ' L'=>ρ'=ρ/\L'=L) (n:=0) ⟨rfl,rfl⟩ ?_
 rintro n _ _ ⟨rfl,rfl⟩
 refine zK _ (fun e ρ' L' h=>?_) h
 cases e with
 | normal=>obtain ⟨_,_,h⟩:=h;exact h.elim
 | exit=>exact h
 | goto=>exact h
 | ret=>exact h
theorem wrap64 {n:Int} (h1 : -9223372036854775808<=n) (h2:n<=9223372036854775807):IntKind.wrap .i64 n=n:=by
 simp only [IntKind.wrap];simp [IntKind.bits,IntKind.signed];omega
end
section
variable {E:Env} {ρ:Rho} {L:List Blk} {KX:XE->Rho->List Blk->Prop} {KR:Rho->List Blk->Prop}
def zd1:List Nat->Nat->Bool
 | [],_=>false
 | a::r,n=>if n=a then true else zd1 r n
def hav (W:List Nat) (vs:Rho) (ρ:Rho):Rho:=fun n=>if zd1 W n=true then vs n else ρ n
def act (ρ:Rho) (S:List Nat):Option (Nat × Bool)->Prop
 | none=>True
 | some (t,w)=>ρ t=.bool w/\zd1 S t=false
def zd6 (w b y:Bool):Bool:=if w then b&&y else b||y
@[go_sem] theorem zgK {n:Nat}:zd1 [] n=false:=nr rfl
@[go_sem] theorem zfy {a n:Nat} {r:List Nat}:zd1 (a::r) n=if n=a then true else zd1 r n:=nr rfl
@[go_sem] theorem zi5 {W:List Nat} {vs:Rho} {n:Nat}:hav W vs ρ n=if zd1 W n=true then vs n else ρ n:=nr rfl
@[go_sem] theorem zhd {S:List Nat}:act ρ S none=True:=nr rfl
@[go_sem] theorem zhE {S:List Nat} {t:Nat} {w:Bool}:act ρ S (some (t,w))=(ρ t=.bool w/\zd1 S t=false):=nr rfl
@[go_sem] theorem zkH {b y:Bool}:zd6 true b y=(b&&y):=nr rfl
@[go_sem] theorem zjF {b y:Bool}:zd6 false b y=(b||y):=nr rfl
end
section
variable {E:Env} {ρ:Rho} {L:List Blk}
def z1E (Q:Rho->List Blk->Prop):XE->Rho->List Blk->Prop
 | .normal,ρ,L=>Q ρ L
 | .ret,ρ,L=>Q ρ L
 | _,_,_=>False
@[go_sem ↓] theorem zgZ {Q:Rho->List Blk->Prop}:z1E Q .ret ρ L=Q ρ L:=nr rfl
@[go_sem ↓] theorem zdI {Q:Rho->List Blk->Prop}:z1E Q .normal ρ L=Q ρ L:=nr rfl
theorem yu {f : FuncId} {fn : Func} {t n : Nat} {c : XC} {args : List IV} {r : IV} (l : E.P.funcs[f]? = some fn) (j : wo E.P fn = some ⟨n, [.tmp t], c⟩) (d : fn.name ≠ "runtime.NumGoroutine")
  (b:args.length≤fn.ntmps) (h:Zg E.noPan c (entry args) [] (z1E fun ρ L'=>conv L' fuel zF (ρ t)=some r)):zD E f args r:=by
 refine WC l j d b (zK _ (fun e ρ L h=>?_) h)
 cases e with
 | normal=>exact ⟨Or.inr rfl,h⟩
 | ret=>exact ⟨Or.inl rfl,h⟩
 | exit=>exact h.elim
 | goto=>exact h.elim
theorem z9L {f : FuncId} {fn : Func} {t t' n : Nat} {c : XC} {args : List IV} {r d : IV} (l : E.P.funcs[f]? = some fn) (m : wo E.P fn = some ⟨n, [.tmp t, .tmp t'], c⟩) (j : fn.name ≠ "runtime.NumGoroutine")
  (b:args.length≤fn.ntmps) (h:Zg E.noPan c (entry args) [] (z1E fun ρ L'=>conv L' 11 zF (ρ t)=some r∧conv L' 11 zF (ρ t')=some d)):zD E f args (.tup [r,d]):=by
 refine WC l m j b (zK _ (fun e ρ L h=>?_) h)
 have key:conv L 11 zF (ρ t)=some r∧conv L 11 zF (ρ t')=some d→Zq E.noPan [.tmp t,.tmp t'] ρ L fun r0=>conv L fuel zF r0=some (.tup [r,d]):=by
  rintro ⟨h1,h2⟩
  show conv L 12 zF (.tup [ρ t,ρ t'])=_
  simp only [conv,zJ,h1,h2];rfl
 cases e with
 | normal=>exact ⟨Or.inr rfl,key h⟩
 | ret=>exact ⟨Or.inl rfl,key h⟩
 | exit=>exact h.elim
 | goto=>exact h.elim
end
def inN (i:Nat):List Nat->Bool
 | []=>false
 | a::r=>if i=a then true else inN i r
theorem zaG {i:Nat}:∀{l:List Nat},inN i l=true↔i∈l
 | []=>by simp [inN]
 | a::r=>by
  unfold inN
  by_cases h:i=a
  ·simp [h]
  ·rw [if_neg h,zaG];simp [h]
def zaT (a:Nat):List Nat->Prop
 | []=>True
 | b::l=>a≠b/\zaT a l
def sepL:List Nat->List Nat->Prop
 | [],_=>True
 | a::r,l=>zaT a l/\sepL r l
theorem z5Y {a:Nat}:∀{l:List Nat},zaT a l↔a∉l
 | []=>by simp [zaT]
 | b::l=>by simp [zaT,z5Y]
theorem z6Q {l:List Nat}:∀{r:List Nat},sepL r l↔∀i∈r,i∉l
 | []=>by simp [sepL]
 | a::r=>by simp [sepL,z5Y,z6Q]
theorem zfY {r1 d r2 b:List Nat}:Ap r1 d r2 b=(sepL d r2/\sepL d b/\sepL b r1):=by
 simp only [Ap,z6Q,eq_iff_iff]
 constructor
 ·rintro ⟨h1,h2⟩;exact ⟨fun i h=>(h1 i h).1,fun i h=>(h1 i h).2,fun i h=>(h2 i h).1⟩
 ·rintro ⟨h1,h2,j⟩;exact ⟨fun i h=>⟨h1 i h,h2 i h⟩,fun i h=>⟨j i h,fun l=>h2 i l h⟩⟩
theorem zbY {b r w:List Nat} {i:Nat} {r1 d:List Nat} {lg:List (Nat × List Nat × List Nat)}:z7J b r w ((i,r1,d)::lg)=((if inN i b=true then (sepL d r/\sepL d w/\sepL w r1) else True)/\z7J b r w lg):=by
 simp only [z7J,zfY,<-zaG]
 by_cases h:inN i b=true<;>simp [h]
theorem zcY {o : XO} {e : Opd → IV} {L : List Blk} : (o.sub e).rd cev L = o.rd e L := by
  cases o <;> first
    | rfl
    | (simp only [XO.sub, XO.rd, Z9, VH]; done)
    | (rename_i k xs
       cases k <;> first
         | rfl
         | (have h := congrArg (List.flatMap slS) (VH (e := e) (l := xs))
            simpa only [List.flatMap_map, XO.sub, XO.rd] using h)
         | (have h := congrArg (List.flatMap slM) (VH (e := e) (l := xs))
            simpa only [List.flatMap_map, XO.sub, XO.rd] using h))
theorem zdk {o:XO} {e:Opd->IV}:(o.sub e).wr cev=o.wr e:=by
 cases o<;>first | rfl | (rename_i k xs;cases k<;>first | rfl | (cases xs<;>rfl))
theorem z8v {o:XO} {e:Opd->IV} {L L':List Blk}:YR (o.sub e) L L'=YR o L L':=by
 cases o<;>first | rfl | (rename_i k xs;cases k<;>rfl)
theorem z6M {r w:List Nat}:∀{lg:List (Nat × List Nat × List Nat)},z7J [] r w lg
 | []=>trivial
 | (i,r1,w1)::lg=>⟨fun h=>by simp at h,z6M⟩
def YE (o:XO) (L L':List Blk):List Nat:=o.rd cev L++YR o L L'
def YT (o:XO) (L L':List Blk):List Nat:=o.wr cev++YR o L L'
section
variable {E:Env} {ρ:Rho} {L L':List Blk} {KX:XE->Rho->List Blk->Prop} {KR:Rho->List Blk->Prop} {i:Nat} {lg:List (Nat × List Nat × List Nat)}
@[congr] theorem zem {l:List (zq × List Nat × Bool)} {ρ':Rho} {L':List Blk} {i':Nat} {lg':List (Nat × List Nat × List Nat)} (hi:same i=i') (hg:same lg=lg') (h:same ρ=ρ') (hL:same L=L'):yg E i lg l ρ L KR=yg E i' lg' l ρ' L' KR:=by rw [<-hi,<-hg,<-h,<-hL];rfl
@[go_sem ↓] theorem ziz {l:List (zq × List Nat × Bool)}:Zg E (.drawR l) ρ L KX=yg E 0 [] l ρ L fun ρ' L'=>KX .normal ρ' L':=nr rfl
@[go_sem ↓] theorem zld:yg E i lg [] ρ L KR=KR ρ L:=nr rfl
@[go_sem ↓] theorem zhF {d:Option Nat} {o:XO} {r:List (zq × List Nat × Bool)}:yg E i lg ((⟨d,o,none⟩,[],false)::r) ρ L KR=xop E (o.sub (Opd.ev ρ)) cev L fun v L'=>yg E (i+1) lg r (put ρ d v) L' KR:=by
 rw [<-z0a]
 simp only [yg,Bool.false_eq_true,if_false]
 congr 1
 funext v L'
 simp [z6M,same_eq]
@[go_sem ↓] theorem zj5 {d:Option Nat} {o:XO} {r:List (zq × List Nat × Bool)} {chk:List Nat}:yg E i lg ((⟨d,o,none⟩,chk,true)::r) ρ L KR=xop E (o.sub (Opd.ev ρ)) cev L fun v L'=>
  z7J chk (YE (o.sub (Opd.ev ρ)) L L') (YT (o.sub (Opd.ev ρ)) L L') lg/\yg E (i+1) ((i,YE (o.sub (Opd.ev ρ)) L L',YT (o.sub (Opd.ev ρ)) L L')::lg) r (put ρ d v) L' KR:=by
 rw [<-z0a]
 simp only [yg,if_true]
 congr 1
 funext v L'
 simp only [same_eq,YE,YT,zcY,zdk,z8v]
@[go_sem ↓] theorem zlU {d:Option Nat} {o:XO} {r:List (zq × List Nat × Bool)} {c:Nat} {chk:List Nat}:yg E i lg ((⟨d,o,none⟩,c::chk,false)::r) ρ L KR=xop E (o.sub (Opd.ev ρ)) cev L fun v L'=>
  z7J (c::chk) (YE (o.sub (Opd.ev ρ)) L L') (YT (o.sub (Opd.ev ρ)) L L') lg/\yg E (i+1) lg r (put ρ d v) L' KR:=by
 rw [<-z0a]
 simp only [yg,Bool.false_eq_true,if_false]
 congr 1
 funext v L'
 simp only [same_eq,YE,YT,zcY,zdk,z8v]
@[go_sem ↓] theorem zlZ {d:Option Nat} {o:XO} {r:List (zq × List Nat × Bool)} {chk:List Nat} {keep:Bool} {t:Nat} {w:Bool} (h:ρ t=.bool w) :
  yg E i lg ((⟨d,o,some (t,w)⟩,chk,keep)::r) ρ L KR=yg E i lg ((⟨d,o,none⟩,chk,keep)::r) ρ L KR:=by
 simp [yg,h,same_eq]
@[go_sem ↓] theorem zh0 {d:Option Nat} {o:XO} {r:List (zq × List Nat × Bool)} {chk:List Nat} {keep:Bool} {t:Nat} {w:Bool} (h:ρ t=.bool (!w)) :
  yg E i lg ((⟨d,o,some (t,w)⟩,chk,keep)::r) ρ L KR=yg E (i+1) lg r (put ρ d .und) L KR:=by
 cases w<;>simp [yg,h,same_eq]
@[go_sem ↓] theorem zjn {d:Option Nat} {o:XO} {r:List (zq × List Nat × Bool)} {chk:List Nat} {keep:Bool} {t:Nat} {w:Bool} (h:ρ t=.und) :
  yg E i lg ((⟨d,o,some (t,w)⟩,chk,keep)::r) ρ L KR=yg E (i+1) lg r (put ρ d .und) L KR:=by
 simp [yg,h,same_eq]
attribute [go_sem] zbY
@[go_sem] theorem zjh {b r w:List Nat}:z7J b r w []=True:=nr rfl
@[go_sem] theorem zmj:inN i []=false:=nr rfl
@[go_sem] theorem zjv {a:Nat} {r:List Nat}:inN i (a::r)=if i=a then true else inN i r:=nr rfl
@[go_sem] theorem zjf {a:Nat}:zaT a []=True:=nr rfl
@[go_sem] theorem zhA {a b:Nat} {l:List Nat}:zaT a (b::l)=(¬a=b/\zaT a l):=nr rfl
@[go_sem] theorem zi3 {l:List Nat}:sepL [] l=True:=nr rfl
@[go_sem] theorem zgX {a:Nat} {r l:List Nat}:sepL (a::r) l=(zaT a l/\sepL r l):=nr rfl
@[go_sem] theorem zhU {s r o:Nat}:slP (.ptr s r o)=[s]:=nr rfl
@[go_sem] theorem zhR {rows:List (List IV)} {r o:Nat}:slP (.iptr rows r o)=[]:=nr rfl
@[go_sem] theorem ziw {v:Value}:slP (.raw v)=[]:=nr rfl
@[go_sem] theorem zl9 {s off len cap:Nat}:slS (.sl s off len cap)=[s]:=nr rfl
@[go_sem] theorem zjs {rows:List (List IV)}:slS (.isl rows)=[]:=nr rfl
@[go_sem] theorem ziK:slS .nsl=[]:=nr rfl
@[go_sem] theorem zj1:slS .esl=[]:=nr rfl
@[go_sem] theorem zhV {s:List UInt8}:slS (.str s)=[]:=nr rfl
section
variable {n sz len:Nat} {x y:IV} {z:List IV} {ps:List (Nat × Opd)} {lo hi:Option Opd} {f:Opd} {as:List Opd}
@[go_sem] theorem zhw:YE (.load1 (.c x)) L L'=slP x:=by simp [YE,XO.rd,YR,Z9]
@[go_sem] theorem zgY:YT (.load1 (.c x)) L L'=[]:=nr rfl
@[go_sem] theorem zgR:YE (.loadN n (.c x)) L L'=slP x:=by simp [YE,XO.rd,YR,Z9]
@[go_sem] theorem zhq:YT (.loadN n (.c x)) L L'=[]:=nr rfl
@[go_sem] theorem zhY:YE (.idxS n (.c x) (.c y)) L L'=slS x:=by simp [YE,XO.rd,YR,Z9]
@[go_sem] theorem zj6:YT (.idxS n (.c x) (.c y)) L L'=[]:=nr rfl
@[go_sem] theorem zhb:YE (.slice n (.c x) lo hi) L L'=slS x:=by simp [YE,XO.rd,YR,Z9]
@[go_sem] theorem zh2:YT (.slice n (.c x) lo hi) L L'=[]:=nr rfl
@[go_sem] theorem zhj:YT (.pcall f as) L L'=[]:=nr rfl
@[go_sem] theorem zho:YE (.alloc z) L L'=[L.length]:=nr rfl
@[go_sem] theorem zhf:YT (.alloc z) L L'=[L.length]:=nr rfl
@[go_sem] theorem zm2:YE (.box f) L L'=[L.length]:=nr rfl
@[go_sem] theorem zmw:YT (.box f) L L'=[L.length]:=nr rfl
@[go_sem] theorem zfO:YE (.bslice sz z len ps) L L'=[L.length]:=nr rfl
@[go_sem] theorem zfh:YT (.bslice sz z len ps) L L'=[L.length]:=nr rfl
@[go_sem] theorem zgM:YE (.store n (.c x) (.c y)) L L'=slP x:=by simp [YE,XO.rd,YR,Z9]
@[go_sem] theorem zhk:YT (.store n (.c x) (.c y)) L L'=slP x:=by simp [YT,XO.wr,YR,Z9]
@[go_sem] theorem zft:YE (.append sz n (.c x) (.c y)) L L'=slS x++slS y++(if L'.length=L.length then [] else [L.length]):=by simp only [YE,XO.rd,YR,Z9]
@[go_sem] theorem zgt:YT (.append sz n (.c x) (.c y)) L L'=slS x++(if L'.length=L.length then [] else [L.length]):=by simp only [YT,XO.wr,YR,Z9]
end
end
end Go.X
end
