/- Parts of the proof: XSound, XFun, XLib, XStep, XLoop, XMerge, XDone, XRace, XSimp. -/
import Derived.Test.YtnmhhmbeljlndaaGreatDoorXP5
import Derived.Sort.QuietThIn
import Derived.LoopNIn
import Derived.RangeFuncCalls
set_option linter.unusedVariables false
set_option linter.unusedSimpArgs false
set_option linter.unusedSectionVars false
section
namespace Go.X
open Go

theorem FOk.fn {F:Fence} (h:FOk F) (f:FuncId):F.fn f:=by
 rcases h with rfl | ⟨l,rfl⟩<;>trivial
theorem FOk.depth {F:Fence} (h:FOk F):F.depth=none:=by
 rcases h with rfl | ⟨l,rfl⟩<;>rfl
theorem FOk.calls {F:Fence} (hF:FOk F) {n:Nat} {P:Program} {f:FuncId} {args:Array Value} {w:World} {R:Ending->World->Prop} (h:Calls P f args w R):CallsIn F n P f args w R:=by
 rcases hF with rfl | ⟨l,rfl⟩
 ·exact callsIn_wide.2 h
 ·exact CallsIn.inRound l (callsIn_wide.2 h)
def DOk (n0:Nat) (C:Ctx):List Deferred->Prop
 | []=>True
 | d::ds=>(∃D,d={ target:=.collected D,args:=#[] }/\n0<=D/\D<C.w.heap.size/\¬C.mine D/\C.w.heap[D]?=some (.deferred (some []))/\∀d'∈ds,d'.target≠.collected D)/\DOk n0 C ds
def DOkE (E:Env) (n0:Nat) (C:Ctx) (ds:List Deferred):Prop:=match E.base with
 | none=>DOk n0 C ds
 | some B=>ds=B
def zah (E:Env) (a:Act):Prop:=∀t,t<E.lo->a.tmps.getD t undef=E.kept t
def Env.plain (E:Env):Prop:=E.lo=0/\E.base=none
theorem DOk.mono {n0:Nat} {C C':Ctx} (h:Ext C C'):∀{ds:List Deferred},DOk n0 C ds->DOk n0 C' ds
 | [],_=>trivial
 | d::ds,⟨⟨D,h1,h2,h3,h4,h5,h6⟩,h7⟩=>
  ⟨⟨D,h1,h2,Nat.lt_of_lt_of_le h3 h.size,fun hm=>(h.sub D hm).elim h4 (fun hge=>absurd h3 (Nat.not_lt.2 hge)),(h.frame D h3 h4).trans h5,h6⟩,h7.mono h⟩
theorem DOkE.mono {E:Env} {n0:Nat} {C C':Ctx} (h:Ext C C') {ds:List Deferred} (hd:DOkE E n0 C ds):DOkE E n0 C' ds:=by
 unfold DOkE at *
 split
 ·rename_i hb;rw [hb] at hd;exact DOk.mono h hd
 ·rename_i B hb;rw [hb] at hd;exact hd
theorem DOkE.none {E:Env} (hb:E.base=none) {n0:Nat} {C:Ctx} {ds:List Deferred}:DOkE E n0 C ds↔DOk n0 C ds:=by
 unfold DOkE;rw [hb]
theorem jo {E:Env} (h:E.lo=0) {a:Act}:zah E a:=fun t ht=>by rw [h] at ht;omega
def Rel (E:Env) (C0:Ctx) (N:Nat) (ρ:Rho) (L:List Blk) (a:Act) (w:World):Prop:=
 a.tmps.size=N/\∃φ,Wf E.g0 ⟨w,φ,L,C0.X⟩/\Sim ⟨w,φ,L,C0.X⟩/\Ext C0 ⟨w,φ,L,C0.X⟩/\(∀n,VR ⟨w,φ,L,C0.X⟩ (ρ n) (a.tmps.getD n undef))/\DOkE E C0.w.heap.size ⟨w,φ,L,C0.X⟩ a.defers/\zah E a
def z1u (E:Env) (C0:Ctx) (N:Nat) (Q:Exit->Act->World->Prop):Prop:=
 ∀(x:IV) (v:Value) (L':List Blk) (φ':Nat->Loc) (a:Act) (w':World),E.pan x L'->a.tmps.size=N->Wf E.g0 ⟨w',φ',L',C0.X⟩->Sim ⟨w',φ',L',C0.X⟩->Ext C0 ⟨w',φ',L',C0.X⟩->
  VR ⟨w',φ',L',C0.X⟩ x v->DOkE E C0.w.heap.size ⟨w',φ',L',C0.X⟩ a.defers->zah E a->(∃ρ:Rho,∀n,VR ⟨w',φ',L',C0.X⟩ (ρ n) (a.tmps.getD n undef))->Q (.panic [{ v,recovered:=false }]) a w'
theorem z0t {E:Env} {C0:Ctx} (wf0:Wf E.g0 C0) (hG:E.G C0.w) {w:World} {φ:Nat->Loc} {L:List Blk} (h:Ext C0 ⟨w,φ,L,C0.X⟩):E.G w:=by
 refine E.hG C0.w w (fun b hb=>?_) hG
 exact h.frame b (Nat.lt_of_lt_of_le hb wf0.g) (fun hm=>absurd (wf0.lo b hm) (Nat.not_le.2 hb))
theorem yf {t:Array Value} {d n:Nat} {v:Value} (hd:d<t.size):(t.setIfInBounds d v).getD n undef=if n=d then v else t.getD n undef:=by
 rw [Array.getD_eq_getD_getElem?,Array.getD_eq_getD_getElem?,Array.getElem?_setIfInBounds]
 by_cases h:n=d
 ·subst h;rw [if_pos rfl,if_pos hd,if_pos rfl];rfl
 ·rw [if_neg (Ne.symm h),if_neg h]
theorem z1O {E:Env} {C0:Ctx} {N:Nat} {ρ:Rho} {L L':List Blk} {a:Act} {w w':World} {φ φ':Nat->Loc} {dst:Option Nat} {r:IV} {v:Value} (hN:a.tmps.size=N) (hd:∀d,dst=some d->d<N)
  (hx:Ext C0 ⟨w,φ,L,C0.X⟩) (hρ:∀n,VR ⟨w,φ,L,C0.X⟩ (ρ n) (a.tmps.getD n undef)) (hdf:DOkE E C0.w.heap.size ⟨w,φ,L,C0.X⟩ a.defers/\zah E a) (hlo:E.lo=0\/∀d,dst=some d->E.lo<=d) (wf':Wf E.g0 ⟨w',φ',L',C0.X⟩) (sim':Sim ⟨w',φ',L',C0.X⟩)
  (hx':Ext ⟨w,φ,L,C0.X⟩ ⟨w',φ',L',C0.X⟩) (hv:VR ⟨w',φ',L',C0.X⟩ r v):Rel E C0 N (put ρ dst r) L' (a.put dst v) w':=by
 cases dst with
 | none=>exact ⟨hN,φ',wf',sim',hx.trans hx',fun n=>(hρ n).mono hx',hdf.1.mono hx',hdf.2⟩
 | some d=>
  refine ⟨by simpa [Act.put] using hN,φ',wf',sim',hx.trans hx',fun n=>?_,hdf.1.mono hx',fun t ht=>?_⟩
  rotate_left
  ·show (a.tmps.setIfInBounds d v).getD t undef=_
   rw [yf (by rw [hN];exact hd d rfl),if_neg,hdf.2 t ht]
   rcases hlo with h | h
   ·rw [h] at ht;omega
   ·have:=h d rfl;omega
  show VR _ (if n=d then r else ρ n) ((a.tmps.setIfInBounds d v).getD n undef)
  rw [yf (by rw [hN];exact hd d rfl)]
  by_cases h:n=d
  ·rw [if_pos h,if_pos h];exact hv
  ·rw [if_neg h,if_neg h];exact (hρ n).mono hx'
theorem z5L {P:Program} {o:Op} {x:XO} (h:wI P o=some x):∀c,o≠.defer c:=by
 rintro c rfl;cases h
section
variable {E:Env} {F:Fence} {C0:Ctx} {N:Nat}
theorem jc {P:Program} {N:Nat} {ops:List Oper} {o:Oper} {x:zk} (h:Y5 P N ops o=some x) :
  wI P o.op=some x.op/\x.dst=o.dst/\(∀d,o.dst=some d->d<N)/\((o.guard=none/\x.guard=none)\/∃j b t,o.guard=some (j,b)/\(ops[j]?).bind (·.dst)=some t/\x.guard=some (t,b)):=by
 unfold Y5 at h
 rw [obs] at h
 obtain ⟨y,hy,h⟩:=h
 split at h
 ·rename_i hd
  have hd':∀d,o.dst=some d->d<N:=fun d he=>by
   rw [he] at hd;simpa [ze5] using hd
  split at h
  ·rename_i hg
   simp only [sij] at h;subst h
   exact ⟨hy,rfl,hd',.inl ⟨hg,rfl⟩⟩
  ·rename_i j b hg
   rw [oms] at h
   obtain ⟨t,ht,rfl⟩:=h
   exact ⟨hy,rfl,hd',.inr ⟨j,b,t,hg,ht,rfl⟩⟩
 ·cases h
theorem z0F {ops:Array Oper} {tmps:Array Value} {j t:Nat} (h:(ops.toList[j]?).bind (·.dst)=some t) {b:Bool} (hv:tmps.getD t undef=.bool b):yielded ops tmps j=some b:=by
 unfold yielded
 rw [<-Array.getElem?_toList,h]
 simp only [Option.bind_some]
 rw [Array.getD_eq_getD_getElem?] at hv
 cases ht:tmps[t]? with
 | none=>rw [ht] at hv;cases hv
 | some v=>rw [ht] at hv;simp at hv;subst hv;rfl
theorem Jp {ops:Array Oper} {tmps:Array Value} {j t:Nat} (h:(ops.toList[j]?).bind (·.dst)=some t) (hv:tmps.getD t undef=undef):yielded ops tmps j=none:=by
 unfold yielded
 rw [<-Array.getElem?_toList,h]
 simp only [Option.bind_some]
 rw [Array.getD_eq_getD_getElem?] at hv
 cases ht:tmps[t]? with
 | none=>rfl
 | some v=>rw [ht] at hv;simp at hv;subst hv;rfl
def JM (lo:Nat) (o:zk):Bool:=match o.dst with | none=>true | some d=>decide (lo<=d)
theorem z1V {lo:Nat} {o:zk} (h:JM lo o=true):∀d,o.dst=some d->lo<=d:=fun d hd=>by
 unfold JM at h;rw [hd] at h;simpa using h
theorem z03 (hF:FOk F) (wf0:Wf E.g0 C0) (hG0:E.G C0.w) {ops:Array Oper} {KV:IV->List Blk->Prop} {next:Act->World->Prop} {Q:Exit->Act->World->Prop} (hP:z1u E C0 N Q) {i:Nat} {o:Oper} {x:zk}
  (hlo:E.lo=0\/∀d,x.dst=some d->E.lo<=d) (ho:ops[i]?=some o) (hx:Y5 E.P N ops.toList o=some x) {ρ:Rho} {L:List Blk} {a:Act} {w:World} (h:zX E x ρ L KV) (hr:Rel E C0 N ρ L a w)
  (hn:∀v L' a' w',KV v L'->Rel E C0 N (put ρ x.dst v) L' a' w'->next a' w'):wpOpIn F 0 E.P ops Q i next a w:=by
 obtain ⟨hop,hdst,hdN,hguard⟩:=jc hx
 obtain ⟨hN,φ,wf,sim,hext,hρ,hdf⟩:=hr
 have hG:=z0t wf0 hG0 hext
 have habout:∀f,o.about E.P w a.eval=some f->F.fn f:=fun f _=>hF.fn f
 have hskip:KV .und L->next (a.put o.dst undef) w:=fun hs=>
  hn .und L _ w hs (by rw [hdst];exact z1O hN hdN hext hρ hdf (by rw [<-hdst];exact hlo) wf sim (Ext.refl _) .und)
 have hexec:xop E x.op (Opd.ev ρ) L KV->o.wpIn F 0 E.P a w next Q:=fun he=>by
  refine ⟨habout,?_⟩
  rw [Oper.semAt_eq _ _ _ (z5L hop)]
  have hgood:=z8T (E:=E) (C:=⟨w,φ,L,C0.X⟩) (a:=a) wf sim hG (JF hρ) hop he
  have hnext:∀v w',Post E ⟨w,φ,L,C0.X⟩ KV v w'->next (a.put o.dst v) w':=by
   rintro v w' ⟨r,L',φ',h1,h2,h3,h4,h5⟩
   exact hn r L' _ w' h1 (by rw [hdst];exact z1O hN hdN hext hρ hdf (by rw [<-hdst];exact hlo) h2 h3 h4 h5)
  have hpan:∀v w',Post E ⟨w,φ,L,C0.X⟩ E.pan v w'->Q (.panic [{ v,recovered:=false }]) a w':=by
   rintro v w' ⟨r,L',φ',h1,h2,h3,h4,h5⟩
   exact hP r v L' φ' a w' h1 hN h2 h3 (hext.trans h4) h5 (hdf.1.mono h4) hdf.2 ⟨ρ,fun n=>(hρ n).mono h4⟩
  rcases hgood with ⟨v,w',h1,h2⟩ | ⟨w',h1,h2⟩ | ⟨f,args,w',h1,h2⟩ | ⟨l,fn,tmps,asg,body,w',h1,h2⟩ | ⟨v,w',h1,h2⟩
  ·rw [h1];exact hnext v w' h2
  ·rw [h1];exact hnext undef w' h2
  ·rw [h1]
   refine ⟨(fun h=>by rw [hF.depth] at h;cases h),(hF.calls h2).mono ?_⟩
   rintro e w'' ⟨v,⟨rfl,hp⟩ | ⟨rfl,hp⟩⟩
   ·exact hnext v w'' hp
   ·exact hpan v w'' hp
  ·rw [h1]
   refine ⟨(fun h=>by rw [hF.depth] at h;cases h),(h2 F hF).mono ?_⟩
   rintro e w'' ⟨v,rfl,hp⟩
   exact hnext v w'' hp
  ·rw [h1];exact hpan v w' h2
 unfold wpOpIn
 simp only [ho]
 unfold zX at h
 rcases hguard with ⟨hg,hxg⟩ | ⟨j,b,t,hg,ht,hxg⟩
 ·rw [hxg] at h
  rw [if_pos (by simp [Region.wanted,hg])]
  exact hexec h
 ·rw [hxg] at h
  simp only at h
  have hvt:=hρ t
  split at h
  ·rename_i b' hb'
   rw [hb'] at hvt
   have hvt':a.tmps.getD t undef=.bool b':=by generalize a.tmps.getD t undef=u at hvt;cases hvt;rfl
   have hy:=z0F ht hvt'
   by_cases hbb:b'=b
   ·rw [if_pos (by simp [Region.wanted,hg,hy,hbb])]
    exact hexec (h.1 hbb)
   ·rw [if_neg (by simp [Region.wanted,hg,hy,hbb])]
    exact ⟨habout,hskip (h.2 hbb)⟩
  ·rename_i hb'
   rw [hb'] at hvt
   have hvt':a.tmps.getD t undef=undef:=by generalize a.tmps.getD t undef=u at hvt;cases hvt;rfl
   have hy:=Jp ht hvt'
   rw [if_neg (by simp [Region.wanted,hg,hy])]
   exact ⟨habout,hskip h⟩
  ·exact h.elim
theorem z15 (hF:FOk F) (wf0:Wf E.g0 C0) (hG0:E.G C0.w) {ops:Array Oper} {K:Rho->List Blk->Prop} {Q:Exit->Act->World->Prop} (hP:z1u E C0 N Q)
  (hQ:∀ρ L a w,K ρ L->Rel E C0 N ρ L a w->Q .normal a w) :
  ∀(m k:Nat) (xs:List zk) (ρ:Rho) (L:List Blk) (a:Act) (w:World),(E.lo=0\/xs.all (JM E.lo)=true)->k+m=ops.size->mapO (Y5 E.P N ops.toList) (ops.toList.drop k)=some xs->xops E xs ρ L K->Rel E C0 N ρ L a w->
   wpOpsIn F 0 E.P ops Q (List.range' k m) a w
 | 0,k,xs,ρ,L,a,w,hlo,hk,hxs,h,hr=>by
  have:ops.toList.drop k=[]:=List.drop_eq_nil_of_le (by simp;omega)
  rw [this] at hxs
  simp only [mapO,sij] at hxs;subst hxs
  exact hQ ρ L a w h hr
 | m+1,k,xs,ρ,L,a,w,hlo,hk,hxs,h,hr=>by
  have hlt:k<ops.toList.length:=by simp;omega
  obtain ⟨o,ho⟩:∃o,ops.toList[k]?=some o:=⟨_,List.getElem?_eq_getElem hlt⟩
  have hdrop:ops.toList.drop k=o::ops.toList.drop (k+1):=by
   rw [List.drop_eq_getElem_cons hlt]
   congr 1
   exact Option.some.inj ((List.getElem?_eq_getElem hlt).symm.trans ho)
  rw [hdrop] at hxs
  simp only [mapO] at hxs
  split at hxs
  ·split at hxs
   ·rename_i x hx _ xr hxr
    simp only [sij] at hxs;subst hxs
    rw [vG] at h
    have ho':ops[k]?=some o:=by rw [<-Array.getElem?_toList];exact ho
    show wpOpsIn F 0 E.P ops Q (k::List.range' (k+1) m) a w
    rw [wpOpsIn_cons]
    simp only [List.all_cons,Bool.and_eq_true] at hlo
    exact z03 hF wf0 hG0 hP (hlo.imp (fun h=>h) fun h=>z1V h.1) ho' hx h hr fun v L' a' w' hk' hr'=>z15 hF wf0 hG0 hP hQ m (k+1) xr _ L' a' w' (hlo.imp id And.right) (by omega) hxr hk' hr'
   ·cases hxs
  ·cases hxs
theorem zdv {o:zk} {ρ:Rho} {L:List Blk} {KV:IV->List Blk->Prop} (h:zX E o.toP ρ L KV):zX E o ρ L KV:=by
 obtain ⟨d,op,g⟩:=o
 cases g with
 | none=>exact z4E h
 | some p=>
  obtain ⟨t,w⟩:=p
  simp only [zX,zk.toP] at h ⊢
  split at h
  ·exact ⟨fun hw=>z4E (h.1 hw),h.2⟩
  ·exact h
  ·exact h.elim
theorem z9w {ops:Array Oper} {xs:List zk} (h:z9W ops xs=true):z8B ops xs=true:=by
 unfold z9W at h
 rw [Bool.and_eq_true] at h
 exact h.2
theorem yB (hF:FOk F) (wf0:Wf E.g0 C0) (hG0:E.G C0.w) {id:Nat} {ops:Array Oper} {K:Rho->List Blk->Prop} {Q:Exit->Act->World->Prop} (hP:z1u E C0 N Q) (hm:E.P.follows .mixedOrders=true)
  {xs0 xs:List zk} (hlo:E.lo=0\/xs.all (JM E.lo)=true) (hx0:mapO (Y5 E.P N ops.toList) ops.toList=some xs0) (hxs:∀(i:Nat) (x:zk),xs[i]?=some x->∃x0,xs0[i]?=some x0/\(x=x0\/x=x0.toP)) (hl:xs.length=xs0.length) (hB:z8O ops xs=true)
  {ρ:Rho} {L:List Blk} {a:Act} {w:World} (h:xops E xs ρ L K) (hr:Rel E C0 N ρ L a w) (hQ:∀ρ L a w,K ρ L->Rel E C0 N ρ L a w->Q .normal a w):(Code.region id ops true).wpIn F 0 E.P Q a w:=by
 unfold z8O at hB
 have hlen:xs.length=ops.size:=by rw [hl,zG hx0];simp
 have hr':Rel E C0 N ρ L a w.drew:=by
  obtain ⟨hN,φ,wf,sim,hext,hρ,hdf⟩:=hr
  exact ⟨hN,φ,y8 wf,Zv sim,hext.trans (Z8 _),fun n=>(hρ n).mono (Z8 _),hdf.1.mono (Z8 _),hdf.2⟩
 refine wpIn_region_any hm ?_
 have hany:xAny E ops xs K ops.size (Array.replicate ops.size false) ρ L:=by
  have:=JB (E:=E) (K:=K) hlen xs 0 (Array.replicate ops.size false) ρ L (by simp) (by simp) (by rw [hlen];exact hB) h
  rwa [hlen] at this
 have key:∀(fuel:Nat) (listed:Array Bool) (ρ:Rho) (L:List Blk) (a:Act) (w:World),xAny E ops xs K fuel listed ρ L->Rel E C0 N ρ L a w->wpAnyIn F 0 E.P .any ops Q fuel listed a w:=by
  intro fuel
  induction fuel with
  | zero=>intro listed ρ L a w h hr;exact ⟨h.1,hQ ρ L a w h.2 hr⟩
  | succ fuel ih=>
   intro listed ρ L a w h hr
   refine ⟨fun h0=>hQ ρ L a w (h.1 h0) hr,fun i hi=>?_⟩
   have h1:=h.2 i hi
   obtain ⟨_,o,ho,_⟩:=mem_ready.1 hi
   have hilt:i<xs.length:=by rw [hlen];exact (Array.getElem?_eq_some_iff.1 ho).1
   obtain ⟨x,hx⟩:∃x,xs[i]?=some x:=⟨_,List.getElem?_eq_getElem hilt⟩
   obtain ⟨x0,hx1,hx2⟩:=hxs i x hx
   obtain ⟨o',ho',hc⟩:=zM hx0 i x0 hx1
   rw [Array.getElem?_toList,ho] at ho'
   obtain rfl:=Option.some.inj ho'
   simp only [sOp,hx] at h1
   have hd:x.dst=x0.dst:=by rcases hx2 with rfl | rfl<;>rfl
   have h2:zX E x0 ρ L fun v L'=>xAny E ops xs K fuel (listed.setIfInBounds i true) (put ρ x.dst v) L':=by
    rcases hx2 with rfl | rfl
    ·exact h1
    ·exact zdv h1
   exact z03 hF wf0 hG0 hP (hlo.imp (fun h=>h) fun h=>by rw [<-hd];rw [List.all_eq_true] at h;exact z1V (h x (List.mem_of_getElem? hx))) ho hc h2 hr fun v L' a' w' hk' hr'=>ih _ _ L' a' w' hk' (by rw [hd];exact hr')
 exact key _ _ _ _ _ _ hany hr'
theorem z3w (hF:FOk F) (wf0:Wf E.g0 C0) (hG0:E.G C0.w) {ops:Array Oper} {KV:IV->List Blk->Prop} {next:Act->World->Prop} {Q:Exit->Act->World->Prop} (hP:z1u E C0 N Q) {i g:Nat} {o:Oper} {x:zk}
  (hlo:E.lo=0\/∀d,x.dst=some d->E.lo<=d) (ho:ops[i]?=some o) (hx:Y5 E.P N ops.toList o=some x) {ρ:Rho} {L:List Blk} {a:Act} {w:World} (h:z2U E x g ρ L KV) (hr:Rel E C0 N ρ L a w)
  (hn:∀v L' a' w',KV v L'->Rel E C0 N (put ρ x.dst v) L' a' w'->next a' w'):wpOpIn F 0 E.P ops Q i next a w:=by
 obtain ⟨hop,hdst,hdN,hguard⟩:=jc hx
 obtain ⟨hN,φ,wf,sim,hext,hρ,hdf⟩:=hr
 have hG:=z0t wf0 hG0 hext
 have habout:∀f,o.about E.P w a.eval=some f->F.fn f:=fun f _=>hF.fn f
 have hskip:KV .und L->next (a.put o.dst undef) w:=fun hs=>
  hn .und L _ w hs (by rw [hdst];exact z1O hN hdN hext hρ hdf (by rw [<-hdst];exact hlo) wf sim (Ext.refl _) .und)
 have hexec:xopR E x.op (Opd.ev ρ) g L KV->o.wpIn F 0 E.P a w next Q:=fun he=>by
  refine ⟨habout,?_⟩
  rw [Oper.semAt_eq _ _ _ (z5L hop)]
  obtain ⟨g',hf',hT⟩:=zeh he
  have hgood:=z0z (E:=E) (C:=⟨w,φ,L,C0.X⟩) (a:=a) hf' wf sim hG (JF hρ) hop hT
  have hnext:∀v w',Post E ⟨w,φ,L,C0.X⟩ KV v w'->next (a.put o.dst v) w':=by
   rintro v w' ⟨r,L',φ',h1,h2,h3,h4,h5⟩
   exact hn r L' _ w' h1 (by rw [hdst];exact z1O hN hdN hext hρ hdf (by rw [<-hdst];exact hlo) h2 h3 h4 h5)
  have hpan:∀v w',Post E ⟨w,φ,L,C0.X⟩ E.pan v w'->Q (.panic [{ v,recovered:=false }]) a w':=by
   rintro v w' ⟨r,L',φ',h1,h2,h3,h4,h5⟩
   exact hP r v L' φ' a w' h1 hN h2 h3 (hext.trans h4) h5 (hdf.1.mono h4) hdf.2 ⟨ρ,fun n=>(hρ n).mono h4⟩
  rcases hgood with ⟨v,w',h1,h2⟩ | ⟨w',h1,h2⟩ | ⟨f,args,w',h1,h2⟩ | ⟨l,fn,tmps,asg,body,w',h1,h2⟩ | ⟨v,w',h1,h2⟩
  ·rw [h1];exact hnext v w' h2
  ·rw [h1];exact hnext undef w' h2
  ·rw [h1]
   refine ⟨(fun h=>by rw [hF.depth] at h;cases h),(hF.calls h2).mono ?_⟩
   rintro e w'' ⟨v,⟨rfl,hp⟩ | ⟨rfl,hp⟩⟩
   ·exact hnext v w'' hp
   ·exact hpan v w'' hp
  ·rw [h1]
   refine ⟨(fun h=>by rw [hF.depth] at h;cases h),(h2 F hF).mono ?_⟩
   rintro e w'' ⟨v,rfl,hp⟩
   exact hnext v w'' hp
  ·rw [h1];exact hpan v w' h2
 unfold wpOpIn
 simp only [ho]
 unfold z2U at h
 rcases hguard with ⟨hg,hxg⟩ | ⟨j,b,t,hg,ht,hxg⟩
 ·rw [hxg] at h
  rw [if_pos (by simp [Region.wanted,hg])]
  exact hexec h
 ·rw [hxg] at h
  simp only at h
  have hvt:=hρ t
  split at h
  ·rename_i b' hb'
   rw [hb'] at hvt
   have hvt':a.tmps.getD t undef=.bool b':=by generalize a.tmps.getD t undef=u at hvt;cases hvt;rfl
   have hy:=z0F ht hvt'
   by_cases hbb:b'=b
   ·rw [if_pos (by simp [Region.wanted,hg,hy,hbb])]
    exact hexec (h.1 hbb)
   ·rw [if_neg (by simp [Region.wanted,hg,hy,hbb])]
    exact ⟨habout,hskip (h.2 hbb)⟩
  ·rename_i hb'
   rw [hb'] at hvt
   have hvt':a.tmps.getD t undef=undef:=by generalize a.tmps.getD t undef=u at hvt;cases hvt;rfl
   have hy:=Jp ht hvt'
   rw [if_neg (by simp [Region.wanted,hg,hy])]
   exact ⟨habout,hskip h⟩
  ·exact h.elim
theorem z6a {o:XO} {e:Opd->IV} {g:Nat} {L:List Blk} {K:IV->List Blk->Prop} (h:xopR E o.toP e g L K):xopR E o e g L K:=by
 cases o with
 | call f as=>exact z4E (o:=.call f as) h
 | _=>exact h
theorem zdY {o:zk} {g:Nat} {ρ:Rho} {L:List Blk} {KV:IV->List Blk->Prop} (h:z2U E o.toP g ρ L KV):z2U E o g ρ L KV:=by
 obtain ⟨d,op,gd⟩:=o
 cases gd with
 | none=>exact z6a h
 | some p=>
  obtain ⟨t,w⟩:=p
  simp only [z2U,zk.toP] at h ⊢
  split at h
  ·exact ⟨fun hw=>z6a (h.1 hw),h.2⟩
  ·exact h
  ·exact h.elim
theorem rel_keep {ρ:Rho} {L:List Blk} {a:Act} {w:World} (m:Nat) (h:Rel E C0 N ρ L a w):Rel E C0 N ρ (L++List.replicate m .unborn) a w:=by
 obtain ⟨hN,φ,wf,sim,hext,hρ,hdf⟩:=h
 let C:Ctx:=⟨w,φ,L,C0.X⟩
 let C':Ctx:=⟨w,φ,L++List.replicate m .unborn,C0.X⟩
 have hget:∀(s:Nat) (k:Blk),C'.L[s]?=some k->k.alive=true->C.L[s]?=some k:=fun s k hk ha=>by
  rcases Nat.lt_or_ge s L.length with h1 | h1
  ·rw [show C'.L=L++List.replicate m .unborn from rfl,List.getElem?_append_left h1] at hk;exact hk
  ·rw [show C'.L=L++List.replicate m .unborn from rfl,List.getElem?_append_right h1,List.getElem?_replicate] at hk
   split at hk
   ·cases hk;cases ha
   ·cases hk
 have hmine:∀b,C'.mine b->C.mine b:=by
  rintro b ⟨s,k,hk,ha,rfl⟩
  exact ⟨s,k,hget s k hk ha,ha,rfl⟩
 have hx:Ext C C':=⟨Nat.le_refl _,fun _ _ _=>rfl,fun b h=>.inl (hmine b h),fun _ _=>rfl,fun s hs=>by
  obtain ⟨k,h1,h2⟩:=hs
  exact ⟨k,by show (L++_)[s]?=_;rw [List.getElem?_append_left (zf h1)];exact h1,h2⟩,by simp [C,C'],fun b c e fr h=>⟨c,e,fr,h,rfl⟩,rfl,rfl,rfl,rfl⟩
 refine ⟨hN,φ,⟨fun s t k l hs ht as at_ heq=>wf.inj s t k l (hget s k hs as) (hget t l ht at_) as at_ heq,fun b h=>wf.lo b (hmine b h),fun b hb h=>wf.apart b hb (hmine b h),wf.exlo,wf.g⟩,?_,hext.trans hx,fun n=>(hρ n).mono hx,hdf.1.mono hx,hdf.2⟩
 intro s k hk
 by_cases ha:k.alive=true
 ·exact (sim s k (hget s k hk ha)).mono hx (hget s k hk ha) rfl
 ·cases k<;>first | trivial | (exfalso;exact ha rfl)
theorem Y6 {a:Array Bool} {i:Nat} {d:Bool} (h:i<a.size):a.getD i d=a[i]:=by
 rw [Array.getD_eq_getD_getElem?,Array.getElem?_eq_getElem h];rfl
theorem z2j (hF : FOk F) (wf0 : Wf E.g0 C0) (hG0 : E.G C0.w) {id : Nat} {ops : Array Oper} {K : Rho -> List Blk -> Prop} {Q : Exit -> Act -> World -> Prop} (hP : z1u E C0 N Q) (hm : E.P.follows .mixedOrders = true)
    {xs0 : List zk} (hlo : E.lo = 0 \/ xs0.all (JM E.lo) = true) (hx0 : mapO (Y5 E.P N ops.toList) ops.toList = some xs0) {xs : List (zk × List Nat × Bool)} (hxs : xs.map (·.1) = xs0.map zk.toP) (hB : zaj ops xs = true)
    {ρ : Rho} {L : List Blk} {a : Act} {w : World} (h : ZG E 0 [] xs ρ L K) (hr : Rel E C0 N ρ L a w) (hQ : ∀ ρ L a w, K ρ L -> Rel E C0 N ρ L a w -> Q .normal a w) : (Code.region id ops true).wpIn F 0 E.P Q a w := by
  obtain ⟨hlen, hrk, htopo, hpair⟩ := z90 hB
  obtain ⟨tr, m, ρ', L', hK, hrun, hchk⟩ := trace xs 0 [] ρ L hrk h
  obtain ⟨hl1, hat, hfin⟩ := zbg _ _ _ _ hrun
  obtain ⟨_, hpr⟩ := z1y xs 0 [] tr hchk
  let ys := xs.map (·.1)
  let n := ops.size
  have hyl : ys.length = n := by simp [ys, n, hlen]
  have htl : tr.length = n := by rw [<- hl1]; exact hyl
  let s0 : St := (ρ, L ++ List.replicate m .unborn)
  have hys : ∀ (i : Nat) (o : zk), ys[i]? = some o -> ∃ chk keep, xs[i]? = some (o, chk, keep) := fun i o hi => by
    simp only [ys, List.getElem?_map, oms] at hi
    obtain ⟨⟨o', chk, keep⟩, h1, rfl⟩ := hi
    exact ⟨chk, keep, h1⟩
  have hok : ∀ (i : Nat) (o : zk) (t : Tr), ys[i]? = some o -> tr[i]? = some t -> TrOk E o t (SS ys tr (fun _ => true) s0 i) := hat
  have hfit : ∀ t ∈ tr, Fits t := fun t ht => by
    obtain ⟨i, hi, rfl⟩ := List.mem_iff_getElem.1 ht
    have hi' : i < ys.length := by omega
    exact (hok i _ _ (List.getElem?_eq_getElem hi') (List.getElem?_eq_getElem hi)).1
  have hind : ∀ (i j : Nat) (o : zk) (t : Tr) (p : zk) (u : Tr), i < j -> j ∉ WI ops i -> ys[i]? = some o -> tr[i]? = some t -> ys[j]? = some p -> tr[j]? = some u -> Ind o t p u := fun i j o t p u hij hw hi ht hj hu => by
    obtain ⟨chk, keep, h1⟩ := hys i o hi
    obtain ⟨chk', keep', h2⟩ := hys j p hj
    rcases hpair i j o chk keep p chk' keep' hij h1 h2 with h3 | ⟨h3, h4, h5, h6⟩
    · exact absurd h3 hw
    · refine ⟨h3, h4, h5, ?_⟩
      obtain ⟨_, a1, a2, _⟩ := hok i o t hi ht
      obtain ⟨_, b1, b2, _⟩ := hok j p u hj hu
      by_cases hrc : racy o p = true
      · obtain ⟨h7, h8⟩ := h6 hrc
        exact hpr i j o chk keep t p chk' keep' u hij h1 ht h2 hu h7 (by rw [Nat.zero_add]; exact h8)
      · simp only [racy, Bool.and_eq_true, Bool.not_eq_true', beq_eq_false_iff_ne, ne_eq, Bool.and_eq_false_iff, not_and, not_or] at hrc
        by_cases ho : o.op.rk = 0
        · obtain ⟨e1, e2⟩ := a1 ho; rw [e1, e2]; exact z5C
        · by_cases hp : p.op.rk = 0
          · obtain ⟨e1, e2⟩ := b1 hp; rw [e1, e2]; exact z5E
          · have h9 := hrc ⟨ho, hp⟩
            have ho1 : o.op.rk = 1 := by
              by_cases h10 : o.op.rk = 1
              · exact h10
              · exact absurd h10 h9.1
            have hp1 : p.op.rk = 1 := by
              by_cases h10 : p.op.rk = 1
              · exact h10
              · exact absurd h10 h9.2
            rw [a2 ho1, b2 hp1]
            exact ⟨fun i h => by simp at h, fun i h => by simp at h⟩
  have hr' : Rel E C0 N s0.1 s0.2 a w.drew := by
    refine rel_keep m ?_
    obtain ⟨hN, φ, wf, sim, hext, hρ, hdf⟩ := hr
    exact ⟨hN, φ, y8 wf, Zv sim, hext.trans (Z8 _), fun n => (hρ n).mono (Z8 _), hdf.1.mono (Z8 _), hdf.2⟩
  refine wpIn_region_any hm ?_
  -- any order
  have key : ∀ (fuel : Nat) (listed : Array Bool) (a : Act) (w : World), listed.size = n -> (∀ (j : Nat) (o : Oper), ops[j]? = some o -> listed.getD j true = true -> ∀ e ∈ o.after, Region.binds .any e = true -> listed.getD e.on true = true) ->
      ((List.range n).filter fun i => !listed.getD i true).length = fuel ->
      Rel E C0 N (SS ys tr (fun i => listed.getD i true) s0 n).1 (SS ys tr (fun i => listed.getD i true) s0 n).2 a w -> wpAnyIn F 0 E.P .any ops Q fuel listed a w := by
    intro fuel
    -- nothing is ready: all are listed
    have hend : ∀ (listed : Array Bool) (a : Act) (w : World), listed.size = n -> Region.ready .any ops listed = [] ->
        Rel E C0 N (SS ys tr (fun i => listed.getD i true) s0 n).1 (SS ys tr (fun i => listed.getD i true) s0 n).2 a w -> Q .normal a w := by
      intro listed a w hsz hrd hr
      have hall : ∀ i, i < n -> listed.getD i true = true := by
        intro i
        induction i using Nat.strongRecOn with
        | ind i ih =>
          intro hi
          by_cases hli : listed.getD i true = true
          · exact hli
          · exfalso
            have : i ∈ Region.ready .any ops listed := by
              rw [mem_ready]
              refine ⟨by simpa using hli, ops[i], Array.getElem?_eq_getElem hi, fun e he hb => ?_⟩
              have h1 := htopo i _ (Array.getElem?_eq_getElem hi) e he hb
              have h2 := ih e.on h1 (by omega)
              rw [Y6 (by omega)] at h2 ⊢
              exact h2
            rw [hrd] at this; cases this
      have e1 : SS ys tr (fun i => listed.getD i true) s0 n = SS ys tr (fun _ => true) s0 n := z1o n fun i hi => hall i hi
      rw [e1] at hr
      have e2 : SS ys tr (fun _ => true) s0 n = (ρ', L') := by rw [<- hyl]; exact hfin
      rw [e2] at hr
      exact hQ _ _ _ _ hK hr
    induction fuel with
    | zero =>
      intro listed a w hsz hcl hcnt hr
      have hrd : Region.ready .any ops listed = [] := by
        cases hrd : Region.ready .any ops listed with
        | nil => rfl
        | cons i r =>
          exfalso
          have hi : i ∈ Region.ready .any ops listed := by rw [hrd]; exact List.mem_cons_self
          obtain ⟨h1, o, ho, _⟩ := mem_ready.1 hi
          have : i ∈ (List.range n).filter fun i => !listed.getD i true := by
            simp only [List.mem_filter, List.mem_range, Bool.not_eq_true']
            exact ⟨(Array.getElem?_eq_some_iff.1 ho).1, h1⟩
          rw [List.eq_nil_of_length_eq_zero hcnt] at this; cases this
      exact ⟨hrd, hend listed a w hsz hrd hr⟩
    | succ fuel ih =>
      intro listed a w hsz hcl hcnt hr
      refine ⟨fun h0 => hend listed a w hsz h0 hr, fun j hj => ?_⟩
      obtain ⟨hjun, o, ho, hdeps⟩ := mem_ready.1 hj
      have hjn : j < n := (Array.getElem?_eq_some_iff.1 ho).1
      obtain ⟨p, hp⟩ : ∃ p, ys[j]? = some p := ⟨_, List.getElem?_eq_getElem (by omega)⟩
      obtain ⟨u, hu⟩ : ∃ u, tr[j]? = some u := ⟨_, List.getElem?_eq_getElem (by omega)⟩
      -- who waits is not listed
      have hwait : ∀ i, listed.getD i true = false -> ∀ k, k ∈ WI ops i -> listed.getD k true = false := by
        intro i hi
        intro k
        induction k using Nat.strongRecOn with
        | ind k ihk =>
          intro hk
          by_cases hki : k = i
          · subst hki; exact hi
          · obtain ⟨o', e, h1, h2, h3, h4⟩ := (yQ ops i).edge k hk hki
            have h5 := ihk e.on (htopo k o' h1 e h2 h3) h4
            by_cases h6 : listed.getD k true = true
            · have := hcl k o' h1 h6 e h2 h3
              rw [h5] at this; cases this
            · simpa using h6
      have hjw : ∀ i, listed.getD i true = false -> i < j -> j ∉ WI ops i := fun i hi hij hw => by
        obtain ⟨o', e, h1, h2, h3, h4⟩ := (yQ ops i).edge j hw (by omega)
        rw [ho] at h1; cases h1
        have h5 := hdeps e h2 h3
        have h6 := hwait i hi e.on h4
        have h7 := htopo j o ho e h2 h3
        rw [Y6 (by omega)] at h5 h6
        rw [h5] at h6; cases h6
      have hI1 : ∀ (i : Nat) (o : zk) (t : Tr), i < j -> (fun i => listed.getD i true) i = false -> ys[i]? = some o -> tr[i]? = some t -> Ind o t p u := fun i o t hij hi ho' ht => hind i j o t p u hij (hjw i hi hij) ho' ht hp hu
      have hI2 : ∀ (i : Nat) (o : zk) (t : Tr), j < i -> (fun i => listed.getD i true) i = true -> ys[i]? = some o -> tr[i]? = some t -> Ind o t p u := fun i o t hij hi ho' ht =>
        (hind j i p u o t hij (fun hw => by have := hwait j hjun i hw; simp only at hi; rw [this] at hi; cases hi) hp hu ho' ht).symm
      have hag := (zaA hfit (s0 := s0) hp hu hjun hI1 hI2 n).2 (by omega)
      obtain ⟨_, _, _, hstep⟩ := hok j p u hp hu
      have hst := hstep (SS ys tr (fun i => listed.getD i true) s0 n).1 (SS ys tr (fun i => listed.getD i true) s0 n).2 hag.1 hag.2.1 (fun v L'' => v = u.v /\ L'' = setL (SS ys tr (fun i => listed.getD i true) s0 n).2 u.wl) ⟨rfl, rfl⟩
      -- the operation's short form
      have hp' : (xs0.map zk.toP)[j]? = some p := by rw [<- hxs]; exact hp
      rw [List.getElem?_map, oms] at hp'
      obtain ⟨x0, hx1, rfl⟩ := hp'
      obtain ⟨o', ho', hc⟩ := zM hx0 j x0 hx1
      rw [Array.getElem?_toList, ho] at ho'
      obtain rfl := Option.some.inj ho'
      refine z3w hF wf0 hG0 hP (hlo.imp (fun h => h) fun h => by rw [List.all_eq_true] at h; exact z1V (h x0 (List.mem_of_getElem? hx1))) ho hc (zdY hst) hr fun v L'' a' w' hv hr'' => ?_
      obtain ⟨rfl, rfl⟩ := hv
      refine ih (listed.setIfInBounds j true) a' w' (by simp [hsz]) ?_ ?_ ?_
      · intro k o' hk hlk e he hb
        by_cases hkj : j = k
        · subst hkj
          rw [ho] at hk; cases hk
          have h5 := hdeps e he hb
          have h7 := htopo j o ho e he hb
          have h8 : listed.getD e.on true = true := by rw [Y6 (by omega)] at h5 ⊢; exact h5
          rw [Go.getD_set_ne true (by omega)]; exact h8
        · rw [Go.getD_set_ne true hkj] at hlk
          have := hcl k o' hk hlk e he hb
          by_cases hej : j = e.on
          · rw [<- hej, Y6 (by simp; omega)]; simp
          · rw [Go.getD_set_ne true hej]; exact this
      · have h1 : ((List.range n).filter fun i => !listed.getD i true) = ((List.range n).filter fun i => !listed.getD i true) := rfl
        have hmem : j ∈ (List.range n).filter fun i => !listed.getD i true := by
          simp only [List.mem_filter, List.mem_range, Bool.not_eq_true']; exact ⟨hjn, hjun⟩
        have he : ((List.range n).filter fun i => !(listed.setIfInBounds j true).getD i true) = ((List.range n).filter fun i => !listed.getD i true).erase j := by
          rw [List.Nodup.erase_eq_filter (show List.Nodup _ from List.Pairwise.filter _ List.nodup_range), List.filter_filter]
          refine List.filter_congr fun i hi => ?_
          by_cases hij : j = i
          · subst hij
            rw [Y6 (by simp; omega)]; simp
          · rw [Go.getD_set_ne true hij]
            have : (i != j) = true := by simp [Ne.symm hij]
            rw [this, Bool.true_and]
        rw [he, List.length_erase_of_mem hmem, hcnt]; rfl
      · have hadd := zef hfit (s0 := s0) (lst' := fun i => (listed.setIfInBounds j true).getD i true) hp hu hjun (by rw [Y6 (by simp; omega)]; simp) (fun i hi => by rw [Go.getD_set_ne true (Ne.symm hi)]) hI2 n hjn
        rw [hadd]
        exact hr''
  have h0 : SS ys tr (fun i => (Array.replicate ops.size false).getD i true) s0 n = s0 := by
    have : ∀ k, k <= n -> SS ys tr (fun i => (Array.replicate ops.size false).getD i true) s0 k = s0 := by
      intro k
      induction k with
      | zero => intro _; rfl
      | succ k ih =>
        intro hk
        simp only [SS]
        rw [if_neg (by rw [Y6 (by simp; omega)]; simp)]
        exact ih (by omega)
    exact this n (Nat.le_refl _)
  refine key ops.size (Array.replicate ops.size false) a w.drew (by simp [n]) (fun j o ho hl => ?_) ?_ (by rw [h0]; exact hr')
  · rw [Y6 (by simpa using (Array.getElem?_eq_some_iff.1 ho).1)] at hl
    simp at hl
  · rw [List.filter_eq_self.2, List.length_range]
    intro i hi
    rw [Y6 (by simpa using List.mem_range.1 hi)]
    simp

def XE.to:XE->Exit
 | .normal=>.normal
 | .exit id=>.exit id
 | .goto l=>.goto l
 | .ret=>.ret
theorem z4P {P:Program} {b:Frame} {a:Act} {k:List Item} {cs:List Frame} {w:World} {c:Code}:step P (lone (b.atR a (.code (.scope c)::k)) cs w)=.next (lone (b.atR a (.code c::.inScope c::k)) cs w):=
 step_lone_go (by simp [stepG,stepG.exec,Frame.atR])
theorem vV {P:Program} {b:Frame} {a:Act} {k:List Item} {cs:List Frame} {w:World} {c:Code}:step P (lone (b.atR a (.inScope c::k)) cs w)=.next (lone (b.atR a k) cs w):=
 step_lone_go (by simp [stepG,stepG.exec,Frame.atR])
def WJ (F:Fence) (n:Nat) (P:Program) (c:Code) (Q:Exit->Act->World->Prop):Nat->Exit->Act->World->Prop
 | m,.goto l,a,w=>match findLabel c l with
  | none=>Q (.goto l) a w
  | some rest=>match m with
   | 0=>False
   | m+1=>rest.wpIn F n P (WJ F n P c Q m) a w
 | _,e,a,w=>Q e a w
theorem z6I {F:Fence} {n:Nat} {P:Program} {c:Code} {Q:Exit->Act->World->Prop} (k:Nat) {ch:List PanicEntry} {a:Act} {w:World}:WJ F n P c Q k (.panic ch) a w=Q (.panic ch) a w:=by
 cases k<;>rfl
theorem z1u.scope {E:Env} {C0:Ctx} {N:Nat} {F:Fence} {n:Nat} {P:Program} {c:Code} {Q:Exit->Act->World->Prop} (k:Nat) (h:z1u E C0 N Q):z1u E C0 N (WJ F n P c Q k):=
 fun x v L' φ' a w' h1 h2 h3 h4 h5 h6 h7=>by rw [z6I];exact h x v L' φ' a w' h1 h2 h3 h4 h5 h6 h7
theorem z6Z {n:Nat} {P:Program} {Q:Exit->Act->World->Prop} {a:Act} {w:World} {c:Code} (m:Nat) (h:c.wpIn F n P (WJ F n P c Q m) a w):(Code.scope c).wpIn F n P Q a w:=by
 intro b k cs hro hb hr
 have key:∀m c' a w,Code.wpIn F n P c' (WJ F n P c Q m) a w->
   ∃e a' w',Q e a' w'/\ArrivesIn (Machine.fenced P F) P (lone (b.atR a (.code c'::.inScope c::k)) cs w) b k cs e a' w':=by
  intro m
  induction m with
  | zero=>
   intro c' a w h
   obtain ⟨e,a₁,w₁,hq,harr⟩:=h b (.inScope c::k) cs hro hb hr
   cases e with
   | normal=>exact ⟨_,a₁,w₁,hq,StepsIn.trans harr (.one (fenced_calm hb hr rfl) vV)⟩
   | exit id=>exact ⟨_,a₁,w₁,hq,⟨fun k' hk=>harr.1 k' (by simpa [exitTo] using hk),fun h1 hk=>harr.2 h1 (by simpa [exitTo] using hk)⟩⟩
   | goto l=>
    unfold WJ at hq
    cases hf:findLabel c l with
    | none=>
     simp only [hf] at hq
     exact ⟨_,a₁,w₁,hq,⟨fun k' hk=>harr.1 k' (by simpa [gotoIn,hf] using hk),fun h1 hk=>harr.2 h1 (by simpa [gotoIn,hf] using hk)⟩⟩
    | some rest=>simp only [hf] at hq
   | ret=>exact ⟨_,a₁,w₁,hq,harr⟩
   | panic ch=>exact ⟨_,a₁,w₁,hq,harr⟩
   | outgrown=>exact ⟨_,a₁,w₁,hq,harr⟩
  | succ m ih=>
   intro c' a w h
   obtain ⟨e,a₁,w₁,hq,harr⟩:=h b (.inScope c::k) cs hro hb hr
   cases e with
   | normal=>exact ⟨_,a₁,w₁,hq,StepsIn.trans harr (.one (fenced_calm hb hr rfl) vV)⟩
   | exit id=>exact ⟨_,a₁,w₁,hq,⟨fun k' hk=>harr.1 k' (by simpa [exitTo] using hk),fun h1 hk=>harr.2 h1 (by simpa [exitTo] using hk)⟩⟩
   | goto l=>
    unfold WJ at hq
    cases hf:findLabel c l with
    | none=>
     simp only [hf] at hq
     exact ⟨_,a₁,w₁,hq,⟨fun k' hk=>harr.1 k' (by simpa [gotoIn,hf] using hk),fun h1 hk=>harr.2 h1 (by simpa [gotoIn,hf] using hk)⟩⟩
    | some rest=>
     simp only [hf] at hq
     obtain ⟨e₂,a₂,w₂,hq₂,harr₂⟩:=ih rest a₁ w₁ hq
     exact ⟨e₂,a₂,w₂,hq₂,.of_steps (harr.1 _ (by simp [gotoIn,hf])) harr₂⟩
   | ret=>exact ⟨_,a₁,w₁,hq,harr⟩
   | panic ch=>exact ⟨_,a₁,w₁,hq,harr⟩
   | outgrown=>exact ⟨_,a₁,w₁,hq,harr⟩
 obtain ⟨e,a',w',hq,harr⟩:=key m c a w h
 exact ⟨e,a',w',hq,.of_steps (.one (fenced_calm hb hr rfl) z4P) harr⟩
theorem vH {P:Program} {N l:Nat} {ops:Array Oper}:(J4 P N ops).find l=none:=by
 unfold J4
 split
 ·split
  ·repeat' split
   all_goals rfl
  ·rfl
 ·rfl
theorem vW {P:Program} {N:Nat}:∀{c:Code} {x:XC},comp P N c=some x->∀l,(findLabel c l=none/\x.find l=none)\/∃rest xr,findLabel c l=some rest/\x.find l=some xr/\comp P N rest=some xr
 | .seq a b,x,h,l=>by
  simp only [comp,obs,oms] at h
  obtain ⟨a',ha,b',hb,rfl⟩:=h
  simp only [findLabel,XC.find]
  rcases vW ha l with ⟨h1,h2⟩ | ⟨r,xr,h1,h2,h3⟩
  ·rw [h1,h2];exact vW hb l
  ·rw [h1,h2];exact .inr ⟨_,_,rfl,rfl,by simp only [comp,h3,hb,Option.bind_some,Option.map_some]⟩
 | .label l',x,h,l=>by
  simp only [comp,sij] at h;subst h
  simp only [findLabel,XC.find]
  by_cases hl:l'=l
  ·subst hl;simp [comp]
  ·have:(l'==l)=false:=by simpa using hl
   simp [this]
 | .skip,x,h,l=>by simp only [comp,sij] at h;subst h;exact .inl ⟨rfl,rfl⟩
 | .region _ ops false,x,h,l=>by
  simp only [comp] at h
  split at h<;>(simp only [sij] at h;subst h;exact .inl ⟨rfl,rfl⟩)
 | .region _ ops true,x,h,l=>by simp only [comp,sij] at h;subst h;exact .inl ⟨rfl,vH⟩
 | .cond c t e,x,h,l=>by
  simp only [comp,obs,oms] at h
  obtain ⟨c',_,t',_,e',_,rfl⟩:=h;exact .inl ⟨rfl,rfl⟩
 | .block id b,x,h,l=>by simp only [comp,oms] at h;obtain ⟨y,_,rfl⟩:=h;exact .inl ⟨rfl,rfl⟩
 | .loop b,x,h,l=>by simp only [comp,oms] at h;obtain ⟨y,_,rfl⟩:=h;exact .inl ⟨rfl,rfl⟩
 | .exit id,x,h,l=>by simp only [comp,sij] at h;subst h;exact .inl ⟨rfl,rfl⟩
 | .scope b,x,h,l=>by simp only [comp,oms] at h;obtain ⟨y,_,rfl⟩:=h;exact .inl ⟨rfl,rfl⟩
 | .goto l',x,h,l=>by simp only [comp,sij] at h;subst h;exact .inl ⟨rfl,rfl⟩
 | .ret,x,h,l=>by simp only [comp,sij] at h;subst h;exact .inl ⟨rfl,rfl⟩
 | .refuse _,x,h,l=>by simp only [comp,sij] at h;subst h;exact .inl ⟨rfl,rfl⟩
 | .rangeFunc ..,x,h,l=>by
  simp only [comp] at h
  split at h<;>(simp only [sij] at h;subst h;exact .inl ⟨rfl,rfl⟩)
theorem YR {P:Program} {N:Nat}:∀{c:Code} {x:XC},comp P N c=some x->∀l,x.find l≠none->l∈labels c
 | .seq a b,x,h,l,hf=>by
  simp only [comp,obs,oms] at h
  obtain ⟨a',ha,b',hb,rfl⟩:=h
  simp only [XC.find] at hf
  simp only [labels,List.mem_append]
  cases h1:a'.find l with
  | none=>rw [h1] at hf;exact .inr (YR hb l hf)
  | some r=>exact .inl (YR ha l (by rw [h1];simp))
 | .label l',x,h,l,hf=>by
  simp only [comp,sij] at h;subst h
  simp only [XC.find] at hf
  split at hf
  ·rename_i he
   have:l'=l:=by simpa using he
   simp [labels,this]
  ·exact absurd rfl hf
 | .skip,x,h,l,hf=>by simp only [comp,sij] at h;subst h;exact absurd rfl hf
 | .region _ ops false,x,h,l,hf=>by
  simp only [comp] at h
  split at h<;>(simp only [sij] at h;subst h;exact absurd rfl hf)
 | .region _ ops true,x,h,l,hf=>by simp only [comp,sij] at h;subst h;exact absurd vH hf
 | .cond c t e,x,h,l,hf=>by
  simp only [comp,obs,oms] at h
  obtain ⟨c',_,t',_,e',_,rfl⟩:=h;exact absurd rfl hf
 | .block id b,x,h,l,hf=>by simp only [comp,oms] at h;obtain ⟨y,_,rfl⟩:=h;exact absurd rfl hf
 | .loop b,x,h,l,hf=>by simp only [comp,oms] at h;obtain ⟨y,_,rfl⟩:=h;exact absurd rfl hf
 | .exit id,x,h,l,hf=>by simp only [comp,sij] at h;subst h;exact absurd rfl hf
 | .scope b,x,h,l,hf=>by simp only [comp,oms] at h;obtain ⟨y,_,rfl⟩:=h;exact absurd rfl hf
 | .goto l',x,h,l,hf=>by simp only [comp,sij] at h;subst h;exact absurd rfl hf
 | .ret,x,h,l,hf=>by simp only [comp,sij] at h;subst h;exact absurd rfl hf
 | .refuse _,x,h,l,hf=>by simp only [comp,sij] at h;subst h;exact absurd rfl hf
 | .rangeFunc ..,x,h,l,hf=>by
  simp only [comp] at h
  split at h<;>(simp only [sij] at h;subst h;exact absurd rfl hf)
theorem vz (b:XC) (l:Nat):∀ls:List Nat,(l∈ls\/b.find l=none)->wF E (z07 b ls) l=(b.find l).map (xrun E)
 | [],h=>by
  have:=h.resolve_left (by simp)
  rw [this];simp [z07,wF]
 | l'::r,h=>by
  simp only [z07]
  by_cases hl:l=l'
  ·subst hl
   cases hf:b.find l with
   | none=>simp only;rw [vz b l r (.inr hf),hf]
   | some c=>simp only [wF,if_true,Option.map_some]
  ·cases hf:b.find l' with
   | none=>simp only;exact vz b l r (h.imp (fun h=>(List.mem_cons.1 h).resolve_left hl) id)
   | some c=>simp only [wF,hl,if_false];exact vz b l r (h.imp (fun h=>(List.mem_cons.1 h).resolve_left hl) id)
def WU:XC->Bool
 | .seq a b=>WU a&&WU b
 | .cond _ t e=>WU t&&WU e
 | .block _ b | .loop b | .scope b _=>WU b
 | .rngF ..=>false
 | _=>true
theorem jw {l:Nat}:∀{x r:XC},WU x=true->x.find l=some r->WU r=true
 | .seq a b,r,h,hf=>by
  simp only [WU,Bool.and_eq_true] at h
  simp only [XC.find] at hf
  cases ha:a.find l with
  | none=>rw [ha] at hf;exact jw h.2 hf
  | some ra=>
   rw [ha] at hf
   simp only [sij] at hf;subst hf
   simp only [WU,Bool.and_eq_true]
   exact ⟨jw h.1 ha,h.2⟩
 | .label l',r,_,hf=>by
  simp only [XC.find] at hf
  split at hf
  ·simp only [sij] at hf;subst hf;rfl
  ·cases hf
 | .skip,_,_,hf | .ops _,_,_,hf | .draw _,_,_,hf | .drawE _,_,_,hf | .drawR _,_,_,hf | .bad,_,_,hf | .rngF ..,_,_,hf | .cond ..,_,_,hf | .block ..,_,_,hf | .loop _,_,_,hf | .exit _,_,_,hf | .scope ..,_,_,hf | .goto _,_,_,hf | .ret,_,_,hf=>by cases hf
def layC (C:Ctx) (o:Obj):Ctx:=⟨ZT C.w o,C.φ,C.L,C.X⟩
theorem z8i (C:Ctx) (o:Obj):Ext C (layC C o) where
 size:=by simp [layC,ZT]
 frame:=fun b hb _=>ZU hb
 sub:=fun b h=>.inl h
 slot:=fun _ _=>rfl
 bo:=fun _ h=>h
 len:=Nat.le_refl _
 cap:=fun b c e fr h=>⟨c,e,fr,(ZU (Array.getElem?_eq_some_iff.1 h).1).trans h,rfl⟩
 ex:=rfl
 os:=rfl
 tape:=rfl
 output:=rfl
theorem zdo {g0:Nat} {C:Ctx} {o:Obj} (wf:Wf g0 C):Wf g0 (layC C o):=
 ⟨wf.inj,wf.lo,wf.apart,fun b hx=>Nat.lt_of_lt_of_le (wf.exlo b hx) (by simp [layC,ZT]),Nat.le_trans wf.g (by simp [layC,ZT])⟩
theorem z9A {C:Ctx} {o:Obj} (sim:Sim C):Sim (layC C o):=fun s k hk=>by
 by_cases ha:k.alive=true
 ·exact (sim s k hk).mono (z8i C o) hk (ZU (yP sim ⟨s,k,hk,ha,rfl⟩))
 ·cases k<;>first | trivial | (exfalso;exact ha rfl)
theorem z8P {α:Type} {N n:Nat} {f:Nat->α} {d:α} (h:n<N):((List.range N).map f).getD n d=f n:=by
 simp [List.getD,h]
theorem z6n (hpl:E.plain) (wf0:Wf E.g0 C0) (hG0:E.G C0.w) {g:Operand} {g':Opd} {ps:Array Tmp} {asg body:Code} {xa xb:XC} (hg:opd g=some g') (hxa:comp E.P N asg=some xa) (hxb:comp E.P N body=some xb)
  {ρ:Rho} {L:List Blk} {K:XE→Rho→List Blk→Prop} {Q:Exit→Act→World→Prop} {a:Act} {w:World} (h:xrun E (.rngF g' N ps.toList xa xb) ρ L K) (hr:Rel E C0 N ρ L a w)
  (hQ:∀e ρ L a w,K e ρ L→Rel E C0 N ρ L a w→Q e.to a w):(Code.rangeFunc g ps asg body).wpIn Fence.wide 0 E.P Q a w:=by
 obtain ⟨hN,φ,wf,sim,hext,hρ,hdf,hkp⟩:=hr
 rw [DOkE.none hpl.2] at hdf
 simp only [xrun] at h
 have hgv:=JF hρ g g' hg
 split at h
 case h_2=>exact h.elim
 rename_i gf caps hge
 rw [hge] at hgv
 generalize hav:a.eval g=gv at hgv
 cases hgv with
 | fn _ _ _ va vb ha hb hva hvb=>
 have:va=[]:=List.eq_nil_of_length_eq_zero (by simpa using ha.symm)
 subst this
 refine wpIn_rangeFunc fun fn hfn=>?_
 obtain ⟨rec0,hrec⟩:∃rec0:Loop,rec0={ state:=.ready,pending:=none,fn,tmps:=a.tmps,params:=ps,assign:=asg,body,defers:=w.heap.size }:=⟨_,rfl⟩
 have hrt:rec0.tmps=a.tmps:=by rw [hrec]
 let C:Ctx:=⟨w,φ,L,C0.X⟩
 let C1:Ctx:=layC C (.deferred (some []))
 let l:=(List.range N).map ρ
 let C2:Ctx:=⟨ZT C1.w (.loop rec0),newφ C1 L.length 0,L++[.lp rec0 l],C0.X⟩
 have hC2:newC C1 L.length (.loop rec0) (.lp rec0 l) 0=C2:=by
  show (⟨ZT C1.w (.loop rec0),newφ C1 L.length 0,zK L L.length (.lp rec0 l),C0.X⟩:Ctx)=⟨ZT C1.w (.loop rec0),newφ C1 L.length 0,L++[.lp rec0 l],C0.X⟩
  rw [Zb]
 have hg1:Free C1.L L.length:=.inl rfl
 have e1:Ext C C1:=z8i C _
 have e2:Ext C1 C2:=hC2▸Yu hg1 (.loop rec0) (.lp rec0 l) 0
 have e02:Ext C0 C2:=hext.trans (e1.trans e2)
 have hρ2:∀n,VR C2 (ρ n) (a.tmps.getD n undef):=fun n=>(hρ n).mono (e1.trans e2)
 have wf2:Wf E.g0 C2:=hC2▸z0i hg1 (zdo wf) (z9A sim)
 have hsz1:C1.w.heap.size=w.heap.size+1:=by simp [C1,layC,ZT,C]
 have hφ2:C2.φ L.length=⟨w.heap.size+1,0,0⟩:=by
  show (if L.length=L.length then _ else _)=_
  rw [if_pos rfl,hsz1]
 have blk2:wH C2 L.length (.lp rec0 l):=⟨by
   show (ZT C1.w (.loop rec0)).heap[(C2.φ L.length).blk]?=_
   rw [hφ2,←hsz1];exact Zm,fun n=>by
   by_cases hn:n<N
   ·rw [z8P hn,hrt];exact hρ2 n
   ·rw [hrt]
    have h1:l.getD n .und=.und:=by simp [l,List.getD,hn]
    have h2:a.tmps.getD n undef=undef:=by rw [Array.getD_eq_getD_getElem?,Array.getElem?_eq_none (by omega)];rfl
    rw [h1,h2];exact .und⟩
 have sim2:Sim C2:=by
  rw [←hC2] at blk2 ⊢
  exact WX hg1 (z9A sim) blk2
 obtain ⟨⟨gfn,hgf,hnm,hbody⟩,hcall⟩:=h rec0 (by rw [hrec]) (by rw [hrec]) ⟨by rw [hrec],by rw [hrec];exact hxa,by rw [hrec];exact hxb,by rw [hrec];exact hN⟩
 have hcall:=hcall C2.w C2.φ C0.X (.func (.yield (w.heap.size+1)) #[] #[]::vb) wf2 sim2 (z0t wf0 hG0 e02) (by simp [hb]) (fun i x hi=>by
  cases i with
  | zero=>
   simp only [List.getElem?_cons_zero,sij] at hi;subst hi
   have:=VR.yld (C:=C2) L.length ⟨.lp rec0 l,by show (L++[Blk.lp rec0 l])[L.length]?=_;simp,rfl⟩
   rw [hφ2] at this
   exact this
  | succ i=>exact (hvb i x (by simpa using hi)).mono (e1.trans e2))
 refine ⟨w.heap.size+1,[{ target:=.collected w.heap.size,args:=#[] }],C2.w,{ target:=.fn (.func gf) vb.toArray,args:=#[.func (.yield (w.heap.size+1)) #[] #[]] },C2.w,gf,
  (.func (.yield (w.heap.size+1)) #[] #[]::vb).toArray,C2.w,?_,?_,?_,?_,(fun h=>by cases h),?_⟩
 ·rw [show C2.w=(w.alloc (.deferred (some []))).alloc (.loop rec0) from rfl,hrec];exact run_enterLoop_outer _ _ _ _ _
 ·simp only [resolve,hav]
  simp [Deferred.ofValue,Act.eval]
 ·intro f' _;trivial
 ·simp only [invoke]
  have:(#[Value.func (.yield (w.heap.size+1)) #[] #[]]++vb.toArray)=(.func (.yield (w.heap.size+1)) #[] #[]::vb).toArray:=by apply Array.ext';simp
  rw [this]
  unfold callFunc
  rw [Sem.run_bind,run_program]
  have hnm' : (gfn.name == "runtime.NumGoroutine") = false := by simpa using hnm
  simp only [Result.andThen_ok,hgf,hnm',Bool.false_eq_true,if_false,hbody]
  rfl
 ·refine (callsIn_wide.2 hcall).mono ?_
  rintro e w' ⟨r,L',φ',v,⟨r1,hL',hst,hK⟩,rfl,wf',sim',ext', -⟩
  let C':Ctx:=⟨w',φ',L',C0.X⟩
  have hslot:φ' L.length=⟨w.heap.size+1,0,0⟩:=(ext'.slot L.length ⟨.lp rec0 l,by show (L++[Blk.lp rec0 l])[L.length]?=_;simp,rfl⟩).trans hφ2
  have hb':=(sim' _ _ hL').1
  rw [show (⟨w',φ',L',C0.X⟩:Ctx).φ L.length=φ' L.length from rfl,hslot] at hb'
  have hne:∀c e fr,Obj.loop r1≠.cells c e fr:=fun _ _ _ h=>by cases h
  have hb'':C'.w.heap[(C'.φ L.length).blk]?=some (.loop r1):=by show w'.heap[(φ' L.length).blk]?=_;rw [hslot];exact hb'
  let C3:Ctx:=setC C' L.length (.loop { r1 with state:=.exhausted }) .dead
  have wf3:Wf E.g0 C3:=Jy wf' hL' rfl
  have sim3:Sim C3:=vw wf' sim' hL' rfl hb'' hne trivial
  have e3:Ext C' C3:=Wv hL' rfl hb'' hne
  have hw3:C3.w=w'.putObj (w.heap.size+1) (.loop { r1 with state:=.exhausted }):=by
   show setW w' (φ' L.length).blk _=_
   rw [hslot];rfl
  have hD2:DOk C0.w.heap.size C2 ({ target:=.collected w.heap.size,args:=#[] }::a.defers):=by
   refine ⟨⟨w.heap.size,rfl,hext.size,?_,?_,?_,?_⟩,hdf.mono (e1.trans e2)⟩
   ·have:C2.w.heap.size=w.heap.size+2:=by simp [C2,C1,layC,ZT,C]
    omega
   ·intro hm
    rcases e2.sub _ hm with h1 | h1
    ·exact absurd (yP sim h1) (Nat.lt_irrefl _)
    ·rw [hsz1] at h1;omega
   ·show (ZT C1.w (.loop rec0)).heap[w.heap.size]?=_
    rw [ZU (by rw [hsz1];omega)]
    exact Zm
   ·intro d' hd' hc
    have:∀(ds:List Deferred),DOk C0.w.heap.size C ds→∀d'∈ds,d'.target≠.collected w.heap.size:=by
     intro ds
     induction ds with
     | nil=>intro _ d' hd';cases hd'
     | cons d ds ih=>
      rintro ⟨⟨D,h1,_,h3,_⟩,h7⟩ d' hd'
      rcases List.mem_cons.1 hd' with rfl | hd'
      ·rw [h1];intro hc;cases hc;exact absurd h3 (Nat.lt_irrefl _)
      ·exact ih h7 d' hd'
    exact this _ hdf d' hd' hc
  have hrel:Rel E C0 N ρ (L'.set L.length .dead) { a with defers:=[{ target:=.collected w.heap.size,args:=#[] }]++a.defers } C3.w:=
   ⟨hN,φ',wf3,sim3,(e02.trans ext').trans e3,fun n=>((hρ2 n).mono ext').mono e3,(DOkE.none hpl.2).2 ((hD2.mono ext').mono e3),jo hpl.1⟩
  refine ⟨r1.pending,C3.w,by rw [hw3];exact run_endLoop hb' hst,?_⟩
  cases hp:r1.pending with
  | none=>rw [hp] at hK;exact hQ .normal _ _ _ _ hK hrel
  | some c=>
   rw [hp] at hK
   cases c with
   | ret=>exact wpIn_ret (hQ .ret _ _ _ _ hK hrel)
   | exit i=>exact wpIn_exit (hQ (.exit i) _ _ _ _ hK hrel)
   | goto l=>exact wpIn_goto (hQ (.goto l) _ _ _ _ hK hrel)
   | _=>exact hK.elim
def yX:Code->Nat
 | .seq a b=>yX a+yX b+1
 | .cond _ t e=>yX t+yX e+1
 | .block _ b=>yX b+1
 | .loop b=>yX b+1
 | .scope b=>yX b+1
 | _=>1
theorem jm {l:Nat}:∀{c rest:Code},findLabel c l=some rest->yX rest<=yX c
 | .seq a b,rest,hf=>by
  simp only [findLabel] at hf
  split at hf
  ·rename_i r hr
   simp only [sij] at hf;subst hf
   have:=jm hr
   simp only [yX];omega
  ·have:=jm hf
   simp only [yX];omega
 | .label l',rest,hf=>by
  simp only [findLabel] at hf
  split at hf
  ·simp only [sij] at hf;subst hf;exact Nat.le_refl _
  ·cases hf
 | .skip,_,hf=>by cases hf
 | .region ..,_,hf=>by cases hf
 | .cond ..,_,hf=>by cases hf
 | .block ..,_,hf=>by cases hf
 | .loop ..,_,hf=>by cases hf
 | .exit ..,_,hf=>by cases hf
 | .scope ..,_,hf=>by cases hf
 | .goto ..,_,hf=>by cases hf
 | .ret,_,hf=>by cases hf
 | .refuse ..,_,hf=>by cases hf
 | .rangeFunc ..,_,hf=>by cases hf
def safe (lo:Nat):XC->Bool
 | .ops l | .draw l | .drawE l=>l.all (JM lo)
 | .drawR l=>l.all fun p=>JM lo p.1
 | .seq a b=>safe lo a&&safe lo b
 | .cond _ t e=>safe lo t&&safe lo e
 | .block _ b | .loop b | .scope b _=>safe lo b
 | .rngF ..=>false
 | _=>true
theorem z0h {lo l:Nat}:∀{x r:XC},safe lo x=true->x.find l=some r->safe lo r=true
 | .seq a b,r,h,hf=>by
  simp only [safe,Bool.and_eq_true] at h
  simp only [XC.find] at hf
  cases ha:a.find l with
  | none=>rw [ha] at hf;exact z0h h.2 hf
  | some ra=>
   rw [ha] at hf
   simp only [sij] at hf;subst hf
   simp only [safe,Bool.and_eq_true]
   exact ⟨z0h h.1 ha,h.2⟩
 | .label l',r,h,hf=>by
  simp only [XC.find] at hf
  split at hf
  ·simp only [sij] at hf;subst hf;rfl
  ·cases hf
 | .skip,_,_,hf=>by cases hf
 | .ops _,_,_,hf=>by cases hf
 | .draw _,_,_,hf=>by cases hf
 | .drawE _,_,_,hf=>by cases hf
 | .drawR _,_,_,hf=>by cases hf
 | .bad,_,_,hf=>by cases hf
 | .rngF ..,_,_,hf=>by cases hf
 | .cond ..,_,_,hf=>by cases hf
 | .block ..,_,_,hf=>by cases hf
 | .loop ..,_,_,hf=>by cases hf
 | .exit ..,_,_,hf=>by cases hf
 | .scope ..,_,_,hf=>by cases hf
 | .goto ..,_,_,hf=>by cases hf
 | .ret,_,_,hf=>by cases hf
theorem z0T:∀{l:List zk},(vk l).length=l.length
 | []=>rfl
 | o::r=>by simp only [vk,llc,z0T]
theorem z1b:∀{l:List zk} (i:Nat) (x:zk),(vk l)[i]?=some x->∃x0,l[i]?=some x0/\(x=x0\/x=x0.toP)
 | [],i,x,h=>by simp [vk] at h
 | o::r,0,x,h=>by
  simp only [vk,List.getElem?_cons_zero,sij] at h
  refine ⟨o,rfl,?_⟩
  split at h
  ·exact .inr h.symm
  ·exact .inl h.symm
 | o::r,i+1,x,h=>by
  simp only [vk,List.getElem?_cons_succ] at h
  exact z1b i x h
theorem z9K {lo:Nat} {xs:List zk}:(xs.map zk.toP).all (JM lo)=xs.all (JM lo):=by
 rw [List.all_map];rfl
theorem z9D {lo:Nat} {ops:Array Oper} {xs:List zk} (h:(z0H ops (xs.map zk.toP)).all (fun p=>JM lo p.1)=true):xs.all (JM lo)=true:=by
 rw [<-z9K]
 have h1:(z0H ops (xs.map zk.toP)).map (·.1)=xs.map zk.toP:=by simp [z0H,List.map_map,Function.comp_def,List.zipIdx_map_fst]
 rw [<-h1,List.all_map];exact h
theorem yI (hF:FOk F) (wf0:Wf E.g0 C0) (hG0:E.G C0.w):∀(m:Nat) (c:Code),yX c<=m->∀(x:XC),comp E.P N c=some x->(F=Fence.wide\/WU x=true)->(E.plain\/safe E.lo x=true)->
  ∀(ρ:Rho) (L:List Blk) (K:XE->Rho->List Blk->Prop) (Q:Exit->Act->World->Prop) (a:Act) (w:World),z1u E C0 N Q->xrun E x ρ L K->Rel E C0 N ρ L a w->
   (∀e ρ L a w,K e ρ L->Rel E C0 N ρ L a w->Q e.to a w)->c.wpIn F 0 E.P Q a w:=by
 intro m
 induction m with
 | zero=>intro c hc;exfalso;cases c<;>simp [yX] at hc
 | succ m ih=>
  intro c hc x hx hdr hsf ρ L K Q a w hP h hr hQ
  cases c with
  | skip=>simp only [comp,sij] at hx;subst hx;exact wpIn_skip (hQ .normal ρ L a w h hr)
  | label l=>simp only [comp,sij] at hx;subst hx;exact wpIn_label (hQ .normal ρ L a w h hr)
  | exit id=>simp only [comp,sij] at hx;subst hx;exact wpIn_exit (hQ (.exit id) ρ L a w h hr)
  | goto l=>simp only [comp,sij] at hx;subst hx;exact wpIn_goto (hQ (.goto l) ρ L a w h hr)
  | ret=>simp only [comp,sij] at hx;subst hx;exact wpIn_ret (hQ .ret ρ L a w h hr)
  | refuse s=>simp only [comp,sij] at hx;subst hx;exact h.elim
  | rangeFunc g ps asg body=>
   simp only [comp] at hx
   split at hx
   ·rename_i g' xa xb hg hxa hxb
    simp only [sij] at hx;subst hx
    obtain rfl:=hdr.resolve_right (by simp [WU])
    exact z6n (hsf.resolve_right (by simp [safe])) wf0 hG0 hg hxa hxb h hr hQ
   ·simp only [sij] at hx;subst hx;exact h.elim
  | region id ops d=>
   cases d
   ·simp only [comp] at hx
    split at hx
    ·rename_i xs hxs
     simp only [sij] at hx;subst hx
     refine wpIn_region ?_
     rw [List.range_eq_range']
     exact z15 hF wf0 hG0 hP (fun ρ L a w hk hr=>hQ .normal ρ L a w hk hr) ops.size 0 xs ρ L a w (hsf.imp And.left fun h=>h) (by omega) (by simpa using hxs) h hr
    ·simp only [sij] at hx;subst hx;exact h.elim
   ·simp only [comp,sij] at hx
    subst hx
    unfold J4 at h hsf
    split at h
    ·rename_i hm
     rw [if_pos hm] at hsf
     split at h
     ·rename_i xs hxs
      rw [hxs] at hsf
      simp only at hsf
      split at h
      ·rename_i hc
       rw [if_pos hc] at hsf
       simp only [Bool.and_eq_true] at hc
       exact yB hF wf0 hG0 hP (K:=fun ρ' L'=>K .normal ρ' L') hm (hsf.imp And.left fun h=>h) hxs (fun i x hx=>⟨x,hx,.inl rfl⟩) rfl (z0l (z9w hc.2)) h.2 hr fun ρ L a w hk hr=>hQ .normal ρ L a w hk hr
      ·rename_i hc0
       rw [if_neg hc0] at hsf
       split at h
       ·rename_i hc
        rw [if_pos hc] at hsf
        simp only [Bool.and_eq_true] at hc
        exact yB hF wf0 hG0 hP (K:=fun ρ' L'=>K .normal ρ' L') hm (hsf.imp And.left fun h=>h) hxs (fun i x hx=>⟨x,hx,.inl rfl⟩) rfl (z0l hc.2) h hr fun ρ L a w hk hr=>hQ .normal ρ L a w hk hr
       ·rename_i hc1
        rw [if_neg hc1] at hsf
        split at h
        ·rename_i hc
         rw [if_pos hc] at hsf
         simp only [Bool.and_eq_true] at hc
         refine yB hF wf0 hG0 hP (K:=fun ρ' L'=>K .normal ρ' L') hm (hsf.imp And.left fun h=>h) hxs (fun i x hx=>?_) (by simp [z4V]) hc.2 h hr fun ρ L a w hk hr=>hQ .normal ρ L a w hk hr
         simp only [z4V] at hx
         rw [List.getElem?_map,oms] at hx
         obtain ⟨y,hy,rfl⟩:=hx
         exact ⟨y,hy,by split;exact .inl rfl;exact .inr rfl⟩
        ·rename_i hcp
         rw [if_neg hcp] at hsf
         split at h
         ·rename_i hc
          rw [if_pos hc] at hsf
          simp only [Bool.and_eq_true] at hc
          exact yB hF wf0 hG0 hP (K:=fun ρ' L'=>K .normal ρ' L') hm (hsf.imp And.left fun h=>h) hxs z1b z0T hc.2 h hr fun ρ L a w hk hr=>hQ .normal ρ L a w hk hr
         ·rename_i hcl
          rw [if_neg hcl] at hsf
          split at h
          ·rename_i hc
           rw [if_pos hc] at hsf
           have hc:=z0l (z9w hc)
           refine yB hF wf0 hG0 hP (K:=fun ρ' L'=>K .normal ρ' L') hm (hsf.imp And.left fun h=>h) hxs (fun i x hx=>?_) (by simp) hc h hr fun ρ L a w hk hr=>hQ .normal ρ L a w hk hr
           rw [List.getElem?_map,oms] at hx
           obtain ⟨y,hy,rfl⟩:=hx
           exact ⟨y,hy,.inr rfl⟩
          ·rename_i hc2
           rw [if_neg hc2] at hsf
           split at h
           ·rename_i hc
            rw [if_pos hc] at hsf
            exact z2j hF wf0 hG0 hP (K:=fun ρ' L'=>K .normal ρ' L') hm (hsf.imp And.left z9D) hxs (by simp [z0H,List.map_map,Function.comp_def,List.zipIdx_map_fst]) hc h hr fun ρ L a w hk hr=>hQ .normal ρ L a w hk hr
           ·rename_i hc3
            rw [if_neg hc3] at hsf
            split at h
            ·rename_i hc
             rw [if_pos hc] at hsf
             exact yB hF wf0 hG0 hP (K:=fun ρ' L'=>K .normal ρ' L') hm (hsf.imp And.left fun h=>h) hxs (fun i x hx=>⟨x,hx,.inl rfl⟩) rfl (z0l hc) h hr fun ρ L a w hk hr=>hQ .normal ρ L a w hk hr
            ·rename_i hc4
             rw [if_neg hc4] at hsf
             split at h
             ·rename_i hc
              rw [if_pos hc] at hsf
              refine yB hF wf0 hG0 hP (K:=fun ρ' L'=>K .normal ρ' L') hm (hsf.imp And.left fun h=>h) hxs (fun i x hx=>?_) (by simp) (z0l hc) h hr fun ρ L a w hk hr=>hQ .normal ρ L a w hk hr
              rw [List.getElem?_map,oms] at hx
              obtain ⟨y,hy,rfl⟩:=hx
              exact ⟨y,hy,.inr rfl⟩
             ·exact h.elim
     ·exact h.elim
    ·exact h.elim
  | seq c1 c2=>
   simp only [comp,obs,oms] at hx
   obtain ⟨x1,h1,x2,h2,rfl⟩:=hx
   simp only [WU,Bool.and_eq_true] at hdr
   simp only [safe,Bool.and_eq_true] at hsf
   simp only [yX] at hc
   refine wpIn_seq (ih c1 (by omega) x1 h1 (hdr.imp id And.left) (hsf.imp id And.left) ρ L _ _ a w hP h hr ?_)
   intro e ρ' L' a' w' hk hr'
   cases e with
   | normal=>exact ih c2 (by omega) x2 h2 (hdr.imp id And.right) (hsf.imp id And.right) ρ' L' K Q a' w' hP hk hr' hQ
   | exit id=>exact hQ _ ρ' L' a' w' hk hr'
   | goto l=>exact hQ _ ρ' L' a' w' hk hr'
   | ret=>exact hQ _ ρ' L' a' w' hk hr'
  | cond c1 t e=>
   simp only [comp,obs,oms] at hx
   obtain ⟨q,hq,xt,ht,xe,he,rfl⟩:=hx
   simp only [WU,Bool.and_eq_true] at hdr
   simp only [safe,Bool.and_eq_true] at hsf
   simp only [yX] at hc
   simp only [xrun] at h
   have hv:VR _ (q.ev ρ) (a.eval c1):=JF hr.2.choose_spec.2.2.2.1 c1 q hq
   split at h
   ·rename_i b hb
    rw [hb] at hv
    have hv':a.eval c1=.bool b:=by generalize a.eval c1=u at hv;cases hv;rfl
    exact wpIn_cond_split hv' (fun hb=>ih t (by omega) xt ht (hdr.imp id And.left) (hsf.imp id And.left) ρ L K Q a w hP (h.1 hb) hr hQ) (fun hb=>ih e (by omega) xe he (hdr.imp id And.right) (hsf.imp id And.right) ρ L K Q a w hP (h.2 hb) hr hQ)
   ·exact h.elim
  | block id b=>
   simp only [comp,oms] at hx;obtain ⟨xb,hb,rfl⟩:=hx
   simp only [yX] at hc
   refine wpIn_block (ih b (by omega) xb hb hdr hsf ρ L _ _ a w hP h hr ?_)
   intro e ρ' L' a' w' hk hr'
   cases e with
   | normal=>exact hQ .normal ρ' L' a' w' hk hr'
   | exit i=>
    simp only [XE.inBlock] at hk
    simp only [XE.to,Exit.inBlock]
    split at hk
    ·rename_i hi;rw [if_pos hi];exact hQ .normal ρ' L' a' w' hk hr'
    ·rename_i hi;rw [if_neg hi];exact hQ (.exit i) ρ' L' a' w' hk hr'
   | goto l=>exact hQ _ ρ' L' a' w' hk hr'
   | ret=>exact hQ _ ρ' L' a' w' hk hr'
  | loop b=>
   simp only [comp,oms] at hx;obtain ⟨xb,hb,rfl⟩:=hx
   simp only [yX] at hc
   simp only [xrun] at h
   obtain ⟨n,h⟩:=h
   refine wpIn_loop_rounds n ?_
   have key:∀n ρ L a w,z6U (xrun E xb) n ρ L K->Rel E C0 N ρ L a w->Code.roundsIn F 0 E.P b Q n a w:=by
    intro n
    induction n with
    | zero=>intro ρ L a w h;exact h.elim
    | succ n ihn=>
     intro ρ L a w h hr
     refine ih b (by omega) xb hb hdr hsf ρ L _ _ a w hP h hr ?_
     intro e ρ' L' a' w' hk hr'
     cases e with
     | normal=>exact ihn ρ' L' a' w' hk hr'
     | exit i=>exact hQ _ ρ' L' a' w' hk hr'
     | goto l=>exact hQ _ ρ' L' a' w' hk hr'
     | ret=>exact hQ _ ρ' L' a' w' hk hr'
   exact key n ρ L a w h hr
  | scope b=>
   simp only [comp,oms] at hx;obtain ⟨xb,hb,rfl⟩:=hx
   simp only [yX] at hc
   simp only [xrun] at h
   obtain ⟨n,h⟩:=h
   refine z6Z n (ih b (by omega) xb hb hdr hsf ρ L _ _ a w (hP.scope n) h hr ?_)
   have key:∀n e ρ L a w,Ya (wF E (z07 xb (labels b))) n e ρ L K->Rel E C0 N ρ L a w->WJ F 0 E.P b Q n e.to a w:=by
    intro n
    induction n with
    | zero=>
     intro e ρ L a w h hr
     cases e with
     | normal=>exact hQ .normal ρ L a w h hr
     | exit id=>exact hQ (.exit id) ρ L a w h hr
     | ret=>exact hQ .ret ρ L a w h hr
     | goto l=>
      simp only [Ya] at h
      rw [vz xb l (labels b) (by
       cases hf:xb.find l with
       | none=>exact .inr rfl
       | some r=>exact .inl (YR hb l (by rw [hf];simp)))] at h
      simp only [XE.to]
      unfold WJ
      rcases vW hb l with ⟨h1,h2⟩ | ⟨rest,xr,h1,h2,h3⟩
      ·rw [h2] at h;simp only [Option.map_none] at h
       simp only [h1];exact hQ (.goto l) ρ L a w h hr
      ·rw [h2] at h;simp only [Option.map_some] at h
    | succ n ihn=>
     intro e ρ L a w h hr
     cases e with
     | normal=>exact hQ .normal ρ L a w h hr
     | exit id=>exact hQ (.exit id) ρ L a w h hr
     | ret=>exact hQ .ret ρ L a w h hr
     | goto l=>
      simp only [Ya] at h
      rw [vz xb l (labels b) (by
       cases hf:xb.find l with
       | none=>exact .inr rfl
       | some r=>exact .inl (YR hb l (by rw [hf];simp)))] at h
      simp only [XE.to]
      unfold WJ
      rcases vW hb l with ⟨h1,h2⟩ | ⟨rest,xr,h1,h2,h3⟩
      ·rw [h2] at h;simp only [Option.map_none] at h
       simp only [h1];exact hQ (.goto l) ρ L a w h hr
      ·rw [h2] at h;simp only [Option.map_some] at h
       simp only [h1]
       have hsz:=jm h1
       exact ih rest (by omega) xr h3 (hdr.imp id (fun h=>jw h h2)) (hsf.imp id (fun h=>z0h h h2)) ρ L _ _ a w (hP.scope n) h hr (fun e ρ L a w hk hr=>ihn e ρ L a w hk hr)
   exact fun e ρ L a w hk hr=>key n e ρ L a w hk hr
end
end Go.X
end
section
namespace Go.X
open Go

inductive XRes where
 | tmp (t:Nat)
 | cell1 (a:Nat)
 | cellN (a n:Nat)
def Wh (P:Program):ResultVar->Option XRes
 | .tmp t=>some (.tmp t)
 | .cell a t=>(vZ P t).bind fun g=>(Z4 P t).map fun n=>if g then .cellN a n else .cell1 a
def z3H (E:Env) (ρ:Rho) (L:List Blk):XRes->(IV->Prop)->Prop
 | .tmp t,K=>K (ρ t)
 | .cell1 a,K=>xop E (.load1 (.t a)) (Opd.ev ρ) L fun r _=>K r
 | .cellN a n,K=>xop E (.loadN n (.t a)) (Opd.ev ρ) L fun r _=>K r
def wW (E:Env) (ρ:Rho) (L:List Blk):List XRes->(List IV->Prop)->Prop
 | [],K=>K []
 | r::l,K=>z3H E ρ L r fun v=>wW E ρ L l fun vs=>K (v::vs)
def je:List IV->IV
 | [x]=>x
 | l=>.tup l
def Zg (E:Env) (rs:List XRes) (ρ:Rho) (L:List Blk) (K:IV->Prop):Prop:=wW E ρ L rs fun vs=>K (je vs)
def ZJ (n:Nat) (keep:List Nat):Ren:=fun s=>if s<n then some (some s) else
 match pos keep s n with
 | some i=>some (some i)
 | none=>some none
def Leave (n:Nat) (r:IV) (L':List Blk) (R:IV->List Blk->Prop):Prop:=
 ∃keep:List Nat,keep.Pairwise (·<·)/\(∀s∈keep,n<=s/\s<L'.length)/\∃r' L'',conv L' fuel (ZJ n keep) r=some r'/\
  mapO (ZN L' fuel (ZJ n keep)) (L'.take n++keep.map fun s=>L'.getD s .dead)=some L''/\R r' L''
def entry (args:List IV):Rho:=fun n=>args.getD n .und
structure XFn where
 ntmps:Nat
 results:List XRes
 body:XC
def xfun (E:Env) (F:XFn) (args:List IV) (L:List Blk) (R:IV->List Blk->Prop):Prop:=
 xrun E F.body (entry args) L fun e ρ L'=>(e=.ret\/e=.normal)/\Zg E F.results ρ L' fun r=>Leave L.length r L' R
def Y3 (P:Program) (fn:Func):Option XFn:=
 fn.body.bind fun c=>(comp P fn.ntmps c).bind fun x=>(mapO (Wh P) fn.results.toList).map fun rs=>⟨fn.ntmps,rs,x⟩
section
variable {E:Env}
def z9t (tmps:Array Value):ResultVar->Sem Value
 | .tmp t=>pure (tmps.getD t undef)
 | .cell a t=>do loadVar t (<-asAddr (tmps.getD a undef))
theorem z7b {C:Ctx} (sim:Sim C) (hG:E.G C.w) {ρ:Rho} {tmps:Array Value} (hρ:∀n,VR C (ρ n) (tmps.getD n undef)) {rv:ResultVar} {x:XRes} (hx:Wh E.P rv=some x) {K:IV->Prop} (h:z3H E ρ C.L x K) :
  ∃v r,(z9t tmps rv).run E.P C.w=.ok v C.w/\VR C r v/\K r:=by
 have hload:∀(t:TypeId) (at_:Nat) (Q:IV->List Blk->Prop) (xo:XO),wI E.P (.load t (.tmp at_))=some xo->xo.quiet=true->xop E xo (Opd.ev ρ) C.L Q->
   ∃v r,(do loadVar t (<-asAddr (tmps.getD at_ undef)):Sem Value).run E.P C.w=.ok v C.w/\VR C r v/\Q r C.L:=by
  intro t at_ Q xo hxo hq hxop
  obtain ⟨v,r,h1,h2,h3⟩:=zaC (E:=E) (C:=C) (a:=⟨tmps,[]⟩) (o:={ (default:Oper) with op:=.load t (.tmp at_) }) (x:=xo) sim hG (JF hρ) hxo hq hxop
  refine ⟨v,r,?_,h2,h3⟩
  have h4:(execOp (Act.eval ⟨tmps,[]⟩) { (default:Oper) with op:=.load t (.tmp at_) }).run E.P C.w=((Instr.loadAt t (tmps.getD at_ undef)).run E.P C.w).andThen fun v w'=>.ok (.value v) w':=by
   show (do pure (Next.value (<-Instr.loadAt t (tmps.getD at_ undef))):Sem Next).run E.P C.w=_
   rw [Sem.run_bind];rfl
  rw [h4] at h1
  have h5:(Instr.loadAt t (tmps.getD at_ undef)).run E.P C.w=.ok v C.w:=by
   cases hr:(Instr.loadAt t (tmps.getD at_ undef)).run E.P C.w with
   | ok u w'=>rw [hr] at h1;simp only [Result.andThen_ok,Result.ok.injEq,Next.value.injEq] at h1;rw [h1.1,h1.2]
   | halt hh w'=>rw [hr] at h1;cases h1
  unfold Instr.loadAt at h5
  rw [Sem.run_bind] at h5 ⊢
  cases hv:tmps.getD at_ undef with
  | pointer p=>
   cases p with
   | none=>rw [hv] at h5;cases h5
   | some p=>rw [hv] at h5;exact h5
  | _=>rw [hv] at h5;cases h5
 cases rv with
 | tmp t=>simp only [Wh,sij] at hx;subst hx;exact ⟨_,_,rfl,hρ t,h⟩
 | cell at_ t=>
  simp only [Wh,obs,oms] at hx
  obtain ⟨g,hg,n,hn,rfl⟩:=hx
  cases g
  ·simp only [Bool.false_eq_true,if_false,z3H] at h
   exact hload t at_ (fun r _=>K r) (.load1 (.t at_)) (by simp [wI,hg,hn,opd]) rfl h
  ·simp only [if_true,z3H] at h
   exact hload t at_ (fun r _=>K r) (.loadN n (.t at_)) (by simp [wI,hg,hn,opd]) rfl h
theorem z0B {C:Ctx} (sim:Sim C) (hG:E.G C.w) {ρ:Rho} {tmps:Array Value} (hρ:∀n,VR C (ρ n) (tmps.getD n undef)):∀(rvs:List ResultVar) (xs:List XRes) (K:List IV->Prop),mapO (Wh E.P) rvs=some xs->wW E ρ C.L xs K->
  ∃vs rs,(rvs.mapM (z9t tmps)).run E.P C.w=.ok vs C.w/\rs.length=vs.length/\
   (∀(i:Nat) (x:IV),rs[i]?=some x->VR C x (vs.getD i undef))/\K rs
 | [],xs,K,hx,h=>by
  simp only [mapO,sij] at hx;subst hx
  exact ⟨[],[],rfl,rfl,fun i x hi=>by simp at hi,h⟩
 | rv::rvs,xs,K,hx,h=>by
  simp only [mapO] at hx
  split at hx
  ·split at hx
   ·rename_i x hx1 _ xr hxr
    simp only [sij] at hx;subst hx
    obtain ⟨v,r,h1,h2,h3⟩:=z7b (E:=E) sim hG hρ hx1 h
    obtain ⟨vs,rs,h4,h5,h6,h7⟩:=z0B sim hG hρ rvs xr _ hxr h3
    refine ⟨v::vs,r::rs,?_,by simp [h5],fun i x hi=>?_,h7⟩
    ·rw [List.mapM_cons,Sem.run_bind,h1]
     simp only [Result.andThen_ok]
     rw [Sem.run_bind,h4]
     rfl
    ·cases i with
     | zero=>simp at hi;subst hi;exact h2
     | succ i=>simpa using h6 i x (by simpa using hi)
   ·cases hx
  ·cases hx
theorem YU {C:Ctx} (sim:Sim C) (hG:E.G C.w) {ρ:Rho} {tmps:Array Value} (hρ:∀n,VR C (ρ n) (tmps.getD n undef)) {fn:Func} {xs:List XRes} {K:IV->Prop} (hx:mapO (Wh E.P) fn.results.toList=some xs) (h:Zg E xs ρ C.L K) :
  ∃v r,(results fn tmps).run E.P C.w=.ok v C.w/\VR C r v/\K r:=by
 obtain ⟨vs,rs,h1,h2,h3,h4⟩:=z0B (E:=E) sim hG hρ fn.results.toList xs _ hx h
 have hrun:(results fn tmps).run E.P C.w=.ok (if h:vs.toArray.size=1 then vs.toArray[0] else .tuple vs.toArray) C.w:=by
  have h0:results fn tmps=(do let vs <-fn.results.mapM (z9t tmps);pure (if h:vs.size=1 then vs[0] else .tuple vs)):=rfl
  rw [h0,Sem.run_bind,Array.mapM_eq_mapM_toList,Sem.run_map,h1]
  rfl
 refine ⟨_,_,hrun,?_,h4⟩
 clear h1 hrun h4
 match rs,vs,h2,h3 with
 | [],[],_,_=>exact .tup [] [] rfl (fun i x hi=>by simp at hi)
 | [r],[v],_,h3=>exact h3 0 r rfl
 | r1::r2::rs,v1::v2::vs,h2,h3=>
  have:¬((v1::v2::vs).toArray.size=1):=by simp
  rw [dif_neg this]
  exact .tup _ _ h2 h3
theorem JQ {g0:Nat} {C0 C:Ctx} (wf:Wf g0 C) (sim:Sim C) (ext:Ext C0 C) {r:IV} {v:Value} (hv:VR C r v) {R:IV->List Blk->Prop} (h:Leave C0.L.length r C.L R) :
  ∃r' L' φ',R r' L'/\Wf g0 ⟨C.w,φ',L',C.X⟩/\Sim ⟨C.w,φ',L',C.X⟩/\Ext C0 ⟨C.w,φ',L',C.X⟩/\VR ⟨C.w,φ',L',C.X⟩ r' v:=by
 obtain ⟨keep,hnd,hkeep,r',L',hr,hL,hR⟩:=h
 let n:=C0.L.length
 have hn:n<=C.L.length:=ext.len
 let src:Nat->Nat:=fun s=>if s<n then s else keep.getD (s - n) 0
 let φ':Nat->Loc:=fun s=>C.φ (src s)
 have hlen:L'.length=n+keep.length:=by
  rw [zG hL];simp only [lla,List.length_take,List.length_map];omega
 -- where a block of the new list comes from
 have hget:∀s k,L'[s]?=some k->∃k0,C.L[src s]?=some k0/\ZN C.L fuel (ZJ n keep) k0=some k/\((s<n/\src s=s)\/(n<=s/\keep[s - n]?=some (src s))):=by
  intro s k hs
  obtain ⟨k0,h1,h2⟩:=zM hL s k hs
  by_cases hsn:s<n
  ·rw [List.getElem?_append_left (by rw [List.length_take];omega),List.getElem?_take,if_pos hsn] at h1
   exact ⟨k0,by simp only [src,hsn,if_true];exact h1,h2,.inl ⟨hsn,by simp only [src,hsn,if_true]⟩⟩
  ·have hlt:=zu hs
   rw [List.getElem?_append_right (by rw [List.length_take];omega),List.length_take,List.getElem?_map,oms] at h1
   obtain ⟨t,h3,rfl⟩:=h1
   have e1:s - min n C.L.length=s - n:=by omega
   have h3':keep[s - n]?=some t:=by rw [<-e1];exact h3
   have hsrc:src s=t:=by simp only [src,hsn,if_false];exact Yd h3'
   have htk:t∈keep:=List.mem_of_getElem? h3'
   obtain ⟨h5,h6⟩:=hkeep t htk
   exact ⟨_,by rw [hsrc];exact getD_get (d:=.dead) h6,h2,.inr ⟨by omega,by rw [hsrc];exact h3'⟩⟩
 have hmine:∀b,(⟨C.w,φ',L',C.X⟩:Ctx).mine b->C.mine b:=by
  rintro b ⟨s,k,hk,ha,rfl⟩
  obtain ⟨k0,h1,h2,_⟩:=hget s k hk
  exact ⟨src s,k0,h1,by rw [<-zQ h2];exact ha,rfl⟩
 have hext:Ext C0 ⟨C.w,φ',L',C.X⟩:=
  ⟨ext.size,ext.frame,fun b hb=>ext.sub b (hmine b hb),fun s hs0=>by
   have hs:s<n:=hs0.lt
   show C.φ (src s)=_
   have:src s=s:=by simp only [src];exact if_pos hs
   rw [this];exact ext.slot s hs0,fun s hs0=>by
   have hs:s<n:=hs0.lt
   obtain ⟨k,h1,h2⟩:=ext.bo s hs0
   have h3:(C.L.take n++keep.map fun s=>C.L.getD s .dead)[s]?=some k:=by
    rw [List.getElem?_append_left (by rw [List.length_take];omega),List.getElem?_take,if_pos hs];exact h1
   obtain ⟨k',h4,h5⟩:=Zx hL s k h3
   exact ⟨k',h4,by rw [yD h5];exact h2⟩,by show n<=L'.length;omega,ext.cap,ext.ex,ext.os,ext.tape,ext.output⟩
 have hinj:∀s t,s<L'.length->t<L'.length->((s<n/\src s=s)\/(n<=s/\keep[s - n]?=some (src s)))->((t<n/\src t=t)\/(n<=t/\keep[t - n]?=some (src t)))->src s=src t->s=t:=by
  intro s t _ _ hs ht heq
  have hk:∀i x,keep[i]?=some x->n<=x:=fun i x hx=>(hkeep x (List.mem_of_getElem? hx)).1
  rcases hs with ⟨h1,h2⟩ | ⟨h1,h2⟩<;>rcases ht with ⟨h3,h4⟩ | ⟨h3,h4⟩
  ·omega
  ·have:=hk _ _ h4;omega
  ·have:=hk _ _ h2;omega
  ·rw [heq] at h2
   rcases Nat.lt_trichotomy (s - n) (t - n) with h5 | h5 | h5
   ·have h6:=List.pairwise_iff_getElem.1 hnd (s - n) (t - n) (zu h2) (zu h4) h5
    have e1:=Option.some.inj ((List.getElem?_eq_getElem (zu h2)).symm.trans h2)
    have e2:=Option.some.inj ((List.getElem?_eq_getElem (zu h4)).symm.trans h4)
    omega
   ·omega
   ·have h6:=List.pairwise_iff_getElem.1 hnd (t - n) (s - n) (zu h4) (zu h2) h5
    have e1:=Option.some.inj ((List.getElem?_eq_getElem (zu h2)).symm.trans h2)
    have e2:=Option.some.inj ((List.getElem?_eq_getElem (zu h4)).symm.trans h4)
    omega
 have hren:z4G C ⟨C.w,φ',L',C.X⟩ (ZJ n keep):=by
  intro s k hk
  refine ⟨fun hm ha hown=>?_,fun t hm=>?_⟩
  ·have hsn:¬s<n:=by
    intro h;unfold ZJ at hm;rw [if_pos h] at hm;cases hm
   have hnk:s∉keep:=by
    unfold ZJ at hm
    rw [if_neg hsn] at hm
    split at hm
    ·cases hm
    ·rename_i hp;exact Jc hp
   rcases hown with hx | ⟨t,l,hl,hla,heq⟩
   ·exact wf.apart _ hx ⟨s,k,hk,ha,rfl⟩
   ·obtain ⟨k0,h1,h2,h3⟩:=hget t l hl
    have:=wf.inj s (src t) k k0 hk h1 ha (by rw [<-zQ h2];exact hla) heq.symm
    rcases h3 with ⟨h4,h5⟩ | ⟨h4,h5⟩
    ·omega
    ·rw [<-this] at h5;exact hnk (List.mem_of_getElem? h5)
  ·unfold ZJ at hm
   split at hm
   ·rename_i hsn
    simp only [sij] at hm;subst hm
    refine ⟨fun hb=>?_,?_⟩
    ·have h3:(C.L.take n++keep.map fun s=>C.L.getD s .dead)[s]?=some k:=by
      rw [List.getElem?_append_left (by rw [List.length_take];omega),List.getElem?_take,if_pos hsn];exact hk
     obtain ⟨k',h4,h5⟩:=Zx hL s k h3
     exact ⟨k',h4,by rw [yD h5];exact hb⟩
    show C.φ (src s)=_
    have:src s=s:=by simp only [src];exact if_pos hsn
    rw [this]
   ·rename_i hsn
    split at hm
    ·rename_i i hp
     simp only [sij] at hm;subst hm
     obtain ⟨d,rfl,hd⟩:=YN hp
     have hdl:=zu hd
     refine ⟨fun hb=>?_,?_⟩
     ·have h3:(C.L.take n++keep.map fun s=>C.L.getD s .dead)[n+d]?=some k:=by
       rw [List.getElem?_append_right (by rw [List.length_take];omega),List.length_take,List.getElem?_map]
       have e1:n+d - min n C.L.length=d:=by omega
       rw [e1,hd]
       show some (C.L.getD s .dead)=_
       rw [List.getD_eq_getElem?_getD,hk];rfl
      obtain ⟨k',h4,h5⟩:=Zx hL _ k h3
      exact ⟨k',h4,by rw [yD h5];exact hb⟩
     show C.φ (src (n+d))=_
     have:src (n+d)=s:=by
      have h1:¬n+d<n:=by omega
      simp only [src,h1,if_false,Nat.add_sub_cancel_left];exact Yd hd
     rw [this]
    ·cases hm
 have hown:∀b,(⟨C.w,φ',L',C.X⟩:Ctx).own b->C.own b:=fun b h=>h.imp id (hmine b)
 refine ⟨r',L',φ',hR,⟨?_,fun b h=>wf.lo b (hmine b h),fun b hx h=>wf.apart b hx (hmine b h),wf.exlo,wf.g⟩,?_,hext,Zu (C:=C) (C':=⟨C.w,φ',L',C.X⟩) rfl sim hown fuel _ r r' v hren hr hv⟩
 ·intro s t ks kt hs ht as at_ heq
  obtain ⟨k1,h1,h2,h3⟩:=hget s ks hs
  obtain ⟨k2,h4,h5,h6⟩:=hget t kt ht
  exact hinj s t (zu hs) (zu ht) h3 h6 (wf.inj _ _ k1 k2 h1 h4 (by rw [<-zQ h2];exact as) (by rw [<-zQ h5];exact at_) heq)
 ·intro s k hk
  obtain ⟨k0,h1,h2,_⟩:=hget s k hk
  exact Jk (C:=C) (C':=⟨C.w,φ',L',C.X⟩) (s:=src s) rfl rfl (fun x x' u _ hc hu=>Zu (C:=C) (C':=⟨C.w,φ',L',C.X⟩) rfl sim hown fuel _ x x' u hren hc hu) h2 (sim _ k0 h1)
theorem VR.keep {C C':Ctx} (hs:C'.w.heap.size=C.w.heap.size) (hφ:C'.φ=C.φ) (hL:C'.L=C.L) (hX:C'.X=C.X) (hc:∀(b:Nat) c e fr,C.w.heap[b]?=some (.cells c e fr)->C'.w.heap[b]?=some (.cells c e fr))
  {x:IV} {v:Value} (h:VR C x v):VR C' x v:=by
 have hown:∀b,C'.own b↔C.own b:=fun b=>by simp only [Ctx.own,Ctx.mine,hφ,hL,hX]
 have hcell:∀b o v,C.w.cell? ⟨b,o,none⟩=some v->C'.w.cell? ⟨b,o,none⟩=some v:=fun b o v hv=>by
  simp only [World.cell?] at hv ⊢
  cases hb:C.w.heap[b]? with
  | none=>rw [hb] at hv;cases hv
  | some ob=>cases ob with
   | cells c e fr=>rw [hb] at hv;rw [hc b c e fr hb];exact hv
   | _=>rw [hb] at hv;cases hv
 induction h with
 | bool b=>exact .bool b
 | int k n=>exact .int k n
 | str s=>exact .str s
 | raw v h=>exact .raw v h
 | und=>exact .und
 | ptr s r o hs'=>rw [<-hφ];exact .ptr s r o (by unfold Ctx.born;rw [hL];exact hs')
 | sl s off len cap a cap' hs' hl hcc ha hmx=>
  refine .sl s off len cap a cap' (by unfold Ctx.born;rw [hL];exact hs') hl hcc ?_ hmx
  rcases ha with h0 | ⟨ha,c,e,fr,hh,hle⟩
  ·exact .inl h0
  ·exact .inr ⟨by rw [hφ];exact ha,c,e,fr,by rw [hφ];exact hc _ _ _ _ hh,by rw [hφ];exact hle⟩
 | isl rows a cap' sz vals hcap hsz hcl ha hv ih=>
  refine .isl rows a cap' sz vals hcap hsz hcl ?_ ih
  rcases ha with h0 | ⟨b,o,ha,hb,hn,hcc⟩
  ·exact .inl h0
  ·exact .inr ⟨b,o,ha,by rw [hs];exact hb,fun h=>hn ((hown b).1 h),fun i row hi j x hj=>hcell _ _ _ (hcc i row hi j x hj)⟩
 | iptr rows r o b base sz vals hsz hcl hb ho ha hv ih=>
  exact .iptr rows r o b base sz vals hsz hcl (by rw [hs];exact hb) (fun h=>ho ((hown b).1 h)) (fun i row hi j x hj=>hcell _ _ _ (ha i row hi j x hj)) ih
 | esl a=>exact .esl a
 | nsl=>exact .nsl
 | agg cs vs hl hv ih=>exact .agg cs vs hl ih
 | tup cs vs hl hv ih=>exact .tup cs vs hl ih
 | fn f as bs va vb ha hb hva hvb iha ihb=>exact .fn f as bs va vb ha hb iha ihb
 | iface t x v hv ih=>exact .iface t x v ih
 | mp s hs'=>rw [<-hφ];exact .mp s (by unfold Ctx.born;rw [hL];exact hs')
 | yld s hs'=>rw [<-hφ];exact .yld s (by unfold Ctx.born;rw [hL];exact hs')
theorem jH {g0:Nat} {C0 C:Ctx} (wf:Wf g0 C) (sim:Sim C) (ext:Ext C0 C) {r:IV} {v:Value} (hv:VR C r v) {R:IV->List Blk->Prop} (h:Leave C0.L.length r C.L R\/R r C.L) :
  ∃r' L' φ',R r' L'/\Wf g0 ⟨C.w,φ',L',C.X⟩/\Sim ⟨C.w,φ',L',C.X⟩/\Ext C0 ⟨C.w,φ',L',C.X⟩/\VR ⟨C.w,φ',L',C.X⟩ r' v:=by
 rcases h with h | h
 ·exact JQ wf sim ext hv h
 ·exact ⟨r,C.L,C.φ,h,wf,sim,ext,hv⟩
def RelM (E:Env) (C0:Ctx) (xs:Nat->IV) (us:Nat->Value) (L:List Blk) (ds:List Deferred) (w:World):Prop:=
 ∃φ,Wf E.g0 ⟨w,φ,L,C0.X⟩/\Sim ⟨w,φ,L,C0.X⟩/\Ext C0 ⟨w,φ,L,C0.X⟩/\(∀n,VR ⟨w,φ,L,C0.X⟩ (xs n) (us n))/\DOk C0.w.heap.size ⟨w,φ,L,C0.X⟩ ds
theorem WV {C0:Ctx} {fn:Func} {xs:Nat->IV} {us:Nat->Value} {L:List Blk} {tmps:Array Value} {R:Ending->World->Prop} {u:FrameMode} (hu:u≠.run) (hfin:∀w,RelM E C0 xs us L [] w->LeavesInM Fence.wide 0 E.P fn tmps R [] u w) :
  ∀(ds:List Deferred) (w:World),RelM E C0 xs us L ds w->LeavesInM Fence.wide 0 E.P fn tmps R ds u w
 | [],w,h=>hfin w h
 | d::ds,w,h=>by
  obtain ⟨φ,wf,sim,hext,hρ,⟨⟨D,rfl,h2,h3,h4,h5,h6⟩,h7⟩⟩:=h
  refine ⟨hu,.inl ⟨D,w.putObj D (.deferred none),rfl,run_takeDeferred h5,WV hu hfin ds _ ?_⟩⟩
  let C:Ctx:=⟨w,φ,L,C0.X⟩
  let C':Ctx:=⟨w.putObj D (.deferred none),φ,L,C0.X⟩
  have hsz:C'.w.heap.size=C.w.heap.size:=World.putObj_size
  have hother:∀b,b≠D->C'.w.heap[b]?=C.w.heap[b]?:=fun b hb=>World.putObj_heap_other hb
  have hcc:∀(b:Nat) c e fr,C.w.heap[b]?=some (.cells c e fr)->C'.w.heap[b]?=some (.cells c e fr):=fun b c e fr hb=>by
   rw [hother b (fun h=>by subst h;rw [h5] at hb;cases hb)];exact hb
  have hvr:∀{x v},VR C x v->VR C' x v:=fun h=>VR.keep hsz rfl rfl rfl hcc h
  have hext':Ext C0 C':=
   ⟨Nat.le_trans hext.size (Nat.le_of_eq hsz.symm),fun b hb hm=>(hother b (by omega)).trans (hext.frame b hb hm),hext.sub,hext.slot,hext.bo,hext.len,
    fun b c e fr hb=>by obtain ⟨c',e',fr',h8,h9⟩:=hext.cap b c e fr hb;exact ⟨c',e',fr',hcc _ _ _ _ h8,h9⟩,hext.ex,hext.os,hext.tape,hext.output⟩
  refine ⟨φ,⟨wf.inj,wf.lo,wf.apart,fun b hb=>by rw [hsz];exact wf.exlo b hb,by rw [hsz];exact wf.g⟩,?_,hext',fun n=>hvr (hρ n),?_⟩
  ·intro s k hk
   have h8:=sim s k hk
   by_cases ha:k.alive=true
   ·have hb:(φ s).blk≠D:=fun h=>h4 ⟨s,k,hk,ha,h⟩
    cases k with
    | cells sz rows=>
     obtain ⟨h9,c,e,fr,h10,hfr,h11,h12⟩:=h8
     exact ⟨h9,c,e,fr,hcc _ _ _ _ h10,hfr,h11,fun i row hi=>⟨(h12 i row hi).1,fun j x hj=>let ⟨v,h13,h14⟩:=(h12 i row hi).2 j x hj;⟨v,h13,hvr h14⟩⟩⟩
    | tcells ty sz rows=>
     obtain ⟨⟨h9,c,e,fr,h10,hfr,h11,h12⟩,hb0,c',fr',hc'⟩:=h8
     exact ⟨⟨h9,c,e,fr,hcc _ _ _ _ h10,hfr,h11,fun i row hi=>⟨(h12 i row hi).1,fun j x hj=>let ⟨v,h13,h14⟩:=(h12 i row hi).2 j x hj;⟨v,h13,hvr h14⟩⟩⟩,hb0,c',fr',hcc _ _ _ _ hc'⟩
    | siter t p=>exact ⟨h8.1,(hother _ hb).trans h8.2⟩
    | map es c=>obtain ⟨ms,k1,k2,k3⟩:=h8;exact ⟨ms,(hother _ hb).trans k1,k2,fun i e he=>by obtain ⟨m,k4,k5,k6,k7⟩:=k3 i e he;exact ⟨m,k4,k5,hvr k6,k7⟩⟩
    | mit m=>obtain ⟨k1,k2,since,last,k3⟩:=h8;exact ⟨k1,k2,since,last,(hother _ hb).trans k3⟩
    | lp r l=>exact ⟨(hother _ hb).trans h8.1,fun n=>hvr (h8.2 n)⟩
    | dead=>trivial
    | unborn=>trivial
   ·cases k<;>first | trivial | (exfalso;exact ha rfl)
  ·have:∀ds:List Deferred,(∀d'∈ds,d'.target≠.collected D)->DOk C0.w.heap.size C ds->DOk C0.w.heap.size C' ds:=by
    intro ds
    induction ds with
    | nil=>intro _ _;trivial
    | cons d ds ih=>
     rintro hne ⟨⟨D',h1,h2',h3',h4',h5',h6'⟩,h7'⟩
     refine ⟨⟨D',h1,h2',by rw [hsz];exact h3',h4',?_,h6'⟩,ih (fun d' hd'=>hne d' (List.mem_cons_of_mem _ hd')) h7'⟩
     rw [hother D' (fun h=>hne d List.mem_cons_self (by rw [h1,h]))];exact h5'
   exact this ds h6 h7
def Env.withPan (E:Env) (Q:IV->List Blk->Prop):Env:={ E with pan:=Q,lo:=0,kept:=fun _=>undef,base:=none }
def Env.noPan (E:Env):Env:={ E with pan:=fun _ _=>False,lo:=0,kept:=fun _=>undef,base:=none }
theorem JX {f : FuncId} {fn : Func} {F : XFn} {args : List IV} {L : List Blk} {R Q : IV → List Blk → Prop} {pq : IV → List Blk → Prop} (Lv : IV → List Blk → (IV → List Blk → Prop) → Prop) (hLv : ∀ r L' R, Lv r L' R → Leave L.length r L' R ∨ R r L') (hpq : ∀ x L', pq x L' → Lv x L' Q) (hf : E.P.funcs[f]? = some fn) (hF : Y3 E.P fn = some F) (hnm : fn.name ≠ "runtime.NumGoroutine")
  (hargs:args.length≤fn.ntmps) (h:xrun (E.withPan pq) F.body (entry args) L fun e ρ L'=>(e=.ret∨e=.normal)∧Zg (E.withPan pq) F.results ρ L' fun r=>Lv r L' R):XTP E f args L R Q:=by
 simp only [Y3,obs,oms] at hF
 obtain ⟨c,hb,x,hx,rs,hrs,rfl⟩:=hF
 refine ⟨⟨fn,hf,hnm,by rw [hb];rfl⟩,fun w φ X vs wf sim hG hl hvs=>?_⟩
 refine callsIn_wide.1 (callsIn_of_wp_marks (n:=0) hf hb trivial ?_)
 have hrel:Rel (E.withPan pq) ⟨w,φ,L,X⟩ fn.ntmps (entry args) L { tmps:=vs.toArray++Array.replicate (fn.ntmps - vs.toArray.size) undef,defers:=[] } w:=by
  refine ⟨by simp;omega,φ,wf,sim,Ext.refl _,fun n=>?_,(DOkE.none (E:=E.withPan pq) rfl).2 trivial,jo rfl⟩
  show VR _ (args.getD n .und) _
  by_cases hn:n<args.length
  ·have h1:=hvs n _ (getD_get (d:=.und) hn)
   have h2:(vs.toArray++Array.replicate (fn.ntmps - vs.toArray.size) undef).getD n undef=vs.getD n undef:=by
    rw [Array.getD_eq_getD_getElem?,Array.getElem?_append_left (by simpa [←hl] using hn),List.getD_eq_getElem?_getD]
    simp
   rw [h2];exact h1
  ·have h1:args.getD n .und=.und:=by rw [List.getD_eq_getElem?_getD,List.getElem?_eq_none (by omega)];rfl
   have h2:(vs.toArray++Array.replicate (fn.ntmps - vs.toArray.size) undef).getD n undef=undef:=by
    rw [Array.getD_eq_getD_getElem?,Array.getElem?_append_right (by simp;omega),Array.getElem?_replicate]
    split<;>rfl
   rw [h1,h2];exact .und
 let P1:Ending→World→Prop:=fun e w''=>∃r L'' φ'' v',Wf E.g0 ⟨w'',φ'',L'',X⟩∧Sim ⟨w'',φ'',L'',X⟩∧Ext ⟨w,φ,L,X⟩ ⟨w'',φ'',L'',X⟩∧VR ⟨w'',φ'',L'',X⟩ r v'∧
   ((R r L''∧e=.returned v')∨(Q r L''∧e=.panicked [{ v:=v',recovered:=false }]))
 refine yI (E:=E.withPan pq) (F:=Fence.wide) (.inl rfl) (C0:=⟨w,φ,L,X⟩) wf hG (yX c) c (Nat.le_refl _) x hx (.inl rfl) (.inl ⟨rfl,rfl⟩) (entry args) L _ (bodyPostM Fence.wide 0 E.P fn P1) _ w ?_ h hrel ?_
 ·intro y v L' φ' a w' hy hN wf' sim' ext' hv hd _ _
  have hd:=(DOkE.none (E:=E.withPan pq) rfl).1 hd
  refine WV (E:=E) (C0:=⟨w,φ,L,X⟩) (fn:=fn) (xs:=fun _=>y) (us:=fun _=>v) (L:=L') (R:=P1) (by intro h;cases h) (fun w'' hr=>?_) a.defers w' ⟨φ',wf',sim',ext',fun _=>hv,hd⟩
  obtain ⟨φ1,wf1,sim1,ext1,hv1,_⟩:=hr
  obtain ⟨r',L'',φ'',h4,h5,h6,h7,h8⟩:=jH (C0:=⟨w,φ,L,X⟩) (C:=⟨w'',φ1,L',X⟩) wf1 sim1 ext1 (hv1 0) (hLv _ _ _ (hpq y L' hy))
  exact ⟨r',L'',φ'',v,h5,h6,h7,h8,.inr ⟨h4,rfl⟩⟩
 rintro e ρ L' a' w' ⟨he,hres⟩ ⟨hN',φ',wf',sim',ext',hρ',hd',_⟩
 have hd':=(DOkE.none (E:=E.withPan pq) rfl).1 hd'
 have hfin:LeavesInM Fence.wide 0 E.P fn a'.tmps P1 a'.defers .returning w':=by
  refine WV (E:=E) (C0:=⟨w,φ,L,X⟩) (xs:=ρ) (us:=fun n=>a'.tmps.getD n undef) (L:=L') (by intro h;cases h) (fun w'' hr=>?_) a'.defers w' ⟨φ',wf',sim',ext',hρ',hd'⟩
  obtain ⟨φ1,wf1,sim1,ext1,hρ1,_⟩:=hr
  obtain ⟨v,r,h1,h2,h3⟩:=YU (E:=E.withPan pq) (C:=⟨w'',φ1,L',X⟩) sim1 (z0t (C0:=⟨w,φ,L,X⟩) wf hG ext1) hρ1 hrs hres
  obtain ⟨r',L'',φ'',h4,h5,h6,h7,h8⟩:=jH (C0:=⟨w,φ,L,X⟩) (C:=⟨w'',φ1,L',X⟩) wf1 sim1 ext1 h2 (hLv _ _ _ h3)
  exact ⟨v,h1,r',L'',φ'',v,h5,h6,h7,h8,.inl ⟨h4,rfl⟩⟩
 rcases he with rfl | rfl
 ·exact hfin
 ·exact hfin
theorem z6V {f : FuncId} {fn : Func} {F : XFn} {args : List IV} {L : List Blk} {R Q : IV → List Blk → Prop} {pq : IV → List Blk → Prop} (hpq : ∀ x L', pq x L' → Leave L.length x L' Q) (hf : E.P.funcs[f]? = some fn) (hF : Y3 E.P fn = some F) (hnm : fn.name ≠ "runtime.NumGoroutine")
  (hargs:args.length≤fn.ntmps) (h:xfun (E.withPan pq) F args L R):XTP E f args L R Q:=
 JX (fun r L' R=>Leave L.length r L' R) (fun _ _ _ h=>.inl h) hpq hf hF hnm hargs h
theorem z4r {f : FuncId} {fn : Func} {F : XFn} {args : List IV} {L : List Blk} {R Q : IV → List Blk → Prop} (hf : E.P.funcs[f]? = some fn) (hF : Y3 E.P fn = some F) (hnm : fn.name ≠ "runtime.NumGoroutine")
  (hargs:args.length≤fn.ntmps) (h:xrun (E.withPan Q) F.body (entry args) L fun e ρ L'=>(e=.ret∨e=.normal)∧Zg (E.withPan Q) F.results ρ L' fun r=>R r L'):XTP E f args L R Q:=
 JX (pq:=Q) (fun r L' R=>R r L') (fun _ _ _ h=>.inr h) (fun _ _ h=>h) hf hF hnm hargs h
theorem zbj {f:FuncId} {args:List IV} {L:List Blk} {R:IV->List Blk->Prop} (h:XTP E f args L R fun _ _=>False):XT E f args L R:=
 ⟨h.1,fun w φ X vs wf sim hG hl hv=>(h.2 w φ X vs wf sim hG hl hv).mono fun e w' ⟨r,L',φ',v,h1,h2,h3,h4,h5⟩=>by
  rcases h5 with ⟨h5,rfl⟩ | ⟨h5,_⟩
  ·exact ⟨r,L',φ',v,h5,rfl,h1,h2,h3,h4⟩
  ·exact h5.elim⟩
theorem zb7 {f:FuncId} {args:List IV} {L:List Blk} {R Q:IV->List Blk->Prop} (h:XT E f args L R):XTP E f args L R Q:=
 ⟨h.1,fun w φ X vs wf sim hG hl hv=>(h.2 w φ X vs wf sim hG hl hv).mono fun e w' ⟨r,L',φ',v,h1,he,h2,h3,h4,h5⟩=>⟨r,L',φ',v,h2,h3,h4,h5,.inl ⟨h1,he⟩⟩⟩
theorem zI.np {f:FuncId} {args:List IV} {r:IV} (h:zI E f args r):zI E.noPan f args r:=h
theorem zI.wp {f:FuncId} {args:List IV} {r:IV} {Q:IV->List Blk->Prop} (h:zI E f args r):zI (E.withPan Q) f args r:=h
theorem JW {f : FuncId} {fn : Func} {F : XFn} {args : List IV} {L : List Blk} {R : IV → List Blk → Prop} (hf : E.P.funcs[f]? = some fn) (hF : Y3 E.P fn = some F) (hnm : fn.name ≠ "runtime.NumGoroutine")
  (hargs:args.length≤fn.ntmps) (h:xfun E.noPan F args L R):XT E f args L R:=
 zbj (z6V (pq:=fun _ _=>False) (fun _ _ h=>h.elim) hf hF hnm hargs h)
end
end Go.X
end
section
namespace Go.X
open Go
section
variable {E:Env}
theorem yN {K K':Rho->List Blk->Prop} (hk:∀ρ L,K ρ L->K' ρ L):∀{l:List zk} {ρ:Rho} {L:List Blk},xops E l ρ L K->xops E l ρ L K'
 | [],ρ,L,h=>hk _ _ h
 | o::r,ρ,L,h=>by
  simp only [xops] at *
  split
  ·rename_i hg;rw [hg] at h;exact yz (fun v L'=>yN hk) h
  ·rename_i t want hg
   rw [hg] at h
   simp only at h
   split
   ·rename_i b hb;rw [hb] at h
    exact ⟨fun hw=>yz (fun v L'=>yN hk) (h.1 hw),fun hw=>yN hk (h.2 hw)⟩
   ·rename_i hb;rw [hb] at h;exact yN hk h
   ·split at h<;>simp_all
theorem YK {K K':Rho->List Blk->Prop} (hk:∀ρ L,K ρ L->K' ρ L):∀{l:List (zk × List Nat × Bool)} {i:Nat} {lg:List (Nat × List Nat × List Nat)} {ρ:Rho} {L:List Blk},ZG E i lg l ρ L K->ZG E i lg l ρ L K'
 | [],i,lg,ρ,L,h=>hk _ _ h
 | (o,chk,keep)::r,i,lg,ρ,L,h=>by
  simp only [ZG] at *
  split
  ·rename_i hg;rw [hg] at h;exact yz (fun v L' h=>⟨h.1,YK hk h.2⟩) h
  ·rename_i t want hg
   rw [hg] at h
   simp only at h
   split
   ·rename_i b hb;rw [hb] at h
    exact ⟨fun hw=>yz (fun v L' h=>⟨h.1,YK hk h.2⟩) (h.1 hw),fun hw=>YK hk (h.2 hw)⟩
   ·rename_i hb;rw [hb] at h;exact YK hk h
   ·split at h<;>simp_all
def zcr (f:Run):Prop:=∀(ρ:Rho) (L:List Blk) (K K':XE->Rho->List Blk->Prop),(∀e ρ L,K e ρ L->K' e ρ L)->f ρ L K->f ρ L K'
theorem z0X {f:Run} (hf:zcr f) {K K':XE->Rho->List Blk->Prop} (hk:∀e ρ L,K e ρ L->K' e ρ L) :
  ∀{n:Nat} {ρ:Rho} {L:List Blk},z6U f n ρ L K->z6U f n ρ L K'
 | 0,_,_,h=>h.elim
 | n+1,ρ,L,h=>hf _ _ _ _ (fun e ρ L h=>by
   cases e with
   | normal=>exact z0X hf hk h
   | exit=>exact hk _ _ _ h
   | goto=>exact hk _ _ _ h
   | ret=>exact hk _ _ _ h) h
theorem z0C {g:Nat->Option Run} (hg:∀l f,g l=some f->zcr f) {K K':XE->Rho->List Blk->Prop} (hk:∀e ρ L,K e ρ L->K' e ρ L) :
  ∀{n:Nat} {e:XE} {ρ:Rho} {L:List Blk},Ya g n e ρ L K->Ya g n e ρ L K'
 | n,.normal,_,_,h=>by cases n<;>exact hk _ _ _ h
 | n,.ret,_,_,h=>by cases n<;>exact hk _ _ _ h
 | n,.exit id,_,_,h=>by cases n<;>exact hk _ _ _ h
 | 0,.goto l,_,_,h=>by
  unfold Ya at *
  split at h
  ·exact hk _ _ _ h
  ·exact h.elim
 | n+1,.goto l,_,_,h=>by
  unfold Ya at *
  split at h
  ·exact hk _ _ _ h
  ·rename_i f hl
   exact hg l f hl _ _ _ _ (fun e ρ L h=>z0C hg hk h) h
mutual
theorem zB:∀(c:XC) {ρ:Rho} {L:List Blk} {K K':XE->Rho->List Blk->Prop},(∀e ρ L,K e ρ L->K' e ρ L)->xrun E c ρ L K->xrun E c ρ L K'
 | .skip,_,_,_,_,hk,h=>hk _ _ _ h
 | .ops l,_,_,_,_,hk,h=>yN (fun ρ L=>hk _ ρ L) h
 | .draw l,_,_,_,_,hk,h=>⟨h.1,yN (fun ρ L=>hk _ ρ L) h.2⟩
 | .seq a b,_,_,_,_,hk,h=>by
  simp only [xrun] at *
  exact zB a (fun e ρ L h=>by cases e<;>first | exact zB b hk h | exact hk _ _ _ h) h
 | .cond c t e,_,_,_,_,hk,h=>by
  simp only [xrun] at *
  split
  ·rename_i heq;rw [heq] at h;exact ⟨fun hb=>zB t hk (h.1 hb),fun hb=>zB e hk (h.2 hb)⟩
  ·split at h<;>simp_all
 | .block id b,_,_,_,_,hk,h=>by
  simp only [xrun] at *
  refine zB b (fun e ρ L h=>?_) h
  cases e with
  | exit i=>simp only [XE.inBlock] at *;split<;>simp_all
  | normal=>exact hk _ _ _ h
  | goto l=>exact hk _ _ _ h
  | ret=>exact hk _ _ _ h
 | .loop b,_,_,_,_,hk,h=>by
  simp only [xrun] at *
  obtain ⟨n,h⟩:=h
  exact ⟨n,z0X (f:=xrun E b) (fun _ _ _ _ hk h=>zB b hk h) hk h⟩
 | .exit id,_,_,_,_,hk,h=>hk _ _ _ h
 | .scope b ls,_,_,_,_,hk,h=>by
  simp only [xrun] at *
  obtain ⟨n,h⟩:=h
  exact ⟨n,zB b (fun e ρ L h=>z0C (fun _ _ hl=>z1h ls hl) hk h) h⟩
 | .drawE l,_,_,_,_,hk,h=>yN (fun ρ L=>hk _ ρ L) h
 | .drawR l,_,_,_,_,hk,h=>YK (fun ρ L=>hk _ ρ L) h
 | .bad,_,_,_,_,_,h=>h.elim
 | .rngF g N ps asg body,ρ,L,_,_,hk,h=>by
  simp only [xrun] at *
  split at h
  ·rename_i heq
   refine fun r0 h1 h2 h3=>(h r0 h1 h2 h3).mono fun r L' hr=>?_
   obtain ⟨r1,h4,h5,h6⟩:=hr
   refine ⟨r1,h4,h5,?_⟩
   split at h6<;>first
    | exact hk _ _ _ h6
    | exact h6.elim
    | (rename_i hp;rw [hp];exact hk _ _ _ h6)
  ·exact h.elim
 | .label _,_,_,_,_,hk,h=>hk _ _ _ h
 | .goto l,_,_,_,_,hk,h=>hk _ _ _ h
 | .ret,_,_,_,_,hk,h=>hk _ _ _ h
theorem z1h:∀(ls:z1k) {l:Nat} {f:Run},wF E ls l=some f->zcr f
 | .nil,_,_,h=>by cases h
 | .cons l' c r,l,f,h=>by
  simp only [wF] at h
  split at h
  ·simp only [sij] at h;subst h;exact fun _ _ _ _ hk h=>zB c hk h
  ·exact z1h r h
end

def Norm (M:Rho->List Blk->Prop):XE->Rho->List Blk->Prop
 | .normal,ρ,L=>M ρ L
 | _,_,_=>False
theorem z8o {b:XC} {ρ:Rho} {L:List Blk} {K:XE->Rho->List Blk->Prop} (I:Nat->Rho->List Blk->Prop) {n:Nat} (h0:I n ρ L)
  (hs:∀n ρ L,I n ρ L->xrun E b ρ L fun e ρ' L'=>match e with
   | .normal=>∃m,m<n/\I m ρ' L'
   | e=>K e ρ' L'):xrun E (.loop b) ρ L K:=by
 simp only [xrun]
 have key:∀n m ρ L,m<=n->I m ρ L->z6U (xrun E b) (n+1) ρ L K:=by
  intro n
  induction n with
  | zero=>
   intro m ρ L hm h
   refine zB b (fun e ρ' L' h'=>?_) (hs m ρ L h)
   cases e with
   | normal=>obtain ⟨k,hk,_⟩:=h';omega
   | exit=>exact h'
   | goto=>exact h'
   | ret=>exact h'
  | succ n ih=>
   intro m ρ L hm h
   refine zB b (fun e ρ' L' h'=>?_) (hs m ρ L h)
   cases e with
   | normal=>obtain ⟨k,hk,h2⟩:=h';exact ih k ρ' L' (by omega) h2
   | exit=>exact h'
   | goto=>exact h'
   | ret=>exact h'
 exact ⟨n+1,key n n ρ L (Nat.le_refl _) h0⟩
theorem Y9 {f:FuncId} {args args':List IV} {L:List Blk} {K:IV->List Blk->Prop} {r:IV} (hc:mapO (conv L fuel zy) args=some args') (h:zI E f args' r) (ht:yE r=true) (hr:conv [] fuel (ZB L.length) r=some r)
  (hk:K r L):YW E f args L K:=
 .inl ⟨true,args',hc,h.mono fun r' L1 ⟨h1,h2⟩=>by
  subst h1;subst h2
  exact ⟨fun _=>⟨ht,rfl⟩,r',[],hr,rfl,by simpa using hk⟩⟩
theorem z8p {f:FuncId} {args:List IV} {L:List Blk} {K:IV->List Blk->Prop} {r:IV} (h:XExt E f args r) (hk:K r L):YW E f args L K:=.inr (.inl ⟨r,h,hk⟩)
theorem wJ {f : FuncId} {fn : Func} {F : XFn} {args : List IV} {r : IV} (hf : E.P.funcs[f]? = some fn) (hF : Y3 E.P fn = some F) (hnm : fn.name ≠ "runtime.NumGoroutine")
  (hargs:args.length≤fn.ntmps) (h:xrun E.noPan F.body (entry args) [] fun e ρ L'=>(e=.ret∨e=.normal)∧Zg E.noPan F.results ρ L' fun r'=>conv L' fuel zy r'=some r):zI E f args r:=by
 refine JW hf hF hnm hargs (zB _ (fun e ρ L' ⟨h1,h2⟩=>⟨h1,?_⟩) h)
 have hren:ZJ 0 []=zy:=by funext s;simp [ZJ,pos,zy]
 have key:∀(rs:List XRes) (K K':List IV→Prop),(∀v,K v→K' v)→wW E.noPan ρ L' rs K→wW E.noPan ρ L' rs K':=by
  intro rs
  induction rs with
  | nil=>intro K K' hk h;exact hk _ h
  | cons x l ih=>
   intro K K' hk h
   simp only [wW] at *
   have h1:∀(Q Q':IV→Prop),(∀v,Q v→Q' v)→z3H E.noPan ρ L' x Q→z3H E.noPan ρ L' x Q':=by
    intro Q Q' hq hx
    cases x with
    | tmp t=>exact hq _ hx
    | cell1 a=>exact yz (E:=E.noPan) (fun v _ hv=>hq v hv) (by simpa only [z3H] using hx)
    | cellN a n=>exact yz (E:=E.noPan) (fun v _ hv=>hq v hv) (by simpa only [z3H] using hx)
   exact h1 _ _ (fun v hv=>ih _ _ (fun vs hvs=>hk _ hvs) hv) h
 refine key _ _ _ (fun vs hvs=>?_) h2
 exact ⟨[],.nil,by simp,r,[],by simpa only [lln,hren] using hvs,rfl,rfl,rfl⟩
end
end Go.X
end
section
namespace Go.X
open Go
theorem nr {α:Sort _} {a b:α} (h:a=b):a=b:=h
def subO (e:Opd->IV):Option Opd->Option Opd
 | none=>none
 | some x=>some (.c (e x))
def subL (e:Opd->IV):List Opd->List Opd
 | []=>[]
 | x::r=>.c (e x)::subL e r
def subP (e:Opd->IV):List (Nat × Nat × Opd)->List (Nat × Nat × Opd)
 | []=>[]
 | (a,b,x)::r=>(a,b,.c (e x))::subP e r
def subQ (e:Opd->IV):List (Nat × Opd)->List (Nat × Opd)
 | []=>[]
 | (a,x)::r=>(a,.c (e x))::subQ e r
def XO.sub (e:Opd->IV):XO->XO
 | .mov v_x=>.mov (.c (e v_x))
 | .pick v_c v_a v_b=>.pick (.c (e v_c)) (.c (e v_a)) (.c (e v_b))
 | .alloc v_zero=>.alloc v_zero
 | .box v_x=>.box (.c (e v_x))
 | .build v_zero v_parts=>.build v_zero (subP e v_parts)
 | .bslice v_sz v_zero v_len v_parts=>.bslice v_sz v_zero v_len (subQ e v_parts)
 | .load1 v_a=>.load1 (.c (e v_a))
 | .loadN v_n v_a=>.loadN v_n (.c (e v_a))
 | .store v_n v_a v_x=>.store v_n (.c (e v_a)) (.c (e v_x))
 | .nilck v_x=>.nilck (.c (e v_x))
 | .bin v_op v_x v_y=>.bin v_op (.c (e v_x)) (.c (e v_y))
 | .eqB v_neg v_x v_y=>.eqB v_neg (.c (e v_x)) (.c (e v_y))
 | .un v_op v_x=>.un v_op (.c (e v_x))
 | .cvInt v_k v_x=>.cvInt v_k (.c (e v_x))
 | .cvIntStr v_x=>.cvIntStr (.c (e v_x))
 | .cvStr v_x=>.cvStr (.c (e v_x))
 | .fldA v_off v_x=>.fldA v_off (.c (e v_x))
 | .fld v_off v_n v_agg v_x=>.fld v_off v_n v_agg (.c (e v_x))
 | .idxS v_n v_x v_i=>.idxS v_n (.c (e v_x)) (.c (e v_i))
 | .idxA v_n v_sz v_x v_i=>.idxA v_n v_sz (.c (e v_x)) (.c (e v_i))
 | .idx v_x v_i=>.idx (.c (e v_x)) (.c (e v_i))
 | .slice v_n v_x v_lo v_hi=>.slice v_n (.c (e v_x)) (subO e v_lo) (subO e v_hi)
 | .sliceS v_x v_lo v_hi=>.sliceS (.c (e v_x)) (subO e v_lo) (subO e v_hi)
 | .slice0 v_x=>.slice0 (.c (e v_x))
 | .mkfn v_f v_first v_cap=>.mkfn v_f (subL e v_first) (subL e v_cap)
 | .mkslice v_zero v_bytes v_len v_cap=>.mkslice v_zero v_bytes (.c (e v_len)) (.c (e v_cap))
 | .len v_x=>.len (.c (e v_x))
 | .lenS v_x=>.lenS (.c (e v_x))
 | .append v_sz v_bytes v_s v_x=>.append v_sz v_bytes (.c (e v_s)) (.c (e v_x))
 | .max2 v_x v_y=>.max2 (.c (e v_x)) (.c (e v_y))
 | .min2 v_x v_y=>.min2 (.c (e v_x)) (.c (e v_y))
 | .call v_f v_args=>.call (.c (e v_f)) (subL e v_args)
 | .ext v_t v_i=>.ext (.c (e v_t)) v_i
 | .pcall v_f v_args=>.pcall (.c (e v_f)) (subL e v_args)
 | .isNil v_k v_n v_x=>.isNil v_k v_n (.c (e v_x))
 | .rng v_x=>.rng (.c (e v_x))
 | .nxt v_x=>.nxt (.c (e v_x))
 | .ex v_k v_xs=>.ex v_k (subL e v_xs)
def cev:Opd->IV:=Opd.ev fun _=>.und
@[go_sem] theorem zhB {e:Opd->IV} {v_x:Opd}:XO.sub e (XO.mov v_x)=.mov (.c (e v_x)):=nr rfl
@[go_sem] theorem zeQ {e:Opd->IV} {v_c v_a v_b:Opd}:XO.sub e (XO.pick v_c v_a v_b)=.pick (.c (e v_c)) (.c (e v_a)) (.c (e v_b)):=nr rfl
@[go_sem] theorem zek {e:Opd->IV} {v_zero:List IV}:XO.sub e (XO.alloc v_zero)=.alloc v_zero:=nr rfl
@[go_sem] theorem zgB {e:Opd->IV} {v_x:Opd}:XO.sub e (XO.box v_x)=.box (.c (e v_x)):=nr rfl
@[go_sem] theorem zdb {e:Opd->IV} {v_zero:List IV} {v_parts:List (Nat × Nat × Opd)}:XO.sub e (XO.build v_zero v_parts)=.build v_zero (subP e v_parts):=nr rfl
@[go_sem] theorem zcJ {e:Opd->IV} {v_sz:Nat} {v_zero:List IV} {v_len:Nat} {v_parts:List (Nat × Opd)}:XO.sub e (XO.bslice v_sz v_zero v_len v_parts)=.bslice v_sz v_zero v_len (subQ e v_parts):=nr rfl
@[go_sem] theorem zet {e:Opd->IV} {v_a:Opd}:XO.sub e (XO.load1 v_a)=.load1 (.c (e v_a)):=nr rfl
@[go_sem] theorem zeA {e:Opd->IV} {v_n:Nat} {v_a:Opd}:XO.sub e (XO.loadN v_n v_a)=.loadN v_n (.c (e v_a)):=nr rfl
@[go_sem] theorem zdS {e:Opd->IV} {v_n:Nat} {v_a v_x:Opd}:XO.sub e (XO.store v_n v_a v_x)=.store v_n (.c (e v_a)) (.c (e v_x)):=nr rfl
@[go_sem] theorem zei {e:Opd->IV} {v_x:Opd}:XO.sub e (XO.nilck v_x)=.nilck (.c (e v_x)):=nr rfl
@[go_sem] theorem zhG {e:Opd->IV} {v_op:BinOp} {v_x v_y:Opd}:XO.sub e (XO.bin v_op v_x v_y)=.bin v_op (.c (e v_x)) (.c (e v_y)):=nr rfl
@[go_sem] theorem zhJ {e:Opd->IV} {v_neg:Bool} {v_x v_y:Opd}:XO.sub e (XO.eqB v_neg v_x v_y)=.eqB v_neg (.c (e v_x)) (.c (e v_y)):=nr rfl
@[go_sem] theorem ziR {e:Opd->IV} {v_op:UnOp} {v_x:Opd}:XO.sub e (XO.un v_op v_x)=.un v_op (.c (e v_x)):=nr rfl
@[go_sem] theorem ze1 {e:Opd->IV} {v_k:IntKind} {v_x:Opd}:XO.sub e (XO.cvInt v_k v_x)=.cvInt v_k (.c (e v_x)):=nr rfl
@[go_sem] theorem zbn {e:Opd->IV} {v_x:Opd}:XO.sub e (XO.cvIntStr v_x)=.cvIntStr (.c (e v_x)):=nr rfl
@[go_sem] theorem zeH {e:Opd->IV} {v_x:Opd}:XO.sub e (XO.cvStr v_x)=.cvStr (.c (e v_x)):=nr rfl
@[go_sem] theorem zfM {e:Opd->IV} {v_off:Nat} {v_x:Opd}:XO.sub e (XO.fldA v_off v_x)=.fldA v_off (.c (e v_x)):=nr rfl
@[go_sem] theorem zgv {e:Opd->IV} {v_off v_n:Nat} {v_agg:Bool} {v_x:Opd}:XO.sub e (XO.fld v_off v_n v_agg v_x)=.fld v_off v_n v_agg (.c (e v_x)):=nr rfl
@[go_sem] theorem zf0 {e:Opd->IV} {v_n:Nat} {v_x v_i:Opd}:XO.sub e (XO.idxS v_n v_x v_i)=.idxS v_n (.c (e v_x)) (.c (e v_i)):=nr rfl
@[go_sem] theorem zf9 {e:Opd->IV} {v_n v_sz:Nat} {v_x v_i:Opd}:XO.sub e (XO.idxA v_n v_sz v_x v_i)=.idxA v_n v_sz (.c (e v_x)) (.c (e v_i)):=nr rfl
@[go_sem] theorem zg9 {e:Opd->IV} {v_x v_i:Opd}:XO.sub e (XO.idx v_x v_i)=.idx (.c (e v_x)) (.c (e v_i)):=nr rfl
@[go_sem] theorem zes {e:Opd->IV} {v_n:Nat} {v_x:Opd} {v_lo v_hi:Option Opd}:XO.sub e (XO.slice v_n v_x v_lo v_hi)=.slice v_n (.c (e v_x)) (subO e v_lo) (subO e v_hi):=nr rfl
@[go_sem] theorem zcM {e:Opd->IV} {v_x:Opd} {v_lo v_hi:Option Opd}:XO.sub e (XO.sliceS v_x v_lo v_hi)=.sliceS (.c (e v_x)) (subO e v_lo) (subO e v_hi):=nr rfl
@[go_sem] theorem zcQ {e:Opd->IV} {v_x:Opd}:XO.sub e (XO.slice0 v_x)=.slice0 (.c (e v_x)):=nr rfl
@[go_sem] theorem zfC {e:Opd->IV} {v_f:Fn} {v_first v_cap:List Opd}:XO.sub e (XO.mkfn v_f v_first v_cap)=.mkfn v_f (subL e v_first) (subL e v_cap):=nr rfl
@[go_sem] theorem zcd {e:Opd->IV} {v_zero:List IV} {v_bytes:Nat} {v_len v_cap:Opd}:XO.sub e (XO.mkslice v_zero v_bytes v_len v_cap)=.mkslice v_zero v_bytes (.c (e v_len)) (.c (e v_cap)):=nr rfl
@[go_sem] theorem zgS {e:Opd->IV} {v_x:Opd}:XO.sub e (XO.len v_x)=.len (.c (e v_x)):=nr rfl
@[go_sem] theorem zfW {e:Opd->IV} {v_x:Opd}:XO.sub e (XO.lenS v_x)=.lenS (.c (e v_x)):=nr rfl
@[go_sem] theorem zcU {e:Opd->IV} {v_sz v_bytes:Nat} {v_s v_x:Opd}:XO.sub e (XO.append v_sz v_bytes v_s v_x)=.append v_sz v_bytes (.c (e v_s)) (.c (e v_x)):=nr rfl
@[go_sem] theorem zeM {e:Opd->IV} {v_x v_y:Opd}:XO.sub e (XO.max2 v_x v_y)=.max2 (.c (e v_x)) (.c (e v_y)):=nr rfl
@[go_sem] theorem zfN {e:Opd->IV} {v_x v_y:Opd}:XO.sub e (XO.min2 v_x v_y)=.min2 (.c (e v_x)) (.c (e v_y)):=nr rfl
@[go_sem] theorem zeO {e:Opd->IV} {v_f:Opd} {v_args:List Opd}:XO.sub e (XO.call v_f v_args)=.call (.c (e v_f)) (subL e v_args):=nr rfl
@[go_sem] theorem zhl {e:Opd->IV} {v_t:Opd} {v_i:Nat}:XO.sub e (XO.ext v_t v_i)=.ext (.c (e v_t)) v_i:=nr rfl
@[go_sem] theorem zeo {e:Opd->IV} {v_f:Opd} {v_args:List Opd}:XO.sub e (XO.pcall v_f v_args)=.pcall (.c (e v_f)) (subL e v_args):=nr rfl
@[go_sem] theorem zdG {e:Opd->IV} {v_k:Nat} {v_n:Bool} {v_x:Opd}:XO.sub e (XO.isNil v_k v_n v_x)=.isNil v_k v_n (.c (e v_x)):=nr rfl
@[go_sem] theorem zhF {e:Opd->IV} {v_x:Opd}:XO.sub e (XO.rng v_x)=.rng (.c (e v_x)):=nr rfl
@[go_sem] theorem zgg {e:Opd->IV} {v_x:Opd}:XO.sub e (XO.nxt v_x)=.nxt (.c (e v_x)):=nr rfl
@[go_sem] theorem zim {e:Opd->IV} {v_k:XX} {v_xs:List Opd}:XO.sub e (XO.ex v_k v_xs)=.ex v_k (subL e v_xs):=nr rfl
@[go_sem] theorem zU {v:IV}:cev (.c v)=v:=nr rfl
theorem vO {e:Opd->IV}:∀{l:List Opd},(subL e l).map cev=l.map e
 | []=>rfl
 | x::r=>by simp only [subL,List.map_cons,zU,vO]
theorem z5n {e:Opd->IV}:∀{l:List (Nat × Nat × Opd)},(subP e l).map (fun p=>(p.1,p.2.1,cev p.2.2))=l.map fun p=>(p.1,p.2.1,e p.2.2)
 | []=>rfl
 | (a,b,x)::r=>by simp only [subP,List.map_cons,zU,z5n]
theorem z5I {e:Opd->IV}:∀{l:List (Nat × Opd)},(subQ e l).map (fun p=>(p.1,cev p.2))=l.map fun p=>(p.1,e p.2)
 | []=>rfl
 | (a,x)::r=>by simp only [subQ,List.map_cons,zU,z5I]
theorem zaX {e:Opd->IV} {x:Option Opd}:(subO e x).map cev=x.map e:=by cases x<;>rfl
theorem z05 {E:Env} {o:XO} {e:Opd->IV} {L:List Blk} {K:IV->List Blk->Prop}:xop E o e L K=xop E (o.sub e) cev L K:=by
 cases o<;>first | rfl | simp only [XO.sub,xop,zU,vO,z5n,z5I,zaX]
def seqK (E:Env) (b:XC) (K:XE->Rho->List Blk->Prop):XE->Rho->List Blk->Prop
 | .normal,ρ,L=>xrun E b ρ L K
 | e,ρ,L=>K e ρ L
section
variable {E:Env} {ρ:Rho} {L:List Blk} {KX:XE->Rho->List Blk->Prop} {KR:Rho->List Blk->Prop} {KV:IV->List Blk->Prop}
def same {α:Sort _} (a:α):α:=a
@[go_sem] theorem same_eq {α:Sort _} {a:α}:same a=a:=nr rfl
@[congr] theorem zcO {c:XC} {ρ':Rho} {L':List Blk} (h:same ρ=ρ') (hL:same L=L'):xrun E c ρ L KX=xrun E c ρ' L' KX:=by rw [<-h,<-hL];rfl
@[congr] theorem zd9 {l:List zk} {ρ':Rho} {L':List Blk} (h:same ρ=ρ') (hL:same L=L'):xops E l ρ L KR=xops E l ρ' L' KR:=by rw [<-h,<-hL];rfl
@[congr] theorem zdq {o o':XO} {e:Opd->IV} {L':List Blk} (ho:same o=o') (hL:same L=L'):xop E o e L KV=xop E o' e L' KV:=by rw [<-ho,<-hL];rfl
@[congr] theorem zcx {f:FuncId} {as as':List IV} {L':List Blk} (ho:same as=as') (hL:same L=L'):YW E f as L KV=YW E f as' L' KV:=by rw [<-ho,<-hL];rfl
@[go_sem ↓] theorem zih:xrun E .skip ρ L KX=KX .normal ρ L:=nr rfl
@[go_sem ↓] theorem zjO {l:List zk}:xrun E (.ops l) ρ L KX=xops E l ρ L fun ρ' L'=>KX .normal ρ' L':=nr rfl
@[go_sem ↓] theorem zi9 {l:List zk}:xrun E (.draw l) ρ L KX=(l.all (fun o=>o.op.quiet)=true/\xops E l ρ L fun ρ' L'=>KX .normal ρ' L'):=nr rfl
@[go_sem ↓] theorem zhq {l:List zk}:xrun E (.drawE l) ρ L KX=xops E l ρ L fun ρ' L'=>KX .normal ρ' L':=nr rfl
theorem zcv {b:XC}:(fun e ρ' L'=>match e with
  | .normal=>xrun E b ρ' L' KX
  | e=>KX e ρ' L')=seqK E b KX:=by
 funext e ρ L;cases e<;>rfl
@[go_sem ↓] theorem zjT {a b:XC}:xrun E (.seq a b) ρ L KX=xrun E a ρ L (seqK E b KX):=by rw [<-zcv];rfl
@[go_sem ↓] theorem zgT {b:XC}:seqK E b KX .normal ρ L=xrun E b ρ L KX:=nr rfl
@[go_sem ↓] theorem zgr {b:XC}:seqK E b KX .ret ρ L=KX .ret ρ L:=nr rfl
@[go_sem ↓] theorem zge {b:XC} {l:Nat}:seqK E b KX (.goto l) ρ L=KX (.goto l) ρ L:=nr rfl
@[go_sem ↓] theorem zhf {b:XC} {id:Nat}:seqK E b KX (.exit id) ρ L=KX (.exit id) ρ L:=nr rfl
@[go_sem ↓] theorem zgW {id:Nat} {b:XC}:xrun E (.block id b) ρ L KX=xrun E b ρ L (XE.inBlock id KX):=nr rfl
@[go_sem ↓] theorem s_exit {id:Nat}:xrun E (.exit id) ρ L KX=KX (.exit id) ρ L:=nr rfl
@[go_sem ↓] theorem zgL {id:Nat}:xrun E (.label id) ρ L KX=KX .normal ρ L:=nr rfl
@[go_sem ↓] theorem zhO {id:Nat}:xrun E (.goto id) ρ L KX=KX (.goto id) ρ L:=nr rfl
@[go_sem ↓] theorem zjm:xrun E .ret ρ L KX=KX .ret ρ L:=nr rfl
@[go_sem ↓] theorem zgc {c:Opd} {t e:XC} (h:c.ev ρ=.bool true):xrun E (.cond c t e) ρ L KX=xrun E t ρ L KX:=by
 simp [xrun,h]
@[go_sem ↓] theorem zgH {c:Opd} {t e:XC} (h:c.ev ρ=.bool false):xrun E (.cond c t e) ρ L KX=xrun E e ρ L KX:=by
 simp [xrun,h]
theorem s_cond {c:Opd} {t e:XC} {b:Bool} (h:c.ev ρ=.bool b) (hT:b=true->xrun E t ρ L KX) (hF:b=false->xrun E e ρ L KX):xrun E (.cond c t e) ρ L KX:=by
 simp only [xrun,h];exact ⟨hT,hF⟩
@[go_sem ↓] theorem zj0 {id:Nat}:XE.inBlock id KX .normal ρ L=KX .normal ρ L:=nr rfl
@[go_sem ↓] theorem zi2 {id:Nat}:XE.inBlock id KX .ret ρ L=KX .ret ρ L:=nr rfl
@[go_sem ↓] theorem zif {id l:Nat}:XE.inBlock id KX (.goto l) ρ L=KX (.goto l) ρ L:=nr rfl
@[go_sem ↓] theorem ziw {id:Nat}:XE.inBlock id KX (.exit id) ρ L=KX .normal ρ L:=by simp [XE.inBlock]
@[go_sem ↓] theorem ziY {id i:Nat} (h:¬i=id):XE.inBlock id KX (.exit i) ρ L=KX (.exit i) ρ L:=by simp [XE.inBlock,h]
@[go_sem ↓] theorem zk7:xops E [] ρ L KR=KR ρ L:=nr rfl
@[go_sem ↓] theorem zir {d:Option Nat} {o:XO} {r:List zk}:xops E (⟨d,o,none⟩::r) ρ L KR=xop E (o.sub (Opd.ev ρ)) cev L fun v L'=>xops E r (put ρ d v) L' KR:=by
 simp only [xops];exact z05
@[go_sem ↓] theorem zjf {d:Option Nat} {o:XO} {r:List zk} {t:Nat} {w:Bool} (h:ρ t=.bool w) :
  xops E (⟨d,o,some (t,w)⟩::r) ρ L KR=xop E (o.sub (Opd.ev ρ)) cev L fun v L'=>xops E r (put ρ d v) L' KR:=by
 rw [<-z05];simp [xops,h]
@[go_sem ↓] theorem zg7 {d:Option Nat} {o:XO} {r:List zk} {t:Nat} {w:Bool} (h:ρ t=.bool (!w)) :
  xops E (⟨d,o,some (t,w)⟩::r) ρ L KR=xops E r (put ρ d .und) L KR:=by
 cases w<;>simp [xops,h]
@[go_sem ↓] theorem ziT {d:Option Nat} {o:XO} {r:List zk} {t:Nat} {w:Bool} (h:ρ t=.und) :
  xops E (⟨d,o,some (t,w)⟩::r) ρ L KR=xops E r (put ρ d .und) L KR:=by
 simp [xops,h]
@[go_sem] theorem ev_t {n:Nat}:Opd.ev ρ (.t n)=ρ n:=nr rfl
@[go_sem] theorem ev_c {v:IV}:Opd.ev ρ (.c v)=v:=nr rfl
@[go_sem] theorem ev_f {n:Nat}:Opd.ev ρ (.f n)=.fn (.func n) [] []:=nr rfl
@[go_sem] theorem ev_g {n:Nat}:Opd.ev ρ (.g n)=.raw (.pointer (some ⟨n,0,none⟩)):=nr rfl
@[go_sem] theorem zfl {e:Opd->IV}:subL e []=[]:=nr rfl
@[go_sem] theorem ze0 {e:Opd->IV} {x:Opd} {r:List Opd}:subL e (x::r)=.c (e x)::subL e r:=nr rfl
@[go_sem] theorem zfR {e:Opd->IV}:subP e []=[]:=nr rfl
@[go_sem] theorem zdQ {e:Opd->IV} {a b:Nat} {x:Opd} {r:List (Nat × Nat × Opd)}:subP e ((a,b,x)::r)=(a,b,.c (e x))::subP e r:=nr rfl
@[go_sem] theorem zft {e:Opd->IV}:subQ e []=[]:=nr rfl
@[go_sem] theorem zdV {e:Opd->IV} {a:Nat} {x:Opd} {r:List (Nat × Opd)}:subQ e ((a,x)::r)=(a,.c (e x))::subQ e r:=nr rfl
@[go_sem] theorem zem {e:Opd->IV}:subO e none=none:=nr rfl
@[go_sem] theorem zev {e:Opd->IV} {x:Opd}:subO e (some x)=some (.c (e x)):=nr rfl
@[go_sem] theorem zhv {d n:Nat} {v:IV}:put ρ (some d) v n=if n=d then v else ρ n:=nr rfl
@[go_sem] theorem zfm {v:IV}:put ρ none v=ρ:=nr rfl
@[go_sem] theorem zk4 {v:IV}:xop E (.mov (.c v)) cev L KV=KV v L:=nr rfl
@[go_sem] theorem zhm {a b:IV}:xop E (.pick (.c (.bool true)) (.c a) (.c b)) cev L KV=KV a L:=nr rfl
@[go_sem] theorem zgz {a b:IV}:xop E (.pick (.c (.bool false)) (.c a) (.c b)) cev L KV=KV b L:=nr rfl
@[go_sem] theorem zh8 {z:List IV}:xop E (.alloc z) cev L KV=KV (.ptr L.length 0 0) (L++[.cells z.length [z]]):=nr rfl
@[go_sem] theorem zjz {x:IV}:xop E (.box (.c x)) cev L KV=KV (.ptr L.length 0 0) (L++[.cells (cellsOf x).length [cellsOf x]]):=nr rfl
@[go_sem] theorem zeJ {s r o:Nat}:xop E (.nilck (.c (.ptr s r o))) cev L KV=KV (.ptr s r o) L:=nr rfl
@[go_sem] theorem zf5 {rows:List (List IV)} {r o:Nat}:xop E (.nilck (.c (.iptr rows r o))) cev L KV=KV (.iptr rows r o) L:=nr rfl
@[go_sem] theorem zeL {f:FuncId} {a b:List IV}:xop E (.nilck (.c (.fn (.func f) a b))) cev L KV=KV (.fn (.func f) a b) L:=nr rfl
@[go_sem] theorem zje {k:IntKind} {a b:Int}:xop E (.bin .add (.c (.int k a)) (.c (.int k b))) cev L KV=KV (.int k (k.wrap (a+b))) L:=by simp only [xop,xbin,zU,true_and]
@[go_sem] theorem zjM {k:IntKind} {a b:Int}:xop E (.bin .sub (.c (.int k a)) (.c (.int k b))) cev L KV=KV (.int k (k.wrap (a - b))) L:=by simp only [xop,xbin,zU,true_and]
@[go_sem] theorem zjj {k:IntKind} {a b:Int}:xop E (.bin .mul (.c (.int k a)) (.c (.int k b))) cev L KV=KV (.int k (k.wrap (a*b))) L:=by simp only [xop,xbin,zU,true_and]
@[go_sem] theorem zk6 {k:IntKind} {a b:Int}:xop E (.bin .quo (.c (.int k a)) (.c (.int k b))) cev L KV=(b≠0/\KV (.int k (k.wrap (a.tdiv b))) L):=by simp only [xop,xbin,zU,true_and]
@[go_sem] theorem zjo {k:IntKind} {a b:Int}:xop E (.bin .rem (.c (.int k a)) (.c (.int k b))) cev L KV=(b≠0/\KV (.int k (a.tmod b)) L):=by simp only [xop,xbin,zU,true_and]
@[go_sem] theorem zjv {k:IntKind} {a b:Int}:xop E (.bin .eql (.c (.int k a)) (.c (.int k b))) cev L KV=KV (.bool (decide (a=b))) L:=by simp only [xop,xbin,zU,true_and]
@[go_sem] theorem zjW {k:IntKind} {a b:Int}:xop E (.bin .neq (.c (.int k a)) (.c (.int k b))) cev L KV=KV (.bool (!decide (a=b))) L:=by simp only [xop,xbin,zU,true_and]
@[go_sem] theorem zjw {k:IntKind} {a b:Int}:xop E (.bin .lss (.c (.int k a)) (.c (.int k b))) cev L KV=KV (.bool (decide (a<b))) L:=by simp only [xop,xbin,zU,true_and]
@[go_sem] theorem zkg {k:IntKind} {a b:Int}:xop E (.bin .leq (.c (.int k a)) (.c (.int k b))) cev L KV=KV (.bool (decide (a<=b))) L:=by simp only [xop,xbin,zU,true_and]
@[go_sem] theorem zjU {k:IntKind} {a b:Int}:xop E (.bin .gtr (.c (.int k a)) (.c (.int k b))) cev L KV=KV (.bool (decide (b<a))) L:=by simp only [xop,xbin,zU,true_and]
@[go_sem] theorem zjC {k:IntKind} {a b:Int}:xop E (.bin .geq (.c (.int k a)) (.c (.int k b))) cev L KV=KV (.bool (decide (b<=a))) L:=by simp only [xop,xbin,zU,true_and]
@[go_sem] theorem zjS {a b:List UInt8}:xop E (.bin .add (.c (.str a)) (.c (.str b))) cev L KV=(a.length+b.length<=9223372036854775807/\KV (.str (a++b)) L):=nr rfl
@[go_sem] theorem zil {a b:List UInt8}:xop E (.bin .eql (.c (.str a)) (.c (.str b))) cev L KV=KV (.bool (decide (a=b))) L:=nr rfl
@[go_sem] theorem zja {a b:List UInt8}:xop E (.bin .neq (.c (.str a)) (.c (.str b))) cev L KV=KV (.bool (!decide (a=b))) L:=nr rfl
@[go_sem] theorem ziX {a b:List UInt8}:xop E (.bin .lss (.c (.str a)) (.c (.str b))) cev L KV=KV (.bool (Op.bytesLess a b)) L:=nr rfl
@[go_sem] theorem zjL {n a b:Bool}:xop E (.eqB n (.c (.bool a)) (.c (.bool b))) cev L KV=KV (.bool (if n=true then !decide (a=b) else decide (a=b))) L:=nr rfl
@[go_sem] theorem zkb {b:Bool}:xop E (.un .not (.c (.bool b))) cev L KV=KV (.bool (!b)) L:=nr rfl
@[go_sem] theorem zk0 {k:IntKind} {n:Int}:xop E (.un .neg (.c (.int k n))) cev L KV=KV (.int k (k.wrap (0 - n))) L:=nr rfl
@[go_sem] theorem zgo {k k':IntKind} {n:Int}:xop E (.cvInt k (.c (.int k' n))) cev L KV=KV (.int k (k.wrap n)) L:=nr rfl
@[go_sem] theorem zd7 {k':IntKind} {n:Int}:xop E (.cvIntStr (.c (.int k' n))) cev L KV=KV (.str (Utf8.encode n).data.toList) L:=nr rfl
@[go_sem] theorem zgX {s:List UInt8}:xop E (.cvStr (.c (.str s))) cev L KV=KV (.str s) L:=nr rfl
@[go_sem] theorem zga {off s r o:Nat}:xop E (.fldA off (.c (.ptr s r o))) cev L KV=KV (.ptr s r (o+off)) L:=nr rfl
@[go_sem] theorem zhh {off:Nat} {rows:List (List IV)} {r o:Nat}:xop E (.fldA off (.c (.iptr rows r o))) cev L KV=KV (.iptr rows r (o+off)) L:=nr rfl
@[go_sem] theorem zik {off n:Nat} {cs:List IV}:xop E (.fld off n true (.c (.agg cs))) cev L KV=(off+n<=cs.length/\KV (.agg ((cs.drop off).take n)) L):=by simp [xop,zU]
@[go_sem] theorem zis {off n:Nat} {cs:List IV}:xop E (.fld off n false (.c (.agg cs))) cev L KV=(off+n<=cs.length/\off<cs.length/\KV (cs.getD off .und) L):=by simp [xop,zU]
@[go_sem] theorem zgZ {m:Nat} {rows:List (List IV)} {k:IntKind} {n:Int}:xop E (.idxS m (.c (.isl rows)) (.c (.int k n))) cev L KV=(Rows m rows/\0<=n/\n<rows.length/\KV (.iptr rows n.toNat 0) L):=nr rfl
@[go_sem] theorem zhc {m s off len cap:Nat} {k:IntKind} {n:Int}:xop E (.idxS m (.c (.sl s off len cap)) (.c (.int k n))) cev L KV=(szOf L s=some m/\0<=n/\n<len/\KV (.ptr s (off+n.toNat) 0) L):=nr rfl
@[go_sem] theorem zh5 {m sz s r o:Nat} {k:IntKind} {n:Int}:xop E (.idxA m sz (.c (.ptr s r o)) (.c (.int k n))) cev L KV=(0<=n/\n<m/\KV (.ptr s r (o+n.toNat*sz)) L):=nr rfl
@[go_sem] theorem zg8 {m sz:Nat} {rows:List (List IV)} {r o:Nat} {k:IntKind} {n:Int}:xop E (.idxA m sz (.c (.iptr rows r o)) (.c (.int k n))) cev L KV=(0<=n/\n<m/\KV (.iptr rows r (o+n.toNat*sz)) L):=nr rfl
@[go_sem] theorem zjV {s:List UInt8} {k:IntKind} {n:Int}:xop E (.idx (.c (.str s)) (.c (.int k n))) cev L KV=(0<=n/\n<s.length/\KV (.int .u8 (s.getD n.toNat 0).toNat) L):=nr rfl
@[go_sem] theorem zeS {rows:List (List IV)} {r o:Nat}:xop E (.load1 (.c (.iptr rows r o))) cev L KV=(r<rows.length/\o<(rows.getD r []).length/\KV ((rows.getD r []).getD o .und) L):=nr rfl
@[go_sem] theorem zfj {n:Nat} {rows:List (List IV)} {r o:Nat}:xop E (.loadN n (.c (.iptr rows r o))) cev L KV=(r<rows.length/\o+n<=(rows.getD r []).length/\KV (.agg (((rows.getD r []).drop o).take n)) L):=nr rfl
@[go_sem] theorem za5 {n o:Nat} {cs:List IV} (h:E.gl n=some cs):xop E (.load1 (.c (.raw (.pointer (some ⟨n,o,none⟩))))) cev L KV=(o<cs.length/\KV (cs.getD o .und) L):=by
 simp [xop,zU,ZH,h]
@[go_sem] theorem zfq {m n o:Nat} {cs:List IV} (h:E.gl n=some cs):xop E (.loadN m (.c (.raw (.pointer (some ⟨n,o,none⟩))))) cev L KV=(o+m<=cs.length/\KV (.agg ((cs.drop o).take m)) L):=by
 simp [xop,zU,ZH,h]
@[go_sem] theorem zeN {n o:Nat}:xop E (.nilck (.c (.raw (.pointer (some ⟨n,o,none⟩))))) cev L KV=KV (.raw (.pointer (some ⟨n,o,none⟩))) L:=nr rfl
@[go_sem] theorem zhI {off n o:Nat}:xop E (.fldA off (.c (.raw (.pointer (some ⟨n,o,none⟩))))) cev L KV=KV (.raw (.pointer (some ⟨n,o+off,none⟩))) L:=nr rfl
@[go_sem] theorem zgC {m sz b o:Nat} {k:IntKind} {n:Int}:xop E (.idxA m sz (.c (.raw (.pointer (some ⟨b,o,none⟩)))) (.c (.int k n))) cev L KV=(0<=n/\n<m/\KV (.raw (.pointer (some ⟨b,o+n.toNat*sz,none⟩))) L):=nr rfl
def blkK (b:Option Blk) (K:Nat->List (List IV)->Prop):Prop:=
 match b with
 | some (.cells sz rows)=>K sz rows
 | some (.tcells _ sz rows)=>K sz rows
 | _=>False
def blkS (b:Option Blk) (K:(List (List IV)->Blk)->List (List IV)->Prop):Prop:=
 match b with
 | some (.cells sz rows)=>K (.cells sz) rows
 | some (.tcells ty sz rows)=>K (.tcells ty sz) rows
 | _=>False
@[congr] theorem zd6 {b b':Option Blk} {K:(List (List IV)->Blk)->List (List IV)->Prop} (h:same b=b'):blkS b K=blkS b' K:=by rw [<-h];rfl
@[go_sem] theorem zcH {sz:Nat} {rows:List (List IV)} {K:(List (List IV)->Blk)->List (List IV)->Prop}:blkS (some (.cells sz rows)) K=K (.cells sz) rows:=nr rfl
@[go_sem] theorem zck {ty sz:Nat} {rows:List (List IV)} {K:(List (List IV)->Blk)->List (List IV)->Prop}:blkS (some (.tcells ty sz rows)) K=K (.tcells ty sz) rows:=nr rfl
@[congr] theorem zd3 {b b':Option Blk} {K:Nat->List (List IV)->Prop} (h:same b=b'):blkK b K=blkK b' K:=by rw [<-h];rfl
@[go_sem] theorem zdZ {sz:Nat} {rows:List (List IV)} {K:Nat->List (List IV)->Prop}:blkK (some (.cells sz rows)) K=K sz rows:=nr rfl
@[go_sem] theorem zcI {ty sz:Nat} {rows:List (List IV)} {K:Nat->List (List IV)->Prop}:blkK (some (.tcells ty sz rows)) K=K sz rows:=nr rfl
@[go_sem] theorem zg4 {s r o:Nat}:xop E (.load1 (.c (.ptr s r o))) cev L KV=blkK L[s]? fun _ rows=>r<rows.length/\o<(rows.getD r []).length/\KV ((rows.getD r []).getD o .und) L:=by
 simp only [xop,zU,ZH,blkK,eq_iff_iff]
 split<;>split<;>simp_all
@[go_sem] theorem zfi {n s r o:Nat}:xop E (.loadN n (.c (.ptr s r o))) cev L KV=blkK L[s]? fun _ rows=>r<rows.length/\o+n<=(rows.getD r []).length/\KV (.agg (((rows.getD r []).drop o).take n)) L:=by
 simp only [xop,zU,ZH,blkK,eq_iff_iff]
 split<;>split<;>simp_all
@[go_sem] theorem zfn {n s r o:Nat} {x:IV}:xop E (.store n (.c (.ptr s r o)) (.c x)) cev L KV=blkS L[s]? fun mk rows=>
  r<rows.length/\o+n<=(rows.getD r []).length/\(cellsOf x).length=n/\(cellsOf x).all zJ=true/\
    KV .und (L.set s (mk (rows.set r (splice (rows.getD r []) o (cellsOf x))))):=by
 simp only [xop,zU,blkS,eq_iff_iff]
 split<;>split<;>simp_all
def optK {α:Type} (o:Option α) (K:α->Prop):Prop:=
 match o with
 | some x=>K x
 | none=>False
@[congr] theorem zcG {α:Type} {o o':Option α} {K:α->Prop} (h:same o=o'):optK o K=optK o' K:=by rw [<-h];rfl
@[go_sem] theorem zdJ {α:Type} {x:α} {K:α->Prop}:optK (some x) K=K x:=nr rfl
@[congr] theorem zdL {k:XX} {vs vs':List IV} {g g':Nat} {L':List Blk} (hv:same vs=vs') (hg:same g=g') (hL:same L=L'):xex E k vs g L KV=xex E k vs' g' L' KV:=by rw [<-hv,<-hg,<-hL];rfl
@[go_sem] theorem o_ex {k:XX} {xs:List Opd}:xop E (.ex k xs) cev L KV=xex E k (xs.map cev) L.length L KV:=nr rfl
@[go_sem] theorem zho {g t:Nat} {v:IV}:xex E .panic [.iface t v] g L KV=E.pan (.iface t v) L:=nr rfl
@[go_sem] theorem zi3 {g t:Nat} {v:IV}:xex E (.mkif t) [v] g L KV=KV (.iface t v) L:=nr rfl
@[go_sem] theorem zjH {g t:Nat} {v:IV}:xex E (.tas t) [.iface t v] g L KV=KV (.tup [v,.bool true]) L:=by simp only [xex,if_pos]
@[go_sem] theorem zhN {g:Nat} {v:IV}:xex E .rStr [v] g L KV=optK ((yx L v).bind (mapO runeOf)) fun s=>KV (.str (runesL s)) L:=by
 simp only [xex,optK,eq_iff_iff]
 split<;>split<;>simp_all
@[go_sem] theorem zij {g ty:Nat} {s:List UInt8}:xex E (.strB ty) [.str s] g L KV=(s.length<=9223372036854775807/\KV (.sl g 0 s.length s.length) (zK L g (.tcells ty 1 (zi s)))):=nr rfl
@[go_sem] theorem zj3 {g:Nat} {v:IV}:xex E .bStr [v] g L KV=optK ((yx L v).bind (mapO byteOf)) fun s=>KV (.str s) L:=by
 simp only [xex,optK,eq_iff_iff]
 split<;>split<;>simp_all
theorem zdd {g:Nat} {neg:Bool} {ks:List Nat} {a b:List IV}:xex E (.eqA neg ks) [.agg a,.agg b] g L KV=optK (ZW ks a b) fun t=>KV (.bool (if neg then !t else t)) L:=by
 simp only [xex,optK,eq_iff_iff]
 split<;>split<;>simp_all
theorem zdM {g:Nat} {neg:Bool} {a b:IV}:xex E (.eqP neg) [a,b] g L KV=optK (WG a b) fun t=>KV (.bool (if neg then !t else t)) L:=by
 simp only [xex,optK,eq_iff_iff]
 split<;>split<;>simp_all
@[go_sem] theorem zin {g:Nat} {ks:List Nat} {a b:List IV}:xex E (.eqA false ks) [.agg a,.agg b] g L KV=optK (ZW ks a b) fun t=>KV (.bool t) L:=zdd
@[go_sem] theorem ziv {g:Nat} {ks:List Nat} {a b:List IV}:xex E (.eqA true ks) [.agg a,.agg b] g L KV=optK (ZW ks a b) fun t=>KV (.bool (!t)) L:=zdd
@[go_sem] theorem zj5 {g:Nat} {a b:IV}:xex E (.eqP false) [a,b] g L KV=optK (WG a b) fun t=>KV (.bool t) L:=zdM
@[go_sem] theorem ziJ {g:Nat} {a b:IV}:xex E (.eqP true) [a,b] g L KV=optK (WG a b) fun t=>KV (.bool (!t)) L:=zdM
@[go_sem] theorem zdz:WG (.raw (.pointer none)) (.raw (.pointer none))=some true:=nr rfl
@[go_sem] theorem zfx {s r o:Nat}:WG (.ptr s r o) (.raw (.pointer none))=some false:=nr rfl
@[go_sem] theorem zd5 {s r o:Nat}:WG (.ptr s r o) (.ptr s r o)=some true:=by simp [WG]
@[go_sem] theorem zfu {g ty:Nat} {z:List IV} {xs:List IV}:xex E (.allocT ty z) xs g L KV=KV (.ptr g 0 0) (zK L g (.tcells ty z.length [z])):=nr rfl
@[go_sem] theorem x_re {g:Nat} {k:FloatKind} {a b:Nat}:xex E (.ru .re) [.raw (.complex k a b)] g L KV=KV (.raw (.float k a)) L:=by
 simp only [xex,z3W,sij,exists_eq_left']
@[go_sem] theorem x_im {g:Nat} {k:FloatKind} {a b:Nat}:xex E (.ru .im) [.raw (.complex k a b)] g L KV=KV (.raw (.float k b)) L:=by
 simp only [xex,z3W,sij,exists_eq_left']
@[go_sem] theorem zic {g s off len cap:Nat}:xex E .slId [.sl s off len cap] g L KV=zc0 s off len cap L KV:=nr rfl
@[go_sem] theorem zfU {g:Nat}:xex E .sdata [.raw (.slice none 0 0)] g L KV=KV (.raw (.pointer none)) L:=nr rfl
@[go_sem] theorem zit:xop E (.len (.c (.raw (.slice none 0 0)))) cev L KV=KV (.int .i64 0) L:=nr rfl
@[go_sem] theorem zfe {g:Nat}:xex E .sdata [.nsl] g L KV=KV (.raw (.pointer none)) L:=nr rfl
@[go_sem] theorem zgq {g s off len cap:Nat}:xex E .sdata [.sl s off len cap] g L KV=(0<cap/\KV (.ptr s off 0) L):=nr rfl
@[go_sem] theorem zhd {g ty:Nat} {n:Int}:xex E (.ustr ty) [.raw (.pointer none),.int .i64 n] g L KV=(n=0/\KV (.str []) L):=nr rfl
@[go_sem] theorem ziV {g ty s r o:Nat} {n:Int}:xex E (.ustr ty) [.ptr s r o,.int .i64 n] g L KV=xusU ty s r o n L KV:=nr rfl
@[go_sem] theorem zjq {g ty n s r o:Nat}:xex E (.toU ty n) [.ptr s r o] g L KV=z4C ty n s r o L KV:=nr rfl
@[go_sem] theorem zk1 {g ty n s r o:Nat}:xex E (.ofU ty n) [.ptr s r o] g L KV=z4C ty n s r o L KV:=nr rfl
@[go_sem] theorem zhT {g ty b:Nat} {s x:IV}:xex E (.appT ty b) [s,x] g L KV=Y1 ty b s x g L KV:=nr rfl
@[go_sem] theorem zi1 {b:Bool}:cellsOf (.bool b)=[.bool b]:=nr rfl
@[go_sem] theorem zjZ {k:IntKind} {n:Int}:cellsOf (.int k n)=[.int k n]:=nr rfl
@[go_sem] theorem zjE {s:List UInt8}:cellsOf (.str s)=[.str s]:=nr rfl
@[go_sem] theorem zjl {s r o:Nat}:cellsOf (.ptr s r o)=[.ptr s r o]:=nr rfl
@[go_sem] theorem zi8 {rows:List (List IV)} {r o:Nat}:cellsOf (.iptr rows r o)=[.iptr rows r o]:=nr rfl
@[go_sem] theorem zju {rows:List (List IV)}:cellsOf (.isl rows)=[.isl rows]:=nr rfl
@[go_sem] theorem c_sl {s o l c:Nat}:cellsOf (.sl s o l c)=[.sl s o l c]:=nr rfl
@[go_sem] theorem zjg:cellsOf .nsl=[.nsl]:=nr rfl
@[go_sem] theorem zjh:cellsOf .esl=[.esl]:=nr rfl
@[go_sem] theorem c_fn {f:Fn} {a b:List IV}:cellsOf (.fn f a b)=[.fn f a b]:=nr rfl
@[go_sem] theorem zkc {v:Value}:cellsOf (.raw v)=[.raw v]:=nr rfl
@[go_sem] theorem zjn {cs:List IV}:cellsOf (.agg cs)=cs:=nr rfl
@[go_sem] theorem ziQ {b:Bool}:zJ (.bool b)=true:=nr rfl
@[go_sem] theorem zjB {k:IntKind} {n:Int}:zJ (.int k n)=true:=nr rfl
@[go_sem] theorem zkd {s:List UInt8}:zJ (.str s)=true:=nr rfl
@[go_sem] theorem zjA {s r o:Nat}:zJ (.ptr s r o)=true:=nr rfl
@[go_sem] theorem zhP {rows:List (List IV)} {r o:Nat}:zJ (.iptr rows r o)=true:=nr rfl
@[go_sem] theorem zjQ {rows:List (List IV)}:zJ (.isl rows)=true:=nr rfl
@[go_sem] theorem i_sl {s o l c:Nat}:zJ (.sl s o l c)=true:=nr rfl
@[go_sem] theorem zk8:zJ .nsl=true:=nr rfl
@[go_sem] theorem zjP:zJ .esl=true:=nr rfl
@[go_sem] theorem i_fn {f:Fn} {a b:List IV}:zJ (.fn f a b)=true:=nr rfl
@[go_sem] theorem zcX {α:Type} {l xs:List α} {i:Nat}:splice l i xs=l.take i++xs++l.drop (i+xs.length):=nr rfl
@[go_sem] theorem zd0 {s:List UInt8}:xop E (.sliceS (.c (.str s)) none none) cev L KV=KV (.str s) L:=by simp [xop,zU,bnd]
@[go_sem] theorem zcT {s:List UInt8} {k:IntKind} {h:Int}:xop E (.sliceS (.c (.str s)) none (some (.c (.int k h)))) cev L KV=(0<=h/\h.toNat<=s.length/\KV (.str (s.take h.toNat)) L):=by simp [xop,zU,bnd]
@[go_sem] theorem zcL {s:List UInt8} {k:IntKind} {l:Int}:xop E (.sliceS (.c (.str s)) (some (.c (.int k l))) none) cev L KV=(0<=l/\l.toNat<=s.length/\KV (.str (s.drop l.toNat)) L):=by simp [xop,zU,bnd]
@[go_sem] theorem zd4 {s:List UInt8} {k k':IntKind} {l h:Int}:xop E (.sliceS (.c (.str s)) (some (.c (.int k l))) (some (.c (.int k' h)))) cev L KV =
  (0<=l/\0<=h/\l.toNat<=h.toNat/\h.toNat<=s.length/\KV (.str ((s.take h.toNat).drop l.toNat)) L):=by simp [xop,zU,bnd]
@[go_sem] theorem zhQ {s:List UInt8}:xop E (.lenS (.c (.str s))) cev L KV=KV (.int .i64 s.length) L:=nr rfl
@[go_sem] theorem ziM {rows:List (List IV)}:xop E (.len (.c (.isl rows))) cev L KV=KV (.int .i64 rows.length) L:=nr rfl
@[go_sem] theorem ziH {s off len cap:Nat}:xop E (.len (.c (.sl s off len cap))) cev L KV=KV (.int .i64 len) L:=nr rfl
@[go_sem] theorem zib:xop E (.len (.c .nsl)) cev L KV=KV (.int .i64 0) L:=nr rfl
@[go_sem] theorem ziZ:xop E (.len (.c .esl)) cev L KV=KV (.int .i64 0) L:=nr rfl
@[go_sem] theorem ziI {k k':IntKind} {a b:Int}:xop E (.max2 (.c (.int k a)) (.c (.int k' b))) cev L KV=KV (.int k (if b>a then b else a)) L:=nr rfl
@[go_sem] theorem zix {k k':IntKind} {a b:Int}:xop E (.min2 (.c (.int k a)) (.c (.int k' b))) cev L KV=KV (.int k (if b<a then b else a)) L:=nr rfl
@[go_sem] theorem zjY {cs:List IV} {i:Nat}:xop E (.ext (.c (.tup cs)) i) cev L KV=(i<cs.length/\KV (cs.getD i .und) L):=nr rfl
@[go_sem] theorem zia {f:FuncId} {a b:List IV} {as:List Opd}:xop E (.call (.c (.fn (.func f) a b)) as) cev L KV=YW E f (a++as.map cev++b) L KV:=nr rfl
@[go_sem] theorem ziN {f:Fn} {a b:List Opd}:xop E (.mkfn f a b) cev L KV=KV (.fn f (a.map cev) (b.map cev)) L:=nr rfl
@[go_sem] theorem zhg {z:List IV} {ps:List (Nat × Nat × Opd)} {cs:List IV} (h:z0o z (ps.map fun p=>(p.1,p.2.1,cev p.2.2))=some cs):xop E (.build z ps) cev L KV=KV (.agg cs) L:=by
 simp only [xop,h]
theorem Zt {f:FuncId} {a b:List IV} {as:List Opd} {args':List IV} {r:IV} (hc:mapO (conv L fuel zV) (a++as.map cev++b)=some args') (h:zI E f args' r) (hr:∀m,conv [] fuel (ZB m) r=some r) (hk:KV r L) :
  xop E (.pcall (.c (.fn (.func f) a b)) as) cev L KV:=.inl ⟨false,args',r,hc,h,(fun h=>by cases h),hr,hk⟩
theorem jG {f:FuncId} {a b:List IV} {as:List Opd} {args':List IV} {r:IV} (hc:mapO (conv L fuel zy) (a++as.map cev++b)=some args') (h:zI E f args' r) (ht:yE r=true) (hr:∀m,conv [] fuel (ZB m) r=some r) (hk:KV r L) :
  xop E (.pcall (.c (.fn (.func f) a b)) as) cev L KV:=.inl ⟨true,args',r,hc,h,fun _=>ht,hr,hk⟩
theorem yH {f:FuncId} {a b:List IV} {as:List Opd} (r:IV) (hc:mapO (conv L fuel zV) (a++as.map cev++b)=none) (h:∀L',(∀i,i<L.length->L'[i]?=L[i]?)->XT E f (a++as.map cev++b) L' fun v L''=>v=r/\L''=L') (hk:KV r L) :
  xop E (.pcall (.c (.fn (.func f) a b)) as) cev L KV:=.inr ⟨r,hc,h,hk⟩
@[go_sem] theorem zkf {s:Nat} {as:List Opd}:xop E (.call (.c (.yld s)) as) cev L KV=E.yl s (as.map cev) L KV:=nr rfl
@[go_sem] theorem zi7 {n:Bool}:xop E (.isNil 0 n (.c .nsl)) cev L KV=KV (.bool (if n then !true else true)) L:=nr rfl
@[go_sem] theorem zj8 {n:Bool} {rows:List (List IV)}:xop E (.isNil 0 n (.c (.isl rows))) cev L KV=(KV (.bool (if n then !false else false)) L/\(rows=[]->KV (.bool (if n then !true else true)) L)):=nr rfl
@[go_sem] theorem zhS {n:Bool} {s o l c:Nat}:xop E (.isNil 0 n (.c (.sl s o l c))) cev L KV=(KV (.bool (if n then !false else false)) L/\(c=0->KV (.bool (if n then !true else true)) L)):=nr rfl
@[go_sem] theorem zi0 {n:Bool}:xop E (.isNil 0 n (.c .esl)) cev L KV=(KV (.bool (if n then !true else true)) L/\KV (.bool (if n then !false else false)) L):=nr rfl
@[go_sem] theorem zj4 {n:Bool} {t:TypeId} {v:IV}:xop E (.isNil 1 n (.c (.iface t v))) cev L KV=KV (.bool (if n then !false else false)) L:=nr rfl
@[go_sem] theorem zio {n:Bool}:xop E (.isNil 1 n (.c (.raw .nilIface))) cev L KV=KV (.bool (if n then !true else true)) L:=nr rfl
@[go_sem] theorem zj7 {n:Bool} {f:Fn} {a b:List IV}:xop E (.isNil 2 n (.c (.fn f a b))) cev L KV=KV (.bool (if n then !false else false)) L:=nr rfl
@[go_sem] theorem zjy {x:List UInt8}:xop E (.rng (.c (.str x))) cev L KV=KV (.ptr L.length 0 0) (L++[.siter x 0]):=nr rfl
@[go_sem] theorem zex {rows:List (List IV)}:xop E (.slice0 (.c (.isl rows))) cev L KV=KV .esl L:=nr rfl
@[go_sem] theorem zep {s off len cap:Nat}:xop E (.slice0 (.c (.sl s off len cap))) cev L KV=KV .esl L:=nr rfl
@[go_sem] theorem zgF {m:Nat} {rows:List (List IV)}:xop E (.slice m (.c (.isl rows)) none none) cev L KV=(Rows m rows/\KV (.isl rows) L):=by simp [xop,zU,bnd]
@[go_sem] theorem zgD {m:Nat} {rows:List (List IV)} {k:IntKind} {h:Int}:xop E (.slice m (.c (.isl rows)) none (some (.c (.int k h)))) cev L KV=(Rows m rows/\0<=h/\h.toNat<=rows.length/\KV (.isl (rows.take h.toNat)) L):=by simp [xop,zU,bnd]
@[go_sem] theorem zgp {m:Nat} {rows:List (List IV)} {k:IntKind} {l:Int}:xop E (.slice m (.c (.isl rows)) (some (.c (.int k l))) none) cev L KV=(Rows m rows/\0<=l/\l.toNat<=rows.length/\KV (.isl (rows.drop l.toNat)) L):=by simp [xop,zU,bnd]
@[go_sem] theorem zhE {m:Nat} {rows:List (List IV)} {k k':IntKind} {l h:Int}:xop E (.slice m (.c (.isl rows)) (some (.c (.int k l))) (some (.c (.int k' h)))) cev L KV =
  (Rows m rows/\0<=l/\0<=h/\l.toNat<=h.toNat/\h.toNat<=rows.length/\KV (.isl ((rows.take h.toNat).drop l.toNat)) L):=by simp [xop,zU,bnd]
end
end Go.X
end
section
namespace Go.X
open Go
section
variable {E:Env} {ρ:Rho} {L:List Blk} {KX:XE->Rho->List Blk->Prop}
def z6R (I:Nat->Rho->List Blk->Prop) (n:Nat) (K:XE->Rho->List Blk->Prop):XE->Rho->List Blk->Prop
 | .normal,ρ,L=>∃m,m<n/\I m ρ L
 | e,ρ,L=>K e ρ L
@[go_sem ↓] theorem zeU {I:Nat->Rho->List Blk->Prop} {n:Nat}:z6R I n KX .normal ρ L=∃m,m<n/\I m ρ L:=nr rfl
@[go_sem ↓] theorem zfb {I:Nat->Rho->List Blk->Prop} {n:Nat}:z6R I n KX .ret ρ L=KX .ret ρ L:=nr rfl
@[go_sem ↓] theorem zfp {I:Nat->Rho->List Blk->Prop} {n l:Nat}:z6R I n KX (.goto l) ρ L=KX (.goto l) ρ L:=nr rfl
@[go_sem ↓] theorem zfc {I:Nat->Rho->List Blk->Prop} {n l:Nat}:z6R I n KX (.exit l) ρ L=KX (.exit l) ρ L:=nr rfl
theorem zT {b:XC} (I:Nat->Rho->List Blk->Prop) {n:Nat} (h0:I n ρ L) (hs:∀n ρ L,I n ρ L->xrun E b ρ L (z6R I n KX)):xrun E (.loop b) ρ L KX:=by
 refine z8o I h0 fun n ρ L h=>zB _ (fun e ρ' L' h=>?_) (hs n ρ L h)
 cases e<;>exact h
def z2K (l:Nat) (I:Nat->Rho->List Blk->Prop) (n:Nat) (K:XE->Rho->List Blk->Prop):XE->Rho->List Blk->Prop
 | .goto l',ρ,L=>(l'=l->∃m,m<n/\I m ρ L)/\(l'≠l->K (.goto l') ρ L)
 | e,ρ,L=>K e ρ L
@[go_sem ↓] theorem zf1 {I:Nat->Rho->List Blk->Prop} {n l:Nat}:z2K l I n KX (.goto l) ρ L=∃m,m<n/\I m ρ L:=by simp [z2K]
@[go_sem ↓] theorem zg2 {I:Nat->Rho->List Blk->Prop} {n l:Nat}:z2K l I n KX .ret ρ L=KX .ret ρ L:=nr rfl
@[go_sem ↓] theorem zfK {I:Nat->Rho->List Blk->Prop} {n l:Nat}:z2K l I n KX .normal ρ L=KX .normal ρ L:=nr rfl
@[go_sem ↓] theorem zeY {I:Nat->Rho->List Blk->Prop} {n l i:Nat}:z2K l I n KX (.exit i) ρ L=KX (.exit i) ρ L:=nr rfl
theorem z8A {b c:XC} {l:Nat} (I:Nat->Rho->List Blk->Prop) (N:Nat) (h0:xrun E b ρ L (z2K l I N KX)) (hs:∀n ρ L,I n ρ L->xrun E c ρ L (z2K l I n KX)) :
  xrun E (.scope b (.cons l c .nil)) ρ L KX:=by
 simp only [xrun]
 have hg:wF E (.cons l c .nil) l=some (xrun E c):=by simp [wF]
 have hg':∀l',l'≠l->wF E (.cons l c .nil) l'=none:=fun l' h=>by simp [wF,h]
 have key:∀n,(∀m ρ L,m<n->I m ρ L->Ya (wF E (.cons l c .nil)) n (.goto l) ρ L KX)/\(∀e ρ L,z2K l I n KX e ρ L->Ya (wF E (.cons l c .nil)) n e ρ L KX):=by
  intro n
  induction n with
  | zero=>
   refine ⟨fun m ρ L h=>by omega,fun e ρ L h=>?_⟩
   cases e with
   | normal=>simp only [Ya];exact h
   | ret=>simp only [Ya];exact h
   | exit i=>simp only [Ya];exact h
   | goto l'=>
    by_cases hl:l'=l
    ·subst hl;obtain ⟨m,hm,_⟩:=h.1 rfl;omega
    ·unfold Ya;rw [hg' l' hl];exact h.2 hl
  | succ n ih=>
   have h1:∀m ρ L,m<n+1->I m ρ L->Ya (wF E (.cons l c .nil)) (n+1) (.goto l) ρ L KX:=by
    intro m ρ L hm h
    unfold Ya
    rw [hg]
    refine zB c (fun e ρ' L' h'=>ih.2 e ρ' L' ?_) (hs m ρ L h)
    cases e with
    | goto l'=>
     refine ⟨fun hl=>?_,h'.2⟩
     obtain ⟨k,hk,h2⟩:=h'.1 hl
     exact ⟨k,by omega,h2⟩
    | normal=>exact h'
    | ret=>exact h'
    | exit i=>exact h'
   refine ⟨h1,fun e ρ L h=>?_⟩
   cases e with
   | normal=>simp only [Ya];exact h
   | ret=>simp only [Ya];exact h
   | exit i=>simp only [Ya];exact h
   | goto l'=>
    by_cases hl:l'=l
    ·subst hl;obtain ⟨m,hm,h2⟩:=h.1 rfl;exact h1 m ρ L hm h2
    ·unfold Ya;rw [hg' l' hl];exact h.2 hl
 exact ⟨N,zB b (fun e ρ L h=>(key N).2 e ρ L h) h0⟩
theorem ZV {b:XC} (h:xrun E b ρ L (z6R (fun _ _ _=>False) 0 KX)):xrun E (.loop b) ρ L KX:=by
 refine zT (fun _ ρ' L'=>ρ'=ρ/\L'=L) (n:=0) ⟨rfl,rfl⟩ ?_
 rintro n _ _ ⟨rfl,rfl⟩
 refine zB _ (fun e ρ' L' h=>?_) h
 cases e with
 | normal=>obtain ⟨_,_,h⟩:=h;exact h.elim
 | exit=>exact h
 | goto=>exact h
 | ret=>exact h
theorem wrap64 {n:Int} (h1 : -9223372036854775808<=n) (h2:n<=9223372036854775807):IntKind.wrap .i64 n=n:=by
 simp only [IntKind.wrap];simp [IntKind.bits,IntKind.signed];omega
end
end Go.X
end
section
namespace Go.X
open Go
def memN:List Nat->Nat->Bool
 | [],_=>false
 | a::r,n=>if n=a then true else memN r n
def hav (W:List Nat) (vs:Rho) (ρ:Rho):Rho:=fun n=>if memN W n=true then vs n else ρ n
def act (ρ:Rho) (S:List Nat):Option (Nat × Bool)->Prop
 | none=>True
 | some (t,w)=>ρ t=.bool w/\memN S t=false
section
variable {E:Env} {ρ:Rho} {L:List Blk} {KX:XE->Rho->List Blk->Prop} {KR:Rho->List Blk->Prop}
def wL (w b y:Bool):Bool:=if w then b&&y else b||y
@[go_sem] theorem zfd {n:Nat}:memN [] n=false:=nr rfl
@[go_sem] theorem zdx {a n:Nat} {r:List Nat}:memN (a::r) n=if n=a then true else memN r n:=nr rfl
@[go_sem] theorem zgy {W:List Nat} {vs:Rho} {n:Nat}:hav W vs ρ n=if memN W n=true then vs n else ρ n:=nr rfl
@[go_sem] theorem zfs {S:List Nat}:act ρ S none=True:=nr rfl
@[go_sem] theorem zfh {S:List Nat} {t:Nat} {w:Bool}:act ρ S (some (t,w))=(ρ t=.bool w/\memN S t=false):=nr rfl
@[go_sem] theorem zhV {b y:Bool}:wL true b y=(b&&y):=nr rfl
@[go_sem] theorem ziy {b y:Bool}:wL false b y=(b||y):=nr rfl
end
end Go.X
end
section
namespace Go.X
open Go
section
variable {E:Env} {ρ:Rho} {L:List Blk}
def z01 (Q:Rho->List Blk->Prop):XE->Rho->List Blk->Prop
 | .normal,ρ,L=>Q ρ L
 | .ret,ρ,L=>Q ρ L
 | _,_,_=>False
@[go_sem ↓] theorem zeT {Q:Rho->List Blk->Prop}:z01 Q .ret ρ L=Q ρ L:=nr rfl
@[go_sem ↓] theorem zbU {Q:Rho->List Blk->Prop}:z01 Q .normal ρ L=Q ρ L:=nr rfl
theorem yu {f : FuncId} {fn : Func} {t n : Nat} {c : XC} {args : List IV} {r : IV} (hf : E.P.funcs[f]? = some fn) (hF : Y3 E.P fn = some ⟨n, [.tmp t], c⟩) (hnm : fn.name ≠ "runtime.NumGoroutine")
  (hargs:args.length≤fn.ntmps) (h:xrun E.noPan c (entry args) [] (z01 fun ρ L'=>conv L' fuel zy (ρ t)=some r)):zI E f args r:=by
 refine wJ hf hF hnm hargs (zB _ (fun e ρ L h=>?_) h)
 cases e with
 | normal=>exact ⟨Or.inr rfl,h⟩
 | ret=>exact ⟨Or.inl rfl,h⟩
 | exit=>exact h.elim
 | goto=>exact h.elim
theorem zeG {f : FuncId} {fn : Func} {t t' n : Nat} {c : XC} {args : List IV} {r r' : IV} (hf : E.P.funcs[f]? = some fn) (hF : Y3 E.P fn = some ⟨n, [.tmp t, .tmp t'], c⟩) (hnm : fn.name ≠ "runtime.NumGoroutine")
  (hargs:args.length≤fn.ntmps) (h:xrun E.noPan c (entry args) [] (z01 fun ρ L'=>conv L' 11 zy (ρ t)=some r∧conv L' 11 zy (ρ t')=some r')):zI E f args (.tup [r,r']):=by
 refine wJ hf hF hnm hargs (zB _ (fun e ρ L h=>?_) h)
 have key:conv L 11 zy (ρ t)=some r∧conv L 11 zy (ρ t')=some r'→Zg E.noPan [.tmp t,.tmp t'] ρ L fun r0=>conv L fuel zy r0=some (.tup [r,r']):=by
  rintro ⟨h1,h2⟩
  show conv L 12 zy (.tup [ρ t,ρ t'])=_
  simp only [conv,mapO,h1,h2];rfl
 cases e with
 | normal=>exact ⟨Or.inr rfl,key h⟩
 | ret=>exact ⟨Or.inl rfl,key h⟩
 | exit=>exact h.elim
 | goto=>exact h.elim
end
end Go.X
end
section
namespace Go.X
open Go
def inN (i:Nat):List Nat->Bool
 | []=>false
 | a::r=>if i=a then true else inN i r
theorem z8z {i:Nat}:∀{l:List Nat},inN i l=true↔i∈l
 | []=>by simp [inN]
 | a::r=>by
  unfold inN
  by_cases h:i=a
  ·simp [h]
  ·rw [if_neg h,z8z];simp [h]
def ninP (a:Nat):List Nat->Prop
 | []=>True
 | b::l=>a≠b/\ninP a l
def sepL:List Nat->List Nat->Prop
 | [],_=>True
 | a::r,l=>ninP a l/\sepL r l
theorem z5Q {a:Nat}:∀{l:List Nat},ninP a l↔a∉l
 | []=>by simp [ninP]
 | b::l=>by simp [ninP,z5Q]
theorem z5r {l:List Nat}:∀{r:List Nat},sepL r l↔∀i∈r,i∉l
 | []=>by simp [sepL]
 | a::r=>by simp [sepL,z5Q,z5r]
theorem zdi {r1 w1 r2 w2:List Nat}:Ap r1 w1 r2 w2=(sepL w1 r2/\sepL w1 w2/\sepL w2 r1):=by
 simp only [Ap,z5r,eq_iff_iff]
 constructor
 ·rintro ⟨h1,h2⟩;exact ⟨fun i h=>(h1 i h).1,fun i h=>(h1 i h).2,fun i h=>(h2 i h).1⟩
 ·rintro ⟨h1,h2,h3⟩;exact ⟨fun i h=>⟨h1 i h,h2 i h⟩,fun i h=>⟨h3 i h,fun h4=>h2 i h4 h⟩⟩
theorem zav {chk r w:List Nat} {i:Nat} {r1 w1:List Nat} {lg:List (Nat × List Nat × List Nat)}:chkL chk r w ((i,r1,w1)::lg)=((if inN i chk=true then (sepL w1 r/\sepL w1 w/\sepL w r1) else True)/\chkL chk r w lg):=by
 simp only [chkL,zdi,<-z8z]
 by_cases h:inN i chk=true<;>simp [h]
theorem zb8 {o : XO} {e : Opd -> IV} {L : List Blk} : (o.sub e).rd cev L = o.rd e L := by
  cases o <;> first
    | rfl
    | (simp only [XO.sub, XO.rd, zU, vO]; done)
    | (rename_i k xs
       cases k <;> first
         | rfl
         | (have h := congrArg (List.flatMap slS) (vO (e := e) (l := xs))
            simpa only [List.flatMap_map, XO.sub, XO.rd] using h)
         | (have h := congrArg (List.flatMap slM) (vO (e := e) (l := xs))
            simpa only [List.flatMap_map, XO.sub, XO.rd] using h))
theorem zbs {o:XO} {e:Opd->IV}:(o.sub e).wr cev=o.wr e:=by
 cases o<;>first | rfl | (rename_i k xs;cases k<;>first | rfl | (cases xs<;>rfl))
theorem z7G {o:XO} {e:Opd->IV} {L L':List Blk}:newS (o.sub e) L L'=newS o L L':=by
 cases o<;>first | rfl | (rename_i k xs;cases k<;>rfl)
theorem z5O {r w:List Nat}:∀{lg:List (Nat × List Nat × List Nat)},chkL [] r w lg
 | []=>trivial
 | (i,r1,w1)::lg=>⟨fun h=>by simp at h,z5O⟩
def Y0 (o:XO) (L L':List Blk):List Nat:=o.rd cev L++newS o L L'
def Yz (o:XO) (L L':List Blk):List Nat:=o.wr cev++newS o L L'
section
variable {E:Env} {ρ:Rho} {L L':List Blk} {KX:XE->Rho->List Blk->Prop} {KR:Rho->List Blk->Prop} {i:Nat} {lg:List (Nat × List Nat × List Nat)}
@[congr] theorem zbx {l:List (zk × List Nat × Bool)} {ρ':Rho} {L':List Blk} {i':Nat} {lg':List (Nat × List Nat × List Nat)} (hi:same i=i') (hg:same lg=lg') (h:same ρ=ρ') (hL:same L=L'):ZG E i lg l ρ L KR=ZG E i' lg' l ρ' L' KR:=by rw [<-hi,<-hg,<-h,<-hL];rfl
@[go_sem ↓] theorem zhi {l:List (zk × List Nat × Bool)}:xrun E (.drawR l) ρ L KX=ZG E 0 [] l ρ L fun ρ' L'=>KX .normal ρ' L':=nr rfl
@[go_sem ↓] theorem ziK:ZG E i lg [] ρ L KR=KR ρ L:=nr rfl
@[go_sem ↓] theorem zf2 {d:Option Nat} {o:XO} {r:List (zk × List Nat × Bool)}:ZG E i lg ((⟨d,o,none⟩,[],false)::r) ρ L KR=xop E (o.sub (Opd.ev ρ)) cev L fun v L'=>ZG E (i+1) lg r (put ρ d v) L' KR:=by
 rw [<-z05]
 simp only [ZG,Bool.false_eq_true,if_false]
 congr 1
 funext v L'
 simp [z5O,same_eq]
@[go_sem ↓] theorem zgx {d:Option Nat} {o:XO} {r:List (zk × List Nat × Bool)} {chk:List Nat}:ZG E i lg ((⟨d,o,none⟩,chk,true)::r) ρ L KR=xop E (o.sub (Opd.ev ρ)) cev L fun v L'=>
  chkL chk (Y0 (o.sub (Opd.ev ρ)) L L') (Yz (o.sub (Opd.ev ρ)) L L') lg/\ZG E (i+1) ((i,Y0 (o.sub (Opd.ev ρ)) L L',Yz (o.sub (Opd.ev ρ)) L L')::lg) r (put ρ d v) L' KR:=by
 rw [<-z05]
 simp only [ZG,if_true]
 congr 1
 funext v L'
 simp only [same_eq,Y0,Yz,zb8,zbs,z7G]
@[go_sem ↓] theorem zj1 {d:Option Nat} {o:XO} {r:List (zk × List Nat × Bool)} {c:Nat} {chk:List Nat}:ZG E i lg ((⟨d,o,none⟩,c::chk,false)::r) ρ L KR=xop E (o.sub (Opd.ev ρ)) cev L fun v L'=>
  chkL (c::chk) (Y0 (o.sub (Opd.ev ρ)) L L') (Yz (o.sub (Opd.ev ρ)) L L') lg/\ZG E (i+1) lg r (put ρ d v) L' KR:=by
 rw [<-z05]
 simp only [ZG,Bool.false_eq_true,if_false]
 congr 1
 funext v L'
 simp only [same_eq,Y0,Yz,zb8,zbs,z7G]
@[go_sem ↓] theorem zhZ {d:Option Nat} {o:XO} {r:List (zk × List Nat × Bool)} {chk:List Nat} {keep:Bool} {t:Nat} {w:Bool} (h:ρ t=.bool w) :
  ZG E i lg ((⟨d,o,some (t,w)⟩,chk,keep)::r) ρ L KR=ZG E i lg ((⟨d,o,none⟩,chk,keep)::r) ρ L KR:=by
 simp [ZG,h,same_eq]
@[go_sem ↓] theorem zfP {d:Option Nat} {o:XO} {r:List (zk × List Nat × Bool)} {chk:List Nat} {keep:Bool} {t:Nat} {w:Bool} (h:ρ t=.bool (!w)) :
  ZG E i lg ((⟨d,o,some (t,w)⟩,chk,keep)::r) ρ L KR=ZG E (i+1) lg r (put ρ d .und) L KR:=by
 cases w<;>simp [ZG,h,same_eq]
@[go_sem ↓] theorem zgl {d:Option Nat} {o:XO} {r:List (zk × List Nat × Bool)} {chk:List Nat} {keep:Bool} {t:Nat} {w:Bool} (h:ρ t=.und) :
  ZG E i lg ((⟨d,o,some (t,w)⟩,chk,keep)::r) ρ L KR=ZG E (i+1) lg r (put ρ d .und) L KR:=by
 simp [ZG,h,same_eq]
attribute [go_sem] zav
@[go_sem] theorem zht {chk r w:List Nat}:chkL chk r w []=True:=nr rfl
@[go_sem] theorem zhW:inN i []=false:=nr rfl
@[go_sem] theorem zgG {a:Nat} {r:List Nat}:inN i (a::r)=if i=a then true else inN i r:=nr rfl
@[go_sem] theorem zg6 {a:Nat}:ninP a []=True:=nr rfl
@[go_sem] theorem zf6 {a b:Nat} {l:List Nat}:ninP a (b::l)=(¬a=b/\ninP a l):=nr rfl
@[go_sem] theorem zgY {l:List Nat}:sepL [] l=True:=nr rfl
@[go_sem] theorem zfv {a:Nat} {r l:List Nat}:sepL (a::r) l=(ninP a l/\sepL r l):=nr rfl
@[go_sem] theorem zhk {s r o:Nat}:slP (.ptr s r o)=[s]:=nr rfl
@[go_sem] theorem zfV {rows:List (List IV)} {r o:Nat}:slP (.iptr rows r o)=[]:=nr rfl
@[go_sem] theorem zg5 {v:Value}:slP (.raw v)=[]:=nr rfl
@[go_sem] theorem zi4 {s off len cap:Nat}:slS (.sl s off len cap)=[s]:=nr rfl
@[go_sem] theorem zgi {rows:List (List IV)}:slS (.isl rows)=[]:=nr rfl
@[go_sem] theorem zgw:slS .nsl=[]:=nr rfl
@[go_sem] theorem zgn:slS .esl=[]:=nr rfl
@[go_sem] theorem zgP {s:List UInt8}:slS (.str s)=[]:=nr rfl
section
variable {n sz len:Nat} {x y:IV} {z:List IV} {ps:List (Nat × Opd)} {lo hi:Option Opd} {f:Opd} {as:List Opd}
@[go_sem] theorem zeP:Y0 (.load1 (.c x)) L L'=slP x:=by simp [Y0,XO.rd,newS,zU]
@[go_sem] theorem zfA:Yz (.load1 (.c x)) L L'=[]:=nr rfl
@[go_sem] theorem zg1:Y0 (.loadN n (.c x)) L L'=slP x:=by simp [Y0,XO.rd,newS,zU]
@[go_sem] theorem zeV:Yz (.loadN n (.c x)) L L'=[]:=nr rfl
@[go_sem] theorem zhu:Y0 (.idxS n (.c x) (.c y)) L L'=slS x:=by simp [Y0,XO.rd,newS,zU]
@[go_sem] theorem zhb:Yz (.idxS n (.c x) (.c y)) L L'=[]:=nr rfl
@[go_sem] theorem zfY:Y0 (.slice n (.c x) lo hi) L L'=slS x:=by simp [Y0,XO.rd,newS,zU]
@[go_sem] theorem zfF:Yz (.slice n (.c x) lo hi) L L'=[]:=nr rfl
@[go_sem] theorem zfZ:Yz (.pcall f as) L L'=[]:=nr rfl
@[go_sem] theorem zf3:Y0 (.alloc z) L L'=[L.length]:=nr rfl
@[go_sem] theorem zg3:Yz (.alloc z) L L'=[L.length]:=nr rfl
@[go_sem] theorem zjc:Y0 (.box f) L L'=[L.length]:=nr rfl
@[go_sem] theorem ziP:Yz (.box f) L L'=[L.length]:=nr rfl
@[go_sem] theorem zdn:Y0 (.bslice sz z len ps) L L'=[L.length]:=nr rfl
@[go_sem] theorem zea:Yz (.bslice sz z len ps) L L'=[L.length]:=nr rfl
@[go_sem] theorem zcP:Y0 (.mkslice z n (.c x) (.c y)) L L'=[L.length]:=nr rfl
@[go_sem] theorem zcS:Yz (.mkslice z n (.c x) (.c y)) L L'=[L.length]:=nr rfl
@[go_sem] theorem zeX:Y0 (.store n (.c x) (.c y)) L L'=slP x:=by simp [Y0,XO.rd,newS,zU]
@[go_sem] theorem zeK:Yz (.store n (.c x) (.c y)) L L'=slP x:=by simp [Yz,XO.wr,newS,zU]
@[go_sem] theorem zdP:Y0 (.append sz n (.c x) (.c y)) L L'=slS x++slS y++(if L'.length=L.length then [] else [L.length]):=by simp only [Y0,XO.rd,newS,zU]
@[go_sem] theorem zdl:Yz (.append sz n (.c x) (.c y)) L L'=slS x++(if L'.length=L.length then [] else [L.length]):=by simp only [Yz,XO.wr,newS,zU]
end
end
end Go.X
end
section
namespace Go.X
section
variable {E:Env} {L:List Blk} {KV:IV->List Blk->Prop}
@[go_sem] theorem zfr {z:List IV}:xop E (.build z []) cev L KV=KV (.agg z) L:=nr rfl
@[go_sem] theorem zeZ {z:List IV} {off n:Nat} {x:IV} {r:List (Nat × Nat × Opd)} (h1:(cellsOf x).length=n) (h2:off+n<=z.length) :
  xop E (.build z ((off,n,.c x)::r)) cev L KV=xop E (.build (splice z off (cellsOf x)) r) cev L KV:=by
 simp only [xop,List.map_cons,zU,z0o]
 rw [if_pos ⟨h1,h2⟩]
end
attribute [go_sem] Bool.false_eq_true Bool.not_true Bool.not_false Bool.and_true Bool.true_and Bool.or_false Bool.false_or Bool.and_false Bool.false_and Bool.or_true Bool.true_or true_and and_true eq_self not_false_eq_true List.map_cons List.map_nil List.nil_append List.append_nil decide_true decide_false llc lln List.getD_cons_zero List.getD_cons_succ Int.cast_ofNat_Int Int.toNat_natCast Int.natCast_nonneg List.getElem?_cons_zero List.getElem?_cons_succ List.cons_append List.set_cons_zero List.set_cons_succ List.take_zero List.take_succ_cons List.drop_zero List.drop_succ_cons List.drop_nil List.take_nil List.all_cons List.all_nil Nat.zero_add Nat.zero_lt_one Nat.le_refl
end Go.X
end
