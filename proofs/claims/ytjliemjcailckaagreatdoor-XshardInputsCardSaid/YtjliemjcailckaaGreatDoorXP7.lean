/- Parts of the proof: XDefer, XDeferL. -/
import Derived.Test.YtjliemjcailckaaGreatDoorXP6
import Derived.Recover
set_option linter.unusedVariables false
set_option linter.unusedSimpArgs false
set_option linter.unusedSectionVars false
section
namespace Go.X
open Go
section
variable {E:Env}
def Env.defr (E:Env) (Q:IV->List Blk->Prop) (lo:Nat) (kept:Nat->Value) (B:List Deferred):Env:={ E with pan:=Q,lo:=lo,kept:=kept,base:=some B }
def zh0 (E:Env) (k:FuncId) (caps:List IV) (L:List Blk) (x:IV) (R:List Blk->Prop):Prop:=
 ∀(w:World) (φ:Nat->Loc) (X:Nat->Prop) (vs:List Value) (v:Value),Wf E.g0 ⟨w,φ,L,X⟩->Sim ⟨w,φ,L,X⟩->E.G w->caps.length=vs.length->
  (∀(i:Nat) (y:IV),caps[i]?=some y->VR ⟨w,φ,L,X⟩ y (vs.getD i undef))->VR ⟨w,φ,L,X⟩ x v->
  CallsD E.P k vs.toArray (.panicking [{ v,recovered:=false }]) w fun e u' w'=>(∃rv,e=.returned rv)/\u'=.panicking [{ v,recovered:=true }]/\
   ∃L' φ',R L'/\Wf E.g0 ⟨w',φ',L',X⟩/\Sim ⟨w',φ',L',X⟩/\Ext ⟨w,φ,L,X⟩ ⟨w',φ',L',X⟩
def z4k (P:Program) (k:FuncId) (n:Nat):Prop:=∀(vs:List Value) (w:World),vs.length=n->CallsD P k vs.toArray .returning w fun e u' w'=>(∃rv,e=.returned rv)/\u'=.returning/\w'=w
theorem za8 {k:FuncId} {fn:Func} {caps:List IV} {L:List Blk} {x:IV} {R:List Blk->Prop} {r id:Nat} {ty:TypeId} {ps:String} {c2:Code} {x2:XC}
  (hf:E.P.funcs[k]?=some fn) (hb:fn.body=some (.seq (.region id #[{ dst:=some r,op:=.call { callee:=.builtin .recover,args:=#[],argTypes:=#[] },type:=ty,pos:=ps,after:=#[],guard:=none }] false) c2))
  (hres:fn.results=#[]) (hcaps:caps.length<=fn.ntmps) (hr:r<fn.ntmps) (h2c:comp E.P fn.ntmps c2=some x2) (hs:safe 0 x2=true)
  (hrun:Za (E.defr (fun _ _=>False) 0 (fun _=>undef) []) x2 (put (entry caps) (some r) x) L fun e _ L'=>(e=.ret\/e=.normal)/\R L'):zh0 E k caps L x R:=by
 intro w φ X vs v wf sim hG hl hv hx
 refine callsD_of_wpS hf hb fun c₀ cs hu=>?_
 apply wpS_seq
 apply wpS_region
 let C:Ctx:=⟨w,φ,L,X⟩
 have hrec:recoverD (c₀::cs)=some (v,{ c₀ with mode:=.panicking [{ v,recovered:=true }] }::cs):=by
  simp only [recoverD,hu]
 have hex:∀ev,(execOp ev { dst:=some r,op:=.call { callee:=.builtin .recover,args:=#[],argTypes:=#[] },type:=ty,pos:=ps,after:=#[],guard:=none }).run E.P w=.ok .recover w:=fun ev=>by
  unfold execOp
  simp [resolve,invoke,builtin]
 show wpOpsS E.P _ _ [0] _ _ _
 simp only [wpOpsS,List.getElem?_toArray,List.getElem?_cons_zero,Region.wanted,hex,hrec,if_true]
 show Exit.thenS _ _ .normal _ _ _
 simp only [Exit.thenS]
 refine wpS_of_wp ((wpIn_wide (n:=0)).1 ?_)
 let a:Act:={ tmps:=(vs.toArray++Array.replicate (fn.ntmps - vs.toArray.size) undef).setIfInBounds r v,defers:=[] }
 have hN:(vs.toArray++Array.replicate (fn.ntmps - vs.toArray.size) undef).size=fn.ntmps:=by simp;omega
 refine yD (E:=E.defr (fun _ _=>False) 0 (fun _=>undef) []) (F:=Fence.wide) (.inl rfl) (C0:=C) wf hG (yA c2) c2 (Nat.le_refl _) x2 h2c (.inl rfl) (.inr hs) _ L _ _ a w (fun _ _ _ _ _ _ h=>h.elim) hrun ⟨by simp only [a];simpa using hN,φ,wf,sim,Ext.refl _,fun n=>?_,rfl,fun t ht=>absurd ht (Nat.not_lt_zero t)⟩ ?_
 ·show VR _ (if n=r then x else caps.getD n .und) ((Array.setIfInBounds _ r v).getD n undef)
  rw [Zv (by rw [hN];exact hr)]
  by_cases hn:n=r
  ·rw [if_pos hn,if_pos hn];exact hx
  ·rw [if_neg hn,if_neg hn]
   by_cases hn:n<caps.length
   ·have h1:=hv n _ (getD_get (d:=.und) hn)
    have h2:(vs.toArray++Array.replicate (fn.ntmps - vs.toArray.size) undef).getD n undef=vs.getD n undef:=by
     rw [Array.getD_eq_getD_getElem?,Array.getElem?_append_left (by simpa [<-hl] using hn),List.getD_eq_getElem?_getD]
     simp
    rw [h2];exact h1
   ·have h1:caps.getD n .und=.und:=by rw [List.getD_eq_getElem?_getD,List.getElem?_eq_none od];rfl
    have h2:(vs.toArray++Array.replicate (fn.ntmps - vs.toArray.size) undef).getD n undef=undef:=by
     rw [Array.getD_eq_getD_getElem?,Array.getElem?_append_right (by simp;omega),Array.getElem?_replicate]
     split<;>rfl
    rw [h1,h2];exact .und
 ·rintro e ρ L' a' w' ⟨he,hR⟩ ⟨_,φ',wf',sim',ext',_,hd,_⟩
  have hd:a'.defers=[]:=hd
  have key:a'.defers=[]/\∃u',{ c₀ with mode:=.panicking [{ v,recovered:=true }] }::cs={ c₀ with mode:=u' }::cs/\∃rv,(results fn a'.tmps).run E.P w'=.ok rv w'/\((∃rv',Ending.returned rv=.returned rv')/\u'=.panicking [{ v,recovered:=true }]/\
    ∃L' φ',R L'/\Wf E.g0 ⟨w',φ',L',X⟩/\Sim ⟨w',φ',L',X⟩/\Ext ⟨w,φ,L,X⟩ ⟨w',φ',L',X⟩):=
   ⟨hd,_,rfl,.tuple #[],by simp [results,hres],⟨_,rfl⟩,rfl,L',φ',hR,wf',sim',ext'⟩
  rcases he with rfl | rfl
  ·exact key
  ·exact key
theorem z14 {f:FuncId} {fn:Func} {args:List IV} {L:List Blk} {R:IV→List Blk→Prop} {c1 c2 c3:Code} {x1 x3:XC} {rs:List jQ} {d k lo:Nat} {caps:List Nat} {M:Rho→List Blk→Prop} {PQ:Rho→IV→List Blk→Prop}
  (hf : E.P.funcs[f]? = some fn) (hb : fn.body = some (.seq c1 (.seq c2 c3))) (di : fn.name ≠ "runtime.NumGoroutine") (dh : args.length ≤ fn.ntmps) (hd : d < fn.ntmps)
  (dw:comp E.P fn.ntmps c1=some x1) (ed:comp E.P fn.ntmps c3=some x3) (dm:zF (ZY E.P) fn.results.toList=some rs) (eu:safe lo x3=true)
  (au:vY E.P k)
  (ay:∀(Q:Exit→Act→World→Prop) (a:Act) (w:World),a.defers=[]→a.tmps.size=fn.ntmps→
   Q .normal { tmps:=a.tmps.setIfInBounds d (.func (.func k) #[] ((caps.map fun t=>a.tmps.getD t undef).toArray)),defers:=[{ target:=.fn (.func k) ((caps.map fun t=>a.tmps.getD t undef).toArray),args:=#[] }] } w→c2.wp E.P Q a w)
  (cu:safe 0 x1=true)
  (Y:Za (E.defr (fun _ _=>False) 0 (fun _=>undef) []) x1 (entry args) L (zgm M))
  (ae:∀b L1,M b L1→∀kept B,Za (E.defr (PQ (put b (some d) (.fn (.func k) [] (caps.map b)))) lo kept B) x3 (put b (some d) (.fn (.func k) [] (caps.map b))) L1
   fun e ρ L'=>(e=.ret∨e=.normal)∧zY E.noPan rs ρ L' fun r=>R r L')
  (az:∀b L1 x L',M b L1→PQ (put b (some d) (.fn (.func k) [] (caps.map b))) x L'→zh0 E k (caps.map b) L' x fun L''=>∀ρ:Rho,(∀t,t<lo→ρ t=put b (some d) (.fn (.func k) [] (caps.map b)) t)→zY E.noPan rs ρ L'' fun r=>R r L'')
  (ah:z4k E.P k caps.length):XT E f args L R:=by
 refine ⟨⟨fn,hf,di,by rw [hb];rfl⟩,fun w φ X vs wf bu hG hl dn=>?_⟩
 refine calls_of_wp_defers hf hb ?_
 let C0:Ctx:=⟨w,φ,L,X⟩
 have bg:Rel (E.defr (fun _ _=>False) 0 (fun _=>undef) []) C0 fn.ntmps (entry args) L { tmps:=vs.toArray++Array.replicate (fn.ntmps - vs.toArray.size) undef,defers:=[] } w:=by
  refine ⟨by simp;omega,φ,wf,bu,Ext.refl _,fun n=>?_,rfl,fun t ht=>absurd ht (Nat.not_lt_zero t)⟩
  show VR _ (args.getD n .und) _
  by_cases hn:n<args.length
  ·have J:=dn n _ (getD_get (d:=.und) hn)
   have I:(vs.toArray++Array.replicate (fn.ntmps - vs.toArray.size) undef).getD n undef=vs.getD n undef:=by
    rw [Array.getD_eq_getD_getElem?,Array.getElem?_append_left (by simpa [←hl] using hn),List.getD_eq_getElem?_getD]
    simp
   rw [I];exact J
  ·have J:args.getD n .und=.und:=by rw [List.getD_eq_getElem?_getD,List.getElem?_eq_none od];rfl
   have I:(vs.toArray++Array.replicate (fn.ntmps - vs.toArray.size) undef).getD n undef=undef:=by
    rw [Array.getD_eq_getD_getElem?,Array.getElem?_append_right (by simp;omega),Array.getElem?_replicate]
    split<;>rfl
   rw [J,I];exact .und
 let P1:Ending→World→Prop:=fun e w'=>∃r L' j v,R r L'∧e=.returned v∧Wf E.g0 ⟨w',j,L',X⟩∧Sim ⟨w',j,L',X⟩∧Ext ⟨w,φ,L,X⟩ ⟨w',j,L',X⟩∧VR ⟨w',j,L',X⟩ r v
 have U:∀(tmps:Array Value) (ρ:Rho) (L':List Blk) (j:Nat→Loc) (w':World),Wf E.g0 ⟨w',j,L',X⟩→Sim ⟨w',j,L',X⟩→Ext C0 ⟨w',j,L',X⟩→(∀n,VR ⟨w',j,L',X⟩ (ρ n) (tmps.getD n undef))→
   (zY E.noPan rs ρ L' fun r=>R r L')→Leaves E.P fn tmps P1 [] .returning w':=by
  intro tmps ρ L' j w' A l ext' D s
  obtain ⟨v,r,J,I,h3⟩:=wX (E:=E.noPan) (C:=⟨w',j,L',X⟩) l (z1b (C0:=C0) wf hG ext') D dm s
  exact ⟨v,J,r,L',j,v,h3,rfl,A,l,ext',I⟩
 refine wp_seq ((wpIn_wide (n:=0)).1 ?_)
 refine yD (E:=E.defr (fun _ _=>False) 0 (fun _=>undef) []) (F:=Fence.wide) (.inl rfl) (C0:=C0) wf hG (yA c1) c1 (Nat.le_refl _) x1 dw (.inl rfl) (.inr cu) (entry args) L _ _ _ w (fun _ _ _ _ _ _ h=>h.elim) Y bg ?_
 rintro e b L1 a1 w1 hM ⟨ak,φ1,V,bi,u,S,ai,_⟩
 cases e with
 | exit=>exact hM.elim
 | goto=>exact hM.elim
 | ret=>exact hM.elim
 | normal=>
 have hM:M b L1:=hM
 have ai:a1.defers=[]:=ai
 show Code.wp E.P (.seq c2 c3) _ a1 w1
 refine wp_seq (ay _ a1 w1 ai ak ?_)
 let capv:List Value:=caps.map fun t=>a1.tmps.getD t undef
 let ρ2:Rho:=put b (some d) (.fn (.func k) [] (caps.map b))
 let C1:Ctx:=⟨w1,φ1,L1,X⟩
 let a2:Act:={ tmps:=a1.tmps.setIfInBounds d (.func (.func k) #[] capv.toArray),defers:=[{ target:=.fn (.func k) capv.toArray,args:=#[] }] }
 have O:∀(i:Nat) (y:IV),(caps.map b)[i]?=some y→VR C1 y (capv.getD i undef):=fun i y hi=>by
  rw [List.getElem?_map,oms] at hi
  obtain ⟨t,ht,rfl⟩:=hi
  have:capv.getD i undef=a1.tmps.getD t undef:=by simp [capv,List.getD,ht]
  rw [this];exact S t
 have T:∀n,VR C1 (ρ2 n) (a2.tmps.getD n undef):=fun n=>by
  show VR _ (if n=d then _ else b n) ((a1.tmps.setIfInBounds d _).getD n undef)
  rw [Zv (by rw [ak];exact hd)]
  by_cases h:n=d
  ·rw [if_pos h,if_pos h]
   exact .fn (.func k) [] (caps.map b) [] capv rfl (by simp [capv]) (fun i x hi=>by simp at hi) O
  ·rw [if_neg h,if_neg h];exact S n
 let kept:Nat→Value:=fun t=>a2.tmps.getD t undef
 let B:List Deferred:=[{ target:=.fn (.func k) capv.toArray,args:=#[] }]
 have gm:capv.length=caps.length:=by simp [capv]
 show Code.wp E.P c3 _ a2 w1
 have bn:E.G w1:=z1b (C0:=C0) wf hG u
 refine (wpIn_wide (n:=0)).1 (yD (E:=E.defr (PQ ρ2) lo kept B) (F:=Fence.wide) (.inl rfl) (C0:=C1) V bn (yA c3) c3 (Nat.le_refl _) x3 ed (.inl rfl) (.inr eu) ρ2 L1 _ (bodyPostD E.P fn P1) a2 w1 ?_ (ae b L1 hM kept B)
  ⟨by simp [a2,ak],φ1,V,bi,Ext.refl _,T,rfl,fun t _=>rfl⟩ ?_)
 ·intro x v L' j a w' hx hN A l ext' hv m bz aj
  obtain ⟨ρ,aj⟩:=aj
  have m:a.defers=B:=m
  show Leaves E.P fn a.tmps P1 a.defers (.panicking [{ v,recovered:=false }]) w'
  rw [m]
  refine leaves_cons (f:=k) (args:=capv.toArray) (by intro h;cases h) ?_ ?_
  ·obtain ⟨fk,J,I,h3⟩:=au
   simp only [invoke]
   unfold callFunc
   rw [Sem.run_bind,run_program]
   have ag : (fk.name == "runtime.NumGoroutine") = false := by simpa using I
   simp only [Result.andThen_ok,J,ag,Bool.false_eq_true,if_false,h3]
   simp
  refine (az b L1 x L' hM hx w' j X capv v A l (z1b (C0:=C1) V bn ext') (by simp [capv]) (fun i y hi=>(O i y hi).mono ext') hv).mono ?_
  rintro e u' Z ⟨⟨rv,rfl⟩,rfl,L'',bf,hR,ax,af,q⟩
  show Leaves E.P fn a.tmps P1 [] .returning Z
  refine U a.tmps (fun t=>if t<lo then ρ2 t else ρ t) L'' bf Z ax af ((u.trans ext').trans q) (fun n=>?_) (hR _ fun t ht=>if_pos ht)
  by_cases hn:n<lo
  ·show VR _ (if n<lo then ρ2 n else ρ n) _
   rw [if_pos hn,bz n hn]
   exact ((T n).mono ext').mono q
  ·show VR _ (if n<lo then ρ2 n else ρ n) _
   rw [if_neg hn]
   exact (aj n).mono q
 ·rintro e ρ L' a w' ⟨he,s⟩ ⟨hN,j,A,l,ext',D,m,_⟩
  have m:a.defers=B:=m
  have key:Leaves E.P fn a.tmps P1 a.defers .returning w':=by
   rw [m]
   refine leaves_cons (f:=k) (args:=capv.toArray) (by intro h;cases h) ?_ ?_
   ·obtain ⟨fk,J,I,h3⟩:=au
    simp only [invoke]
    unfold callFunc
    rw [Sem.run_bind,run_program]
    have ag : (fk.name == "runtime.NumGoroutine") = false := by simpa using I
    simp only [Result.andThen_ok,J,ag,Bool.false_eq_true,if_false,h3]
    simp
   refine (ah capv w' gm).mono ?_
   rintro e u' Z ⟨⟨rv,rfl⟩,rfl,rfl⟩
   exact U a.tmps ρ L' j _ A l (u.trans ext') D s
  rcases he with rfl | rfl
  ·exact key
  ·exact key
end
end Go.X
end
