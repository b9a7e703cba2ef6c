/- Parts of the proof: XDefer, XDeferL. -/
import Derived.Test.YtnmhhmbeljlndaaGreatDoorXP7
import Derived.Recover
set_option linter.unusedVariables false
set_option linter.unusedSimpArgs false
set_option linter.unusedSectionVars false
section
namespace Go.X
open Go
section
variable {E:Env}
def Env.defr (E:Env) (Q:IV->List Blk->Prop) (lo:Nat) (kept:Nat->Value) (B:List Deferred):Env:={ E with pan:=Q,lo:=lo,kept:=kept,base:=some B }
def XClo (E:Env) (k:FuncId) (caps:List IV) (L:List Blk) (x:IV) (R:List Blk->Prop):Prop:=
 ∀(w:World) (φ:Nat->Loc) (X:Nat->Prop) (vs:List Value) (v:Value),Wf E.g0 ⟨w,φ,L,X⟩->Sim ⟨w,φ,L,X⟩->E.G w->caps.length=vs.length->
  (∀(i:Nat) (y:IV),caps[i]?=some y->VR ⟨w,φ,L,X⟩ y (vs.getD i undef))->VR ⟨w,φ,L,X⟩ x v->
  CallsD E.P k vs.toArray (.panicking [{ v,recovered:=false }]) w fun e u' w'=>(∃rv,e=.returned rv)/\u'=.panicking [{ v,recovered:=true }]/\
   ∃L' φ',R L'/\Wf E.g0 ⟨w',φ',L',X⟩/\Sim ⟨w',φ',L',X⟩/\Ext ⟨w,φ,L,X⟩ ⟨w',φ',L',X⟩
def z2k (P:Program) (k:FuncId) (n:Nat):Prop:=∀(vs:List Value) (w:World),vs.length=n->CallsD P k vs.toArray .returning w fun e u' w'=>(∃rv,e=.returned rv)/\u'=.returning/\w'=w
theorem zcs {k:FuncId} {fn:Func} {caps:List IV} {L:List Blk} {x:IV} {R:List Blk->Prop} {r id:Nat} {ty:TypeId} {ps:String} {c2:Code} {x2:XC}
  (hf:E.P.funcs[k]?=some fn) (hb:fn.body=some (.seq (.region id #[{ dst:=some r,op:=.call { callee:=.builtin .recover,args:=#[],argTypes:=#[] },type:=ty,pos:=ps,after:=#[],guard:=none }] false) c2))
  (hres:fn.results=#[]) (hcaps:caps.length<=fn.ntmps) (hr:r<fn.ntmps) (h2c:comp E.P fn.ntmps c2=some x2) (hs:safe 0 x2=true)
  (hrun:xrun (E.defr (fun _ _=>False) 0 (fun _=>undef) []) x2 (put (entry caps) (some r) x) L fun e _ L'=>(e=.ret\/e=.normal)/\R L'):XClo E k caps L x R:=by
 intro w φ X vs v wf sim hG hl hv hx
 refine callsD_of_wpS hf hb fun c₀ cs hu=>?_
 apply wpS_seq
 apply wpS_region
 let C:Ctx:=⟨w,φ,L,X⟩
 have hrec:recoverD (c₀::cs)=some (v,{ c₀ with mode:=.panicking [{ v,recovered:=true }] }::cs):=by
  simp only [recoverD,hu]
 have hex:∀ev,(execOp ev { dst:=some r,op:=.call { callee:=.builtin .recover,args:=#[],argTypes:=#[] },type:=ty,pos:=ps,after:=#[],guard:=none }).run E.P w=.ok .recover w:=fun ev=>by
  unfold execOp
  simp [resolve,invoke,builtin]
 show wpOpsS E.P _ _ [0] _ _ _
 simp only [wpOpsS,List.getElem?_toArray,List.getElem?_cons_zero,Region.wanted,hex,hrec,if_true]
 show Exit.thenS _ _ .normal _ _ _
 simp only [Exit.thenS]
 refine wpS_of_wp ((wpIn_wide (n:=0)).1 ?_)
 let a:Act:={ tmps:=(vs.toArray++Array.replicate (fn.ntmps - vs.toArray.size) undef).setIfInBounds r v,defers:=[] }
 have hN:(vs.toArray++Array.replicate (fn.ntmps - vs.toArray.size) undef).size=fn.ntmps:=by simp;omega
 refine yI (E:=E.defr (fun _ _=>False) 0 (fun _=>undef) []) (F:=Fence.wide) (.inl rfl) (C0:=C) wf hG (yX c2) c2 (Nat.le_refl _) x2 h2c (.inl rfl) (.inr hs) _ L _ _ a w (fun _ _ _ _ _ _ h=>h.elim) hrun ⟨by simp only [a];simpa using hN,φ,wf,sim,Ext.refl _,fun n=>?_,rfl,fun t ht=>absurd ht (Nat.not_lt_zero t)⟩ ?_
 ·show VR _ (if n=r then x else caps.getD n .und) ((Array.setIfInBounds _ r v).getD n undef)
  rw [yf (by rw [hN];exact hr)]
  by_cases hn:n=r
  ·rw [if_pos hn,if_pos hn];exact hx
  ·rw [if_neg hn,if_neg hn]
   by_cases hn:n<caps.length
   ·have h1:=hv n _ (getD_get (d:=.und) hn)
    have h2:(vs.toArray++Array.replicate (fn.ntmps - vs.toArray.size) undef).getD n undef=vs.getD n undef:=by
     rw [Array.getD_eq_getD_getElem?,Array.getElem?_append_left (by simpa [<-hl] using hn),List.getD_eq_getElem?_getD]
     simp
    rw [h2];exact h1
   ·have h1:caps.getD n .und=.und:=by rw [List.getD_eq_getElem?_getD,List.getElem?_eq_none (by omega)];rfl
    have h2:(vs.toArray++Array.replicate (fn.ntmps - vs.toArray.size) undef).getD n undef=undef:=by
     rw [Array.getD_eq_getD_getElem?,Array.getElem?_append_right (by simp;omega),Array.getElem?_replicate]
     split<;>rfl
    rw [h1,h2];exact .und
 ·rintro e ρ L' a' w' ⟨he,hR⟩ ⟨_,φ',wf',sim',ext',_,hd,_⟩
  have hd:a'.defers=[]:=hd
  have key:a'.defers=[]/\∃u',{ c₀ with mode:=.panicking [{ v,recovered:=true }] }::cs={ c₀ with mode:=u' }::cs/\∃rv,(results fn a'.tmps).run E.P w'=.ok rv w'/\((∃rv',Ending.returned rv=.returned rv')/\u'=.panicking [{ v,recovered:=true }]/\
    ∃L' φ',R L'/\Wf E.g0 ⟨w',φ',L',X⟩/\Sim ⟨w',φ',L',X⟩/\Ext ⟨w,φ,L,X⟩ ⟨w',φ',L',X⟩):=
   ⟨hd,_,rfl,.tuple #[],by simp [results,hres],⟨_,rfl⟩,rfl,L',φ',hR,wf',sim',ext'⟩
  rcases he with rfl | rfl
  ·exact key
  ·exact key
end
end Go.X
end
section
namespace Go.X
open Go
section
variable {E:Env}
theorem Yi {f:FuncId} {fn:Func} {args:List IV} {L:List Blk} {R:IV→List Blk→Prop} {c1 c2 c3:Code} {x1 x3:XC} {rs:List XRes} {d k lo:Nat} {caps:List Nat} {M:Rho→List Blk→Prop} {PQ:Rho→IV→List Blk→Prop}
  (hf : E.P.funcs[f]? = some fn) (hb : fn.body = some (.seq c1 (.seq c2 c3))) (hnm : fn.name ≠ "runtime.NumGoroutine") (hargs : args.length ≤ fn.ntmps) (hd : d < fn.ntmps)
  (h1c:comp E.P fn.ntmps c1=some x1) (h3c:comp E.P fn.ntmps c3=some x3) (hrs:mapO (Wh E.P) fn.results.toList=some rs) (hsf:safe lo x3=true)
  (hbk:jR E.P k)
  (hdef:∀(Q:Exit→Act→World→Prop) (a:Act) (w:World),a.defers=[]→a.tmps.size=fn.ntmps→
   Q .normal { tmps:=a.tmps.setIfInBounds d (.func (.func k) #[] ((caps.map fun t=>a.tmps.getD t undef).toArray)),defers:=[{ target:=.fn (.func k) ((caps.map fun t=>a.tmps.getD t undef).toArray),args:=#[] }] } w→c2.wp E.P Q a w)
  (hs1:safe 0 x1=true)
  (hrun1:xrun (E.defr (fun _ _=>False) 0 (fun _=>undef) []) x1 (entry args) L (Norm M))
  (hrun3:∀ρ1 L1,M ρ1 L1→∀kept B,xrun (E.defr (PQ (put ρ1 (some d) (.fn (.func k) [] (caps.map ρ1)))) lo kept B) x3 (put ρ1 (some d) (.fn (.func k) [] (caps.map ρ1))) L1
   fun e ρ L'=>(e=.ret∨e=.normal)∧Zg E.noPan rs ρ L' fun r=>R r L')
  (hpan:∀ρ1 L1 x L',M ρ1 L1→PQ (put ρ1 (some d) (.fn (.func k) [] (caps.map ρ1))) x L'→XClo E k (caps.map ρ1) L' x fun L''=>∀ρ:Rho,(∀t,t<lo→ρ t=put ρ1 (some d) (.fn (.func k) [] (caps.map ρ1)) t)→Zg E.noPan rs ρ L'' fun r=>R r L'')
  (hidle:z2k E.P k caps.length):XT E f args L R:=by
 refine ⟨⟨fn,hf,hnm,by rw [hb];rfl⟩,fun w φ X vs wf sim hG hl hvs=>?_⟩
 refine calls_of_wp_defers hf hb ?_
 let C0:Ctx:=⟨w,φ,L,X⟩
 have hrel:Rel (E.defr (fun _ _=>False) 0 (fun _=>undef) []) C0 fn.ntmps (entry args) L { tmps:=vs.toArray++Array.replicate (fn.ntmps - vs.toArray.size) undef,defers:=[] } w:=by
  refine ⟨by simp;omega,φ,wf,sim,Ext.refl _,fun n=>?_,rfl,fun t ht=>absurd ht (Nat.not_lt_zero t)⟩
  show VR _ (args.getD n .und) _
  by_cases hn:n<args.length
  ·have h1:=hvs n _ (getD_get (d:=.und) hn)
   have h2:(vs.toArray++Array.replicate (fn.ntmps - vs.toArray.size) undef).getD n undef=vs.getD n undef:=by
    rw [Array.getD_eq_getD_getElem?,Array.getElem?_append_left (by simpa [←hl] using hn),List.getD_eq_getElem?_getD]
    simp
   rw [h2];exact h1
  ·have h1:args.getD n .und=.und:=by rw [List.getD_eq_getElem?_getD,List.getElem?_eq_none (by omega)];rfl
   have h2:(vs.toArray++Array.replicate (fn.ntmps - vs.toArray.size) undef).getD n undef=undef:=by
    rw [Array.getD_eq_getD_getElem?,Array.getElem?_append_right (by simp;omega),Array.getElem?_replicate]
    split<;>rfl
   rw [h1,h2];exact .und
 let P1:Ending→World→Prop:=fun e w'=>∃r L' φ' v,R r L'∧e=.returned v∧Wf E.g0 ⟨w',φ',L',X⟩∧Sim ⟨w',φ',L',X⟩∧Ext ⟨w,φ,L,X⟩ ⟨w',φ',L',X⟩∧VR ⟨w',φ',L',X⟩ r v
 -- the results,at the end
 have hfin:∀(tmps:Array Value) (ρ:Rho) (L':List Blk) (φ':Nat→Loc) (w':World),Wf E.g0 ⟨w',φ',L',X⟩→Sim ⟨w',φ',L',X⟩→Ext C0 ⟨w',φ',L',X⟩→(∀n,VR ⟨w',φ',L',X⟩ (ρ n) (tmps.getD n undef))→
   (Zg E.noPan rs ρ L' fun r=>R r L')→Leaves E.P fn tmps P1 [] .returning w':=by
  intro tmps ρ L' φ' w' wf' sim' ext' hρ' hres
  obtain ⟨v,r,h1,h2,h3⟩:=YU (E:=E.noPan) (C:=⟨w',φ',L',X⟩) sim' (z0t (C0:=C0) wf hG ext') hρ' hrs hres
  exact ⟨v,h1,r,L',φ',v,h3,rfl,wf',sim',ext',h2⟩
 refine wp_seq ((wpIn_wide (n:=0)).1 ?_)
 refine yI (E:=E.defr (fun _ _=>False) 0 (fun _=>undef) []) (F:=Fence.wide) (.inl rfl) (C0:=C0) wf hG (yX c1) c1 (Nat.le_refl _) x1 h1c (.inl rfl) (.inr hs1) (entry args) L _ _ _ w (fun _ _ _ _ _ _ h=>h.elim) hrun1 hrel ?_
 rintro e ρ1 L1 a1 w1 hM ⟨hN1,φ1,wf1,sim1,ext1,hρ1,hd1,_⟩
 cases e with
 | exit=>exact hM.elim
 | goto=>exact hM.elim
 | ret=>exact hM.elim
 | normal=>
 have hM:M ρ1 L1:=hM
 have hd1:a1.defers=[]:=hd1
 show Code.wp E.P (.seq c2 c3) _ a1 w1
 refine wp_seq (hdef _ a1 w1 hd1 hN1 ?_)
 let capv:List Value:=caps.map fun t=>a1.tmps.getD t undef
 let ρ2:Rho:=put ρ1 (some d) (.fn (.func k) [] (caps.map ρ1))
 let C1:Ctx:=⟨w1,φ1,L1,X⟩
 let a2:Act:={ tmps:=a1.tmps.setIfInBounds d (.func (.func k) #[] capv.toArray),defers:=[{ target:=.fn (.func k) capv.toArray,args:=#[] }] }
 have hcap:∀(i:Nat) (y:IV),(caps.map ρ1)[i]?=some y→VR C1 y (capv.getD i undef):=fun i y hi=>by
  rw [List.getElem?_map,oms] at hi
  obtain ⟨t,ht,rfl⟩:=hi
  have:capv.getD i undef=a1.tmps.getD t undef:=by simp [capv,List.getD,ht]
  rw [this];exact hρ1 t
 have hρ2:∀n,VR C1 (ρ2 n) (a2.tmps.getD n undef):=fun n=>by
  show VR _ (if n=d then _ else ρ1 n) ((a1.tmps.setIfInBounds d _).getD n undef)
  rw [yf (by rw [hN1];exact hd)]
  by_cases h:n=d
  ·rw [if_pos h,if_pos h]
   exact .fn (.func k) [] (caps.map ρ1) [] capv rfl (by simp [capv]) (fun i x hi=>by simp at hi) hcap
  ·rw [if_neg h,if_neg h];exact hρ1 n
 let kept:Nat→Value:=fun t=>a2.tmps.getD t undef
 let B:List Deferred:=[{ target:=.fn (.func k) capv.toArray,args:=#[] }]
 have hlc:capv.length=caps.length:=by simp [capv]
 show Code.wp E.P c3 _ a2 w1
 have hG1:E.G w1:=z0t (C0:=C0) wf hG ext1
 refine (wpIn_wide (n:=0)).1 (yI (E:=E.defr (PQ ρ2) lo kept B) (F:=Fence.wide) (.inl rfl) (C0:=C1) wf1 hG1 (yX c3) c3 (Nat.le_refl _) x3 h3c (.inl rfl) (.inr hsf) ρ2 L1 _ (bodyPostD E.P fn P1) a2 w1 ?_ (hrun3 ρ1 L1 hM kept B)
  ⟨by simp [a2,hN1],φ1,wf1,sim1,Ext.refl _,hρ2,rfl,fun t _=>rfl⟩ ?_)
 ·skip
  intro x v L' φ' a w' hx hN wf' sim' ext' hv hdf hkp hρ
  obtain ⟨ρ,hρ⟩:=hρ
  have hdf:a.defers=B:=hdf
  show Leaves E.P fn a.tmps P1 a.defers (.panicking [{ v,recovered:=false }]) w'
  rw [hdf]
  refine leaves_cons (f:=k) (args:=capv.toArray) (by intro h;cases h) ?_ ?_
  ·obtain ⟨fk,h1,h2,h3⟩:=hbk
   simp only [invoke]
   unfold callFunc
   rw [Sem.run_bind,run_program]
   have h2' : (fk.name == "runtime.NumGoroutine") = false := by simpa using h2
   simp only [Result.andThen_ok,h1,h2',Bool.false_eq_true,if_false,h3]
   simp
  refine (hpan ρ1 L1 x L' hM hx w' φ' X capv v wf' sim' (z0t (C0:=C1) wf1 hG1 ext') (by simp [capv]) (fun i y hi=>(hcap i y hi).mono ext') hv).mono ?_
  rintro e u' w'' ⟨⟨rv,rfl⟩,rfl,L'',φ'',hR,wf'',sim'',ext''⟩
  show Leaves E.P fn a.tmps P1 [] .returning w''
  refine hfin a.tmps (fun t=>if t<lo then ρ2 t else ρ t) L'' φ'' w'' wf'' sim'' ((ext1.trans ext').trans ext'') (fun n=>?_) (hR _ fun t ht=>if_pos ht)
  by_cases hn:n<lo
  ·show VR _ (if n<lo then ρ2 n else ρ n) _
   rw [if_pos hn,hkp n hn]
   exact ((hρ2 n).mono ext').mono ext''
  ·show VR _ (if n<lo then ρ2 n else ρ n) _
   rw [if_neg hn]
   exact (hρ n).mono ext''
 ·rintro e ρ L' a w' ⟨he,hres⟩ ⟨hN,φ',wf',sim',ext',hρ',hdf,_⟩
  have hdf:a.defers=B:=hdf
  have key:Leaves E.P fn a.tmps P1 a.defers .returning w':=by
   rw [hdf]
   refine leaves_cons (f:=k) (args:=capv.toArray) (by intro h;cases h) ?_ ?_
   ·obtain ⟨fk,h1,h2,h3⟩:=hbk
    simp only [invoke]
    unfold callFunc
    rw [Sem.run_bind,run_program]
    have h2' : (fk.name == "runtime.NumGoroutine") = false := by simpa using h2
    simp only [Result.andThen_ok,h1,h2',Bool.false_eq_true,if_false,h3]
    simp
   refine (hidle capv w' hlc).mono ?_
   rintro e u' w'' ⟨⟨rv,rfl⟩,rfl,rfl⟩
   exact hfin a.tmps ρ L' φ' _ wf' sim' (ext1.trans ext') hρ' hres
  rcases he with rfl | rfl
  ·exact key
  ·exact key
end
end Go.X
end
