/- Parts of the proof: XDraw, XResv, XAny. -/
import Derived.Test.YtnmhhmbeljlndaaGreatDoorXP4
import Derived.Orders
set_option linter.unusedVariables false
set_option linter.unusedSimpArgs false
set_option linter.unusedSectionVars false
section
namespace Go.X
open Go
section
variable {E:Env} {ρ ρ':Rho} {L:List Blk} {KV:IV->List Blk->Prop}
def zX (E:Env) (o:zk) (ρ:Rho) (L:List Blk) (KV:IV->List Blk->Prop):Prop:=
 match o.guard with
 | none=>xop E o.op (Opd.ev ρ) L KV
 | some (t,want)=>match ρ t with
  | .bool b=>(b=want->xop E o.op (Opd.ev ρ) L KV)/\(b≠want->KV .und L)
  | .und=>KV .und L
  | _=>False
theorem vG {o:zk} {r:List zk} {K:Rho->List Blk->Prop}:xops E (o::r) ρ L K=zX E o ρ L fun v L'=>xops E r (put ρ o.dst v) L' K:=by
 simp only [xops,zX]
 cases o.guard with
 | none=>rfl
 | some p=>simp only;cases ρ p.1<;>rfl
theorem z2t {o:zk} (h:∀n∈o.rds,ρ n=ρ' n):zX E o ρ L KV=zX E o ρ' L KV:=by
 obtain ⟨d,op,g⟩:=o
 have h1:xop E op (Opd.ev ρ) L KV=xop E op (Opd.ev ρ') L KV:=z8n fun n hn=>h n (by simp [zk.rds,hn])
 cases g with
 | none=>simp only [zX,h1]
 | some p=>
  obtain ⟨t,w⟩:=p
  simp only [zX,h1,h t (by simp [zk.rds])]
theorem zc5 {o:zk} (hk:o.op.kd=0) (h:zX E o ρ L KV):∃r,KV r L/\∀(L':List Blk) (K':IV->List Blk->Prop),K' r L'->zX E o ρ L' K':=by
 obtain ⟨d,op,g⟩:=o
 cases g with
 | none=>exact z5H hk h
 | some p=>
  obtain ⟨t,w⟩:=p
  simp only [zX] at h ⊢
  split at h
  ·rename_i b hb
   by_cases hw:b=w
   ·obtain ⟨r,h1,h2⟩:=z5H hk (h.1 hw)
    exact ⟨r,h1,fun L' K' hk'=>⟨fun _=>h2 L' K' hk',fun hn=>absurd hw hn⟩⟩
   ·exact ⟨.und,h.2 hw,fun L' K' hk'=>⟨fun hn=>absurd hn hw,fun _=>hk'⟩⟩
  ·exact ⟨.und,h,fun _ _ hk'=>hk'⟩
  ·exact h.elim
theorem zcy {o:zk} (hk:o.op.kd=1) (h:zX E o ρ L KV):∃r,KV r L/\(∀K':IV->List Blk->Prop,K' r L->zX E o ρ L K')/\∀(b:Blk) (K':IV->List Blk->Prop),K' r (L++[b])->zX E o ρ (L++[b]) K':=by
 obtain ⟨d,op,g⟩:=o
 cases g with
 | none=>exact z8x hk h
 | some p=>
  obtain ⟨t,w⟩:=p
  simp only [zX] at h ⊢
  split at h
  ·rename_i b hb
   by_cases hw:b=w
   ·obtain ⟨r,h1,h2,h3⟩:=z8x hk (h.1 hw)
    exact ⟨r,h1,fun K' hk'=>⟨fun _=>h2 K' hk',fun hn=>absurd hw hn⟩,fun b K' hk'=>⟨fun _=>h3 b K' hk',fun hn=>absurd hw hn⟩⟩
   ·exact ⟨.und,h.2 hw,fun K' hk'=>⟨fun hn=>absurd hn hw,fun _=>hk'⟩,fun _ K' hk'=>⟨fun hn=>absurd hn hw,fun _=>hk'⟩⟩
  ·exact ⟨.und,h,fun _ hk'=>hk',fun _ _ hk'=>hk'⟩
  ·exact h.elim
theorem zdg {o:zk} (hk:o.op.kd=2) (h:zX E o ρ L KV):∃r L',(L'=L\/∃b,L'=L++[b])/\KV r L'/\∀K':IV->List Blk->Prop,K' r L'->zX E o ρ L K':=by
 obtain ⟨d,op,g⟩:=o
 cases g with
 | none=>obtain ⟨r,b,h1,h2⟩:=z88 hk h;exact ⟨r,_,.inr ⟨b,rfl⟩,h1,h2⟩
 | some p=>
  obtain ⟨t,w⟩:=p
  simp only [zX] at h ⊢
  split at h
  ·rename_i b hb
   by_cases hw:b=w
   ·obtain ⟨r,b,h1,h2⟩:=z88 hk (h.1 hw)
    exact ⟨r,_,.inr ⟨b,rfl⟩,h1,fun K' hk'=>⟨fun _=>h2 K' hk',fun hn=>absurd hw hn⟩⟩
   ·exact ⟨.und,L,.inl rfl,h.2 hw,fun K' hk'=>⟨fun hn=>absurd hn hw,fun _=>hk'⟩⟩
  ·exact ⟨.und,L,.inl rfl,h,fun _ hk'=>hk'⟩
  ·exact h.elim
theorem zbl {o:zk} (hk:o.op.kd<4) (h:zX E o ρ L KV):∃r L',KV r L'/\∀K':IV->List Blk->Prop,K' r L'->zX E o ρ L K':=by
 obtain ⟨d,op,g⟩:=o
 cases g with
 | none=>exact z8g hk h
 | some p=>
  obtain ⟨t,w⟩:=p
  simp only [zX] at h ⊢
  split at h
  ·rename_i b hb
   by_cases hw:b=w
   ·obtain ⟨r,L',h1,h2⟩:=z8g hk (h.1 hw)
    exact ⟨r,L',h1,fun K' hk'=>⟨fun _=>h2 K' hk',fun hn=>absurd hw hn⟩⟩
   ·exact ⟨.und,L,h.2 hw,fun K' hk'=>⟨fun hn=>absurd hn hw,fun _=>hk'⟩⟩
  ·exact ⟨.und,L,h,fun _ hk'=>hk'⟩
  ·exact h.elim
theorem WR {o:zk} {K':IV->List Blk->Prop} (hk:∀v L',KV v L'->K' v L') (h:zX E o ρ L KV):zX E o ρ L K':=by
 obtain ⟨d,op,g⟩:=o
 cases g with
 | none=>exact yz hk h
 | some p=>
  obtain ⟨t,w⟩:=p
  simp only [zX] at h ⊢
  split at h
  ·exact ⟨fun hw=>yz hk (h.1 hw),fun hw=>hk _ _ (h.2 hw)⟩
  ·exact hk _ _ h
  ·exact h.elim
theorem WW {d:Option Nat} {v:IV} {l:List Nat} (h:ninO d l=true):∀n∈l,put ρ d v n=ρ n:=by
 intro n hn
 cases d with
 | none=>rfl
 | some d=>
  simp only [put]
  rw [if_neg]
  intro hnd;subst hnd
  simp only [ninO,Bool.not_eq_true',List.contains_eq_mem] at h
  simp [hn] at h
theorem put_comm {d d':Option Nat} {v u:IV} (h:neO d d'=true):put (put ρ d v) d' u=put (put ρ d' u) d v:=by
 cases d with
 | none=>rfl
 | some d=>cases d' with
  | none=>rfl
  | some d'=>
   simp only [neO,Bool.not_eq_true',beq_eq_false_iff_ne,ne_eq] at h
   funext n
   simp only [put]
   by_cases h1:n=d'
   ·subst h1;simp [Ne.symm h]
   ·simp [h1]
def sOp (E:Env) (xs:List zk) (i:Nat) (KK:Rho->List Blk->Prop) (ρ:Rho) (L:List Blk):Prop:=
 match xs[i]? with
 | none=>KK ρ L
 | some o=>zX E o ρ L fun v L'=>KK (put ρ o.dst v) L'
def xAny (E:Env) (ops:Array Oper) (xs:List zk) (K:Rho->List Blk->Prop):Nat->Array Bool->Rho->List Blk->Prop
 | 0,listed,ρ,L=>Region.ready .any ops listed=[]/\K ρ L
 | n+1,listed,ρ,L=>(Region.ready .any ops listed=[]->K ρ L)/\∀i∈Region.ready .any ops listed,sOp E xs i (xAny E ops xs K n (listed.setIfInBounds i true)) ρ L
structure z6L (ops:Array Oper) (i:Nat) (W:Nat->Prop):Prop where
 self:W i
 edge:∀j,W j->j≠i->∃o e,ops[j]?=some o/\e∈o.after/\Region.binds .any e=true/\W e.on
theorem yQ (ops:Array Oper) (i:Nat):z6L ops i (fun j=>j∈WI ops i):=by
 unfold WI
 have key:∀(l:List Nat) (acc:List Nat),z6L ops i (fun j=>j∈acc)->z6L ops i (fun j=>j∈l.foldl (fun acc j=>if ((ops[j]?).map fun o=>o.after.any fun e=>Region.binds .any e&&acc.contains e.on).getD false then j::acc else acc) acc):=by
  intro l
  induction l with
  | nil=>intro acc h;exact h
  | cons x l ih=>
   intro acc h
   rw [List.foldl_cons]
   refine ih _ ?_
   split
   ·rename_i hx
    refine ⟨List.mem_cons_of_mem _ h.self,fun j hj hne=>?_⟩
    rcases List.mem_cons.1 hj with rfl | hj
    ·cases ho:ops[j]? with
     | none=>rw [ho] at hx;cases hx
     | some o=>
      rw [ho] at hx
      simp only [Option.map_some,Option.getD_some] at hx
      rw [Array.any_eq_true] at hx
      obtain ⟨k,hk,hx⟩:=hx
      simp only [Bool.and_eq_true,List.contains_eq_mem,decide_eq_true_eq] at hx
      exact ⟨o,o.after[k],rfl,Array.getElem_mem hk,hx.1,List.mem_cons_of_mem _ hx.2⟩
    ·obtain ⟨o,e,h1,h2,h3,h4⟩:=h.edge j hj hne
     exact ⟨o,e,h1,h2,h3,List.mem_cons_of_mem _ h4⟩
   ·exact h
 exact key _ _ ⟨by simp,fun j hj hne=>by simp at hj;exact absurd hj hne⟩
theorem vM (o:XO):(∃sz z n ps,o=.bslice sz z n ps)\/o.kd2=o.kd:=by
 cases o<;>first | exact .inr rfl | exact .inl ⟨_,_,_,_,rfl⟩
theorem zbi {o:zk} (hk:o.op.kd2=0) (h:zX E o ρ L KV):∃r,KV r L/\∀(L':List Blk) (K':IV->List Blk->Prop),K' r L'->zX E o ρ L' K':=by
 rcases vM o.op with ⟨sz,z,n,ps,he⟩ | he
 ·rw [he] at hk;simp [XO.kd2] at hk
 ·exact zc5 (he▸hk) h
theorem zbo {o:zk} (hk:o.op.kd2=1) (h:zX E o ρ L KV):∃r,KV r L/\(∀K':IV->List Blk->Prop,K' r L->zX E o ρ L K')/\∀(b:Blk) (K':IV->List Blk->Prop),K' r (L++[b])->zX E o ρ (L++[b]) K':=by
 rcases vM o.op with ⟨sz,z,n,ps,he⟩ | he
 ·rw [he] at hk;simp [XO.kd2] at hk
 ·exact zcy (he▸hk) h
theorem z8N {E:Env} {L:List Blk} {KV:IV->List Blk->Prop} {sz n:Nat} {z:List IV} {ps:List (Nat × Opd)} {e:Opd->IV} (h:xop E (.bslice sz z n ps) e L KV):∃r b,KV r (L++[b])/\∀K':IV->List Blk->Prop,K' r (L++[b])->xop E (.bslice sz z n ps) e L K':=by
 simp only [xop] at h ⊢
 obtain ⟨h1,h⟩:=h
 split at h
 ·rename_i rows hr
  exact ⟨_,_,h,fun K' hk=>⟨h1,by first | exact hk | (rw [hr];exact hk)⟩⟩
 ·exact h.elim
theorem zba {o:zk} {sz n:Nat} {z:List IV} {ps:List (Nat × Opd)} (he:o.op=.bslice sz z n ps) (h:zX E o ρ L KV):∃r L',(L'=L\/∃b,L'=L++[b])/\KV r L'/\∀K':IV->List Blk->Prop,K' r L'->zX E o ρ L K':=by
 obtain ⟨d,op,g⟩:=o
 simp only at he
 subst he
 cases g with
 | none=>obtain ⟨r,b,h1,h2⟩:=z8N (E:=E) h;exact ⟨r,_,.inr ⟨b,rfl⟩,h1,h2⟩
 | some p=>
  obtain ⟨t,w⟩:=p
  simp only [zX] at h ⊢
  split at h
  ·rename_i b hb
   by_cases hw:b=w
   ·obtain ⟨r,b,h1,h2⟩:=z8N (E:=E) (h.1 hw)
    exact ⟨r,_,.inr ⟨b,rfl⟩,h1,fun K' hk'=>⟨fun _=>h2 K' hk',fun hn=>absurd hw hn⟩⟩
   ·exact ⟨.und,L,.inl rfl,h.2 hw,fun K' hk'=>⟨fun hn=>absurd hn hw,fun _=>hk'⟩⟩
  ·exact ⟨.und,L,.inl rfl,h,fun _ hk'=>hk'⟩
  ·exact h.elim
theorem ze2 {o:zk} (hk:o.op.kd2=2) (h:zX E o ρ L KV):∃r L',(L'=L\/∃b,L'=L++[b])/\KV r L'/\∀K':IV->List Blk->Prop,K' r L'->zX E o ρ L K':=by
 rcases vM o.op with ⟨sz,z,n,ps,he⟩ | he
 ·exact zba he h
 ·exact zdg (he▸hk) h
theorem zbO {o:zk} (hk:o.op.kd2<4) (h:zX E o ρ L KV):∃r L',KV r L'/\∀K':IV->List Blk->Prop,K' r L'->zX E o ρ L K':=by
 rcases vM o.op with ⟨sz,z,n,ps,he⟩ | he
 ·obtain ⟨r,L',_,h1,h2⟩:=zba he h
  exact ⟨r,L',h1,h2⟩
 ·exact zbl (he▸hk) h
theorem zaW {oi oj:zk} {v:IV} {Li:List Blk} {KK:Rho->List Blk->Prop} (hap:xap2 oi oj=true) (hy:∀KV:IV->List Blk->Prop,KV v Li->zX E oi ρ L KV)
  (h:zX E oj (put ρ oi.dst v) Li fun u L'=>KK (put (put ρ oi.dst v) oj.dst u) L') :
  zX E oj ρ L fun u L'=>∃Li',(∀KV:IV->List Blk->Prop,KV v Li'->zX E oi (put ρ oj.dst u) L' KV)/\KK (put (put ρ oj.dst u) oi.dst v) Li':=by
 simp only [xap2,Bool.and_eq_true] at hap
 obtain ⟨⟨⟨d1,d2⟩,d3⟩,hk⟩:=hap
 simp only [kdOk,Bool.and_eq_true,Bool.or_eq_true,decide_eq_true_eq,beq_iff_eq] at hk
 rw [z2t (ρ':=ρ) (fun n hn=>WW d1 n hn)] at h
 have e2:∀u L' KV,zX E oi (put ρ oj.dst u) L' KV=zX E oi ρ L' KV:=fun u L' KV=>z2t fun n hn=>WW d2 n hn
 simp only [put_comm d3] at h
 simp only [e2]
 have hy0:=hy (fun r L'=>r=v/\L'=Li) ⟨rfl,rfl⟩
 by_cases hi0:oi.op.kd2=0
 ·obtain ⟨r,⟨rfl,rfl⟩,h2⟩:=zbi hi0 hy0
  exact WR (fun u L' h3=>⟨L',fun KV hk=>h2 L' KV hk,h3⟩) h
 obtain ⟨⟨hi4,hj4⟩,hk⟩:=hk.resolve_left hi0
 by_cases hj0:oj.op.kd2=0
 ·obtain ⟨u,h1,h2⟩:=zbi hj0 h
  exact h2 L _ ⟨Li,hy,h1⟩
 obtain ⟨hi1,hj3⟩:oi.op.kd2=1/\oj.op.kd2<3:=by omega
 obtain ⟨r,⟨rfl,rfl⟩,h2,h2'⟩:=zbo hi1 hy0
 have hj12:oj.op.kd2=1\/oj.op.kd2=2:=by omega
 rcases hj12 with hj | hj
 ·obtain ⟨u,h3,h4,_⟩:=zbo hj h
  exact h4 _ ⟨_,h2,h3⟩
 ·obtain ⟨u,L',hL',h3,h4⟩:=ze2 hj h
  rcases hL' with rfl | ⟨b,rfl⟩
  ·exact h4 _ ⟨_,h2,h3⟩
  ·exact h4 _ ⟨_,h2' b,h3⟩
theorem z4m {ops:Array Oper} {xs:List zk} {K:Rho->List Blk->Prop} {i:Nat} {oi:zk} {v:IV} (hlen:xs.length=ops.size) (hi:xs[i]?=some oi) {W:Nat->Prop} (hW:z6L ops i W) :
  ∀(fuel:Nat) (listed:Array Bool) (ρ:Rho) (L Li:List Blk),(∀j,W j->listed.getD j true=false)->
   (∀j oj,xs[j]?=some oj->j≠i->listed.getD j true=false->¬W j->xap2 oi oj=true)->
   i∈Region.ready .any ops listed->(∀KV:IV->List Blk->Prop,KV v Li->zX E oi ρ L KV)->
   xAny E ops xs K fuel (listed.setIfInBounds i true) (put ρ oi.dst v) Li->xAny E ops xs K (fuel+1) listed ρ L:=by
 intro fuel
 induction fuel with
 | zero=>
  intro listed ρ L Li _ _ hr hy H
  refine ⟨fun h=>(by rw [h] at hr;cases hr),fun j hj=>?_⟩
  by_cases hji:j=i
  ·subst hji;simp only [sOp,hi];exact hy _ H
  ·have:=ready_mono hj hji
   rw [H.1] at this
   cases this
 | succ fuel ih=>
  intro listed ρ L Li hWl hfree hr hy H
  refine ⟨fun h=>(by rw [h] at hr;cases hr),fun j hj=>?_⟩
  by_cases hji:j=i
  ·subst hji;simp only [sOp,hi];exact hy _ H
  ·have h1:=H.2 j (ready_mono hj hji)
   obtain ⟨hjun,oj0,hoj0,hall⟩:=mem_ready.1 hj
   have hjW:¬W j:=fun hw=>by
    obtain ⟨o,e,h2,h3,h4,h5⟩:=hW.edge j hw hji
    rw [hoj0] at h2
    obtain rfl:=Option.some.inj h2
    have h6:=hall e h3 h4
    have h7:=hWl _ h5
    rw [Array.getD_eq_getD_getElem?] at h6 h7
    cases hx:listed[e.on]? with
    | none=>rw [hx] at h7;cases h7
    | some b=>rw [hx] at h6 h7;simp at h6 h7;rw [h6] at h7;cases h7
   have hjlt:j<xs.length:=by rw [hlen];exact (Array.getElem?_eq_some_iff.1 hoj0).1
   obtain ⟨oj,hoj⟩:∃oj,xs[j]?=some oj:=⟨_,List.getElem?_eq_getElem hjlt⟩
   simp only [sOp,hoj] at h1 ⊢
   have hap:=hfree j oj hoj hji hjun hjW
   have h2:=zaW hap hy h1
   refine WR (fun u L' ⟨Li',h3,h4⟩=>?_) h2
   refine ih (listed.setIfInBounds j true) _ _ Li' (fun k hk=>?_) (fun k ok hk hki hun hnW=>?_) (ready_mono hr (Ne.symm hji)) h3 ?_
   ·have hjk:j≠k:=fun h=>hjW (h▸hk)
    rw [Go.getD_set_ne true hjk];exact hWl k hk
   ·refine hfree k ok hk hki ?_ hnW
    by_cases hjk:j=k
    ·subst hjk;exact hjun
    ·rw [Go.getD_set_ne true hjk] at hun;exact hun
   ·rw [Array.setIfInBounds_comm _ _ hji]
    exact h4
theorem z7m {ops:Array Oper} {xs:List zk} {K:Rho->List Blk->Prop} {k:Nat} {o:zk} (h0:xs[k]?=some o) {W:Nat->Prop} (hW:z6L ops k W):∀(fuel:Nat) (ms:List Nat) (listed:Array Bool) (ρ:Rho) (L:List Blk),
  ms.length<=fuel->(∀j,W j->listed.getD j true=false)->(∀j oj,ops[j]?=some oj->j≠k->listed.getD j true=false->¬W j->j∈ms/\∃p,xs[j]?=some p/\xmv o p=true)->k∈Region.ready .any ops listed->
  zX E o ρ L (fun v L'=>xAny E ops xs K fuel (listed.setIfInBounds k true) (put ρ o.dst v) L')->xAny E ops xs K (fuel+1) listed ρ L:=by
 intro fuel
 induction fuel with
 | zero=>
  intro ms listed ρ L hms hWl hfree hr h
  refine ⟨fun h=>(by rw [h] at hr;cases hr),fun j hj=>?_⟩
  by_cases hjk:j=k
  ·subst hjk;simp only [sOp,h0];exact h
  ·exfalso
   obtain ⟨hjun,oj0,hoj0,hall⟩:=mem_ready.1 hj
   have hjW:¬W j:=fun hw=>by
    obtain ⟨o',e,h2,h3,h4,h5⟩:=hW.edge j hw hjk
    rw [hoj0] at h2
    obtain rfl:=Option.some.inj h2
    have h6:=hall e h3 h4
    have h7:=hWl _ h5
    rw [Array.getD_eq_getD_getElem?] at h6 h7
    cases hx:listed[e.on]? with
    | none=>rw [hx] at h7;cases h7
    | some b=>rw [hx] at h6 h7;simp at h6 h7;rw [h6] at h7;cases h7
   obtain ⟨h1,_⟩:=hfree j oj0 hoj0 hjk hjun hjW
   cases ms with
   | nil=>cases h1
   | cons=>simp at hms
 | succ fuel ih=>
  intro ms listed ρ L hms hWl hfree hr h
  refine ⟨fun h=>(by rw [h] at hr;cases hr),fun j hj=>?_⟩
  by_cases hjk:j=k
  ·subst hjk;simp only [sOp,h0];exact h
  ·obtain ⟨hjun,oj0,hoj0,hall⟩:=mem_ready.1 hj
   have hjW:¬W j:=fun hw=>by
    obtain ⟨o',e,h2,h3,h4,h5⟩:=hW.edge j hw hjk
    rw [hoj0] at h2
    obtain rfl:=Option.some.inj h2
    have h6:=hall e h3 h4
    have h7:=hWl _ h5
    rw [Array.getD_eq_getD_getElem?] at h6 h7
    cases hx:listed[e.on]? with
    | none=>rw [hx] at h7;cases h7
    | some b=>rw [hx] at h6 h7;simp at h6 h7;rw [h6] at h7;cases h7
   obtain ⟨hjm,p,hp,hmv⟩:=hfree j oj0 hoj0 hjk hjun hjW
   have hmv0:=hmv
   simp only [xmv,Bool.and_eq_true] at hmv
   obtain ⟨⟨⟨d1,d2⟩,d3⟩,hm⟩:=hmv
   obtain ⟨x,hx,hg⟩:∃x,p.op=.mov x/\p.guard=none:=by
    obtain ⟨d,op,g⟩:=p
    cases op<;>first | (simp at hm;done) | skip
    cases g with
    | none=>exact ⟨_,rfl,rfl⟩
    | some q=>simp at hm
   have hpe:∀(ρ:Rho) (L:List Blk) (KV:IV->List Blk->Prop),zX E p ρ L KV=KV (Opd.ev ρ x) L:=fun ρ L KV=>by simp only [zX,hg,hx,xop]
   simp only [sOp,hp,hpe]
   have hev:∀v,Opd.ev (put ρ o.dst v) x=Opd.ev ρ x:=fun v=>by
    cases x with
    | t n=>exact WW d1 n (by simp [zk.rds,hx,XO.us,Opd.us])
    | _=>rfl
   refine ih (ms.erase j) _ _ _ (by rw [List.length_erase_of_mem hjm];omega) (fun i hi=>?_) (fun i oi hoi hik hun hnW=>?_) (ready_mono hr (Ne.symm hjk)) ?_
   ·have hji:j≠i:=fun h=>hjW (h▸hi)
    rw [Go.getD_set_ne true hji];exact hWl i hi
   ·have hji:j≠i:=by
     rintro rfl
     have hlt:j<listed.size:=by
      rw [Array.getD_eq_getD_getElem?] at hjun
      cases hx2:listed[j]? with
      | none=>rw [hx2] at hjun;cases hjun
      | some b=>exact (Array.getElem?_eq_some_iff.1 hx2).1
     rw [Array.getD_eq_getD_getElem?,Array.getElem?_setIfInBounds_self_of_lt hlt] at hun
     cases hun
    rw [Go.getD_set_ne true hji] at hun
    obtain ⟨h1,h2⟩:=hfree i oi hoi hik hun hnW
    exact ⟨(List.mem_erase_of_ne (Ne.symm hji)).2 h1,h2⟩
   ·rw [<-z2t (ρ:=ρ) (fun n hn=>(WW d2 n hn).symm)]
    refine WR (fun v L' h3=>?_) h
    have h4:=h3.2 j (ready_mono hj hjk)
    simp only [sOp,hp,hpe,hev] at h4
    rw [Array.setIfInBounds_comm _ _ hjk,<-put_comm d3]
    exact h4
theorem JB {ops:Array Oper} {xs:List zk} {K:Rho->List Blk->Prop} (hlen:xs.length=ops.size):∀(l:List zk) (k:Nat) (listed:Array Bool) (ρ:Rho) (L:List Blk),(∀j,l[j]?=xs[k+j]?)->(∀j,j<k->listed.getD j true=true)->
  z0e ops xs l.length k listed=true->xops E l ρ L K->xAny E ops xs K l.length listed ρ L
 | [],_,_,_,_,_,_,hB,h=>⟨by simpa [z0e] using hB,h⟩
 | o::l,k,listed,ρ,L,hl,hk0,hB,h=>by
  have h0:xs[k]?=some o:=by simpa using (hl 0).symm
  simp only [llc,z0e,Bool.and_eq_true] at hB
  obtain ⟨hr,hf,hB'⟩:=hB
  rw [vG] at h
  simp only [z9E,Bool.and_eq_true,List.all_eq_true] at hf
  obtain ⟨hf1,hf2⟩:=hf
  have hl':∀j,l[j]?=xs[k+1+j]?:=fun j=>by have:=hl (j+1);simpa [Nat.add_assoc,Nat.add_comm 1 j] using this
  have hr':k∈Region.ready .any ops listed:=by simpa using hr
  have hk1:∀j,j<k+1->(listed.setIfInBounds k true).getD j true=true:=fun j hj=>by
   by_cases hjk:k=j
   ·subst hjk
    rw [Array.getD_eq_getD_getElem?]
    by_cases hlt:k<listed.size
    ·rw [Array.getElem?_setIfInBounds_self_of_lt hlt];rfl
    ·rw [Array.getElem?_eq_none (by simp;omega)];rfl
   ·rw [Go.getD_set_ne true hjk];exact hk0 j (by omega)
  by_cases hk4:o.op.kd2<4
  ·obtain ⟨v,Li,h1,h2⟩:=zbO hk4 h
   refine z4m hlen h0 (yQ ops k) l.length listed ρ L Li (fun j hj=>by simpa using hf1 j hj) (fun j oj hj hjk hun hnW=>?_) hr' h2
    (JB hlen l (k+1) _ _ _ hl' hk1 hB' h1)
   have h3:=hf2 j (by rw [List.mem_range,<-hlen];exact zf hj)
   simp only [Bool.or_eq_true,beq_iff_eq,List.contains_eq_mem,decide_eq_true_eq,h0,hj] at h3
   rcases h3 with ((h3 | h3) | h3) | h3
   ·exact absurd h3 hjk
   ·rw [hun] at h3;cases h3
   ·exact absurd h3 hnW
   ·rcases h3 with h3 | h3
    ·exact h3
    ·simp only [xmv,Bool.and_eq_true] at h3
     obtain ⟨h3,h4⟩:=h3
     simp only [xap2,Bool.and_eq_true]
     refine ⟨h3,?_⟩
     have h5:oj.op.kd2=0:=by
      obtain ⟨d,op,g⟩:=oj
      cases op<;>first | (simp at h4;done) | rfl
     simp only [kdOk,h5]
     simp [hk4]
  ·refine z7m h0 (yQ ops k) l.length (List.range' (k+1) l.length) listed ρ L (by simp) (fun j hj=>by simpa using hf1 j hj) (fun j oj hj hjk hun hnW=>?_) hr' (WR (fun v L' h1=>JB hlen l (k+1) _ _ _ hl' hk1 hB' h1) h)
   have hjlt:j<xs.length:=by rw [hlen];exact (Array.getElem?_eq_some_iff.1 hj).1
   obtain ⟨p,hp⟩:∃p,xs[j]?=some p:=⟨_,List.getElem?_eq_getElem hjlt⟩
   have h3:=hf2 j (by rw [List.mem_range,<-hlen];exact hjlt)
   simp only [Bool.or_eq_true,beq_iff_eq,List.contains_eq_mem,decide_eq_true_eq,h0,hp] at h3
   have hkj:k<j:=by
    rcases Nat.lt_trichotomy j k with h4 | h4 | h4
    ·have:=hk0 j h4;rw [hun] at this;cases this
    ·exact absurd h4 hjk
    ·exact h4
   refine ⟨?_,p,hp,?_⟩
   ·rw [List.mem_range'_1]
    have h4:=hl (j - k)
    rw [show k+(j - k)=j by omega,hp] at h4
    have h5:=zf h4
    simp only [llc] at h5
    omega
   ·rcases h3 with ((h3 | h3) | h3) | h3
    ·exact absurd h3 hjk
    ·rw [hun] at h3;cases h3
    ·exact absurd h3 hnW
    ·rcases h3 with h3 | h3
     ·simp only [xap2,kdOk,Bool.and_eq_true,Bool.or_eq_true,beq_iff_eq,decide_eq_true_eq] at h3
      omega
     ·exact h3
theorem zgd {o p:zk} (h:xap o p=true):xap2 o p=true:=by
 simp only [xap,xap2,Bool.and_eq_true] at h ⊢
 refine ⟨h.1,?_⟩
 have h2:=h.2
 have e1:∀q:XO,q.kd2=q.kd\/(q.kd=4/\q.kd2=2):=fun q=>by
  cases q<;>first | exact .inl rfl | exact .inr ⟨rfl,rfl⟩
 simp only [kdOk,Bool.or_eq_true,Bool.and_eq_true,beq_iff_eq,decide_eq_true_eq] at h2 ⊢
 rcases e1 o.op with h3 | ⟨h3,h4⟩<;>rcases e1 p.op with h5 | ⟨h5,h6⟩<;>omega
theorem z9u {ops:Array Oper} {xs:List zk}:∀(f k:Nat) (listed:Array Bool),z3m ops xs f k listed=true->z0e ops xs f k listed=true
 | 0,_,_,h=>h
 | f+1,k,listed,h=>by
  simp only [z3m,z0e,Bool.and_eq_true] at h ⊢
  refine ⟨h.1,?_,z9u f _ _ h.2.2⟩
  have h1:=h.2.1
  simp only [zbH,z9E,Bool.and_eq_true,List.all_eq_true] at h1 ⊢
  refine ⟨h1.1,fun j hj=>?_⟩
  have h2:=h1.2 j hj
  rw [Bool.or_eq_true] at h2 ⊢
  rcases h2 with h2 | h2
  ·exact .inl h2
  ·refine .inr ?_
   split at h2
   ·rename_i o p _ _
    rw [zgd h2];rfl
   ·cases h2
theorem z0l {ops:Array Oper} {xs:List zk} (h:z8B ops xs=true):z8O ops xs=true:=z9u _ _ _ h
end
end Go.X
end
section
namespace Go.X
open Go

def J3 (sz bytes:Nat) (s x:IV) (g:Nat) (L:List Blk) (K:IV->List Blk->Prop):Prop:=
 match rowsOf L x with
 | none=>False
 | some rs=>yj sz rs/\
  match s with
  | .nsl | .esl=>(rs=[]->K s L)/\(rs≠[]->L[g]?=some .unborn/\rs.length*bytes<=70368744177664/\K (.sl g 0 rs.length rs.length) (L.set g (.cells sz rs)))
  | .sl t off len cap=>match L[t]? with
   | some (.cells sz' rows)=>sz'=sz/\off+cap<=rows.length/\
    if len+rs.length<=cap then K (.sl t off (len+rs.length) cap) (L.set t (.cells sz (splice rows (off+len) rs)))
    else L[g]?=some .unborn/\(len+rs.length)*bytes<=70368744177664/\
     K (.sl g 0 (len+rs.length) (len+rs.length)) ((L.set t .dead).set g (.cells sz ((rows.drop off).take len++rs)))
   | _=>False
  | _=>False
def YD (ty bytes:Nat) (s x:IV) (g:Nat) (L:List Blk) (K:IV->List Blk->Prop):Prop:=
 match rowsOf L x with
 | none=>False
 | some rs=>yj 1 rs/\
  match s with
  | .nsl=>(rs=[]->K s L)/\(rs≠[]->L[g]?=some .unborn/\rs.length*bytes<=70368744177664/\K (.sl g 0 rs.length rs.length) (L.set g (.tcells ty 1 rs)))
  | .raw (.slice none 0 0)=>(rs=[]->K s L)/\(rs≠[]->L[g]?=some .unborn/\rs.length*bytes<=70368744177664/\K (.sl g 0 rs.length rs.length) (L.set g (.tcells ty 1 rs)))
  | .sl t off len cap=>off=0/\len=cap/\match L[t]? with
   | some (.tcells ty' sz' rows)=>ty'=ty/\sz'=1/\rows.length=len/\(rs=[]->K s L)/\
     (rs≠[]->L[g]?=some .unborn/\(len+rs.length)*bytes<=70368744177664/\K (.sl g 0 (len+rs.length) (len+rs.length)) ((L.set t .dead).set g (.tcells ty 1 (rows++rs))))
   | some (.cells _ _)=>J3 1 bytes s x g L K
   | _=>False
  | _=>False
def xexR (E:Env) (k:XX) (vs:List IV) (g:Nat) (L:List Blk) (K:IV->List Blk->Prop):Prop:=
 match k with
 | .strB ty=>match vs with
  | [.str s]=>s.length<=9223372036854775807/\L[g]?=some .unborn/\K (.sl g 0 s.length s.length) (L.set g (.tcells ty 1 (zi s)))
  | _=>False
 | .appT ty b=>match vs with
  | [s,x]=>YD ty b s x g L K
  | _=>False
 | k=>xex E k vs L.length L K
def xopR (E:Env) (o:XO) (e:Opd->IV) (g:Nat) (L:List Blk) (K:IV->List Blk->Prop):Prop:=
 match o with
 | .alloc zero=>L[g]?=some .unborn/\K (.ptr g 0 0) (L.set g (.cells zero.length [zero]))
 | .box x=>L[g]?=some .unborn/\K (.ptr g 0 0) (L.set g (.cells (cellsOf (e x)).length [cellsOf (e x)]))
 | .bslice sz zero len parts=>L[g]?=some .unborn/\zero.length=sz/\match Zi sz (List.replicate len zero) (parts.map fun p=>(p.1,e p.2)) with
  | some rows=>K (.sl g 0 len len) (L.set g (.cells sz rows))
  | none=>False
 | .mkslice zero bytes len cap=>L[g]?=some .unborn/\match e len,e cap with
  | .int _ n,.int _ m=>0<=n/\n<=m/\m<=9223372036854775807/\m*bytes<=281474976710656/\
   K (.sl g 0 n.toNat m.toNat) (L.set g (.cells zero.length (List.replicate m.toNat zero)))
  | _,_=>False
 | .append sz bytes s x=>J3 sz bytes (e s) (e x) g L K
 | .ex k xs=>xexR E k (xs.map e) g L K
 | o=>xop E o e L K
theorem ZY {L:List Blk} {g:Nat} {k:Blk} (h:L[g]?=some .unborn):zK L g k=L.set g k:=by
 unfold zK
 rw [if_neg]
 have:=zf h
 omega
section
variable {E:Env} {e:Opd->IV} {L:List Blk} {K:IV->List Blk->Prop}
theorem z0V {sz bytes g:Nat} {s x:IV} (h:J3 sz bytes s x g L K):∃g',Free L g'/\ZQ sz bytes s x g' (fun L k=>zK L g' k) L K:=by
 unfold J3 at h
 unfold ZQ
 cases hr:rowsOf L x with
 | none=>rw [hr] at h;exact h.elim
 | some rs=>
  rw [hr] at h
  simp only at h ⊢
  obtain ⟨hc,h⟩:=h
  split at h
  ·by_cases h0:rs=[]
   ·exact ⟨L.length,.inl rfl,hc,h.1,fun hn=>absurd h0 hn⟩
   ·obtain ⟨h1,h2,h3⟩:=h.2 h0
    exact ⟨g,.inr h1,hc,fun hn=>absurd hn h0,fun _=>⟨h2,by rw [ZY h1];exact h3⟩⟩
  ·by_cases h0:rs=[]
   ·exact ⟨L.length,.inl rfl,hc,h.1,fun hn=>absurd h0 hn⟩
   ·obtain ⟨h1,h2,h3⟩:=h.2 h0
    exact ⟨g,.inr h1,hc,fun hn=>absurd hn h0,fun _=>⟨h2,by rw [ZY h1];exact h3⟩⟩
  ·rename_i t off len cap
   cases hL:L[t]? with
   | none=>rw [hL] at h;exact h.elim
   | some k=>
    rw [hL] at h
    cases k with
    | cells sz' rows=>
     simp only at h ⊢
     obtain ⟨h1,h2,h⟩:=h
     by_cases hle:len+rs.length<=cap
     ·rw [if_pos hle] at h
      refine ⟨L.length,.inl rfl,hc,?_⟩
      simp only [hL]
      exact ⟨h1,h2,by rw [if_pos hle];exact h⟩
     ·rw [if_neg hle] at h
      obtain ⟨h3,h4,h5⟩:=h
      have hne:t≠g:=by rintro rfl;rw [hL] at h3;cases h3
      refine ⟨g,.inr h3,hc,?_⟩
      simp only [hL]
      refine ⟨h1,h2,?_⟩
      rw [if_neg hle]
      exact ⟨h4,by rw [ZY (by rw [List.getElem?_set_ne hne];exact h3)];exact h5⟩
    | _=>exact h.elim
  ·exact h.elim
theorem z4S {ty bytes g:Nat} {s x:IV} (h:YD ty bytes s x g L K):∃g',Free L g'/\Y1 ty bytes s x g' L K:=by
 unfold YD at h
 unfold Y1
 cases hr:rowsOf L x with
 | none=>rw [hr] at h;exact h.elim
 | some rs=>
  rw [hr] at h
  simp only at h ⊢
  obtain ⟨hc,h⟩:=h
  split at h
  ·by_cases h0:rs=[]
   ·exact ⟨L.length,.inl rfl,hc,h.1,fun hn=>absurd h0 hn⟩
   ·obtain ⟨h1,h2,h3⟩:=h.2 h0
    exact ⟨g,.inr h1,hc,fun hn=>absurd hn h0,fun _=>⟨h2,by rw [ZY h1];exact h3⟩⟩
  ·by_cases h0:rs=[]
   ·exact ⟨L.length,.inl rfl,hc,h.1,fun hn=>absurd h0 hn⟩
   ·obtain ⟨h1,h2,h3⟩:=h.2 h0
    exact ⟨g,.inr h1,hc,fun hn=>absurd hn h0,fun _=>⟨h2,by rw [ZY h1];exact h3⟩⟩
  ·rename_i t off len cap
   obtain ⟨ho,hlc,h⟩:=h
   cases hL:L[t]? with
   | none=>rw [hL] at h;exact h.elim
   | some k=>
    rw [hL] at h
    cases k with
    | cells sz' rows=>
     simp only at h ⊢
     obtain ⟨g',h1,h2⟩:=z0V h
     exact ⟨g',h1,hc,ho,hlc,by simp only [hL];exact h2⟩
    | tcells ty' sz' rows=>
     simp only at h ⊢
     obtain ⟨h1,h2,h3,h4,h5⟩:=h
     by_cases h0:rs=[]
     ·exact ⟨L.length,.inl rfl,hc,ho,hlc,by simp only [hL];exact ⟨h1,h2,h3,h4,fun hn=>absurd h0 hn⟩⟩
     ·obtain ⟨h6,h7,h8⟩:=h5 h0
      have hne:t≠g:=by rintro rfl;rw [hL] at h6;cases h6
      exact ⟨g,.inr h6,hc,ho,hlc,by simp only [hL];exact ⟨h1,h2,h3,fun hn=>absurd hn h0,fun _=>⟨h7,by rw [ZY (by rw [List.getElem?_set_ne hne];exact h6)];exact h8⟩⟩⟩
    | _=>exact h.elim
  ·exact h.elim
theorem z9p {k:XX} {vs:List IV} {g:Nat} (h:xexR E k vs g L K):∃g',Free L g'/\xex E k vs g' L K:=by
 unfold xexR at h
 split at h
 ·split at h
  ·exact ⟨g,.inr h.2.1,by simp only [xex];rw [ZY h.2.1];exact ⟨h.1,h.2.2⟩⟩
  ·exact h.elim
 ·split at h
  ·obtain ⟨g',h1,h2⟩:=z4S h
   exact ⟨g',h1,by simp only [xex];exact h2⟩
  ·exact h.elim
 ·exact ⟨L.length,.inl rfl,h⟩
theorem zeh {o:XO} {g:Nat} (h:xopR E o e g L K):∃g',Free L g'/\xopT E o e g' L K:=by
 cases o with
 | append sz b s x=>exact z0V h
 | alloc z=>exact ⟨g,.inr h.1,by simp only [xopT];rw [ZY h.1];exact h.2⟩
 | box x=>exact ⟨g,.inr h.1,by simp only [xopT];rw [ZY h.1];exact h.2⟩
 | bslice sz z len ps=>exact ⟨g,.inr h.1,by simp only [xopT];simp only [ZY h.1];exact h.2⟩
 | mkslice z b l c=>exact ⟨g,.inr h.1,by simp only [xopT];simp only [ZY h.1];exact h.2⟩
 | ex k xs=>exact z9p h
 | _=>exact ⟨L.length,.inl rfl,h⟩
def setL (L:List Blk):List (Nat × Blk)->List Blk
 | []=>L
 | (t,k)::r=>setL (L.set t k) r
theorem z1M:∀(wl:List (Nat × Blk)) (L:List Blk),(setL L wl).length=L.length
 | [],_=>rfl
 | (t,k)::r,L=>by rw [setL,z1M r,lls]
theorem z7l {i:Nat}:∀(wl:List (Nat × Blk)) (L:List Blk),(∀p∈wl,p.1≠i)->(setL L wl)[i]?=L[i]?
 | [],_,_=>rfl
 | (t,k)::r,L,h=>by
  rw [setL,z7l r _ fun p hp=>h p (List.mem_cons_of_mem _ hp),List.getElem?_set_ne (h (t,k) List.mem_cons_self)]
theorem z1f {i:Nat}:∀(wl:List (Nat × Blk)) (L L':List Blk),L.length=L'.length->L[i]?=L'[i]?->(setL L wl)[i]?=(setL L' wl)[i]?
 | [],_,_,_,h=>h
 | (t,k)::r,L,L',hl,h=>by
  rw [setL,setL]
  refine z1f r _ _ (by simp [hl]) ?_
  rw [List.getElem?_set,List.getElem?_set,hl,h]
theorem jf {t:Nat} {k:Blk}:∀(wl:List (Nat × Blk)) (L:List Blk),(∀p∈wl,p.1≠t)->setL (L.set t k) wl=(setL L wl).set t k
 | [],_,_=>rfl
 | (u,k')::r,L,h=>by
  rw [setL,setL,List.set_comm _ _ (Ne.symm (h (u,k') List.mem_cons_self)),jf r _ fun p hp=>h p (List.mem_cons_of_mem _ hp)]
theorem z3f:∀(wl wl':List (Nat × Blk)) (L:List Blk),(∀p∈wl,∀q∈wl',p.1≠q.1)->setL (setL L wl) wl'=setL (setL L wl') wl
 | [],_,_,_=>rfl
 | (t,k)::r,wl',L,h=>by
  rw [setL,z3f r wl' _ fun p hp=>h p (List.mem_cons_of_mem _ hp),jf wl' L fun q hq=>(h (t,k) List.mem_cons_self q hq).symm]
  rfl
def FrR (E:Env) (o:XO) (e:Opd->IV) (g:Nat) (L:List Blk) (v:IV) (wl:List (Nat × Blk)) (rd:List Nat):Prop:=
 ∀L':List Blk,(∀i∈rd,L'[i]?=L[i]?)->∀K:IV->List Blk->Prop,K v (setL L' wl)->xopR E o e g L' K
theorem jM {gl:Nat->Option (List IV)} {x:IV} {L':List Blk} (h:∀i∈slP x,L'[i]?=L[i]?):ZH gl L' x=ZH gl L x:=by
 cases x with
 | ptr s r o=>simp only [ZH];rw [h s (by simp [slP])]
 | raw v=>
  cases v with
  | pointer a=>
   cases a with
   | none=>rfl
   | some a=>obtain ⟨b,o,sp⟩:=a;cases sp<;>rfl
  | _=>rfl
 | _=>rfl
theorem wZ {x:IV} {L':List Blk} (h:∀i∈slS x,L'[i]?=L[i]?):rowsOf L' x=rowsOf L x:=by
 cases x with
 | sl s off len cap=>simp only [rowsOf];rw [h s (by simp [slS])]
 | _=>rfl
theorem z0M {s:Nat} {L':List Blk} (h:L'[s]?=L[s]?):szOf L' s=szOf L s:=by
 unfold szOf;rw [h]
theorem z3u {gl:Nat->Option (List IV)} {x:IV} {p:List (List IV) × Nat × Nat} (h:ZH gl L x=some p):∀i∈slP x,i<L.length:=by
 intro i hi
 cases x<;>simp only [slP,List.not_mem_nil] at hi
 rename_i s r o
 rw [List.mem_singleton] at hi;subst hi
 simp only [ZH] at h
 cases hL:L[i]? with
 | none=>rw [hL] at h;cases h
 | some k=>exact zf hL
theorem Jz {x:IV} {p:List (List IV)} (h:rowsOf L x=some p):∀i∈slS x,i<L.length:=by
 intro i hi
 cases x<;>simp only [slS,List.not_mem_nil] at hi
 rename_i s off len cap
 rw [List.mem_singleton] at hi;subst hi
 simp only [rowsOf] at h
 cases hL:L[i]? with
 | none=>rw [hL] at h;cases h
 | some k=>exact zf hL
theorem z7j {s m:Nat} (h:szOf L s=some m):s<L.length:=by
 unfold szOf at h
 cases hL:L[s]? with
 | none=>rw [hL] at h;cases h
 | some k=>exact zf hL
theorem zh1 {o:XO} {g:Nat} (hk:o.kd=1) (h:xop E o e L K):∃r,K r L/\(∀i∈o.rd e L,i<L.length)/\FrR E o e g L r [] (o.rd e L):=by
 cases o<;>simp only [XO.kd] at hk<;>try (exact absurd hk (by decide))
 case isNil=>split at hk<;>exact absurd hk (by decide)
 case load1 x=>
  simp only [xop] at h
  cases hr:ZH E.gl L (e x) with
  | none=>rw [hr] at h;exact h.elim
  | some p=>
   obtain ⟨rows,r,off⟩:=p
   rw [hr] at h
   refine ⟨_,h.2.2,z3u hr,fun L' ha K' hk=>?_⟩
   show xop E (.load1 x) e L' K'
   simp only [xop]
   rw [jM ha,hr]
   exact ⟨h.1,h.2.1,hk⟩
 case loadN n x=>
  simp only [xop] at h
  cases hr:ZH E.gl L (e x) with
  | none=>rw [hr] at h;exact h.elim
  | some p=>
   obtain ⟨rows,r,off⟩:=p
   rw [hr] at h
   refine ⟨_,h.2.2,z3u hr,fun L' ha K' hk=>?_⟩
   show xop E (.loadN n x) e L' K'
   simp only [xop]
   rw [jM ha,hr]
   exact ⟨h.1,h.2.1,hk⟩
 case idxS m x i=>
  simp only [xop] at h
  have key:∀{v:IV},(∀(L':List Blk) (K':IV->List Blk->Prop),(∀i∈slS (e x),L'[i]?=L[i]?)->K' v L'->xop E (.idxS m x i) e L' K')->FrR E (.idxS m x i) e g L v [] ((XO.idxS m x i).rd e L):=
   fun hv L' ha K' hk=>hv L' K' ha hk
  split at h
  ·rename_i rows k n hx hi
   exact ⟨_,h.2.2.2,by simp [XO.rd,hx,slS],key fun L' K' ha hk=>by simp only [xop,hx,hi];exact ⟨h.1,h.2.1,h.2.2.1,hk⟩⟩
  ·rename_i s off len cap k n hx hi
   exact ⟨_,h.2.2.2,by simp only [XO.rd,hx,slS,List.mem_singleton];rintro _ rfl;exact z7j h.1,key fun L' K' ha hk=>by simp only [xop,hx,hi];exact ⟨by rw [z0M (ha s (by rw [hx];simp [slS]))];exact h.1,h.2.1,h.2.2.1,hk⟩⟩
  ·exact h.elim
 case slice m x lo hi=>
  simp only [xop] at h
  have key:∀{v:IV},(∀(L':List Blk) (K':IV->List Blk->Prop),(∀i∈slS (e x),L'[i]?=L[i]?)->K' v L'->xop E (.slice m x lo hi) e L' K')->FrR E (.slice m x lo hi) e g L v [] ((XO.slice m x lo hi).rd e L):=
   fun hv L' ha K' hk=>hv L' K' ha hk
  split at h
  ·rename_i rows hx
   obtain ⟨h0,h⟩:=h
   obtain ⟨l,h,h1⟩:=ZM h
   obtain ⟨hh,h,h2⟩:=ZM h
   exact ⟨_,h.2.2,by simp [XO.rd,hx,slS],key fun L' K' ha hk=>by simp only [xop,hx];exact ⟨h0,h1 _ (h2 _ ⟨h.1,h.2.1,hk⟩)⟩⟩
  ·rename_i s off len cap hx
   obtain ⟨h0,h⟩:=h
   obtain ⟨l,h,h1⟩:=ZM h
   obtain ⟨hh,h,h2⟩:=ZM h
   exact ⟨_,h.2.2,by simp only [XO.rd,hx,slS,List.mem_singleton];rintro _ rfl;exact z7j h0,key fun L' K' ha hk=>by simp only [xop,hx];exact ⟨by rw [z0M (ha s (by rw [hx];simp [slS]))];exact h0,h1 _ (h2 _ ⟨h.1,h.2.1,hk⟩)⟩⟩
  ·rename_i hx
   obtain ⟨l,h,h1⟩:=ZM h
   obtain ⟨hh,h,h2⟩:=ZM h
   exact ⟨_,h.2.2,by simp [XO.rd,hx,slS],key fun L' K' ha hk=>by simp only [xop,hx];exact h1 _ (h2 _ ⟨h.1,h.2.1,hk⟩)⟩
  ·rename_i hx
   obtain ⟨l,h,h1⟩:=ZM h
   obtain ⟨hh,h,h2⟩:=ZM h
   exact ⟨_,h.2.2,by simp [XO.rd,hx,slS],key fun L' K' ha hk=>by simp only [xop,hx];exact h1 _ (h2 _ ⟨h.1,h.2.1,hk⟩)⟩
  ·exact h.elim
 case pcall f as=>
  simp only [xop] at h
  split at h
  ·rename_i n a b hf
   rcases h with ⟨fz,args',r,h1,h2,h0,h3,h4⟩ | ⟨r,hq,h2,h4⟩
   rotate_left
   ·have hnn:∀L',conv L' fuel zV=conv L fuel zV:=fun L'=>by funext y;exact wK fuel y _ _
    refine ⟨r,h4,(by simp only [XO.rd,hf,hq];intro i hi;exact List.mem_range.1 hi),fun L' ha K' hk=>?_⟩
    show xop E (.pcall f as) e L' K'
    simp only [xop,hf]
    refine .inr ⟨r,by rw [hnn];exact hq,fun L2 ha2=>h2 L2 fun i hi=>?_,hk⟩
    have hi':=ha i (by simp only [XO.rd,hf,hq];exact List.mem_range.2 hi)
    rw [ha2 i,hi']
    obtain ⟨k,hk'⟩:∃k,L[i]?=some k:=⟨_,List.getElem?_eq_getElem hi⟩
    rw [hk'] at hi'
    exact zf hi'
   have hnn:∀L',conv L' fuel zV=conv L fuel zV:=fun L'=>by funext y;exact wK fuel y _ _
   cases hq:mapO (conv L fuel zV) (a++as.map e++b) with
   | some q=>
    refine ⟨r,h4,(by simp only [XO.rd,hf,hq];intro i hi;cases hi),fun L' _ K' hk=>?_⟩
    show xop E (.pcall f as) e L' K'
    simp only [xop,hf]
    refine .inl ⟨fz,args',r,?_,h2,h0,h3,hk⟩
    cases fz
    ·simp only [Bool.false_eq_true,if_false] at h1 ⊢
     rw [hnn];exact h1
    ·simp only [if_true] at h1 ⊢
     have h5:=yY (fun x y=>z1F (L:=L) fuel x y) hq
     rw [h1] at h5;cases h5
     rw [<-hnn L'] at hq
     exact yY (fun x y=>z1F (L:=L') fuel x y) hq
   | none=>
    refine ⟨r,h4,(by simp only [XO.rd,hf,hq];intro i hi;exact List.mem_range.1 hi),fun L' ha K' hk=>?_⟩
    show xop E (.pcall f as) e L' K'
    simp only [xop,hf]
    refine .inl ⟨fz,args',r,?_,h2,h0,h3,hk⟩
    refine yY (fun x y=>vF (fun s k hs=>?_) fuel _ x y) h1
    rw [ha s (by simp only [XO.rd,hf,hq];exact List.mem_range.2 (zf hs))];exact hs
  ·exact h.elim
 case ex k xs=>
  cases k<;>simp only [XX.kd] at hk<;>try (exact absurd hk (by decide))
  case mlook st zero ok=>
   simp only [xop] at h
   have hx:∀L':List Blk,(∀i∈(XO.ex (.mlook st zero ok) xs).rd e L,L'[i]?=L[i]?)->∀m∈xs.map e,∀s,m=IV.mp s->L'[s]?=L[s]?:=fun L' ha m hm s hs=>by
    obtain ⟨x,hx,rfl⟩:=List.mem_map.1 hm
    exact ha s (by simp only [XO.rd,List.mem_flatMap];exact ⟨x,hx,by rw [hs];simp [slM]⟩)
   have hrd:∀i∈(XO.ex (.mlook st zero ok) xs).rd e L,∃m∈xs.map e,m=IV.mp i:=fun i hi=>by
    simp only [XO.rd,List.mem_flatMap] at hi
    obtain ⟨x,hx,h1⟩:=hi
    cases hex:e x<;>rw [hex] at h1<;>simp [slM] at h1
    subst h1
    exact ⟨_,List.mem_map.2 ⟨x,hx,rfl⟩,hex⟩
   simp only [xex] at h
   split at h
   ·rename_i k heq
    refine ⟨_,h.2,fun i hi=>?_,fun L' ha K' hk=>?_⟩
    ·obtain ⟨m,hm,rfl⟩:=hrd i hi
     rw [heq] at hm
     rcases List.mem_cons.1 hm with h3 | h3
     ·cases h3
     ·rw [List.mem_singleton] at h3;subst h3;simp [isKey] at h
    ·show xexR E (.mlook st zero ok) (xs.map e) g L' K'
     simp only [xexR,xex,heq];exact ⟨h.1,hk⟩
   ·rename_i m k hne heq
    unfold wz Yx at h
    split at h
    ·rename_i s
     obtain ⟨h1,h⟩:=h
     split at h
     ·rename_i es c hL
      split at h
      ·rename_i r hr
       cases r with
       | none=>
        refine ⟨_,h,fun i hi=>?_,fun L' ha K' hk=>?_⟩
        ·obtain ⟨m,hm,rfl⟩:=hrd i hi
         rw [heq] at hm
         rcases List.mem_cons.1 hm with h4 | h4
         ·cases h4;exact zf hL
         ·rw [List.mem_singleton] at h4;subst h4;simp [isKey] at h1
        ·show xexR E (.mlook st zero ok) (xs.map e) g L' K'
         have hL':L'[s]?=some (.map es c):=by rw [hx L' ha _ (by rw [heq];simp) s rfl];exact hL
         simp only [xexR,xex,heq]
         unfold wz Yx
         refine ⟨h1,?_⟩
         simp only [hL',hr]
         exact hk
       | some j=>
        refine ⟨_,h,fun i hi=>?_,fun L' ha K' hk=>?_⟩
        ·obtain ⟨m,hm,rfl⟩:=hrd i hi
         rw [heq] at hm
         rcases List.mem_cons.1 hm with h4 | h4
         ·cases h4;exact zf hL
         ·rw [List.mem_singleton] at h4;subst h4;simp [isKey] at h1
        ·show xexR E (.mlook st zero ok) (xs.map e) g L' K'
         have hL':L'[s]?=some (.map es c):=by rw [hx L' ha _ (by rw [heq];simp) s rfl];exact hL
         simp only [xexR,xex,heq]
         unfold wz Yx
         refine ⟨h1,?_⟩
         simp only [hL',hr]
         exact hk
      ·exact h.elim
     ·exact h.elim
    ·exact h.elim
   ·exact h.elim
  simp only [xop,xex] at h
  split at h<;>try exact h.elim
  rename_i v hv
  split at h<;>try exact h.elim
  rename_i s hs
  obtain ⟨x,rfl,rfl⟩:∃x,xs=[x]/\e x=v:=by
   cases xs with
   | nil=>cases hv
   | cons x r=>cases r with
    | nil=>exact ⟨x,rfl,by simpa using hv⟩
    | cons y r=>simp at hv
  obtain ⟨rs,h1,h2⟩:=Option.bind_eq_some_iff.1 hs
  have hr:rowsOf L (e x)=some rs:=by
   unfold yx at h1;split at h1
   ·cases h1
   ·exact h1
  have hrd:(XO.ex .bStr [x]).rd e L=slS (e x):=by simp [XO.rd]
  refine ⟨_,h,by rw [hrd];exact Jz hr,fun L' ha K' hk=>?_⟩
  show xexR E .bStr [e x] g L' K'
  have h3:yx L' (e x)=some rs:=by
   rw [hrd] at ha
   have h4:=wZ ha
   rw [hr] at h4
   unfold yx at h1 ⊢
   split at h1
   ·cases h1
   ·exact h4
  simp only [xexR,xex,h3,Option.bind_some,h2]
  exact hk
theorem z1x {U:List Blk} {i:Nat} {k:Blk} (h:L[i]?=some k):(L++U)[i]?=some k:=by
 rw [List.getElem?_append_left (zf h)];exact h
theorem JC {U:List Blk} {i:Nat} {k:Blk} (h:i<L.length):(L++U).set i k=L.set i k++U:=List.set_append_left _ _ h
theorem JK {m:Nat} {k:Blk}:(L++List.replicate (m+1) Blk.unborn).set L.length k=(L++[k])++List.replicate m .unborn:=by
 rw [List.set_append_right _ _ (Nat.le_refl _),Nat.sub_self,List.replicate_succ,List.set_cons_zero,List.append_assoc];rfl
theorem YE {m:Nat}:(L++List.replicate (m+1) Blk.unborn)[L.length]?=some .unborn:=by
 rw [List.getElem?_append_right (Nat.le_refl _),Nat.sub_self,List.replicate_succ];rfl
theorem zcz {o:XO} {g:Nat} (hk:o.kd=0):xopR E o e g L K=xop E o e L K:=by
 cases o<;>first | rfl | (simp only [XO.kd] at hk;exact absurd hk (by decide)) | (rename_i k xs;cases k<;>first | rfl | (simp [XO.kd,XX.kd] at hk))
def Res (E:Env) (o:XO) (e:Opd->IV) (L:List Blk) (v:IV) (L':List Blk) (wl:List (Nat × Blk)) (p:Nat):Prop:=
 L'.length=L.length+p/\(∀q∈wl,q.1∈o.wr e++newS o L L')/\∀m,FrR E o e L.length (L++List.replicate (p+m) .unborn) v wl (o.rd e L++newS o L L')/\
  setL (L++List.replicate (p+m) .unborn) wl=L'++List.replicate m .unborn
theorem vN {o:XO} {v:IV} {k:Blk} (hn:newS o L (L++[k])=[L.length])
  (h:∀(L':List Blk) (K':IV->List Blk->Prop),L'[L.length]?=some .unborn->K' v (L'.set L.length k)->xopR E o e L.length L' K'):Res E o e L v (L++[k]) [(L.length,k)] 1:=by
 refine ⟨by simp,fun q hq=>by rw [List.mem_singleton] at hq;subst hq;rw [hn];simp,fun m=>⟨fun L' ha K' hk=>h L' K' ?_ hk,?_⟩⟩
 ·rw [ha L.length (by rw [hn];simp),Nat.add_comm];exact YE
 ·rw [Nat.add_comm];exact JK
theorem z8M {sz by_:Nat} {s x:Opd} (h:xop E (.append sz by_ s x) e L K):∃v L' p wl,K v L'/\Res E (.append sz by_ s x) e L v L' wl p:=by
 simp only [xop] at h
 unfold ZA at h
 cases hr:rowsOf L (e x) with
 | none=>rw [hr] at h;exact h.elim
 | some rs=>
  rw [hr] at h
  simp only at h
  obtain ⟨hrc,h⟩:=h
  have hag:∀{L':List Blk} {m:Nat} {n:List Nat},(∀i∈(XO.append sz by_ s x).rd e L++n,L'[i]?=(L++List.replicate m Blk.unborn)[i]?)->rowsOf L' (e x)=some rs:=fun {L' m n} ha=>by
   rw [<-hr]
   refine wZ fun i hi=>?_
   rw [ha i (by simp [XO.rd,hi]),List.getElem?_append_left (Jz hr i hi)]
  have hnil:(e s=.nsl\/e s=.esl)->(rs=[]->K (e s) L)/\(rs≠[]->rs.length*by_<=70368744177664/\K (.sl L.length 0 rs.length rs.length) (L++[.cells sz rs]))->
    ∃v L' p wl,K v L'/\Res E (.append sz by_ s x) e L v L' wl p:=fun hs h=>by
   by_cases h0:rs=[]
   ·refine ⟨e s,L,0,[],h.1 h0,rfl,by simp,fun m=>⟨fun L' ha K' hk'=>?_,by rw [Nat.zero_add];rfl⟩⟩
    show J3 sz by_ (e s) (e x) _ L' K'
    unfold J3
    rw [hag ha]
    refine ⟨hrc,?_⟩
    rcases hs with hs | hs<;>rw [hs] at hk' ⊢<;>exact ⟨fun _=>hk',fun hn=>absurd h0 hn⟩
   ·obtain ⟨h1,h2⟩:=h.2 h0
    refine ⟨_,_,1,[(L.length,.cells sz rs)],h2,by simp,fun q hq=>by rw [List.mem_singleton] at hq;subst hq;simp [newS],fun m=>⟨fun L' ha K' hk'=>?_,by rw [Nat.add_comm];exact JK⟩⟩
    show J3 sz by_ (e s) (e x) _ L' K'
    have hu:L'[L.length]?=some .unborn:=by
     rw [ha L.length (by simp [newS]),Nat.add_comm];exact YE
    unfold J3
    rw [hag ha]
    refine ⟨hrc,?_⟩
    rcases hs with hs | hs<;>rw [hs]<;>exact ⟨fun hn=>absurd hn h0,fun _=>⟨hu,h1,hk'⟩⟩
  split at h
  ·rename_i hs;exact hnil (.inl hs) h
  ·rename_i hs;exact hnil (.inr hs) h
  ·rename_i t off len cap hs
   cases hL:L[t]? with
   | none=>rw [hL] at h;exact h.elim
   | some k=>
    rw [hL] at h
    cases k with
    | cells sz' rows=>
     simp only at h
     obtain ⟨h1,h2,h⟩:=h
     have hlt:=zf hL
     have hgt:∀{L':List Blk} {m:Nat} {n:List Nat},(∀i∈(XO.append sz by_ s x).rd e L++n,L'[i]?=(L++List.replicate m Blk.unborn)[i]?)->L'[t]?=some (.cells sz' rows):=fun {L' m n} ha=>by
      rw [ha t (by simp [XO.rd,hs,slS]),z1x hL]
     by_cases hle:len+rs.length<=cap
     ·rw [if_pos hle] at h
      refine ⟨_,_,0,[(t,.cells sz (splice rows (off+len) rs))],h,by simp,fun q hq=>by rw [List.mem_singleton] at hq;subst hq;simp [XO.wr,hs,slS],fun m=>⟨fun L' ha K' hk'=>?_,by rw [Nat.zero_add];exact JC hlt⟩⟩
      show J3 sz by_ (e s) (e x) _ L' K'
      unfold J3
      rw [hag ha]
      refine ⟨hrc,?_⟩
      rw [hs]
      simp only
      rw [hgt ha]
      exact ⟨h1,h2,by rw [if_pos hle];exact hk'⟩
     ·rw [if_neg hle] at h
      obtain ⟨h3,h4⟩:=h
      have hn:newS (.append sz by_ s x) L (L.set t .dead++[.cells sz ((rows.drop off).take len++rs)])=[L.length]:=by simp [newS]
      refine ⟨_,_,1,[(t,.dead),(L.length,.cells sz ((rows.drop off).take len++rs))],h4,by simp,fun q hq=>?_,fun m=>⟨fun L' ha K' hk'=>?_,?_⟩⟩
      ·rw [hn]
       rcases List.mem_cons.1 hq with rfl | hq
       ·simp [XO.wr,hs,slS]
       ·rw [List.mem_singleton] at hq;subst hq;simp
      ·rw [hn] at ha
       have hu:L'[L.length]?=some .unborn:=by
        rw [ha L.length (by simp),Nat.add_comm];exact YE
       show J3 sz by_ (e s) (e x) _ L' K'
       unfold J3
       rw [hag ha]
       refine ⟨hrc,?_⟩
       rw [hs]
       simp only
       rw [hgt ha]
       exact ⟨h1,h2,by rw [if_neg hle];exact ⟨hu,h3,hk'⟩⟩
      ·rw [Nat.add_comm,setL,setL,setL,JC hlt]
       have:=JK (L:=L.set t .dead) (m:=m) (k:=.cells sz ((rows.drop off).take len++rs))
       rw [lls] at this
       exact this
    | _=>exact h.elim
  ·exact h.elim
theorem zaL {ty by_:Nat} {s x:Opd} (h:Y1 ty by_ (e s) (e x) L.length L K):∃v L' p wl,K v L'/\Res E (.ex (.appT ty by_) [s,x]) e L v L' wl p:=by
 unfold Y1 at h
 cases hr:rowsOf L (e x) with
 | none=>rw [hr] at h;exact h.elim
 | some rs=>
  rw [hr] at h
  simp only at h
  obtain ⟨hrc,h⟩:=h
  have hag:∀{L':List Blk} {m:Nat} {n:List Nat},(∀i∈(XO.ex (.appT ty by_) [s,x]).rd e L++n,L'[i]?=(L++List.replicate m Blk.unborn)[i]?)->rowsOf L' (e x)=some rs:=fun {L' m n} ha=>by
   rw [<-hr]
   refine wZ fun i hi=>?_
   rw [ha i (by simp [XO.rd,hi]),List.getElem?_append_left (Jz hr i hi)]
  have hnil:(e s=.nsl\/e s=.raw (.slice none 0 0))->(rs=[]->K (e s) L)/\(rs≠[]->rs.length*by_<=70368744177664/\K (.sl L.length 0 rs.length rs.length) (zK L L.length (.tcells ty 1 rs)))->
    ∃v L' p wl,K v L'/\Res E (.ex (.appT ty by_) [s,x]) e L v L' wl p:=fun hs h=>by
   rw [Zb] at h
   by_cases h0:rs=[]
   ·refine ⟨e s,L,0,[],h.1 h0,rfl,by simp,fun m=>⟨fun L' ha K' hk'=>?_,by rw [Nat.zero_add];rfl⟩⟩
    show YD ty by_ (e s) (e x) _ L' K'
    unfold YD
    rw [hag ha]
    refine ⟨hrc,?_⟩
    rcases hs with hs | hs<;>rw [hs] at hk' ⊢<;>exact ⟨fun _=>hk',fun hn=>absurd h0 hn⟩
   ·obtain ⟨h1,h2⟩:=h.2 h0
    refine ⟨_,_,1,[(L.length,.tcells ty 1 rs)],h2,by simp,fun q hq=>by rw [List.mem_singleton] at hq;subst hq;simp [newS],fun m=>⟨fun L' ha K' hk'=>?_,by rw [Nat.add_comm];exact JK⟩⟩
    show YD ty by_ (e s) (e x) _ L' K'
    have hu:L'[L.length]?=some .unborn:=by
     rw [ha L.length (by simp [newS]),Nat.add_comm];exact YE
    unfold YD
    rw [hag ha]
    refine ⟨hrc,?_⟩
    rcases hs with hs | hs<;>rw [hs]<;>exact ⟨fun hn=>absurd hn h0,fun _=>⟨hu,h1,hk'⟩⟩
  split at h
  ·rename_i hs;exact hnil (.inl hs) h
  ·rename_i hs;exact hnil (.inr hs) h
  ·rename_i t off len cap hs
   obtain ⟨ho,hlc,h⟩:=h
   cases hL:L[t]? with
   | none=>rw [hL] at h;exact h.elim
   | some k=>
    rw [hL] at h
    have hlt:=zf hL
    have hgt:∀{L':List Blk} {m:Nat} {n:List Nat},(∀i∈(XO.ex (.appT ty by_) [s,x]).rd e L++n,L'[i]?=(L++List.replicate m Blk.unborn)[i]?)->L'[t]?=some k:=fun {L' m n} ha=>by
     rw [ha t (by simp [XO.rd,hs,slS]),z1x hL]
    cases k with
    | cells sz' rows=>
     simp only at h
     have h2:xop E (.append 1 by_ s x) e L K:=by
      show ZA 1 by_ (e s) (e x) L K
      unfold ZQ at h
      unfold ZA
      rw [hr] at h ⊢
      simp only [hs,hL] at h ⊢
      obtain ⟨h3,h4,h5,h6⟩:=h
      refine ⟨h3,h4,h5,?_⟩
      split at h6
      ·rename_i hle;rw [if_pos hle];exact h6
      ·rename_i hle;rw [if_neg hle]
       have e1:zK (L.set t Blk.dead) L.length (.cells 1 ((rows.drop off).take len++rs))=L.set t .dead++[.cells 1 ((rows.drop off).take len++rs)]:=by unfold zK;rw [if_pos (by rw [lls])]
       rw [e1] at h6;exact h6
     obtain ⟨v,L',p,wl,h3,h4,h5,h6⟩:=z8M h2
     refine ⟨v,L',p,wl,h3,h4,fun q hq=>?_,fun m=>⟨fun L2 ha K' hk'=>?_,(h6 m).2⟩⟩
     ·have:=h5 q hq
      simpa [XO.wr,newS] using this
     ·have h7:=(h6 m).1 L2 (fun i hi=>ha i (by simpa [XO.rd,newS] using hi)) K' hk'
      show YD ty by_ (e s) (e x) _ L2 K'
      unfold YD
      rw [hag ha]
      refine ⟨hrc,?_⟩
      rw [hs]
      refine ⟨ho,hlc,?_⟩
      simp only [hgt ha]
      rw [<-hs]
      exact h7
    | tcells ty' sz' rows=>
     simp only at h
     obtain ⟨h1,h2,h3,h4,h5⟩:=h
     by_cases h0:rs=[]
     ·refine ⟨_,L,0,[],h4 h0,rfl,by simp,fun m=>⟨fun L' ha K' hk'=>?_,by rw [Nat.zero_add];rfl⟩⟩
      show YD ty by_ (e s) (e x) _ L' K'
      unfold YD
      rw [hag ha]
      refine ⟨hrc,?_⟩
      rw [hs]
      refine ⟨ho,hlc,?_⟩
      simp only [hgt ha]
      exact ⟨h1,h2,h3,fun _=>by rw [<-hs];exact hk',fun hn=>absurd h0 hn⟩
     ·obtain ⟨h6,h7⟩:=h5 h0
      have e1:zK (L.set t Blk.dead) L.length (.tcells ty 1 (rows++rs))=L.set t .dead++[.tcells ty 1 (rows++rs)]:=by unfold zK;rw [if_pos (by rw [lls])]
      rw [e1] at h7
      have hn:newS (.ex (.appT ty by_) [s,x]) L (L.set t .dead++[.tcells ty 1 (rows++rs)])=[L.length]:=by simp [newS]
      refine ⟨_,_,1,[(t,.dead),(L.length,.tcells ty 1 (rows++rs))],h7,by simp,fun q hq=>?_,fun m=>⟨fun L' ha K' hk'=>?_,?_⟩⟩
      ·rw [hn]
       rcases List.mem_cons.1 hq with rfl | hq
       ·simp [XO.wr,hs,slS]
       ·rw [List.mem_singleton] at hq;subst hq;simp
      ·rw [hn] at ha
       have hu:L'[L.length]?=some .unborn:=by
        rw [ha L.length (by simp),Nat.add_comm];exact YE
       show YD ty by_ (e s) (e x) _ L' K'
       unfold YD
       rw [hag ha]
       refine ⟨hrc,?_⟩
       rw [hs]
       refine ⟨ho,hlc,?_⟩
       simp only [hgt ha]
       exact ⟨h1,h2,h3,fun hn=>absurd hn h0,fun _=>⟨hu,h6,hk'⟩⟩
      ·rw [Nat.add_comm,setL,setL,setL,JC hlt]
       have:=JK (L:=L.set t .dead) (m:=m) (k:=.tcells ty 1 (rows++rs))
       rw [lls] at this
       exact this
    | _=>exact h.elim
  ·exact h.elim
theorem zdC {o:XO} (hk:o.rk<4) (h:xop E o e L K):∃v L' p wl,K v L'/\Res E o e L v L' wl p:=by
 have hc:o.kd=0\/o.kd=1\/o.kd=2\/o.kd=3\/o.kd=4:=by
  cases o<;>try (simp [XO.kd];done)
  case ex k _=>cases k<;>simp [XO.kd,XX.kd]
  case isNil k _ _=>simp only [XO.kd];split<;>simp
 rcases hc with h0 | h0 | h0 | h0 | h0
 ·obtain ⟨r,h1,h2⟩:=z5H h0 h
  exact ⟨r,L,0,[],h1,rfl,by simp,fun m=>⟨fun L' _ K' hk'=>by rw [zcz h0];exact h2 L' K' hk',by rw [Nat.zero_add];rfl⟩⟩
 ·obtain ⟨r,h1,h2,h3⟩:=zh1 (g:=L.length) h0 h
  refine ⟨r,L,0,[],h1,rfl,by simp,fun m=>⟨fun L' ha K' hk'=>h3 L' (fun i hi=>?_) K' hk',by rw [Nat.zero_add];rfl⟩⟩
  rw [ha i (List.mem_append_left _ hi),List.getElem?_append_left (h2 i hi)]
 ·cases o<;>simp only [XO.kd] at h0<;>try (exact absurd h0 (by decide))
  case alloc z=>exact ⟨_,_,1,_,h,vN rfl fun L' K' hu hk'=>⟨hu,hk'⟩⟩
  case box x=>exact ⟨_,_,1,_,h,vN rfl fun L' K' hu hk'=>⟨hu,hk'⟩⟩
  case isNil=>split at h0<;>exact absurd h0 (by decide)
  case ex k xs=>
   cases k<;>first | (simp [XX.kd] at h0;done) | skip
   rename_i ty
   simp only [xop,xex] at h
   split at h
   ·rename_i s hs
    rw [Zb] at h
    exact ⟨_,_,1,_,h.2,vN rfl fun L' K' hu hk'=>by
     show xexR E (.strB ty) (xs.map e) L.length L' K'
     rw [hs];exact ⟨h.1,hu,hk'⟩⟩
   ·exact h.elim
 ·cases o<;>simp only [XO.kd] at h0<;>try (exact absurd h0 (by decide))
  case isNil=>split at h0<;>exact absurd h0 (by decide)
  case store n x y=>
   simp only [xop] at h
   split at h
   ·rename_i s r off hx
    split at h
    ·rename_i sz rows hL
     have hlt:=zf hL
     refine ⟨_,_,0,[(s,.cells sz (rows.set r (splice (rows.getD r []) off (cellsOf (e y)))))],h.2.2.2.2,by simp,?_,fun m=>⟨fun L' ha K' hk'=>?_,?_⟩⟩
     ·intro q hq;rw [List.mem_singleton] at hq;subst hq;simp [XO.wr,hx,slP]
     ·show xop E (.store n x y) e L' K'
      simp only [xop,hx]
      have:=ha s (by simp [XO.rd,hx,slP])
      rw [z1x hL] at this
      rw [this]
      exact ⟨h.1,h.2.1,h.2.2.1,h.2.2.2.1,hk'⟩
     ·rw [Nat.zero_add];exact JC hlt
    ·rename_i ty sz rows hL
     have hlt:=zf hL
     refine ⟨_,_,0,[(s,.tcells ty sz (rows.set r (splice (rows.getD r []) off (cellsOf (e y)))))],h.2.2.2.2,by simp,?_,fun m=>⟨fun L' ha K' hk'=>?_,?_⟩⟩
     ·intro q hq;rw [List.mem_singleton] at hq;subst hq;simp [XO.wr,hx,slP]
     ·show xop E (.store n x y) e L' K'
      simp only [xop,hx]
      have:=ha s (by simp [XO.rd,hx,slP])
      rw [z1x hL] at this
      rw [this]
      exact ⟨h.1,h.2.1,h.2.2.1,h.2.2.2.1,hk'⟩
     ·rw [Nat.zero_add];exact JC hlt
    ·exact h.elim
   ·exact h.elim
  case ex k xs=>cases k<;>first | (simp [XX.kd] at h0;done) | (simp [XO.rk] at hk;done)
 ·cases o<;>simp only [XO.kd] at h0<;>try (exact absurd h0 (by decide))
  case isNil=>simp only [XO.rk,XO.kd] at hk;rw [h0] at hk;exact absurd hk (by decide)
  case bslice sz z len ps=>
   simp only [xop] at h
   obtain ⟨h1,h⟩:=h
   split at h
   ·rename_i rows hr
    exact ⟨_,_,1,_,h,vN rfl fun L' K' hu hk'=>by simp only [xopR];rw [hr];exact ⟨hu,h1,hk'⟩⟩
   ·exact h.elim
  case mkslice z by_ l c=>
   simp only [xop] at h
   split at h
   ·rename_i k n k' m hl hc
    obtain ⟨h1,h2,h3,h4,h5⟩:=h
    exact ⟨_,_,1,_,h5,vN rfl fun L' K' hu hk'=>by simp only [xopR,hl,hc];exact ⟨hu,h1,h2,h3,h4,hk'⟩⟩
   ·exact h.elim
  case append sz by_ s x=>exact z8M h
  case ex k xs=>
   cases k<;>first | (simp [XX.kd] at h0;done) | (simp [XO.rk,XO.kd,XX.kd] at hk;done) | skip
   rename_i ty by_
   have h:xex E (.appT ty by_) (xs.map e) L.length L K:=h
   simp only [xex] at h
   split at h
   ·rename_i sv xv heq
    obtain ⟨s,x,rfl,rfl,rfl⟩:∃s x,xs=[s,x]/\e s=sv/\e x=xv:=by
     cases xs with
     | nil=>cases heq
     | cons s r=>cases r with
      | nil=>simp at heq
      | cons x r=>cases r with
       | nil=>exact ⟨s,x,rfl,by simpa using heq⟩
       | cons y r=>simp at heq
    exact zaL h
   ·exact h.elim
  all_goals (simp only [XO.rk,XO.kd] at hk;exact absurd hk (by decide))
end
end Go.X
end
section
namespace Go.X
open Go

structure Tr where
 v:IV
 wl:List (Nat × Blk)
 g:Nat
 rd:List Nat
 wr:List Nat
abbrev St:=Rho × List Blk
def Tr.up (t:Tr) (o:zk) (s:St):St:=(put s.1 o.dst t.v,setL s.2 t.wl)
def z2U (E:Env) (o:zk) (g:Nat) (ρ:Rho) (L:List Blk) (KV:IV->List Blk->Prop):Prop:=
 match o.guard with
 | none=>xopR E o.op (Opd.ev ρ) g L KV
 | some (t,want)=>match ρ t with
  | .bool b=>(b=want->xopR E o.op (Opd.ev ρ) g L KV)/\(b≠want->KV .und L)
  | .und=>KV .und L
  | _=>False
def TrOk (E:Env) (o:zk) (t:Tr) (s:St):Prop:=
 (∀p∈t.wl,p.1∈t.wr)/\(o.op.rk=0->t.rd=[]/\t.wr=[])/\(o.op.rk=1->t.wr=[])/\∀(ρ:Rho) (L:List Blk),(∀n∈o.rds,ρ n=s.1 n)->(∀i∈t.rd,L[i]?=s.2[i]?)->∀KV:IV->List Blk->Prop,KV t.v (setL L t.wl)->z2U E o t.g ρ L KV
def z3T (E:Env):List zk->List Tr->St->St->Prop
 | [],[],s,s'=>s=s'
 | o::xs,t::tr,s,s'=>TrOk E o t s/\z3T E xs tr (t.up o s) s'
 | _,_,_,_=>False
def z6O:Nat->List (Nat × List Nat × List Nat)->List (zk × List Nat × Bool)->List Tr->Prop
 | _,_,[],[]=>True
 | i,lg,(_,chk,keep)::l,t::tr=>((t.wr=[]/\t.rd=[])\/chkL chk t.rd t.wr lg)/\((t.wr=[]/\t.rd=[]/\z6O (i+1) lg l tr)\/z6O (i+1) (if keep then (i,t.rd,t.wr)::lg else lg) l tr)
 | _,_,_,_=>False
section
variable {E:Env}
theorem zaN {o:XO} {ρ ρ':Rho} {g:Nat} {L:List Blk} {K:IV->List Blk->Prop} (h:∀n∈o.us,ρ n=ρ' n):xopR E o (Opd.ev ρ) g L K=xopR E o (Opd.ev ρ') g L K:=by
 have h1:∀{x:Opd},(∀n,n∈x.us->n∈o.us)->x.ev ρ=x.ev ρ':=fun {x} hx=>z5P x fun n hn=>h n (hx n hn)
 cases o with
 | alloc z=>rfl
 | box x=>simp only [xopR];rw [h1 (x:=x) fun n hn=>hn]
 | bslice sz z len ps=>
  simp only [xopR]
  have:(ps.map fun p=>(p.1,p.2.ev ρ))=ps.map fun p=>(p.1,p.2.ev ρ'):=
   List.map_congr_left fun p hp=>by rw [h1 (x:=p.2) (fun n hn=>by simp only [XO.us,List.mem_flatMap];exact ⟨p,hp,hn⟩)]
  rw [this]
 | ex k xs=>
  simp only [xopR]
  rw [z4N xs (fun n hn=>h n hn)]
 | mkslice z b x y | append sz b x y=>
  simp only [xopR]
  rw [h1 (x:=x) (fun n hn=>by simp [XO.us,hn]),h1 (x:=y) (fun n hn=>by simp [XO.us,hn])]
 | _=>exact z8n (E:=E) h
theorem zgM {o:XO} {e:Opd->IV} {L L':List Blk} (h:o.rk=0):o.rd e L++newS o L L'=[]/\o.wr e++newS o L L'=[]:=by
 cases o<;>first | exact ⟨rfl,rfl⟩ | (rename_i k _;cases k<;>first | exact ⟨rfl,rfl⟩ | (simp [XO.rk,XO.kd,XX.kd] at h)) | (simp only [XO.rk,XO.kd] at h;exact absurd h (by decide))
theorem zh6 {o:XO} {e:Opd->IV} {L L':List Blk} (h:o.rk=1):o.wr e++newS o L L'=[]:=by
 cases o<;>first | rfl | (simp only [XO.rk,XO.kd] at h;exact absurd h (by decide)) | (rename_i k xs;cases k<;>first | rfl | (simp [XO.rk,XO.kd,XX.kd] at h))
theorem zbJ {o:zk} {ρ:Rho} {L:List Blk} {v:IV} {L':List Blk} {wl:List (Nat × Blk)} {p:Nat} (m:Nat) (h:Res E o.op (Opd.ev ρ) L v L' wl p) (hg:o.guard=none\/∃t want,o.guard=some (t,want)/\ρ t=.bool want) :
  TrOk E o ⟨v,wl,L.length,o.op.rd (Opd.ev ρ) L++newS o.op L L',o.op.wr (Opd.ev ρ)++newS o.op L L'⟩ (ρ,L++List.replicate (p+m) .unborn):=by
 refine ⟨h.2.1,fun h0=>zgM h0,fun h0=>zh6 h0,fun ρ' L'' hρ hL KV hk=>?_⟩
 have h1:=(h.2.2 m).1 L'' hL KV hk
 rw [<-zaN (ρ:=ρ') (fun n hn=>hρ n (by simp [zk.rds,hn]))] at h1
 unfold z2U
 rcases hg with hg | ⟨t,want,hg,ht⟩
 ·rw [hg];exact h1
 ·rw [hg]
  have:=hρ t (by simp [zk.rds,hg])
  simp only
  rw [this]
  show match ρ t with | _=>_
  simp only [ht]
  exact ⟨fun _=>h1,fun hn=>absurd rfl hn⟩
theorem zbA {o:zk} {ρ:Rho} {L:List Blk} {t:Nat} {want:Bool} (hg:o.guard=some (t,want)) (ht:ρ t=.und\/∃b,ρ t=.bool b/\b≠want):TrOk E o ⟨.und,[],0,[],[]⟩ (ρ,L):=by
 refine ⟨by simp,fun _=>⟨rfl,rfl⟩,fun _=>rfl,fun ρ' L'' hρ hL KV hk=>?_⟩
 have:=hρ t (by simp [zk.rds,hg])
 unfold z2U
 rw [hg]
 simp only
 rw [this]
 show match ρ t with | _=>_
 rcases ht with ht | ⟨b,ht,hb⟩
 ·simp only [ht];exact hk
 ·simp only [ht];exact ⟨fun h=>absurd h hb,fun _=>hk⟩
theorem trace {K:Rho->List Blk->Prop}:∀(l:List (zk × List Nat × Bool)) (i:Nat) (lg:List (Nat × List Nat × List Nat)) (ρ:Rho) (L:List Blk),(∀x∈l,x.1.op.rk<4)->ZG E i lg l ρ L K->
  ∃(tr:List Tr) (m:Nat) (ρ':Rho) (L':List Blk),K ρ' L'/\z3T E (l.map (·.1)) tr (ρ,L++List.replicate m .unborn) (ρ',L')/\z6O i lg l tr
 | [],i,lg,ρ,L,_,h=>⟨[],0,ρ,L,h,by simp [z3T],trivial⟩
 | (o,chk,keep)::l,i,lg,ρ,L,hk,h=>by
  have hko:o.op.rk<4:=hk _ List.mem_cons_self
  have hkl:∀x∈l,x.1.op.rk<4:=fun x hx=>hk x (List.mem_cons_of_mem _ hx)
  have hexec:(o.guard=none\/∃t want,o.guard=some (t,want)/\ρ t=.bool want)->(xop E o.op (Opd.ev ρ) L fun v L'=>chkL chk (o.op.rd (Opd.ev ρ) L++newS o.op L L') (o.op.wr (Opd.ev ρ)++newS o.op L L') lg/\
    ZG E (i+1) (if keep then (i,o.op.rd (Opd.ev ρ) L++newS o.op L L',o.op.wr (Opd.ev ρ)++newS o.op L L')::lg else lg) l (put ρ o.dst v) L' K)->
    ∃(tr:List Tr) (m:Nat) (ρ':Rho) (L':List Blk),K ρ' L'/\z3T E (((o,chk,keep)::l).map (·.1)) tr (ρ,L++List.replicate m .unborn) (ρ',L')/\z6O i lg ((o,chk,keep)::l) tr:=by
   intro hg hx
   obtain ⟨v,L',p,wl,⟨hc,hx⟩,hr⟩:=zdC hko hx
   obtain ⟨tr,m,ρ',Lf,h1,h2,h3⟩:=trace l _ _ _ _ hkl hx
   refine ⟨⟨v,wl,L.length,_,_⟩::tr,p+m,ρ',Lf,h1,⟨zbJ m hr hg,?_⟩,?_⟩
   ·show z3T E (l.map (·.1)) tr (put ρ o.dst v,setL (L++List.replicate (p+m) .unborn) wl) (ρ',Lf)
    rw [(hr.2.2 m).2];exact h2
   ·exact ⟨.inr hc,.inr h3⟩
  have hskip:∀t want,o.guard=some (t,want)->(ρ t=.und\/∃b,ρ t=.bool b/\b≠want)->ZG E (i+1) lg l (put ρ o.dst .und) L K->
    ∃(tr:List Tr) (m:Nat) (ρ':Rho) (L':List Blk),K ρ' L'/\z3T E (((o,chk,keep)::l).map (·.1)) tr (ρ,L++List.replicate m .unborn) (ρ',L')/\z6O i lg ((o,chk,keep)::l) tr:=by
   intro t want hg ht hx
   obtain ⟨tr,m,ρ',Lf,h1,h2,h3⟩:=trace l _ _ _ _ hkl hx
   exact ⟨⟨.und,[],0,[],[]⟩::tr,m,ρ',Lf,h1,⟨zbA hg ht,h2⟩,.inl ⟨rfl,rfl⟩,.inl ⟨rfl,rfl,h3⟩⟩
  unfold ZG at h
  split at h
  ·rename_i hg;exact hexec (.inl hg) h
  ·rename_i t want hg
   split at h
   ·rename_i b hb
    by_cases hbw:b=want
    ·exact hexec (.inr ⟨t,want,hg,by rw [hb,hbw]⟩) (h.1 hbw)
    ·exact hskip t want hg (.inr ⟨b,hb,hbw⟩) (h.2 hbw)
   ·rename_i hb;exact hskip t want hg (.inl hb) h
   ·exact h.elim
def Ind (o:zk) (t:Tr) (p:zk) (u:Tr):Prop:=
 ninO o.dst p.rds=true/\ninO p.dst o.rds=true/\neO o.dst p.dst=true/\Ap t.rd t.wr u.rd u.wr
theorem Ind.symm {o p:zk} {t u:Tr} (h:Ind o t p u):Ind p u o t:=by
 obtain ⟨h1,h2,h3,h4,h5⟩:=h
 refine ⟨h2,h1,?_,h5,h4⟩
 cases ho:o.dst with
 | none=>cases p.dst<;>rfl
 | some a=>cases hp:p.dst with
  | none=>rfl
  | some b=>
   rw [ho,hp] at h3
   simp only [neO,Bool.not_eq_true',beq_eq_false_iff_ne,ne_eq] at h3 ⊢
   exact fun h=>h3 h.symm
def Fits (t:Tr):Prop:=∀p∈t.wl,p.1∈t.wr
theorem zbE {o p:zk} {t u:Tr} (ht:Fits t) (hu:Fits u) (h:Ind o t p u) (s:St):t.up o (u.up p s)=u.up p (t.up o s):=by
 obtain ⟨_,_,h3,h4,h5⟩:=h
 unfold Tr.up
 simp only
 rw [put_comm h3,z3f u.wl t.wl s.2 fun q hq r hr he=>?_]
 have h6:=ht r hr
 rw [<-he] at h6
 exact (h4 _ h6).2 (hu q hq)
def Agree (p:zk) (u:Tr) (s s':St):Prop:=(∀n∈p.rds,s.1 n=s'.1 n)/\(∀i∈u.rd,s.2[i]?=s'.2[i]?)/\s.2.length=s'.2.length
theorem zcj {o p : zk} {t u : Tr} {s s' : St} (h : Agree p u s s') : Agree p u (t.up o s) (t.up o s') := by
  obtain ⟨h1, h2, h3⟩ := h
  refine ⟨fun n hn => ?_, fun i hi => z1f _ _ _ h3 (h2 i hi), by simp only [Tr.up, z1M]; exact h3⟩
  simp only [Tr.up]
  cases o.dst with
  | none => exact h1 n hn
  | some d => simp only [put]; split
              · rfl
              · exact h1 n hn
theorem z8t {o p:zk} {t u:Tr} {s s':St} (ht:Fits t) (hi:Ind o t p u) (h:Agree p u s s'):Agree p u (t.up o s) s':=by
 obtain ⟨h1,h2,h3⟩:=h
 refine ⟨fun n hn=>?_,fun i hi'=>?_,by simp only [Tr.up,z1M];exact h3⟩
 ·simp only [Tr.up];rw [WW hi.1 n hn];exact h1 n hn
 ·simp only [Tr.up]
  rw [z7l _ _ fun q hq he=>(hi.2.2.2.1 _ (ht q hq)).1 (he▸hi')]
  exact h2 i hi'
theorem Agree.symm {p:zk} {u:Tr} {s s':St} (h:Agree p u s s'):Agree p u s' s:=⟨fun n hn=>(h.1 n hn).symm,fun i hi=>(h.2.1 i hi).symm,h.2.2.symm⟩
theorem za1 {o p:zk} {t u:Tr} {s s':St} (ht:Fits t) (hi:Ind o t p u) (h:Agree p u s s'):Agree p u s (t.up o s'):=(z8t ht hi h.symm).symm
def SS (xs:List zk) (tr:List Tr) (lst:Nat->Bool) (s0:St):Nat->St
 | 0=>s0
 | k+1=>if lst k then (match xs[k]?,tr[k]? with | some o,some t=>t.up o (SS xs tr lst s0 k) | _,_=>SS xs tr lst s0 k) else SS xs tr lst s0 k
theorem z1o {xs:List zk} {tr:List Tr} {l l':Nat->Bool} {s0:St}:∀(k:Nat),(∀i,i<k->l i=l' i)->SS xs tr l s0 k=SS xs tr l' s0 k
 | 0,_=>rfl
 | k+1,h=>by
  unfold SS
  rw [z1o k fun i hi=>h i (by omega),h k (by omega)]
theorem z4o {o:zk} {t:Tr} {xs:List zk} {tr:List Tr} {s0:St}:∀(k:Nat),SS (o::xs) (t::tr) (fun _=>true) s0 (k+1)=SS xs tr (fun _=>true) (t.up o s0) k
 | 0=>rfl
 | k+1=>by
  rw [SS,z4o k]
  simp only [if_true,List.getElem?_cons_succ]
  rfl
theorem zbg:∀(xs:List zk) (tr:List Tr) (s0 s':St),z3T E xs tr s0 s'->xs.length=tr.length/\
  (∀k o t,xs[k]?=some o->tr[k]?=some t->TrOk E o t (SS xs tr (fun _=>true) s0 k))/\SS xs tr (fun _=>true) s0 xs.length=s'
 | [],[],s0,s',h=>⟨rfl,fun k o t h1=>by simp at h1,h⟩
 | [],_::_,_,_,h=>h.elim
 | _::_,[],_,_,h=>h.elim
 | o::xs,t::tr,s0,s',h=>by
  obtain ⟨h1,h2⟩:=h
  obtain ⟨h3,h4,h5⟩:=zbg xs tr _ _ h2
  refine ⟨by simp [h3],fun k p u hp hu=>?_,by rw [llc,z4o];exact h5⟩
  cases k with
  | zero=>simp at hp hu;subst hp;subst hu;exact h1
  | succ k=>rw [z4o];exact h4 k p u (by simpa using hp) (by simpa using hu)
section
variable {xs:List zk} {tr:List Tr} {s0:St} (hfit:∀t∈tr,Fits t)
include hfit
theorem zaA {lst : Nat -> Bool} {j : Nat} {p : zk} {u : Tr} (hp : xs[j]? = some p) (hu : tr[j]? = some u) (hj : lst j = false)
    (h1 : ∀ i o t, i < j -> lst i = false -> xs[i]? = some o -> tr[i]? = some t -> Ind o t p u) (h2 : ∀ i o t, j < i -> lst i = true -> xs[i]? = some o -> tr[i]? = some t -> Ind o t p u) :
    ∀ k, (k <= j -> Agree p u (SS xs tr lst s0 k) (SS xs tr (fun _ => true) s0 k)) /\ (j <= k -> Agree p u (SS xs tr lst s0 k) (SS xs tr (fun _ => true) s0 j)) := by
  have a0 : ∀ k, k <= j -> Agree p u (SS xs tr lst s0 k) (SS xs tr (fun _ => true) s0 k) := by
    intro k
    induction k with
    | zero => intro _; exact ⟨fun _ _ => rfl, fun _ _ => rfl, rfl⟩
    | succ k ih =>
      intro hk
      have ih := ih (by omega)
      simp only [SS, if_true]
      cases hx : xs[k]? with
      | none => simp only []; split <;> exact ih
      | some o => cases ht : tr[k]? with
        | none => simp only []; split <;> exact ih
        | some t =>
          simp only []
          split
          · exact zcj ih
          · rename_i hl
            exact za1 (hfit t (List.mem_of_getElem? ht)) (h1 k o t (by omega) (by simpa using hl) hx ht) ih
  intro k
  refine ⟨a0 k, ?_⟩
  induction k with
  | zero => intro h; obtain rfl : j = 0 := by omega
            exact a0 0 (Nat.le_refl _)
  | succ k ih =>
    intro hk
    rcases Nat.lt_or_ge k j with h | h
    · obtain rfl : j = k + 1 := by omega
      exact a0 _ (Nat.le_refl _)
    · have ih := ih h
      simp only [SS]
      by_cases hkj : k = j
      · subst hkj; rw [hj]; exact ih
      · cases hx : xs[k]? with
        | none => simp only []; split <;> exact ih
        | some o => cases ht : tr[k]? with
          | none => simp only []; split <;> exact ih
          | some t =>
            simp only []
            split
            · rename_i hl
              exact z8t (hfit t (List.mem_of_getElem? ht)) (h2 k o t (by omega) hl hx ht) ih
            · exact ih
theorem zef {lst lst':Nat->Bool} {j:Nat} {p:zk} {u:Tr} (hp:xs[j]?=some p) (hu:tr[j]?=some u) (hj:lst j=false) (hj':lst' j=true) (hl:∀i,i≠j->lst' i=lst i)
  (h2:∀i o t,j<i->lst i=true->xs[i]?=some o->tr[i]?=some t->Ind o t p u):∀k,j<k->SS xs tr lst' s0 k=u.up p (SS xs tr lst s0 k):=by
 intro k
 induction k with
 | zero=>intro h;omega
 | succ k ih=>
  intro hk
  by_cases hkj:k=j
  ·subst hkj
   simp only [SS,hj,hj',hp,hu,if_true,Bool.false_eq_true,if_false]
   rw [z1o k fun i hi=>hl i (by omega)]
  ·have ih:=ih (by omega)
   simp only [SS,hl k hkj]
   rw [ih]
   split
   ·rename_i hlk
    cases hx:xs[k]? with
    | none=>simp only []
    | some o=>cases ht:tr[k]? with
     | none=>simp only []
     | some t=>
      simp only []
      exact zbE (hfit t (List.mem_of_getElem? ht)) (hfit u (List.mem_of_getElem? hu)) (h2 k o t (by omega) hlk hx ht) _
   ·rfl
end

theorem z5E {r w:List Nat}:Ap r w [] []:=⟨fun i _=>⟨by simp,by simp⟩,fun i h=>by simp at h⟩
theorem z5C {r w:List Nat}:Ap [] [] r w:=⟨fun i h=>by simp at h,fun i _=>⟨by simp,by simp⟩⟩
theorem z5v {chk r w:List Nat}:∀{lg:List (Nat × List Nat × List Nat)},chkL chk r w lg->∀q∈lg,q.1∈chk->Ap q.2.1 q.2.2 r w
 | [],_,q,hq=>by cases hq
 | (i,r1,w1)::lg,⟨h1,h2⟩,q,hq=>by
  rcases List.mem_cons.1 hq with rfl | hq
  ·exact h1
  ·exact z5v h2 q hq
theorem z1y:∀(l:List (zk × List Nat × Bool)) (i:Nat) (lg:List (Nat × List Nat × List Nat)) (tr:List Tr),z6O i lg l tr->
  (∀q∈lg,∀(b:Nat) (p:zk) (chk:List Nat) (keep:Bool) (u:Tr),l[b]?=some (p,chk,keep)->tr[b]?=some u->q.1∈chk->Ap q.2.1 q.2.2 u.rd u.wr)/\
  (∀(a b:Nat) (o:zk) (chk:List Nat) (keep:Bool) (t:Tr) (p:zk) (chk':List Nat) (keep':Bool) (u:Tr),a<b->l[a]?=some (o,chk,keep)->tr[a]?=some t->l[b]?=some (p,chk',keep')->tr[b]?=some u->keep=true->i+a∈chk'->Ap t.rd t.wr u.rd u.wr)
 | [],i,lg,[],_=>⟨fun q _ b p chk keep u h=>by simp at h,fun a b o chk keep t p chk' keep' u _ h=>by simp at h⟩
 | [],_,_,_::_,h=>h.elim
 | _::_,_,_,[],h=>h.elim
 | (o,chk,keep)::l,i,lg,t::tr,⟨h1,h2⟩=>by
  have hrest:(∀q∈lg,∀(b:Nat) (p:zk) (chk:List Nat) (keep:Bool) (u:Tr),l[b]?=some (p,chk,keep)->tr[b]?=some u->q.1∈chk->Ap q.2.1 q.2.2 u.rd u.wr)/\
    (∀(a b:Nat) (o:zk) (chk:List Nat) (keep:Bool) (t:Tr) (p:zk) (chk':List Nat) (keep':Bool) (u:Tr),a<b->l[a]?=some (o,chk,keep)->tr[a]?=some t->l[b]?=some (p,chk',keep')->tr[b]?=some u->keep=true->(i+1)+a∈chk'->Ap t.rd t.wr u.rd u.wr)/\
    (∀(b:Nat) (p:zk) (chk':List Nat) (keep':Bool) (u:Tr),l[b]?=some (p,chk',keep')->tr[b]?=some u->keep=true->i∈chk'->Ap t.rd t.wr u.rd u.wr):=by
   rcases h2 with ⟨hw,hr,h2⟩ | h2
   ·obtain ⟨h3,h4⟩:=z1y l _ _ tr h2
    exact ⟨h3,h4,fun b p chk' keep' u _ _ _ _=>by rw [hw,hr];exact z5C⟩
   ·obtain ⟨h3,h4⟩:=z1y l _ _ tr h2
    cases hk:keep with
    | false=>
     rw [hk] at h3
     exact ⟨h3,h4,fun b p chk' keep' u _ _ hkk=>by cases hkk⟩
    | true=>
     rw [hk] at h3
     exact ⟨fun q hq=>h3 q (List.mem_cons_of_mem _ hq),h4,fun b p chk' keep' u hb hu _ hi=>h3 _ List.mem_cons_self b p chk' keep' u hb hu hi⟩
  obtain ⟨r1,r2,r3⟩:=hrest
  refine ⟨fun q hq b p chk' keep' u hb hu hi=>?_,fun a b o' chk1 keep1 t' p chk' keep' u hab ha hta hb hu hk hi=>?_⟩
  ·cases b with
   | zero=>
    simp only [List.getElem?_cons_zero,sij,Prod.mk.injEq] at hb hu
    obtain ⟨rfl,rfl,rfl⟩:=hb;subst hu
    rcases h1 with ⟨hw,hr⟩ | h1
    ·rw [hw,hr];exact z5E
    ·exact z5v h1 q hq hi
   | succ b=>exact r1 q hq b p chk' keep' u (by simpa using hb) (by simpa using hu) hi
  ·cases b with
   | zero=>omega
   | succ b=>
    have hb':l[b]?=some (p,chk',keep'):=by simpa using hb
    have hu':tr[b]?=some u:=by simpa using hu
    cases a with
    | zero=>
     simp only [List.getElem?_cons_zero,sij,Prod.mk.injEq] at ha hta
     obtain ⟨rfl,rfl,rfl⟩:=ha;subst hta
     exact r3 b p chk' keep' u hb' hu' hk (by simpa using hi)
    | succ a=>exact r2 a b o' chk1 keep1 t' p chk' keep' u (by omega) (by simpa using ha) (by simpa using hta) hb' hu' hk (by rw [Nat.add_assoc,Nat.add_comm 1 a];exact hi)
structure zdE (ops:Array Oper) (xs:List (zk × List Nat × Bool)):Prop where
 len:xs.length=ops.size
 rk:∀x∈xs,x.1.op.rk<4
 topo:∀(j:Nat) (o:Oper),ops[j]?=some o->∀e∈o.after,Region.binds .any e=true->e.on<j
 pair:∀(i j:Nat) (o:zk) (chk:List Nat) (keep:Bool) (p:zk) (chk':List Nat) (keep':Bool),i<j->xs[i]?=some (o,chk,keep)->xs[j]?=some (p,chk',keep')->j∈WI ops i\/
  (ninO o.dst p.rds=true/\ninO p.dst o.rds=true/\neO o.dst p.dst=true/\(racy o p=true->keep=true/\i∈chk'))
theorem z90 {ops:Array Oper} {xs:List (zk × List Nat × Bool)} (h:zaj ops xs=true):zdE ops xs:=by
 unfold zaj at h
 simp only [Bool.and_eq_true,beq_iff_eq,List.all_eq_true,decide_eq_true_eq,List.mem_range] at h
 obtain ⟨⟨⟨h1,h2⟩,h3⟩,h4⟩:=h
 refine ⟨h2,h1,fun j o ho e he hb=>?_,fun i j o chk keep p chk' keep' hij hi hj=>?_⟩
 ·have:=h3 j (Array.getElem?_eq_some_iff.1 ho).1
  rw [ho] at this
  simp only at this
  rw [Array.all_eq_true] at this
  obtain ⟨k,hk,rfl⟩:=Array.mem_iff_getElem.1 he
  have:=this k hk
  rw [hb] at this
  simpa using this
 ·have hjl:j<ops.size:=by rw [<-h2];exact zf hj
  have:=h4 i (by omega) j hjl
  rw [hi,hj] at this
  simp only [Bool.or_eq_true,Bool.not_eq_true',decide_eq_false_iff_not,List.contains_eq_mem,decide_eq_true_eq,Bool.and_eq_true] at this
  rcases this with (h5 | h5) | ⟨⟨⟨h5,h6⟩,h7⟩,h8⟩
  ·omega
  ·exact .inl h5
  ·refine .inr ⟨h5,h6,h7,fun hr=>?_⟩
   rcases h8 with h8 | h8
   ·rw [hr] at h8;cases h8
   ·exact h8
end
end Go.X
end
