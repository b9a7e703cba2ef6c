/- Parts of the proof: XDraw, XResv, XAny. -/
import Derived.Test.YtnmhhmbeljlndaaGreatDoorXP4
import Derived.Orders
set_option linter.unusedVariables false
set_option linter.unusedSimpArgs false
set_option linter.unusedSectionVars false
section
namespace Go.X
open Go
section
variable {E:Env} {ρ ρ':Rho} {L:List Blk} {KV:IV->List Blk->Prop}
def Zo (E:Env) (o:zq) (ρ:Rho) (L:List Blk) (KV:IV->List Blk->Prop):Prop:=
 match o.guard with
 | none=>xop E o.op (Opd.ev ρ) L KV
 | some (t,want)=>match ρ t with
  | .bool b=>(b=want->xop E o.op (Opd.ev ρ) L KV)/\(b≠want->KV .und L)
  | .und=>KV .und L
  | _=>False
theorem Jn {o:zq} {r:List zq} {K:Rho->List Blk->Prop}:Wp E (o::r) ρ L K=Zo E o ρ L fun v L'=>Wp E r (put ρ o.dst v) L' K:=by
 simp only [Wp,Zo]
 cases o.guard with
 | none=>rfl
 | some p=>simp only;cases ρ p.1<;>rfl
theorem z9E {o:zq} (h:∀n∈o.rds,ρ n=ρ' n):Zo E o ρ L KV=Zo E o ρ' L KV:=by
 obtain ⟨d,op,g⟩:=o
 have h1:xop E op (Opd.ev ρ) L KV=xop E op (Opd.ev ρ') L KV:=z8o fun n b=>h n (by simp [zq.rds,b])
 cases g with
 | none=>simp only [Zo,h1]
 | some p=>
  obtain ⟨t,w⟩:=p
  simp only [Zo,h1,h t (by simp [zq.rds])]
theorem ziS {o:zq} (m:o.op.kd=0) (h:Zo E o ρ L KV):∃r,KV r L/\∀(L':List Blk) (K':IV->List Blk->Prop),K' r L'->Zo E o ρ L' K':=by
 obtain ⟨d,op,g⟩:=o
 cases g with
 | none=>exact z5H m h
 | some p=>
  obtain ⟨t,w⟩:=p
  simp only [Zo] at h ⊢
  split at h
  ·rename_i b q
   by_cases hw:b=w
   ·obtain ⟨r,h1,h2⟩:=z5H m (h.1 hw)
    exact ⟨r,h1,fun L' K' j=>⟨fun _=>h2 L' K' j,fun l=>absurd hw l⟩⟩
   ·exact ⟨.und,h.2 hw,fun L' K' j=>⟨fun l=>absurd l hw,fun _=>j⟩⟩
  ·exact ⟨.und,h,fun _ _ j=>j⟩
  ·exact h.elim
theorem ziv {o:zq} (m:o.op.kd=1) (h:Zo E o ρ L KV):∃r,KV r L/\(∀K':IV->List Blk->Prop,K' r L->Zo E o ρ L K')/\∀(b:Blk) (K':IV->List Blk->Prop),K' r (L++[b])->Zo E o ρ (L++[b]) K':=by
 obtain ⟨d,op,g⟩:=o
 cases g with
 | none=>exact z9R m h
 | some p=>
  obtain ⟨t,w⟩:=p
  simp only [Zo] at h ⊢
  split at h
  ·rename_i b s
   by_cases hw:b=w
   ·obtain ⟨r,h1,h2,q⟩:=z9R m (h.1 hw)
    exact ⟨r,h1,fun K' j=>⟨fun _=>h2 K' j,fun l=>absurd hw l⟩,fun b K' j=>⟨fun _=>q b K' j,fun l=>absurd hw l⟩⟩
   ·exact ⟨.und,h.2 hw,fun K' j=>⟨fun l=>absurd l hw,fun _=>j⟩,fun _ K' j=>⟨fun l=>absurd l hw,fun _=>j⟩⟩
  ·exact ⟨.und,h,fun _ j=>j,fun _ _ j=>j⟩
  ·exact h.elim
theorem zj2 {o:zq} (m:o.op.kd=2) (h:Zo E o ρ L KV):∃r L',(L'=L\/∃b,L'=L++[b])/\KV r L'/\∀K':IV->List Blk->Prop,K' r L'->Zo E o ρ L K':=by
 obtain ⟨d,op,g⟩:=o
 cases g with
 | none=>obtain ⟨r,b,h1,h2⟩:=z9r m h;exact ⟨r,_,.inr ⟨b,rfl⟩,h1,h2⟩
 | some p=>
  obtain ⟨t,w⟩:=p
  simp only [Zo] at h ⊢
  split at h
  ·rename_i b q
   by_cases hw:b=w
   ·obtain ⟨r,b,h1,h2⟩:=z9r m (h.1 hw)
    exact ⟨r,_,.inr ⟨b,rfl⟩,h1,fun K' j=>⟨fun _=>h2 K' j,fun l=>absurd hw l⟩⟩
   ·exact ⟨.und,L,.inl rfl,h.2 hw,fun K' j=>⟨fun l=>absurd l hw,fun _=>j⟩⟩
  ·exact ⟨.und,L,.inl rfl,h,fun _ j=>j⟩
  ·exact h.elim
theorem zfK {o:zq} (m:o.op.kd<4) (h:Zo E o ρ L KV):∃r L',KV r L'/\∀K':IV->List Blk->Prop,K' r L'->Zo E o ρ L K':=by
 obtain ⟨d,op,g⟩:=o
 cases g with
 | none=>exact z8n m h
 | some p=>
  obtain ⟨t,w⟩:=p
  simp only [Zo] at h ⊢
  split at h
  ·rename_i b q
   by_cases hw:b=w
   ·obtain ⟨r,L',h1,h2⟩:=z8n m (h.1 hw)
    exact ⟨r,L',h1,fun K' j=>⟨fun _=>h2 K' j,fun l=>absurd hw l⟩⟩
   ·exact ⟨.und,L,h.2 hw,fun K' j=>⟨fun l=>absurd l hw,fun _=>j⟩⟩
  ·exact ⟨.und,L,h,fun _ j=>j⟩
  ·exact h.elim
theorem z1u {o:zq} {K':IV->List Blk->Prop} (b:∀v L',KV v L'->K' v L') (h:Zo E o ρ L KV):Zo E o ρ L K':=by
 obtain ⟨d,op,g⟩:=o
 cases g with
 | none=>exact YM b h
 | some p=>
  obtain ⟨t,w⟩:=p
  simp only [Zo] at h ⊢
  split at h
  ·exact ⟨fun j=>YM b (h.1 j),fun j=>b _ _ (h.2 j)⟩
  ·exact b _ _ h
  ·exact h.elim
theorem Jt {d:Option Nat} {v:IV} {l:List Nat} (h:z6D d l=true):∀n∈l,put ρ d v n=ρ n:=by
 intro n j
 cases d with
 | none=>rfl
 | some d=>
  simp only [put]
  rw [if_neg]
  intro b;subst b
  simp only [z6D,Bool.not_eq_true',List.contains_eq_mem] at h
  simp [j] at h
theorem put_comm {d b:Option Nat} {v u:IV} (h:neO d b=true):put (put ρ d v) b u=put (put ρ b u) d v:=by
 cases d with
 | none=>rfl
 | some d=>cases b with
  | none=>rfl
  | some b=>
   simp only [neO,Bool.not_eq_true',beq_eq_false_iff_ne,ne_eq] at h
   funext n
   simp only [put]
   by_cases h1:n=b
   ·subst h1;simp [Ne.symm h]
   ·simp [h1]
def sOp (E:Env) (xs:List zq) (i:Nat) (KK:Rho->List Blk->Prop) (ρ:Rho) (L:List Blk):Prop:=
 match xs[i]? with
 | none=>KK ρ L
 | some o=>Zo E o ρ L fun v L'=>KK (put ρ o.dst v) L'
def zbn (E:Env) (ops:Array Oper) (xs:List zq) (K:Rho->List Blk->Prop):Nat->Array Bool->Rho->List Blk->Prop
 | 0,listed,ρ,L=>Region.ready .any ops listed=[]/\K ρ L
 | n+1,listed,ρ,L=>(Region.ready .any ops listed=[]->K ρ L)/\∀i∈Region.ready .any ops listed,sOp E xs i (zbn E ops xs K n (listed.setIfInBounds i true)) ρ L
structure zaS (ops:Array Oper) (i:Nat) (W:Nat->Prop):Prop where
 self:W i
 edge:∀j,W j->j≠i->∃o e,ops[j]?=some o/\e∈o.after/\Region.binds .any e=true/\W e.on
theorem wZ (ops:Array Oper) (i:Nat):zaS ops i (fun j=>j∈vS ops i):=by
 unfold vS
 have key:∀(l:List Nat) (b:List Nat),zaS ops i (fun j=>j∈b)->zaS ops i (fun j=>j∈l.foldl (fun b j=>if ((ops[j]?).map fun o=>o.after.any fun e=>Region.binds .any e&&b.contains e.on).getD false then j::b else b) b):=by
  intro l
  induction l with
  | nil=>intro b h;exact h
  | cons x l q=>
   intro b h
   rw [List.foldl_cons]
   refine q _ ?_
   split
   ·rename_i d
    refine ⟨List.mem_cons_of_mem _ h.self,fun j p m=>?_⟩
    rcases List.mem_cons.1 p with rfl | p
    ·cases ho:ops[j]? with
     | none=>rw [ho] at d;cases d
     | some o=>
      rw [ho] at d
      simp only [Option.map_some,Option.getD_some] at d
      rw [Array.any_eq_true] at d
      obtain ⟨k,r,d⟩:=d
      simp only [Bool.and_eq_true,List.contains_eq_mem,decide_eq_true_eq] at d
      exact ⟨o,o.after[k],rfl,Array.getElem_mem r,d.1,List.mem_cons_of_mem _ d.2⟩
    ·obtain ⟨o,e,h1,h2,u,s⟩:=h.edge j p m
     exact ⟨o,e,h1,h2,u,List.mem_cons_of_mem _ s⟩
   ·exact h
 exact key _ _ ⟨by simp,fun j p m=>by simp at p;exact absurd p m⟩
theorem Vj (o:XO):(∃sz z n ps,o=.bslice sz z n ps)\/o.kd2=o.kd:=by
 cases o<;>first | exact .inr rfl | exact .inl ⟨_,_,_,_,rfl⟩
theorem zcT {o:zq} (d:o.op.kd2=0) (h:Zo E o ρ L KV):∃r,KV r L/\∀(L':List Blk) (K':IV->List Blk->Prop),K' r L'->Zo E o ρ L' K':=by
 rcases Vj o.op with ⟨sz,z,n,ps,b⟩ | b
 ·rw [b] at d;simp [XO.kd2] at d
 ·exact ziS (b▸d) h
theorem zcV {o:zq} (d:o.op.kd2=1) (h:Zo E o ρ L KV):∃r,KV r L/\(∀K':IV->List Blk->Prop,K' r L->Zo E o ρ L K')/\∀(b:Blk) (K':IV->List Blk->Prop),K' r (L++[b])->Zo E o ρ (L++[b]) K':=by
 rcases Vj o.op with ⟨sz,z,n,ps,j⟩ | j
 ·rw [j] at d;simp [XO.kd2] at d
 ·exact ziv (j▸d) h
theorem zaQ {E:Env} {L:List Blk} {KV:IV->List Blk->Prop} {sz n:Nat} {z:List IV} {ps:List (Nat × Opd)} {e:Opd->IV} (h:xop E (.bslice sz z n ps) e L KV):∃r b,KV r (L++[b])/\∀K':IV->List Blk->Prop,K' r (L++[b])->xop E (.bslice sz z n ps) e L K':=by
 simp only [xop] at h ⊢
 obtain ⟨h1,h⟩:=h
 split at h
 ·rename_i rows j
  exact ⟨_,_,h,fun K' d=>⟨h1,by first | exact d | (rw [j];exact d)⟩⟩
 ·exact h.elim
theorem zcU {o:zq} {sz n:Nat} {z:List IV} {ps:List (Nat × Opd)} (m:o.op=.bslice sz z n ps) (h:Zo E o ρ L KV):∃r L',(L'=L\/∃b,L'=L++[b])/\KV r L'/\∀K':IV->List Blk->Prop,K' r L'->Zo E o ρ L K':=by
 obtain ⟨d,op,g⟩:=o
 simp only at m
 subst m
 cases g with
 | none=>obtain ⟨r,b,h1,h2⟩:=zaQ (E:=E) h;exact ⟨r,_,.inr ⟨b,rfl⟩,h1,h2⟩
 | some p=>
  obtain ⟨t,w⟩:=p
  simp only [Zo] at h ⊢
  split at h
  ·rename_i b q
   by_cases hw:b=w
   ·obtain ⟨r,b,h1,h2⟩:=zaQ (E:=E) (h.1 hw)
    exact ⟨r,_,.inr ⟨b,rfl⟩,h1,fun K' j=>⟨fun _=>h2 K' j,fun l=>absurd hw l⟩⟩
   ·exact ⟨.und,L,.inl rfl,h.2 hw,fun K' j=>⟨fun l=>absurd l hw,fun _=>j⟩⟩
  ·exact ⟨.und,L,.inl rfl,h,fun _ j=>j⟩
  ·exact h.elim
theorem zgk {o:zq} (j:o.op.kd2=2) (h:Zo E o ρ L KV):∃r L',(L'=L\/∃b,L'=L++[b])/\KV r L'/\∀K':IV->List Blk->Prop,K' r L'->Zo E o ρ L K':=by
 rcases Vj o.op with ⟨sz,z,n,ps,d⟩ | d
 ·exact zcU d h
 ·exact zj2 (d▸j) h
theorem zdZ {o:zq} (d:o.op.kd2<4) (h:Zo E o ρ L KV):∃r L',KV r L'/\∀K':IV->List Blk->Prop,K' r L'->Zo E o ρ L K':=by
 rcases Vj o.op with ⟨sz,z,n,ps,b⟩ | b
 ·obtain ⟨r,L',_,h1,h2⟩:=zcU b h
  exact ⟨r,L',h1,h2⟩
 ·exact zfK (b▸d) h
theorem zcs {oi d:zq} {v:IV} {Li:List Blk} {KK:Rho->List Blk->Prop} (p:zdl oi d=true) (I:∀KV:IV->List Blk->Prop,KV v Li->Zo E oi ρ L KV)
  (h:Zo E d (put ρ oi.dst v) Li fun u L'=>KK (put (put ρ oi.dst v) d.dst u) L') :
  Zo E d ρ L fun u L'=>∃Li',(∀KV:IV->List Blk->Prop,KV v Li'->Zo E oi (put ρ d.dst u) L' KV)/\KK (put (put ρ d.dst u) oi.dst v) Li':=by
 simp only [zdl,Bool.and_eq_true] at p
 obtain ⟨⟨⟨S,R⟩,T⟩,m⟩:=p
 simp only [zf6,Bool.and_eq_true,Bool.or_eq_true,decide_eq_true_eq,beq_iff_eq] at m
 rw [z9E (ρ':=ρ) (fun n A=>Jt S n A)] at h
 have Q:∀u L' KV,Zo E oi (put ρ d.dst u) L' KV=Zo E oi ρ L' KV:=fun u L' KV=>z9E fun n A=>Jt R n A
 simp only [put_comm T] at h
 simp only [Q]
 have l:=I (fun r L'=>r=v/\L'=Li) ⟨rfl,rfl⟩
 by_cases hi0:oi.op.kd2=0
 ·obtain ⟨r,⟨rfl,rfl⟩,h2⟩:=zcT hi0 l
  exact z1u (fun u L' j=>⟨L',fun KV m=>h2 L' KV m,j⟩) h
 obtain ⟨⟨J,O⟩,m⟩:=m.resolve_left hi0
 by_cases hj0:d.op.kd2=0
 ·obtain ⟨u,h1,h2⟩:=zcT hj0 h
  exact h2 L _ ⟨Li,I,h1⟩
 obtain ⟨B,M⟩:oi.op.kd2=1/\d.op.kd2<3:=by omega
 obtain ⟨r,⟨rfl,rfl⟩,h2,w⟩:=zcV B l
 have q:d.op.kd2=1\/d.op.kd2=2:=by omega
 rcases q with D | D
 ·obtain ⟨u,j,s,_⟩:=zcV D h
  exact s _ ⟨_,h2,j⟩
 ·obtain ⟨u,L',G,j,s⟩:=zgk D h
  rcases G with rfl | ⟨b,rfl⟩
  ·exact s _ ⟨_,h2,j⟩
  ·exact s _ ⟨_,w b,j⟩
theorem z4V {ops:Array Oper} {xs:List zq} {K:Rho->List Blk->Prop} {i:Nat} {oi:zq} {v:IV} (I:xs.length=ops.size) (hi:xs[i]?=some oi) {W:Nat->Prop} (hW:zaS ops i W) :
  ∀(fuel:Nat) (d:Array Bool) (ρ:Rho) (L Li:List Blk),(∀j,W j->d.getD j true=false)->
   (∀j w,xs[j]?=some w->j≠i->d.getD j true=false->¬W j->zdl oi w=true)->
   i∈Region.ready .any ops d->(∀KV:IV->List Blk->Prop,KV v Li->Zo E oi ρ L KV)->
   zbn E ops xs K fuel (d.setIfInBounds i true) (put ρ oi.dst v) Li->zbn E ops xs K (fuel+1) d ρ L:=by
 intro fuel
 induction fuel with
 | zero=>
  intro d ρ L Li _ _ s S H
  refine ⟨fun h=>(by rw [h] at s;cases s),fun j Q=>?_⟩
  by_cases hji:j=i
  ·subst hji;simp only [sOp,hi];exact S _ H
  ·have:=ready_mono Q hji
   rw [H.1] at this
   cases this
 | succ fuel Z=>
  intro d ρ L Li D l s S H
  refine ⟨fun h=>(by rw [h] at s;cases s),fun j Q=>?_⟩
  by_cases hji:j=i
  ·subst hji;simp only [sOp,hi];exact S _ H
  ·have h1:=H.2 j (ready_mono Q hji)
   obtain ⟨p,ae,q,B⟩:=mem_ready.1 Q
   have A:¬W j:=fun hw=>by
    obtain ⟨o,e,h2,X,U,h5⟩:=hW.edge j hw hji
    rw [q] at h2
    obtain rfl:=Option.some.inj h2
    have O:=B e X U
    have r:=D _ h5
    rw [Array.getD_eq_getD_getElem?] at O r
    cases hx:d[e.on]? with
    | none=>rw [hx] at r;cases r
    | some b=>rw [hx] at O r;simp at O r;rw [O] at r;cases r
   have G:j<xs.length:=by rw [I];exact (Array.getElem?_eq_some_iff.1 q).1
   obtain ⟨w,M⟩:∃w,xs[j]?=some w:=⟨_,List.getElem?_eq_getElem G⟩
   simp only [sOp,M] at h1 ⊢
   have V:=l j w M hji p A
   have h2:=zcs V S h1
   refine z1u (fun u L' ⟨Li',X,U⟩=>?_) h2
   refine Z (d.setIfInBounds j true) _ _ Li' (fun k R=>?_) (fun k ok R T J Y=>?_) (ready_mono s (Ne.symm hji)) X ?_
   ·have m:j≠k:=fun h=>A (h▸R)
    rw [Go.getD_set_ne true m];exact D k R
   ·refine l k ok R T ?_ Y
    by_cases m:j=k
    ·subst m;exact p
    ·rw [Go.getD_set_ne true m] at J;exact J
   ·rw [Array.setIfInBounds_comm _ _ hji]
    exact U
theorem z9P {ops:Array Oper} {xs:List zq} {K:Rho->List Blk->Prop} {k:Nat} {o:zq} (h0:xs[k]?=some o) {W:Nat->Prop} (hW:zaS ops k W):∀(fuel:Nat) (R:List Nat) (l:Array Bool) (ρ:Rho) (L:List Blk),
  R.length<=fuel->(∀j,W j->l.getD j true=false)->(∀j oj,ops[j]?=some oj->j≠k->l.getD j true=false->¬W j->j∈R/\∃p,xs[j]?=some p/\xmv o p=true)->k∈Region.ready .any ops l->
  Zo E o ρ L (fun v L'=>zbn E ops xs K fuel (l.setIfInBounds k true) (put ρ o.dst v) L')->zbn E ops xs K (fuel+1) l ρ L:=by
 intro fuel
 induction fuel with
 | zero=>
  intro R l ρ L T G r Q h
  refine ⟨fun h=>(by rw [h] at Q;cases Q),fun j X=>?_⟩
  by_cases hjk:j=k
  ·subst hjk;simp only [sOp,h0];exact h
  ·exfalso
   obtain ⟨m,M,s,w⟩:=mem_ready.1 X
   have A:¬W j:=fun hw=>by
    obtain ⟨o',e,h2,U,S,h5⟩:=hW.edge j hw hjk
    rw [s] at h2
    obtain rfl:=Option.some.inj h2
    have D:=w e U S
    have u:=G _ h5
    rw [Array.getD_eq_getD_getElem?] at D u
    cases J:l[e.on]? with
    | none=>rw [J] at u;cases u
    | some b=>rw [J] at D u;simp at D u;rw [D] at u;cases u
   obtain ⟨h1,_⟩:=r j M s hjk m A
   cases R with
   | nil=>cases h1
   | cons=>simp at T
 | succ fuel ih=>
  intro R l ρ L T G r Q h
  refine ⟨fun h=>(by rw [h] at Q;cases Q),fun j X=>?_⟩
  by_cases hjk:j=k
  ·subst hjk;simp only [sOp,h0];exact h
  ·obtain ⟨m,M,s,w⟩:=mem_ready.1 X
   have A:¬W j:=fun hw=>by
    obtain ⟨o',e,h2,U,S,h5⟩:=hW.edge j hw hjk
    rw [s] at h2
    obtain rfl:=Option.some.inj h2
    have D:=w e U S
    have u:=G _ h5
    rw [Array.getD_eq_getD_getElem?] at D u
    cases J:l[e.on]? with
    | none=>rw [J] at u;cases u
    | some b=>rw [J] at D u;simp at D u;rw [D] at u;cases u
   obtain ⟨Y,p,hp,O⟩:=r j M s hjk m A
   have ai:=O
   simp only [xmv,Bool.and_eq_true] at O
   obtain ⟨⟨⟨d1,d2⟩,d3⟩,hm⟩:=O
   obtain ⟨x,J,hg⟩:∃x,p.op=.mov x/\p.guard=none:=by
    obtain ⟨d,op,g⟩:=p
    cases op<;>first | (simp at hm;done) | skip
    cases g with
    | none=>exact ⟨_,rfl,rfl⟩
    | some q=>simp at hm
   have V:∀(ρ:Rho) (L:List Blk) (KV:IV->List Blk->Prop),Zo E p ρ L KV=KV (Opd.ev ρ x) L:=fun ρ L KV=>by simp only [Zo,hg,J,xop]
   simp only [sOp,hp,V]
   have ag:∀v,Opd.ev (put ρ o.dst v) x=Opd.ev ρ x:=fun v=>by
    cases x with
    | t n=>exact Jt d1 n (by simp [zq.rds,J,XO.us,Opd.us])
    | _=>rfl
   refine ih (R.erase j) _ _ _ (by rw [List.length_erase_of_mem Y];omega) (fun i hi=>?_) (fun i oi af ae I ah=>?_) (ready_mono Q (Ne.symm hjk)) ?_
   ·have B:j≠i:=fun h=>A (h▸hi)
    rw [Go.getD_set_ne true B];exact G i hi
   ·have B:j≠i:=by
     rintro rfl
     have Z:j<l.size:=by
      rw [Array.getD_eq_getD_getElem?] at m
      cases hx2:l[j]? with
      | none=>rw [hx2] at m;cases m
      | some b=>exact (Array.getElem?_eq_some_iff.1 hx2).1
     rw [Array.getD_eq_getD_getElem?,Array.getElem?_setIfInBounds_self_of_lt Z] at I
     cases I
    rw [Go.getD_set_ne true B] at I
    obtain ⟨h1,h2⟩:=r i oi af ae I ah
    exact ⟨(List.mem_erase_of_ne (Ne.symm B)).2 h1,h2⟩
   ·rw [<-z9E (ρ:=ρ) (fun n hn=>(Jt d2 n hn).symm)]
    refine z1u (fun v L' U=>?_) h
    have S:=U.2 j (ready_mono X hjk)
    simp only [sOp,hp,V,ag] at S
    rw [Array.setIfInBounds_comm _ _ hjk,<-put_comm d3]
    exact S
theorem JM {ops:Array Oper} {xs:List zq} {K:Rho->List Blk->Prop} (q:xs.length=ops.size):∀(l:List zq) (k:Nat) (b:Array Bool) (ρ:Rho) (L:List Blk),(∀j,l[j]?=xs[k+j]?)->(∀j,j<k->b.getD j true=true)->
  JD ops xs l.length k b=true->Wp E l ρ L K->zbn E ops xs K l.length b ρ L
 | [],_,_,_,_,_,_,hB,h=>⟨by simpa [JD] using hB,h⟩
 | o::l,k,b,ρ,L,hl,hk0,hB,h=>by
  have Q:xs[k]?=some o:=by simpa using (hl 0).symm
  simp only [llc,JD,Bool.and_eq_true] at hB
  obtain ⟨V,U,M⟩:=hB
  rw [Jn] at h
  simp only [z9B,Bool.and_eq_true,List.all_eq_true] at U
  obtain ⟨I,D⟩:=U
  have G:∀j,l[j]?=xs[k+1+j]?:=fun j=>by have:=hl (j+1);simpa [Nat.add_assoc,Nat.add_comm 1 j] using this
  have J:k∈Region.ready .any ops b:=by simpa using V
  have O:∀j,j<k+1->(b.setIfInBounds k true).getD j true=true:=fun j u=>by
   by_cases r:k=j
   ·subst r
    rw [Array.getD_eq_getD_getElem?]
    by_cases hlt:k<b.size
    ·rw [Array.getElem?_setIfInBounds_self_of_lt hlt];rfl
    ·rw [Array.getElem?_eq_none (by simp;omega)];rfl
   ·rw [Go.getD_set_ne true r];exact hk0 j od
  by_cases hk4:o.op.kd2<4
  ·obtain ⟨v,Li,h1,h2⟩:=zdZ hk4 h
   refine z4V q Q (wZ ops k) l.length b ρ L Li (fun j u=>by simpa using I j u) (fun j S u r w B=>?_) J h2
    (JM q l (k+1) _ _ _ G O M h1)
   have m:=D j (by rw [List.mem_range,<-q];exact zf u)
   simp only [Bool.or_eq_true,beq_iff_eq,List.contains_eq_mem,decide_eq_true_eq,Q,u] at m
   rcases m with ((m | m) | m) | m
   ·exact absurd m r
   ·rw [w] at m;cases m
   ·exact absurd m B
   ·rcases m with m | m
    ·exact m
    ·simp only [xmv,Bool.and_eq_true] at m
     obtain ⟨m,s⟩:=m
     simp only [zdl,Bool.and_eq_true]
     refine ⟨m,?_⟩
     have R:S.op.kd2=0:=by
      obtain ⟨d,op,g⟩:=S
      cases op<;>first | (simp at s;done) | rfl
     simp only [zf6,R]
     simp [hk4]
  ·refine z9P Q (wZ ops k) l.length (List.range' (k+1) l.length) b ρ L (by simp) (fun j u=>by simpa using I j u) (fun j S u r w B=>?_) J (z1u (fun v L' h1=>JM q l (k+1) _ _ _ G O M h1) h)
   have A:j<xs.length:=by rw [q];exact (Array.getElem?_eq_some_iff.1 u).1
   obtain ⟨p,T⟩:∃p,xs[j]?=some p:=⟨_,List.getElem?_eq_getElem A⟩
   have m:=D j (by rw [List.mem_range,<-q];exact A)
   simp only [Bool.or_eq_true,beq_iff_eq,List.contains_eq_mem,decide_eq_true_eq,Q,T] at m
   have X:k<j:=by
    rcases Nat.lt_trichotomy j k with s | s | s
    ·have:=hk0 j s;rw [w] at this;cases this
    ·exact absurd s r
    ·exact s
   refine ⟨?_,p,T,?_⟩
   ·rw [List.mem_range'_1]
    have s:=hl (j - k)
    rw [show k+(j - k)=j by omega,T] at s
    have R:=zf s
    simp only [llc] at R
    omega
   ·rcases m with ((m | m) | m) | m
    ·exact absurd m r
    ·rw [w] at m;cases m
    ·exact absurd m B
    ·rcases m with m | m
     ·simp only [zdl,zf6,Bool.and_eq_true,Bool.or_eq_true,beq_iff_eq,decide_eq_true_eq] at m
      omega
     ·exact m
theorem zj8 {o p:zq} (h:xap o p=true):zdl o p=true:=by
 simp only [xap,zdl,Bool.and_eq_true] at h ⊢
 refine ⟨h.1,?_⟩
 have h2:=h.2
 have e1:∀q:XO,q.kd2=q.kd\/(q.kd=4/\q.kd2=2):=fun q=>by
  cases q<;>first | exact .inl rfl | exact .inr ⟨rfl,rfl⟩
 simp only [zf6,Bool.or_eq_true,Bool.and_eq_true,beq_iff_eq,decide_eq_true_eq] at h2 ⊢
 rcases e1 o.op with d | ⟨d,l⟩<;>rcases e1 p.op with b | ⟨b,j⟩<;>omega
theorem za9 {ops:Array Oper} {xs:List zq}:∀(f k:Nat) (b:Array Bool),z8y ops xs f k b=true->JD ops xs f k b=true
 | 0,_,_,h=>h
 | f+1,k,b,h=>by
  simp only [z8y,JD,Bool.and_eq_true] at h ⊢
  refine ⟨h.1,?_,za9 f _ _ h.2.2⟩
  have h1:=h.2.1
  simp only [zg7,z9B,Bool.and_eq_true,List.all_eq_true] at h1 ⊢
  refine ⟨h1.1,fun j d=>?_⟩
  have h2:=h1.2 j d
  rw [Bool.or_eq_true] at h2 ⊢
  rcases h2 with h2 | h2
  ·exact .inl h2
  ·refine .inr ?_
   split at h2
   ·rename_i o p _ _
    rw [zj8 h2];rfl
   ·cases h2
theorem JJ {ops:Array Oper} {xs:List zq} (h:z8w ops xs=true):zaH ops xs=true:=za9 _ _ _ h
end
section
variable {E:Env} {e:Opd->IV} {L:List Blk} {K:IV->List Blk->Prop}
def jP (sz bytes:Nat) (s x:IV) (g:Nat) (L:List Blk) (K:IV->List Blk->Prop):Prop:=
 match rowsOf L x with
 | none=>False
 | some rs=>yz sz rs/\
  match s with
  | .nsl | .esl=>(rs=[]->K s L)/\(rs≠[]->L[g]?=some .unborn/\rs.length*bytes<=70368744177664/\K (.sl g 0 rs.length rs.length) (L.set g (.cells sz rs)))
  | .sl t off len cap=>match L[t]? with
   | some (.cells sz' rows)=>sz'=sz/\off+cap<=rows.length/\
    if len+rs.length<=cap then K (.sl t off (len+rs.length) cap) (L.set t (.cells sz (splice rows (off+len) rs)))
    else L[g]?=some .unborn/\(len+rs.length)*bytes<=70368744177664/\
     K (.sl g 0 (len+rs.length) (len+rs.length)) ((L.set t .dead).set g (.cells sz ((rows.drop off).take len++rs)))
   | _=>False
  | _=>False
def wB (ty bytes:Nat) (s x:IV) (g:Nat) (L:List Blk) (K:IV->List Blk->Prop):Prop:=
 match rowsOf L x with
 | none=>False
 | some rs=>yz 1 rs/\
  match s with
  | .nsl=>(rs=[]->K s L)/\(rs≠[]->L[g]?=some .unborn/\rs.length*bytes<=70368744177664/\K (.sl g 0 rs.length rs.length) (L.set g (.tcells ty 1 rs)))
  | .raw (.slice none 0 0)=>(rs=[]->K s L)/\(rs≠[]->L[g]?=some .unborn/\rs.length*bytes<=70368744177664/\K (.sl g 0 rs.length rs.length) (L.set g (.tcells ty 1 rs)))
  | .sl t off len cap=>off=0/\len=cap/\match L[t]? with
   | some (.tcells ty' sz' rows)=>ty'=ty/\sz'=1/\rows.length=len/\(rs=[]->K s L)/\
     (rs≠[]->L[g]?=some .unborn/\(len+rs.length)*bytes<=70368744177664/\K (.sl g 0 (len+rs.length) (len+rs.length)) ((L.set t .dead).set g (.tcells ty 1 (rows++rs))))
   | some (.cells _ _)=>jP 1 bytes s x g L K
   | _=>False
  | _=>False
def z8j (E:Env) (k:XX) (vs:List IV) (g:Nat) (L:List Blk) (K:IV->List Blk->Prop):Prop:=
 match k with
 | .strB ty=>match vs with
  | [.str s]=>s.length<=9223372036854775807/\L[g]?=some .unborn/\K (.sl g 0 s.length s.length) (L.set g (.tcells ty 1 (zk s)))
  | _=>False
 | .appT ty b=>match vs with
  | [s,x]=>wB ty b s x g L K
  | _=>False
 | k=>xex E k vs L.length L K
def z4g (E:Env) (o:XO) (e:Opd->IV) (g:Nat) (L:List Blk) (K:IV->List Blk->Prop):Prop:=
 match o with
 | .alloc zero=>L[g]?=some .unborn/\K (.ptr g 0 0) (L.set g (.cells zero.length [zero]))
 | .box x=>L[g]?=some .unborn/\K (.ptr g 0 0) (L.set g (.cells (cellsOf (e x)).length [cellsOf (e x)]))
 | .bslice sz zero len parts=>L[g]?=some .unborn/\zero.length=sz/\match Zn sz (List.replicate len zero) (parts.map fun p=>(p.1,e p.2)) with
  | some rows=>K (.sl g 0 len len) (L.set g (.cells sz rows))
  | none=>False
 | .append sz bytes s x=>jP sz bytes (e s) (e x) g L K
 | .ex k xs=>z8j E k (xs.map e) g L K
 | o=>xop E o e L K
theorem yJ {L:List Blk} {g:Nat} {k:Blk} (h:L[g]?=some .unborn):Z4 L g k=L.set g k:=by
 unfold Z4
 rw [if_neg]
 have:=zf h
 omega
theorem z0Q {sz bytes g:Nat} {s x:IV} (h:jP sz bytes s x g L K):∃l,Free L l/\ZP sz bytes s x l (fun L k=>Z4 L l k) L K:=by
 unfold jP at h
 unfold ZP
 cases hr:rowsOf L x with
 | none=>rw [hr] at h;exact h.elim
 | some rs=>
  rw [hr] at h
  simp only at h ⊢
  obtain ⟨hc,h⟩:=h
  split at h
  ·by_cases h0:rs=[]
   ·exact ⟨L.length,.inl rfl,hc,h.1,fun d=>absurd h0 d⟩
   ·obtain ⟨h1,h2,b⟩:=h.2 h0
    exact ⟨g,.inr h1,hc,fun d=>absurd d h0,fun _=>⟨h2,by rw [yJ h1];exact b⟩⟩
  ·by_cases h0:rs=[]
   ·exact ⟨L.length,.inl rfl,hc,h.1,fun d=>absurd h0 d⟩
   ·obtain ⟨h1,h2,b⟩:=h.2 h0
    exact ⟨g,.inr h1,hc,fun d=>absurd d h0,fun _=>⟨h2,by rw [yJ h1];exact b⟩⟩
  ·rename_i t off len cap
   cases hL:L[t]? with
   | none=>rw [hL] at h;exact h.elim
   | some k=>
    rw [hL] at h
    cases k with
    | cells q rows=>
     simp only at h ⊢
     obtain ⟨h1,h2,h⟩:=h
     by_cases hle:len+rs.length<=cap
     ·rw [if_pos hle] at h
      refine ⟨L.length,.inl rfl,hc,?_⟩
      simp only [hL]
      exact ⟨h1,h2,by rw [if_pos hle];exact h⟩
     ·rw [if_neg hle] at h
      obtain ⟨b,m,p⟩:=h
      have j:t≠g:=by rintro rfl;rw [hL] at b;cases b
      refine ⟨g,.inr b,hc,?_⟩
      simp only [hL]
      refine ⟨h1,h2,?_⟩
      rw [if_neg hle]
      exact ⟨m,by rw [yJ (by rw [List.getElem?_set_ne j];exact b)];exact p⟩
    | _=>exact h.elim
  ·exact h.elim
theorem z5v {ty bytes g:Nat} {s x:IV} (h:wB ty bytes s x g L K):∃m,Free L m/\Yj ty bytes s x m L K:=by
 unfold wB at h
 unfold Yj
 cases hr:rowsOf L x with
 | none=>rw [hr] at h;exact h.elim
 | some rs=>
  rw [hr] at h
  simp only at h ⊢
  obtain ⟨hc,h⟩:=h
  split at h
  ·by_cases h0:rs=[]
   ·exact ⟨L.length,.inl rfl,hc,h.1,fun b=>absurd h0 b⟩
   ·obtain ⟨h1,h2,j⟩:=h.2 h0
    exact ⟨g,.inr h1,hc,fun b=>absurd b h0,fun _=>⟨h2,by rw [yJ h1];exact j⟩⟩
  ·by_cases h0:rs=[]
   ·exact ⟨L.length,.inl rfl,hc,h.1,fun b=>absurd h0 b⟩
   ·obtain ⟨h1,h2,j⟩:=h.2 h0
    exact ⟨g,.inr h1,hc,fun b=>absurd b h0,fun _=>⟨h2,by rw [yJ h1];exact j⟩⟩
  ·rename_i t off len cap
   obtain ⟨p,d,h⟩:=h
   cases hL:L[t]? with
   | none=>rw [hL] at h;exact h.elim
   | some k=>
    rw [hL] at h
    cases k with
    | cells r rows=>
     simp only at h ⊢
     obtain ⟨m,h1,h2⟩:=z0Q h
     exact ⟨m,h1,hc,p,d,by simp only [hL];exact h2⟩
    | tcells B r rows=>
     simp only at h ⊢
     obtain ⟨h1,h2,j,v,w⟩:=h
     by_cases h0:rs=[]
     ·exact ⟨L.length,.inl rfl,hc,p,d,by simp only [hL];exact ⟨h1,h2,j,v,fun b=>absurd h0 b⟩⟩
     ·obtain ⟨l,A,u⟩:=w h0
      have q:t≠g:=by rintro rfl;rw [hL] at l;cases l
      exact ⟨g,.inr l,hc,p,d,by simp only [hL];exact ⟨h1,h2,j,fun b=>absurd b h0,fun _=>⟨A,by rw [yJ (by rw [List.getElem?_set_ne q];exact l)];exact u⟩⟩⟩
    | _=>exact h.elim
  ·exact h.elim
theorem z9J {k:XX} {vs:List IV} {g:Nat} (h:z8j E k vs g L K):∃b,Free L b/\xex E k vs b L K:=by
 unfold z8j at h
 split at h
 ·split at h
  ·exact ⟨g,.inr h.2.1,by simp only [xex];rw [yJ h.2.1];exact ⟨h.1,h.2.2⟩⟩
  ·exact h.elim
 ·split at h
  ·obtain ⟨b,h1,h2⟩:=z5v h
   exact ⟨b,h1,by simp only [xex];exact h2⟩
  ·exact h.elim
 ·exact ⟨L.length,.inl rfl,h⟩
theorem zfE {o:XO} {g:Nat} (h:z4g E o e g L K):∃d,Free L d/\z1p E o e d L K:=by
 cases o with
 | append sz b s x=>exact z0Q h
 | alloc z=>exact ⟨g,.inr h.1,by simp only [z1p];rw [yJ h.1];exact h.2⟩
 | box x=>exact ⟨g,.inr h.1,by simp only [z1p];rw [yJ h.1];exact h.2⟩
 | bslice sz z len ps=>exact ⟨g,.inr h.1,by simp only [z1p];simp only [yJ h.1];exact h.2⟩
 | ex k xs=>exact z9J h
 | _=>exact ⟨L.length,.inl rfl,h⟩
def V9 (L:List Blk):List (Nat × Blk)->List Blk
 | []=>L
 | (t,k)::r=>V9 (L.set t k) r
theorem z1P:∀(wl:List (Nat × Blk)) (L:List Blk),(V9 L wl).length=L.length
 | [],_=>rfl
 | (t,k)::r,L=>by rw [V9,z1P r,lls]
theorem zb6 {i:Nat}:∀(wl:List (Nat × Blk)) (L:List Blk),(∀p∈wl,p.1≠i)->(V9 L wl)[i]?=L[i]?
 | [],_,_=>rfl
 | (t,k)::r,L,h=>by
  rw [V9,zb6 r _ fun p b=>h p (List.mem_cons_of_mem _ b),List.getElem?_set_ne (h (t,k) List.mem_cons_self)]
theorem z15 {i:Nat}:∀(wl:List (Nat × Blk)) (L L':List Blk),L.length=L'.length->L[i]?=L'[i]?->(V9 L wl)[i]?=(V9 L' wl)[i]?
 | [],_,_,_,h=>h
 | (t,k)::r,L,L',hl,h=>by
  rw [V9,V9]
  refine z15 r _ _ (by simp [hl]) ?_
  rw [List.getElem?_set,List.getElem?_set,hl,h]
theorem VL {t:Nat} {k:Blk}:∀(wl:List (Nat × Blk)) (L:List Blk),(∀p∈wl,p.1≠t)->V9 (L.set t k) wl=(V9 L wl).set t k
 | [],_,_=>rfl
 | (u,k')::r,L,h=>by
  rw [V9,V9,List.set_comm _ _ (Ne.symm (h (u,k') List.mem_cons_self)),VL r _ fun p b=>h p (List.mem_cons_of_mem _ b)]
theorem z2M:∀(wl b:List (Nat × Blk)) (L:List Blk),(∀p∈wl,∀q∈b,p.1≠q.1)->V9 (V9 L wl) b=V9 (V9 L b) wl
 | [],_,_,_=>rfl
 | (t,k)::r,b,L,h=>by
  rw [V9,z2M r b _ fun p d=>h p (List.mem_cons_of_mem _ d),VL b L fun q j=>(h (t,k) List.mem_cons_self q j).symm]
  rfl
def FrR (E:Env) (o:XO) (e:Opd->IV) (g:Nat) (L:List Blk) (v:IV) (wl:List (Nat × Blk)) (rd:List Nat):Prop:=
 ∀L':List Blk,(∀i∈rd,L'[i]?=L[i]?)->∀K:IV->List Blk->Prop,K v (V9 L' wl)->z4g E o e g L' K
theorem jm {gl:Nat->Option (List IV)} {x:IV} {L':List Blk} (h:∀i∈slP x,L'[i]?=L[i]?):y8 gl L' x=y8 gl L x:=by
 cases x with
 | ptr s r o=>simp only [y8];rw [h s (by simp [slP])]
 | raw v=>
  cases v with
  | pointer a=>
   cases a with
   | none=>rfl
   | some a=>obtain ⟨b,o,sp⟩:=a;cases sp<;>rfl
  | _=>rfl
 | _=>rfl
theorem WR {x:IV} {L':List Blk} (h:∀i∈slS x,L'[i]?=L[i]?):rowsOf L' x=rowsOf L x:=by
 cases x with
 | sl s off len cap=>simp only [rowsOf];rw [h s (by simp [slS])]
 | _=>rfl
theorem z0z {s:Nat} {L':List Blk} (h:L'[s]?=L[s]?):Yk L' s=Yk L s:=by
 unfold Yk;rw [h]
theorem z3J {gl:Nat->Option (List IV)} {x:IV} {p:List (List IV) × Nat × Nat} (h:y8 gl L x=some p):∀i∈slP x,i<L.length:=by
 intro i hi
 cases x<;>simp only [slP,List.not_mem_nil] at hi
 rename_i s r o
 rw [List.mem_singleton] at hi;subst hi
 simp only [y8] at h
 cases hL:L[i]? with
 | none=>rw [hL] at h;cases h
 | some k=>exact zf hL
theorem Js {x:IV} {p:List (List IV)} (h:rowsOf L x=some p):∀i∈slS x,i<L.length:=by
 intro i hi
 cases x<;>simp only [slS,List.not_mem_nil] at hi
 rename_i s off len cap
 rw [List.mem_singleton] at hi;subst hi
 simp only [rowsOf] at h
 cases hL:L[i]? with
 | none=>rw [hL] at h;cases h
 | some k=>exact zf hL
theorem zb0 {s m:Nat} (h:Yk L s=some m):s<L.length:=by
 unfold Yk at h
 cases hL:L[s]? with
 | none=>rw [hL] at h;cases h
 | some k=>exact zf hL
theorem ziY {o:XO} {g:Nat} (d:o.kd=1) (h:xop E o e L K):∃r,K r L/\(∀i∈o.rd e L,i<L.length)/\FrR E o e g L r [] (o.rd e L):=by
 cases o<;>simp only [XO.kd] at d<;>try (exact absurd d (by decide))
 case isNil=>split at d<;>exact absurd d (by decide)
 case load1 x=>
  simp only [xop] at h
  cases B:y8 E.gl L (e x) with
  | none=>rw [B] at h;exact h.elim
  | some p=>
   obtain ⟨rows,r,off⟩:=p
   rw [B] at h
   refine ⟨_,h.2.2,z3J B,fun L' ha K' d=>?_⟩
   show xop E (.load1 x) e L' K'
   simp only [xop]
   rw [jm ha,B]
   exact ⟨h.1,h.2.1,d⟩
 case loadN n x=>
  simp only [xop] at h
  cases B:y8 E.gl L (e x) with
  | none=>rw [B] at h;exact h.elim
  | some p=>
   obtain ⟨rows,r,off⟩:=p
   rw [B] at h
   refine ⟨_,h.2.2,z3J B,fun L' ha K' d=>?_⟩
   show xop E (.loadN n x) e L' K'
   simp only [xop]
   rw [jm ha,B]
   exact ⟨h.1,h.2.1,d⟩
 case idxS m x i=>
  simp only [xop] at h
  have key:∀{v:IV},(∀(L':List Blk) (K':IV->List Blk->Prop),(∀i∈slS (e x),L'[i]?=L[i]?)->K' v L'->xop E (.idxS m x i) e L' K')->FrR E (.idxS m x i) e g L v [] ((XO.idxS m x i).rd e L):=
   fun R L' ha K' d=>R L' K' ha d
  split at h
  ·rename_i rows k n u hi
   exact ⟨_,h.2.2.2,by simp [XO.rd,u,slS],key fun L' K' ha d=>by simp only [xop,u,hi];exact ⟨h.1,h.2.1,h.2.2.1,d⟩⟩
  ·rename_i s off len cap k n u hi
   exact ⟨_,h.2.2.2,by simp only [XO.rd,u,slS,List.mem_singleton];rintro _ rfl;exact zb0 h.1,key fun L' K' ha d=>by simp only [xop,u,hi];exact ⟨by rw [z0z (ha s (by rw [u];simp [slS]))];exact h.1,h.2.1,h.2.2.1,d⟩⟩
  ·exact h.elim
 case slice m x lo hi=>
  simp only [xop] at h
  have key:∀{v:IV},(∀(L':List Blk) (K':IV->List Blk->Prop),(∀i∈slS (e x),L'[i]?=L[i]?)->K' v L'->xop E (.slice m x lo hi) e L' K')->FrR E (.slice m x lo hi) e g L v [] ((XO.slice m x lo hi).rd e L):=
   fun R L' ha K' d=>R L' K' ha d
  split at h
  ·rename_i rows u
   obtain ⟨S,h⟩:=h
   obtain ⟨l,h,h1⟩:=y5 h
   obtain ⟨hh,h,h2⟩:=y5 h
   exact ⟨_,h.2.2,by simp [XO.rd,u,slS],key fun L' K' ha d=>by simp only [xop,u];exact ⟨S,h1 _ (h2 _ ⟨h.1,h.2.1,d⟩)⟩⟩
  ·rename_i s off len cap u
   obtain ⟨S,h⟩:=h
   obtain ⟨l,h,h1⟩:=y5 h
   obtain ⟨hh,h,h2⟩:=y5 h
   exact ⟨_,h.2.2,by simp only [XO.rd,u,slS,List.mem_singleton];rintro _ rfl;exact zb0 S,key fun L' K' ha d=>by simp only [xop,u];exact ⟨by rw [z0z (ha s (by rw [u];simp [slS]))];exact S,h1 _ (h2 _ ⟨h.1,h.2.1,d⟩)⟩⟩
  ·rename_i u
   obtain ⟨l,h,h1⟩:=y5 h
   obtain ⟨hh,h,h2⟩:=y5 h
   exact ⟨_,h.2.2,by simp [XO.rd,u,slS],key fun L' K' ha d=>by simp only [xop,u];exact h1 _ (h2 _ ⟨h.1,h.2.1,d⟩)⟩
  ·rename_i u
   obtain ⟨l,h,h1⟩:=y5 h
   obtain ⟨hh,h,h2⟩:=y5 h
   exact ⟨_,h.2.2,by simp [XO.rd,u,slS],key fun L' K' ha d=>by simp only [xop,u];exact h1 _ (h2 _ ⟨h.1,h.2.1,d⟩)⟩
  ·exact h.elim
 case pcall f as=>
  simp only [xop] at h
  split at h
  ·rename_i n a b O
   rcases h with ⟨V,args',r,h1,h2,S,M,A⟩ | ⟨r,I,h2,A⟩
   rotate_left
   ·have J:∀L',conv L' fuel Za=conv L fuel Za:=fun L'=>by funext y;exact WE fuel y _ _
    refine ⟨r,A,(by simp only [XO.rd,O,I];intro i hi;exact List.mem_range.1 hi),fun L' ha K' d=>?_⟩
    show xop E (.pcall f as) e L' K'
    simp only [xop,O]
    refine .inr ⟨r,by rw [J];exact I,fun L2 Y=>h2 L2 fun i hi=>?_,d⟩
    have Q:=ha i (by simp only [XO.rd,O,I];exact List.mem_range.2 hi)
    rw [Y i,Q]
    obtain ⟨k,X⟩:∃k,L[i]?=some k:=⟨_,List.getElem?_eq_getElem hi⟩
    rw [X] at Q
    exact zf Q
   have J:∀L',conv L' fuel Za=conv L fuel Za:=fun L'=>by funext y;exact WE fuel y _ _
   cases I:zJ (conv L fuel Za) (a++as.map e++b) with
   | some q=>
    refine ⟨r,A,(by simp only [XO.rd,O,I];intro i hi;cases hi),fun L' _ K' d=>?_⟩
    show xop E (.pcall f as) e L' K'
    simp only [xop,O]
    refine .inl ⟨V,args',r,?_,h2,S,M,d⟩
    cases V
    ·simp only [Bool.false_eq_true,if_false] at h1 ⊢
     rw [J];exact h1
    ·simp only [if_true] at h1 ⊢
     have Z:=Ye (fun x y=>z1s (L:=L) fuel x y) I
     rw [h1] at Z;cases Z
     rw [<-J L'] at I
     exact Ye (fun x y=>z1s (L:=L') fuel x y) I
   | none=>
    refine ⟨r,A,(by simp only [XO.rd,O,I];intro i hi;exact List.mem_range.1 hi),fun L' ha K' d=>?_⟩
    show xop E (.pcall f as) e L' K'
    simp only [xop,O]
    refine .inl ⟨V,args',r,?_,h2,S,M,d⟩
    refine Ye (fun x y=>Ve (fun s k hs=>?_) fuel _ x y) h1
    rw [ha s (by simp only [XO.rd,O,I];exact List.mem_range.2 (zf hs))];exact hs
  ·exact h.elim
 case ex k xs=>
  cases k<;>simp only [XX.kd] at d<;>try (exact absurd d (by decide))
  case mlook st zero ok=>
   simp only [xop] at h
   have u:∀L':List Blk,(∀i∈(XO.ex (.mlook st zero ok) xs).rd e L,L'[i]?=L[i]?)->∀m∈xs.map e,∀s,m=IV.mp s->L'[s]?=L[s]?:=fun L' ha m G s hs=>by
    obtain ⟨x,u,rfl⟩:=List.mem_map.1 G
    exact ha s (by simp only [XO.rd,List.mem_flatMap];exact ⟨x,u,by rw [hs];simp [slM]⟩)
   have D:∀i∈(XO.ex (.mlook st zero ok) xs).rd e L,∃m∈xs.map e,m=IV.mp i:=fun i hi=>by
    simp only [XO.rd,List.mem_flatMap] at hi
    obtain ⟨x,u,h1⟩:=hi
    cases hex:e x<;>rw [hex] at h1<;>simp [slM] at h1
    subst h1
    exact ⟨_,List.mem_map.2 ⟨x,u,rfl⟩,hex⟩
   simp only [xex] at h
   split at h
   ·rename_i k w
    refine ⟨_,h.2,fun i hi=>?_,fun L' ha K' d=>?_⟩
    ·obtain ⟨m,G,rfl⟩:=D i hi
     rw [w] at G
     rcases List.mem_cons.1 G with M | M
     ·cases M
     ·rw [List.mem_singleton] at M;subst M;simp [isKey] at h
    ·show z8j E (.mlook st zero ok) (xs.map e) g L' K'
     simp only [z8j,xex,w];exact ⟨h.1,d⟩
   ·rename_i m k ae w
    unfold jB vT at h
    split at h
    ·rename_i s
     obtain ⟨h1,h⟩:=h
     split at h
     ·rename_i es c U
      split at h
      ·rename_i r B
       cases r with
       | none=>
        refine ⟨_,h,fun i hi=>?_,fun L' ha K' d=>?_⟩
        ·obtain ⟨m,G,rfl⟩:=D i hi
         rw [w] at G
         rcases List.mem_cons.1 G with A | A
         ·cases A;exact zf U
         ·rw [List.mem_singleton] at A;subst A;simp [isKey] at h1
        ·show z8j E (.mlook st zero ok) (xs.map e) g L' K'
         have T:L'[s]?=some (.map es c):=by rw [u L' ha _ (by rw [w];simp) s rfl];exact U
         simp only [z8j,xex,w]
         unfold jB vT
         refine ⟨h1,?_⟩
         simp only [T,B]
         exact d
       | some j=>
        refine ⟨_,h,fun i hi=>?_,fun L' ha K' d=>?_⟩
        ·obtain ⟨m,G,rfl⟩:=D i hi
         rw [w] at G
         rcases List.mem_cons.1 G with A | A
         ·cases A;exact zf U
         ·rw [List.mem_singleton] at A;subst A;simp [isKey] at h1
        ·show z8j E (.mlook st zero ok) (xs.map e) g L' K'
         have T:L'[s]?=some (.map es c):=by rw [u L' ha _ (by rw [w];simp) s rfl];exact U
         simp only [z8j,xex,w]
         unfold jB vT
         refine ⟨h1,?_⟩
         simp only [T,B]
         exact d
      ·exact h.elim
     ·exact h.elim
    ·exact h.elim
   ·exact h.elim
  simp only [xop,xex] at h
  split at h<;>try exact h.elim
  rename_i v R
  split at h<;>try exact h.elim
  rename_i s hs
  obtain ⟨x,rfl,rfl⟩:∃x,xs=[x]/\e x=v:=by
   cases xs with
   | nil=>cases R
   | cons x r=>cases r with
    | nil=>exact ⟨x,rfl,by simpa using R⟩
    | cons y r=>simp at R
  obtain ⟨rs,h1,h2⟩:=Option.bind_eq_some_iff.1 hs
  have B:rowsOf L (e x)=some rs:=by
   unfold yG at h1;split at h1
   ·cases h1
   ·exact h1
  have D:(XO.ex .bStr [x]).rd e L=slS (e x):=by simp [XO.rd]
  refine ⟨_,h,by rw [D];exact Js B,fun L' ha K' d=>?_⟩
  show z8j E .bStr [e x] g L' K'
  have M:yG L' (e x)=some rs:=by
   rw [D] at ha
   have A:=WR ha
   rw [B] at A
   unfold yG at h1 ⊢
   split at h1
   ·cases h1
   ·exact A
  simp only [z8j,xex,M,Option.bind_some,h2]
  exact d
theorem z1J {U:List Blk} {i:Nat} {k:Blk} (h:L[i]?=some k):(L++U)[i]?=some k:=by
 rw [List.getElem?_append_left (zf h)];exact h
theorem JF {U:List Blk} {i:Nat} {k:Blk} (h:i<L.length):(L++U).set i k=L.set i k++U:=List.set_append_left _ _ h
theorem Jv {m:Nat} {k:Blk}:(L++List.replicate (m+1) Blk.unborn).set L.length k=(L++[k])++List.replicate m .unborn:=by
 rw [List.set_append_right _ _ (Nat.le_refl _),Nat.sub_self,List.replicate_succ,List.set_cons_zero,List.append_assoc];rfl
theorem ww {m:Nat}:(L++List.replicate (m+1) Blk.unborn)[L.length]?=some .unborn:=by
 rw [List.getElem?_append_right (Nat.le_refl _),Nat.sub_self,List.replicate_succ];rfl
theorem ze4 {o:XO} {g:Nat} (b:o.kd=0):z4g E o e g L K=xop E o e L K:=by
 cases o<;>first | rfl | (simp only [XO.kd] at b;exact absurd b (by decide)) | (rename_i k xs;cases k<;>first | rfl | (simp [XO.kd,XX.kd] at b))
def Res (E:Env) (o:XO) (e:Opd->IV) (L:List Blk) (v:IV) (L':List Blk) (wl:List (Nat × Blk)) (p:Nat):Prop:=
 L'.length=L.length+p/\(∀q∈wl,q.1∈o.wr e++YR o L L')/\∀m,FrR E o e L.length (L++List.replicate (p+m) .unborn) v wl (o.rd e L++YR o L L')/\
  V9 (L++List.replicate (p+m) .unborn) wl=L'++List.replicate m .unborn
theorem Jd {o:XO} {v:IV} {k:Blk} (b:YR o L (L++[k])=[L.length])
  (h:∀(L':List Blk) (K':IV->List Blk->Prop),L'[L.length]?=some .unborn->K' v (L'.set L.length k)->z4g E o e L.length L' K'):Res E o e L v (L++[k]) [(L.length,k)] 1:=by
 refine ⟨by simp,fun q d=>by rw [List.mem_singleton] at d;subst d;rw [b];simp,fun m=>⟨fun L' ha K' j=>h L' K' ?_ j,?_⟩⟩
 ·rw [ha L.length (by rw [b];simp),Nat.add_comm];exact ww
 ·rw [Nat.add_comm];exact Jv
theorem z95 {sz b:Nat} {s x:Opd} (h:xop E (.append sz b s x) e L K):∃v L' p wl,K v L'/\Res E (.append sz b s x) e L v L' wl p:=by
 simp only [xop] at h
 unfold ZQ at h
 cases hr:rowsOf L (e x) with
 | none=>rw [hr] at h;exact h.elim
 | some rs=>
  rw [hr] at h
  simp only at h
  obtain ⟨l,h⟩:=h
  have r:∀{L':List Blk} {m:Nat} {n:List Nat},(∀i∈(XO.append sz b s x).rd e L++n,L'[i]?=(L++List.replicate m Blk.unborn)[i]?)->rowsOf L' (e x)=some rs:=fun {L' m n} ha=>by
   rw [<-hr]
   refine WR fun i hi=>?_
   rw [ha i (by simp [XO.rd,hi]),List.getElem?_append_left (Js hr i hi)]
  have u:(e s=.nsl\/e s=.esl)->(rs=[]->K (e s) L)/\(rs≠[]->rs.length*b<=70368744177664/\K (.sl L.length 0 rs.length rs.length) (L++[.cells sz rs]))->
    ∃v L' p wl,K v L'/\Res E (.append sz b s x) e L v L' wl p:=fun hs h=>by
   by_cases h0:rs=[]
   ·refine ⟨e s,L,0,[],h.1 h0,rfl,by simp,fun m=>⟨fun L' ha K' d=>?_,by rw [Nat.zero_add];rfl⟩⟩
    show jP sz b (e s) (e x) _ L' K'
    unfold jP
    rw [r ha]
    refine ⟨l,?_⟩
    rcases hs with hs | hs<;>rw [hs] at d ⊢<;>exact ⟨fun _=>d,fun w=>absurd h0 w⟩
   ·obtain ⟨h1,h2⟩:=h.2 h0
    refine ⟨_,_,1,[(L.length,.cells sz rs)],h2,by simp,fun q j=>by rw [List.mem_singleton] at j;subst j;simp [YR],fun m=>⟨fun L' ha K' d=>?_,by rw [Nat.add_comm];exact Jv⟩⟩
    show jP sz b (e s) (e x) _ L' K'
    have D:L'[L.length]?=some .unborn:=by
     rw [ha L.length (by simp [YR]),Nat.add_comm];exact ww
    unfold jP
    rw [r ha]
    refine ⟨l,?_⟩
    rcases hs with hs | hs<;>rw [hs]<;>exact ⟨fun w=>absurd w h0,fun _=>⟨D,h1,d⟩⟩
  split at h
  ·rename_i hs;exact u (.inl hs) h
  ·rename_i hs;exact u (.inr hs) h
  ·rename_i t off len cap hs
   cases hL:L[t]? with
   | none=>rw [hL] at h;exact h.elim
   | some k=>
    rw [hL] at h
    cases k with
    | cells G rows=>
     simp only at h
     obtain ⟨h1,h2,h⟩:=h
     have A:=zf hL
     have B:∀{L':List Blk} {m:Nat} {n:List Nat},(∀i∈(XO.append sz b s x).rd e L++n,L'[i]?=(L++List.replicate m Blk.unborn)[i]?)->L'[t]?=some (.cells G rows):=fun {L' m n} ha=>by
      rw [ha t (by simp [XO.rd,hs,slS]),z1J hL]
     by_cases hle:len+rs.length<=cap
     ·rw [if_pos hle] at h
      refine ⟨_,_,0,[(t,.cells sz (splice rows (off+len) rs))],h,by simp,fun q j=>by rw [List.mem_singleton] at j;subst j;simp [XO.wr,hs,slS],fun m=>⟨fun L' ha K' d=>?_,by rw [Nat.zero_add];exact JF A⟩⟩
      show jP sz b (e s) (e x) _ L' K'
      unfold jP
      rw [r ha]
      refine ⟨l,?_⟩
      rw [hs]
      simp only
      rw [B ha]
      exact ⟨h1,h2,by rw [if_pos hle];exact d⟩
     ·rw [if_neg hle] at h
      obtain ⟨J,I⟩:=h
      have w:YR (.append sz b s x) L (L.set t .dead++[.cells sz ((rows.drop off).take len++rs)])=[L.length]:=by simp [YR]
      refine ⟨_,_,1,[(t,.dead),(L.length,.cells sz ((rows.drop off).take len++rs))],I,by simp,fun q j=>?_,fun m=>⟨fun L' ha K' d=>?_,?_⟩⟩
      ·rw [w]
       rcases List.mem_cons.1 j with rfl | j
       ·simp [XO.wr,hs,slS]
       ·rw [List.mem_singleton] at j;subst j;simp
      ·rw [w] at ha
       have D:L'[L.length]?=some .unborn:=by
        rw [ha L.length (by simp),Nat.add_comm];exact ww
       show jP sz b (e s) (e x) _ L' K'
       unfold jP
       rw [r ha]
       refine ⟨l,?_⟩
       rw [hs]
       simp only
       rw [B ha]
       exact ⟨h1,h2,by rw [if_neg hle];exact ⟨D,J,d⟩⟩
      ·rw [Nat.add_comm,V9,V9,V9,JF A]
       have:=Jv (L:=L.set t .dead) (m:=m) (k:=.cells sz ((rows.drop off).take len++rs))
       rw [lls] at this
       exact this
    | _=>exact h.elim
  ·exact h.elim
theorem zbS {ty b:Nat} {s x:Opd} (h:Yj ty b (e s) (e x) L.length L K):∃v L' p wl,K v L'/\Res E (.ex (.appT ty b) [s,x]) e L v L' wl p:=by
 unfold Yj at h
 cases hr:rowsOf L (e x) with
 | none=>rw [hr] at h;exact h.elim
 | some rs=>
  rw [hr] at h
  simp only at h
  obtain ⟨j,h⟩:=h
  have l:∀{L':List Blk} {m:Nat} {n:List Nat},(∀i∈(XO.ex (.appT ty b) [s,x]).rd e L++n,L'[i]?=(L++List.replicate m Blk.unborn)[i]?)->rowsOf L' (e x)=some rs:=fun {L' m n} ha=>by
   rw [<-hr]
   refine WR fun i hi=>?_
   rw [ha i (by simp [XO.rd,hi]),List.getElem?_append_left (Js hr i hi)]
  have A:(e s=.nsl\/e s=.raw (.slice none 0 0))->(rs=[]->K (e s) L)/\(rs≠[]->rs.length*b<=70368744177664/\K (.sl L.length 0 rs.length rs.length) (Z4 L L.length (.tcells ty 1 rs)))->
    ∃v L' p wl,K v L'/\Res E (.ex (.appT ty b) [s,x]) e L v L' wl p:=fun hs h=>by
   rw [Zw] at h
   by_cases h0:rs=[]
   ·refine ⟨e s,L,0,[],h.1 h0,rfl,by simp,fun m=>⟨fun L' ha K' d=>?_,by rw [Nat.zero_add];rfl⟩⟩
    show wB ty b (e s) (e x) _ L' K'
    unfold wB
    rw [l ha]
    refine ⟨j,?_⟩
    rcases hs with hs | hs<;>rw [hs] at d ⊢<;>exact ⟨fun _=>d,fun r=>absurd h0 r⟩
   ·obtain ⟨h1,h2⟩:=h.2 h0
    refine ⟨_,_,1,[(L.length,.tcells ty 1 rs)],h2,by simp,fun q w=>by rw [List.mem_singleton] at w;subst w;simp [YR],fun m=>⟨fun L' ha K' d=>?_,by rw [Nat.add_comm];exact Jv⟩⟩
    show wB ty b (e s) (e x) _ L' K'
    have R:L'[L.length]?=some .unborn:=by
     rw [ha L.length (by simp [YR]),Nat.add_comm];exact ww
    unfold wB
    rw [l ha]
    refine ⟨j,?_⟩
    rcases hs with hs | hs<;>rw [hs]<;>exact ⟨fun r=>absurd r h0,fun _=>⟨R,h1,d⟩⟩
  split at h
  ·rename_i hs;exact A (.inl hs) h
  ·rename_i hs;exact A (.inr hs) h
  ·rename_i t off len cap hs
   obtain ⟨Q,B,h⟩:=h
   cases hL:L[t]? with
   | none=>rw [hL] at h;exact h.elim
   | some k=>
    rw [hL] at h
    have S:=zf hL
    have G:∀{L':List Blk} {m:Nat} {n:List Nat},(∀i∈(XO.ex (.appT ty b) [s,x]).rd e L++n,L'[i]?=(L++List.replicate m Blk.unborn)[i]?)->L'[t]?=some k:=fun {L' m n} ha=>by
     rw [ha t (by simp [XO.rd,hs,slS]),z1J hL]
    cases k with
    | cells T rows=>
     simp only at h
     have h2:xop E (.append 1 b s x) e L K:=by
      show ZQ 1 b (e s) (e x) L K
      unfold ZP at h
      unfold ZQ
      rw [hr] at h ⊢
      simp only [hs,hL] at h ⊢
      obtain ⟨I,J,M,u⟩:=h
      refine ⟨I,J,M,?_⟩
      split at u
      ·rename_i D;rw [if_pos D];exact u
      ·rename_i D;rw [if_neg D]
       have e1:Z4 (L.set t Blk.dead) L.length (.cells 1 ((rows.drop off).take len++rs))=L.set t .dead++[.cells 1 ((rows.drop off).take len++rs)]:=by unfold Z4;rw [if_pos (by rw [lls])]
       rw [e1] at u;exact u
     obtain ⟨v,L',p,wl,I,J,M,u⟩:=z95 h2
     refine ⟨v,L',p,wl,I,J,fun q w=>?_,fun m=>⟨fun L2 ha K' d=>?_,(u m).2⟩⟩
     ·have:=M q w
      simpa [XO.wr,YR] using this
     ·have O:=(u m).1 L2 (fun i hi=>ha i (by simpa [XO.rd,YR] using hi)) K' d
      show wB ty b (e s) (e x) _ L2 K'
      unfold wB
      rw [l ha]
      refine ⟨j,?_⟩
      rw [hs]
      refine ⟨Q,B,?_⟩
      simp only [G ha]
      rw [<-hs]
      exact O
    | tcells U T rows=>
     simp only at h
     obtain ⟨h1,h2,I,J,M⟩:=h
     by_cases h0:rs=[]
     ·refine ⟨_,L,0,[],J h0,rfl,by simp,fun m=>⟨fun L' ha K' d=>?_,by rw [Nat.zero_add];rfl⟩⟩
      show wB ty b (e s) (e x) _ L' K'
      unfold wB
      rw [l ha]
      refine ⟨j,?_⟩
      rw [hs]
      refine ⟨Q,B,?_⟩
      simp only [G ha]
      exact ⟨h1,h2,I,fun _=>by rw [<-hs];exact d,fun r=>absurd h0 r⟩
     ·obtain ⟨u,O⟩:=M h0
      have e1:Z4 (L.set t Blk.dead) L.length (.tcells ty 1 (rows++rs))=L.set t .dead++[.tcells ty 1 (rows++rs)]:=by unfold Z4;rw [if_pos (by rw [lls])]
      rw [e1] at O
      have r:YR (.ex (.appT ty b) [s,x]) L (L.set t .dead++[.tcells ty 1 (rows++rs)])=[L.length]:=by simp [YR]
      refine ⟨_,_,1,[(t,.dead),(L.length,.tcells ty 1 (rows++rs))],O,by simp,fun q w=>?_,fun m=>⟨fun L' ha K' d=>?_,?_⟩⟩
      ·rw [r]
       rcases List.mem_cons.1 w with rfl | w
       ·simp [XO.wr,hs,slS]
       ·rw [List.mem_singleton] at w;subst w;simp
      ·rw [r] at ha
       have R:L'[L.length]?=some .unborn:=by
        rw [ha L.length (by simp),Nat.add_comm];exact ww
       show wB ty b (e s) (e x) _ L' K'
       unfold wB
       rw [l ha]
       refine ⟨j,?_⟩
       rw [hs]
       refine ⟨Q,B,?_⟩
       simp only [G ha]
       exact ⟨h1,h2,I,fun r=>absurd r h0,fun _=>⟨R,u,d⟩⟩
      ·rw [Nat.add_comm,V9,V9,V9,JF S]
       have:=Jv (L:=L.set t .dead) (m:=m) (k:=.tcells ty 1 (rows++rs))
       rw [lls] at this
       exact this
    | _=>exact h.elim
  ·exact h.elim
theorem zfz {o:XO} (w:o.rk<4) (h:xop E o e L K):∃v L' p wl,K v L'/\Res E o e L v L' wl p:=by
 have hc:o.kd=0\/o.kd=1\/o.kd=2\/o.kd=3\/o.kd=4:=by
  cases o<;>try (simp [XO.kd];done)
  case ex k _=>cases k<;>simp [XO.kd,XX.kd]
  case isNil k _ _=>simp only [XO.kd];split<;>simp
 rcases hc with d | d | d | d | d
 ·obtain ⟨r,h1,h2⟩:=z5H d h
  exact ⟨r,L,0,[],h1,rfl,by simp,fun m=>⟨fun L' _ K' b=>by rw [ze4 d];exact h2 L' K' b,by rw [Nat.zero_add];rfl⟩⟩
 ·obtain ⟨r,h1,h2,M⟩:=ziY (g:=L.length) d h
  refine ⟨r,L,0,[],h1,rfl,by simp,fun m=>⟨fun L' ha K' b=>M L' (fun i hi=>?_) K' b,by rw [Nat.zero_add];rfl⟩⟩
  rw [ha i (List.mem_append_left _ hi),List.getElem?_append_left (h2 i hi)]
 ·cases o<;>simp only [XO.kd] at d<;>try (exact absurd d (by decide))
  case alloc z=>exact ⟨_,_,1,_,h,Jd rfl fun L' K' u b=>⟨u,b⟩⟩
  case box x=>exact ⟨_,_,1,_,h,Jd rfl fun L' K' u b=>⟨u,b⟩⟩
  case isNil=>split at d<;>exact absurd d (by decide)
  case ex k xs=>
   cases k<;>first | (simp [XX.kd] at d;done) | skip
   rename_i ty
   simp only [xop,xex] at h
   split at h
   ·rename_i s hs
    rw [Zw] at h
    exact ⟨_,_,1,_,h.2,Jd rfl fun L' K' u b=>by
     show z8j E (.strB ty) (xs.map e) L.length L' K'
     rw [hs];exact ⟨h.1,u,b⟩⟩
   ·exact h.elim
 ·cases o<;>simp only [XO.kd] at d<;>try (exact absurd d (by decide))
  case isNil=>split at d<;>exact absurd d (by decide)
  case store n x y=>
   simp only [xop] at h
   split at h
   ·rename_i s r off A
    split at h
    ·rename_i sz rows D
     have l:=zf D
     refine ⟨_,_,0,[(s,.cells sz (rows.set r (splice (rows.getD r []) off (cellsOf (e y)))))],h.2.2.2.2,by simp,?_,fun m=>⟨fun L' ha K' b=>?_,?_⟩⟩
     ·intro q G;rw [List.mem_singleton] at G;subst G;simp [XO.wr,A,slP]
     ·show xop E (.store n x y) e L' K'
      simp only [xop,A]
      have:=ha s (by simp [XO.rd,A,slP])
      rw [z1J D] at this
      rw [this]
      exact ⟨h.1,h.2.1,h.2.2.1,h.2.2.2.1,b⟩
     ·rw [Nat.zero_add];exact JF l
    ·rename_i ty sz rows D
     have l:=zf D
     refine ⟨_,_,0,[(s,.tcells ty sz (rows.set r (splice (rows.getD r []) off (cellsOf (e y)))))],h.2.2.2.2,by simp,?_,fun m=>⟨fun L' ha K' b=>?_,?_⟩⟩
     ·intro q G;rw [List.mem_singleton] at G;subst G;simp [XO.wr,A,slP]
     ·show xop E (.store n x y) e L' K'
      simp only [xop,A]
      have:=ha s (by simp [XO.rd,A,slP])
      rw [z1J D] at this
      rw [this]
      exact ⟨h.1,h.2.1,h.2.2.1,h.2.2.2.1,b⟩
     ·rw [Nat.zero_add];exact JF l
    ·exact h.elim
   ·exact h.elim
  case ex k xs=>cases k<;>first | (simp [XX.kd] at d;done) | (simp [XO.rk] at w;done)
 ·cases o<;>simp only [XO.kd] at d<;>try (exact absurd d (by decide))
  case isNil=>simp only [XO.rk,XO.kd] at w;rw [d] at w;exact absurd w (by decide)
  case bslice sz z len ps=>
   simp only [xop] at h
   obtain ⟨h1,h⟩:=h
   split at h
   ·rename_i rows I
    exact ⟨_,_,1,_,h,Jd rfl fun L' K' u b=>by simp only [z4g];rw [I];exact ⟨u,h1,b⟩⟩
   ·exact h.elim
  case append sz B s x=>exact z95 h
  case ex k xs=>
   cases k<;>first | (simp [XX.kd] at d;done) | (simp [XO.rk,XO.kd,XX.kd] at w;done) | skip
   rename_i ty B
   have h:xex E (.appT ty B) (xs.map e) L.length L K:=h
   simp only [xex] at h
   split at h
   ·rename_i J O j
    obtain ⟨s,x,rfl,rfl,rfl⟩:∃s x,xs=[s,x]/\e s=J/\e x=O:=by
     cases xs with
     | nil=>cases j
     | cons s r=>cases r with
      | nil=>simp at j
      | cons x r=>cases r with
       | nil=>exact ⟨s,x,rfl,by simpa using j⟩
       | cons y r=>simp at j
    exact zbS h
   ·exact h.elim
  all_goals (simp only [XO.rk,XO.kd] at w;exact absurd w (by decide))
end
structure Tr where
 v:IV
 wl:List (Nat × Blk)
 g:Nat
 rd:List Nat
 wr:List Nat
abbrev St:=Rho × List Blk
def Tr.up (t:Tr) (o:zq) (s:St):St:=(put s.1 o.dst t.v,V9 s.2 t.wl)
def z3w (E:Env) (o:zq) (g:Nat) (ρ:Rho) (L:List Blk) (KV:IV->List Blk->Prop):Prop:=
 match o.guard with
 | none=>z4g E o.op (Opd.ev ρ) g L KV
 | some (t,want)=>match ρ t with
  | .bool b=>(b=want->z4g E o.op (Opd.ev ρ) g L KV)/\(b≠want->KV .und L)
  | .und=>KV .und L
  | _=>False
def zge (E:Env) (o:zq) (t:Tr) (s:St):Prop:=
 (∀p∈t.wl,p.1∈t.wr)/\(o.op.rk=0->t.rd=[]/\t.wr=[])/\(o.op.rk=1->t.wr=[])/\∀(ρ:Rho) (L:List Blk),(∀n∈o.rds,ρ n=s.1 n)->(∀i∈t.rd,L[i]?=s.2[i]?)->∀KV:IV->List Blk->Prop,KV t.v (V9 L t.wl)->z3w E o t.g ρ L KV
def z4Q (E:Env):List zq->List Tr->St->St->Prop
 | [],[],s,s'=>s=s'
 | o::xs,t::tr,s,s'=>zge E o t s/\z4Q E xs tr (t.up o s) s'
 | _,_,_,_=>False
def z6R:Nat->List (Nat × List Nat × List Nat)->List (zq × List Nat × Bool)->List Tr->Prop
 | _,_,[],[]=>True
 | i,lg,(_,chk,keep)::l,t::tr=>((t.wr=[]/\t.rd=[])\/z7J chk t.rd t.wr lg)/\((t.wr=[]/\t.rd=[]/\z6R (i+1) lg l tr)\/z6R (i+1) (if keep then (i,t.rd,t.wr)::lg else lg) l tr)
 | _,_,_,_=>False
section
variable {E:Env}
theorem zbz {o:XO} {ρ ρ':Rho} {g:Nat} {L:List Blk} {K:IV->List Blk->Prop} (h:∀n∈o.us,ρ n=ρ' n):z4g E o (Opd.ev ρ) g L K=z4g E o (Opd.ev ρ') g L K:=by
 have h1:∀{x:Opd},(∀n,n∈x.us->n∈o.us)->x.ev ρ=x.ev ρ':=fun {x} l=>z6a x fun n d=>h n (l n d)
 cases o with
 | alloc z=>rfl
 | box x=>simp only [z4g];rw [h1 (x:=x) fun n d=>d]
 | bslice sz z len ps=>
  simp only [z4g]
  have:(ps.map fun p=>(p.1,p.2.ev ρ))=ps.map fun p=>(p.1,p.2.ev ρ'):=
   List.map_congr_left fun p j=>by rw [h1 (x:=p.2) (fun n d=>by simp only [XO.us,List.mem_flatMap];exact ⟨p,j,d⟩)]
  rw [this]
 | ex k xs=>
  simp only [z4g]
  rw [z5i xs (fun n d=>h n d)]
 | append sz b x y=>
  simp only [z4g]
  rw [h1 (x:=x) (fun n d=>by simp [XO.us,d]),h1 (x:=y) (fun n d=>by simp [XO.us,d])]
 | _=>exact z8o (E:=E) h
theorem zjk {o:XO} {e:Opd->IV} {L L':List Blk} (h:o.rk=0):o.rd e L++YR o L L'=[]/\o.wr e++YR o L L'=[]:=by
 cases o<;>first | exact ⟨rfl,rfl⟩ | (rename_i k _;cases k<;>first | exact ⟨rfl,rfl⟩ | (simp [XO.rk,XO.kd,XX.kd] at h)) | (simp only [XO.rk,XO.kd] at h;exact absurd h (by decide))
theorem ziL {o:XO} {e:Opd->IV} {L L':List Blk} (h:o.rk=1):o.wr e++YR o L L'=[]:=by
 cases o<;>first | rfl | (simp only [XO.rk,XO.kd] at h;exact absurd h (by decide)) | (rename_i k xs;cases k<;>first | rfl | (simp [XO.rk,XO.kd,XX.kd] at h))
theorem zdQ {o:zq} {ρ:Rho} {L:List Blk} {v:IV} {L':List Blk} {wl:List (Nat × Blk)} {p:Nat} (m:Nat) (h:Res E o.op (Opd.ev ρ) L v L' wl p) (hg:o.guard=none\/∃t b,o.guard=some (t,b)/\ρ t=.bool b) :
  zge E o ⟨v,wl,L.length,o.op.rd (Opd.ev ρ) L++YR o.op L L',o.op.wr (Opd.ev ρ)++YR o.op L L'⟩ (ρ,L++List.replicate (p+m) .unborn):=by
 refine ⟨h.2.1,fun j=>zjk j,fun j=>ziL j,fun ρ' L'' d s KV q=>?_⟩
 have h1:=(h.2.2 m).1 L'' s KV q
 rw [<-zbz (ρ:=ρ') (fun n l=>d n (by simp [zq.rds,l]))] at h1
 unfold z3w
 rcases hg with hg | ⟨t,b,hg,r⟩
 ·rw [hg];exact h1
 ·rw [hg]
  have:=d t (by simp [zq.rds,hg])
  simp only
  rw [this]
  show match ρ t with | _=>_
  simp only [r]
  exact ⟨fun _=>h1,fun l=>absurd rfl l⟩
theorem zea {o:zq} {ρ:Rho} {L:List Blk} {t:Nat} {d:Bool} (hg:o.guard=some (t,d)) (j:ρ t=.und\/∃b,ρ t=.bool b/\b≠d):zge E o ⟨.und,[],0,[],[]⟩ (ρ,L):=by
 refine ⟨by simp,fun _=>⟨rfl,rfl⟩,fun _=>rfl,fun ρ' L'' l q KV m=>?_⟩
 have:=l t (by simp [zq.rds,hg])
 unfold z3w
 rw [hg]
 simp only
 rw [this]
 show match ρ t with | _=>_
 rcases j with j | ⟨b,j,p⟩
 ·simp only [j];exact m
 ·simp only [j];exact ⟨fun h=>absurd h p,fun _=>m⟩
theorem trace {K:Rho->List Blk->Prop}:∀(l:List (zq × List Nat × Bool)) (i:Nat) (lg:List (Nat × List Nat × List Nat)) (ρ:Rho) (L:List Blk),(∀x∈l,x.1.op.rk<4)->yg E i lg l ρ L K->
  ∃(tr:List Tr) (m:Nat) (ρ':Rho) (L':List Blk),K ρ' L'/\z4Q E (l.map (·.1)) tr (ρ,L++List.replicate m .unborn) (ρ',L')/\z6R i lg l tr
 | [],i,lg,ρ,L,_,h=>⟨[],0,ρ,L,h,by simp [z4Q],trivial⟩
 | (o,chk,keep)::l,i,lg,ρ,L,hk,h=>by
  have A:o.op.rk<4:=hk _ List.mem_cons_self
  have s:∀x∈l,x.1.op.rk<4:=fun x r=>hk x (List.mem_cons_of_mem _ r)
  have q:(o.guard=none\/∃t d,o.guard=some (t,d)/\ρ t=.bool d)->(xop E o.op (Opd.ev ρ) L fun v L'=>z7J chk (o.op.rd (Opd.ev ρ) L++YR o.op L L') (o.op.wr (Opd.ev ρ)++YR o.op L L') lg/\
    yg E (i+1) (if keep then (i,o.op.rd (Opd.ev ρ) L++YR o.op L L',o.op.wr (Opd.ev ρ)++YR o.op L L')::lg else lg) l (put ρ o.dst v) L' K)->
    ∃(tr:List Tr) (m:Nat) (ρ':Rho) (L':List Blk),K ρ' L'/\z4Q E (((o,chk,keep)::l).map (·.1)) tr (ρ,L++List.replicate m .unborn) (ρ',L')/\z6R i lg ((o,chk,keep)::l) tr:=by
   intro hg r
   obtain ⟨v,L',p,wl,⟨hc,r⟩,B⟩:=zfz A r
   obtain ⟨tr,m,ρ',Lf,h1,h2,w⟩:=trace l _ _ _ _ s r
   refine ⟨⟨v,wl,L.length,_,_⟩::tr,p+m,ρ',Lf,h1,⟨zdQ m B hg,?_⟩,?_⟩
   ·show z4Q E (l.map (·.1)) tr (put ρ o.dst v,V9 (L++List.replicate (p+m) .unborn) wl) (ρ',Lf)
    rw [(B.2.2 m).2];exact h2
   ·exact ⟨.inr hc,.inr w⟩
  have j:∀t d,o.guard=some (t,d)->(ρ t=.und\/∃b,ρ t=.bool b/\b≠d)->yg E (i+1) lg l (put ρ o.dst .und) L K->
    ∃(tr:List Tr) (m:Nat) (ρ':Rho) (L':List Blk),K ρ' L'/\z4Q E (((o,chk,keep)::l).map (·.1)) tr (ρ,L++List.replicate m .unborn) (ρ',L')/\z6R i lg ((o,chk,keep)::l) tr:=by
   intro t d hg D r
   obtain ⟨tr,m,ρ',Lf,h1,h2,w⟩:=trace l _ _ _ _ s r
   exact ⟨⟨.und,[],0,[],[]⟩::tr,m,ρ',Lf,h1,⟨zea hg D,h2⟩,.inl ⟨rfl,rfl⟩,.inl ⟨rfl,rfl,w⟩⟩
  unfold yg at h
  split at h
  ·rename_i hg;exact q (.inl hg) h
  ·rename_i t d hg
   split at h
   ·rename_i b u
    by_cases hbw:b=d
    ·exact q (.inr ⟨t,d,hg,by rw [u,hbw]⟩) (h.1 hbw)
    ·exact j t d hg (.inr ⟨b,u,hbw⟩) (h.2 hbw)
   ·rename_i u;exact j t d hg (.inl u) h
   ·exact h.elim
def Ind (o:zq) (t:Tr) (p:zq) (u:Tr):Prop:=
 z6D o.dst p.rds=true/\z6D p.dst o.rds=true/\neO o.dst p.dst=true/\Ap t.rd t.wr u.rd u.wr
theorem Ind.symm {o p:zq} {t u:Tr} (h:Ind o t p u):Ind p u o t:=by
 obtain ⟨h1,h2,d,l,j⟩:=h
 refine ⟨h2,h1,?_,j,l⟩
 cases ho:o.dst with
 | none=>cases p.dst<;>rfl
 | some a=>cases hp:p.dst with
  | none=>rfl
  | some b=>
   rw [ho,hp] at d
   simp only [neO,Bool.not_eq_true',beq_eq_false_iff_ne,ne_eq] at d ⊢
   exact fun h=>d h.symm
def Fits (t:Tr):Prop:=∀p∈t.wl,p.1∈t.wr
theorem ze3 {o p:zq} {t u:Tr} (d:Fits t) (A:Fits u) (h:Ind o t p u) (s:St):t.up o (u.up p s)=u.up p (t.up o s):=by
 obtain ⟨_,_,j,m,B⟩:=h
 unfold Tr.up
 simp only
 rw [put_comm j,z2M u.wl t.wl s.2 fun q v r l w=>?_]
 have b:=d r l
 rw [<-w] at b
 exact (m _ b).2 (A q v)
def Agree (p:zq) (u:Tr) (s s':St):Prop:=(∀n∈p.rds,s.1 n=s'.1 n)/\(∀i∈u.rd,s.2[i]?=s'.2[i]?)/\s.2.length=s'.2.length
theorem zel {o p:zq} {t u:Tr} {s s':St} (h:Agree p u s s'):Agree p u (t.up o s) (t.up o s'):=by
 obtain ⟨h1,h2,b⟩:=h
 refine ⟨fun n j=>?_,fun i hi=>z15 _ _ _ b (h2 i hi),by simp only [Tr.up,z1P];exact b⟩
 simp only [Tr.up]
 cases o.dst with
 | none=>exact h1 n j
 | some d=>
  simp only [put]
  split
  ·rfl
  ·exact h1 n j
theorem z9b {o p:zq} {t u:Tr} {s s':St} (m:Fits t) (hi:Ind o t p u) (h:Agree p u s s'):Agree p u (t.up o s) s':=by
 obtain ⟨h1,h2,j⟩:=h
 refine ⟨fun n d=>?_,fun i b=>?_,by simp only [Tr.up,z1P];exact j⟩
 ·simp only [Tr.up];rw [Jt hi.1 n d];exact h1 n d
 ·simp only [Tr.up]
  rw [zb6 _ _ fun q l r=>(hi.2.2.2.1 _ (m q l)).1 (r▸b)]
  exact h2 i b
theorem Agree.symm {p:zq} {u:Tr} {s s':St} (h:Agree p u s s'):Agree p u s' s:=⟨fun n b=>(h.1 n b).symm,fun i hi=>(h.2.1 i hi).symm,h.2.2.symm⟩
theorem zcb {o p:zq} {t u:Tr} {s s':St} (b:Fits t) (hi:Ind o t p u) (h:Agree p u s s'):Agree p u s (t.up o s'):=(z9b b hi h.symm).symm
def SS (xs:List zq) (tr:List Tr) (lst:Nat->Bool) (s0:St):Nat->St
 | 0=>s0
 | k+1=>if lst k then (match xs[k]?,tr[k]? with | some o,some t=>t.up o (SS xs tr lst s0 k) | _,_=>SS xs tr lst s0 k) else SS xs tr lst s0 k
theorem z1K {xs:List zq} {tr:List Tr} {l b:Nat->Bool} {s0:St}:∀(k:Nat),(∀i,i<k->l i=b i)->SS xs tr l s0 k=SS xs tr b s0 k
 | 0,_=>rfl
 | k+1,h=>by
  unfold SS
  rw [z1K k fun i hi=>h i od,h k od]
theorem z5l {o:zq} {t:Tr} {xs:List zq} {tr:List Tr} {s0:St}:∀(k:Nat),SS (o::xs) (t::tr) (fun _=>true) s0 (k+1)=SS xs tr (fun _=>true) (t.up o s0) k
 | 0=>rfl
 | k+1=>by
  rw [SS,z5l k]
  simp only [if_true,List.getElem?_cons_succ]
  rfl
theorem zcW:∀(xs:List zq) (tr:List Tr) (s0 s':St),z4Q E xs tr s0 s'->xs.length=tr.length/\
  (∀k o t,xs[k]?=some o->tr[k]?=some t->zge E o t (SS xs tr (fun _=>true) s0 k))/\SS xs tr (fun _=>true) s0 xs.length=s'
 | [],[],s0,s',h=>⟨rfl,fun k o t h1=>by simp at h1,h⟩
 | [],_::_,_,_,h=>h.elim
 | _::_,[],_,_,h=>h.elim
 | o::xs,t::tr,s0,s',h=>by
  obtain ⟨h1,h2⟩:=h
  obtain ⟨j,m,l⟩:=zcW xs tr _ _ h2
  refine ⟨by simp [j],fun k p u b d=>?_,by rw [llc,z5l];exact l⟩
  cases k with
  | zero=>simp at b d;subst b;subst d;exact h1
  | succ k=>rw [z5l];exact m k p u (by simpa using b) (by simpa using d)
section
variable {xs:List zq} {tr:List Tr} {s0:St} (hfit:∀t∈tr,Fits t)
include hfit
theorem zcG {d:Nat->Bool} {j:Nat} {p:zq} {u:Tr} (s:xs[j]?=some p) (v:tr[j]?=some u) (r:d j=false)
  (h1:∀i o t,i<j->d i=false->xs[i]?=some o->tr[i]?=some t->Ind o t p u) (h2:∀i o t,j<i->d i=true->xs[i]?=some o->tr[i]?=some t->Ind o t p u) :
  ∀k,(k<=j->Agree p u (SS xs tr d s0 k) (SS xs tr (fun _=>true) s0 k))/\(j<=k->Agree p u (SS xs tr d s0 k) (SS xs tr (fun _=>true) s0 j)):=by
 have m:∀k,k<=j->Agree p u (SS xs tr d s0 k) (SS xs tr (fun _=>true) s0 k):=by
  intro k
  induction k with
  | zero=>intro _;exact ⟨fun _ _=>rfl,fun _ _=>rfl,rfl⟩
  | succ k b=>
   intro q
   have b:=b od
   simp only [SS,if_true]
   cases hx:xs[k]? with
   | none=>simp only [];split<;>exact b
   | some o=>
    cases ht:tr[k]? with
    | none=>simp only [];split<;>exact b
    | some t=>
     simp only []
     split
     ·exact zel b
     ·rename_i l
      exact zcb (hfit t (List.mem_of_getElem? ht)) (h1 k o t od (by simpa using l) hx ht) b
 intro k
 refine ⟨m k,?_⟩
 induction k with
 | zero=>
  intro h
  obtain rfl:j=0:=by omega
  exact m 0 (Nat.le_refl _)
 | succ k b=>
  intro q
  rcases Nat.lt_or_ge k j with h | h
  ·obtain rfl:j=k+1:=by omega
   exact m _ (Nat.le_refl _)
  ·have b:=b h
   simp only [SS]
   by_cases hkj:k=j
   ·subst hkj;rw [r];exact b
   ·cases hx:xs[k]? with
    | none=>simp only [];split<;>exact b
    | some o=>
     cases ht:tr[k]? with
     | none=>simp only [];split<;>exact b
     | some t=>
      simp only []
      split
      ·rename_i l
       exact z9b (hfit t (List.mem_of_getElem? ht)) (h2 k o t od l hx ht) b
      ·exact b
theorem zgi {b lst':Nat->Bool} {j:Nat} {p:zq} {u:Tr} (s:xs[j]?=some p) (r:tr[j]?=some u) (v:b j=false) (l:lst' j=true) (q:∀i,i≠j->lst' i=b i)
  (h2:∀i o t,j<i->b i=true->xs[i]?=some o->tr[i]?=some t->Ind o t p u):∀k,j<k->SS xs tr lst' s0 k=u.up p (SS xs tr b s0 k):=by
 intro k
 induction k with
 | zero=>intro h;omega
 | succ k m=>
  intro w
  by_cases hkj:k=j
  ·subst hkj
   simp only [SS,v,l,s,r,if_true,Bool.false_eq_true,if_false]
   rw [z1K k fun i hi=>q i od]
  ·have m:=m od
   simp only [SS,q k hkj]
   rw [m]
   split
   ·rename_i d
    cases hx:xs[k]? with
    | none=>simp only []
    | some o=>
     cases ht:tr[k]? with
     | none=>simp only []
     | some t=>
      simp only []
      exact ze3 (hfit t (List.mem_of_getElem? ht)) (hfit u (List.mem_of_getElem? r)) (h2 k o t od d hx ht) _
   ·rfl
end
theorem z6i {r w:List Nat}:Ap r w [] []:=⟨fun i _=>⟨by simp,by simp⟩,fun i h=>by simp at h⟩
theorem z6c {r w:List Nat}:Ap [] [] r w:=⟨fun i h=>by simp at h,fun i _=>⟨by simp,by simp⟩⟩
theorem z6k {b r w:List Nat}:∀{lg:List (Nat × List Nat × List Nat)},z7J b r w lg->∀q∈lg,q.1∈b->Ap q.2.1 q.2.2 r w
 | [],_,q,d=>by cases d
 | (i,r1,w1)::lg,⟨h1,h2⟩,q,d=>by
  rcases List.mem_cons.1 d with rfl | d
  ·exact h1
  ·exact z6k h2 q d
theorem z1H:∀(l:List (zq × List Nat × Bool)) (i:Nat) (lg:List (Nat × List Nat × List Nat)) (tr:List Tr),z6R i lg l tr->
  (∀q∈lg,∀(b:Nat) (p:zq) (m:List Nat) (keep:Bool) (u:Tr),l[b]?=some (p,m,keep)->tr[b]?=some u->q.1∈m->Ap q.2.1 q.2.2 u.rd u.wr)/\
  (∀(a b:Nat) (o:zq) (m:List Nat) (keep:Bool) (t:Tr) (p:zq) (j:List Nat) (d:Bool) (u:Tr),a<b->l[a]?=some (o,m,keep)->tr[a]?=some t->l[b]?=some (p,j,d)->tr[b]?=some u->keep=true->i+a∈j->Ap t.rd t.wr u.rd u.wr)
 | [],i,lg,[],_=>⟨fun q _ b p m keep u h=>by simp at h,fun a b o m keep t p j d u _ h=>by simp at h⟩
 | [],_,_,_::_,h=>h.elim
 | _::_,_,_,[],h=>h.elim
 | (o,m,keep)::l,i,lg,t::tr,⟨h1,h2⟩=>by
  have B:(∀q∈lg,∀(b:Nat) (p:zq) (m:List Nat) (keep:Bool) (u:Tr),l[b]?=some (p,m,keep)->tr[b]?=some u->q.1∈m->Ap q.2.1 q.2.2 u.rd u.wr)/\
    (∀(a b:Nat) (o:zq) (m:List Nat) (keep:Bool) (t:Tr) (p:zq) (j:List Nat) (d:Bool) (u:Tr),a<b->l[a]?=some (o,m,keep)->tr[a]?=some t->l[b]?=some (p,j,d)->tr[b]?=some u->keep=true->(i+1)+a∈j->Ap t.rd t.wr u.rd u.wr)/\
    (∀(b:Nat) (p:zq) (j:List Nat) (d:Bool) (u:Tr),l[b]?=some (p,j,d)->tr[b]?=some u->keep=true->i∈j->Ap t.rd t.wr u.rd u.wr):=by
   rcases h2 with ⟨Q,S,h2⟩ | h2
   ·obtain ⟨r,M⟩:=z1H l _ _ tr h2
    exact ⟨r,M,fun b p j d u _ _ _ _=>by rw [Q,S];exact z6c⟩
   ·obtain ⟨r,M⟩:=z1H l _ _ tr h2
    cases G:keep with
    | false=>
     rw [G] at r
     exact ⟨r,M,fun b p j d u _ _ R=>by cases R⟩
    | true=>
     rw [G] at r
     exact ⟨fun q O=>r q (List.mem_cons_of_mem _ O),M,fun b p j d u A s _ hi=>r _ List.mem_cons_self b p j d u A s hi⟩
  obtain ⟨r1,r2,U⟩:=B
  refine ⟨fun q O b p j d u A s hi=>?_,fun a b V I v t' p j d u T ha w A s G hi=>?_⟩
  ·cases b with
   | zero=>
    simp only [List.getElem?_cons_zero,sij,Prod.mk.injEq] at A s
    obtain ⟨rfl,rfl,rfl⟩:=A;subst s
    rcases h1 with ⟨Q,S⟩ | h1
    ·rw [Q,S];exact z6i
    ·exact z6k h1 q O hi
   | succ b=>exact r1 q O b p j d u (by simpa using A) (by simpa using s) hi
  ·cases b with
   | zero=>omega
   | succ b=>
    have D:l[b]?=some (p,j,d):=by simpa using A
    have J:tr[b]?=some u:=by simpa using s
    cases a with
    | zero=>
     simp only [List.getElem?_cons_zero,sij,Prod.mk.injEq] at ha w
     obtain ⟨rfl,rfl,rfl⟩:=ha;subst w
     exact U b p j d u D J G (by simpa using hi)
    | succ a=>exact r2 a b V I v t' p j d u od (by simpa using ha) (by simpa using w) D J G (by rw [Nat.add_assoc,Nat.add_comm 1 a];exact hi)
structure zgz (ops:Array Oper) (xs:List (zq × List Nat × Bool)):Prop where
 len:xs.length=ops.size
 rk:∀x∈xs,x.1.op.rk<4
 topo:∀(j:Nat) (o:Oper),ops[j]?=some o->∀e∈o.after,Region.binds .any e=true->e.on<j
 pair:∀(i j:Nat) (o:zq) (chk:List Nat) (keep:Bool) (p:zq) (chk':List Nat) (keep':Bool),i<j->xs[i]?=some (o,chk,keep)->xs[j]?=some (p,chk',keep')->j∈vS ops i\/
  (z6D o.dst p.rds=true/\z6D p.dst o.rds=true/\neO o.dst p.dst=true/\(racy o p=true->keep=true/\i∈chk'))
theorem z8I {ops:Array Oper} {xs:List (zq × List Nat × Bool)} (h:zbX ops xs=true):zgz ops xs:=by
 unfold zbX at h
 simp only [Bool.and_eq_true,beq_iff_eq,List.all_eq_true,decide_eq_true_eq,List.mem_range] at h
 obtain ⟨⟨⟨h1,h2⟩,A⟩,u⟩:=h
 refine ⟨h2,h1,fun j o q e M I=>?_,fun i j o J keep p r l v hi s=>?_⟩
 ·have:=A j (Array.getElem?_eq_some_iff.1 q).1
  rw [q] at this
  simp only at this
  rw [Array.all_eq_true] at this
  obtain ⟨k,D,rfl⟩:=Array.mem_iff_getElem.1 M
  have:=this k D
  rw [I] at this
  simpa using this
 ·have m:j<ops.size:=by rw [<-h2];exact zf s
  have:=u i od j m
  rw [hi,s] at this
  simp only [Bool.or_eq_true,Bool.not_eq_true',decide_eq_false_iff_not,List.contains_eq_mem,decide_eq_true_eq,Bool.and_eq_true] at this
  rcases this with (d | d) | ⟨⟨⟨d,B⟩,w⟩,b⟩
  ·omega
  ·exact .inl d
  ·refine .inr ⟨d,B,w,fun G=>?_⟩
   rcases b with b | b
   ·rw [G] at b;cases b
   ·exact b
end
end Go.X
end
