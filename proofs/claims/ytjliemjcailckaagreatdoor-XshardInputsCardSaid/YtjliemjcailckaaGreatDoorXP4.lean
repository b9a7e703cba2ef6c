/- Parts of the proof: XDraw, XResv, XAny. -/
import Derived.Test.YtjliemjcailckaaGreatDoorXP3
import Derived.Orders
set_option linter.unusedVariables false
set_option linter.unusedSimpArgs false
set_option linter.unusedSectionVars false
section
namespace Go.X
open Go
section
variable {E:Env} {ρ ρ':Rho} {L:List Blk} {KV:IV->List Blk->Prop}
def zG (E:Env) (o:zg) (ρ:Rho) (L:List Blk) (KV:IV->List Blk->Prop):Prop:=
 match o.guard with
 | none=>xop E o.op (Opd.ev ρ) L KV
 | some (t,want)=>match ρ t with
  | .bool b=>(b=want->xop E o.op (Opd.ev ρ) L KV)/\(b≠want->KV .und L)
  | .und=>KV .und L
  | _=>False
theorem z19 {o:zg} {r:List zg} {K:Rho->List Blk->Prop}:Y7 E (o::r) ρ L K=zG E o ρ L fun v L'=>Y7 E r (put ρ o.dst v) L' K:=by
 simp only [Y7,zG]
 cases o.guard with
 | none=>rfl
 | some p=>simp only;cases ρ p.1<;>rfl
theorem z2F {o:zg} (h:∀n∈o.rds,ρ n=ρ' n):zG E o ρ L KV=zG E o ρ' L KV:=by
 obtain ⟨d,op,g⟩:=o
 have b:xop E op (Opd.ev ρ) L KV=xop E op (Opd.ev ρ') L KV:=z6g fun n j=>h n (by simp [zg.rds,j])
 cases g with
 | none=>simp only [zG,b]
 | some p=>
  obtain ⟨t,w⟩:=p
  simp only [zG,b,h t (by simp [zg.rds])]
theorem zfL {o:zg} (m:o.op.kd=0) (h:zG E o ρ L KV):∃r,KV r L/\∀(L':List Blk) (K':IV->List Blk->Prop),K' r L'->zG E o ρ L' K':=by
 obtain ⟨d,op,g⟩:=o
 cases g with
 | none=>exact z3u m h
 | some p=>
  obtain ⟨t,w⟩:=p
  simp only [zG] at h ⊢
  split at h
  ·rename_i b u
   by_cases hw:b=w
   ·obtain ⟨r,s,q⟩:=z3u m (h.1 hw)
    exact ⟨r,s,fun L' K' j=>⟨fun _=>q L' K' j,fun l=>absurd hw l⟩⟩
   ·exact ⟨.und,h.2 hw,fun L' K' j=>⟨fun l=>absurd l hw,fun _=>j⟩⟩
  ·exact ⟨.und,h,fun _ _ j=>j⟩
  ·exact h.elim
theorem zf7 {o:zg} (m:o.op.kd=1) (h:zG E o ρ L KV):∃r,KV r L/\(∀K':IV->List Blk->Prop,K' r L->zG E o ρ L K')/\∀(b:Blk) (K':IV->List Blk->Prop),K' r (L++[b])->zG E o ρ (L++[b]) K':=by
 obtain ⟨d,op,g⟩:=o
 cases g with
 | none=>exact z4u m h
 | some p=>
  obtain ⟨t,w⟩:=p
  simp only [zG] at h ⊢
  split at h
  ·rename_i b A
   by_cases hw:b=w
   ·obtain ⟨r,u,q,s⟩:=z4u m (h.1 hw)
    exact ⟨r,u,fun K' j=>⟨fun _=>q K' j,fun l=>absurd hw l⟩,fun b K' j=>⟨fun _=>s b K' j,fun l=>absurd hw l⟩⟩
   ·exact ⟨.und,h.2 hw,fun K' j=>⟨fun l=>absurd l hw,fun _=>j⟩,fun _ K' j=>⟨fun l=>absurd l hw,fun _=>j⟩⟩
  ·exact ⟨.und,h,fun _ j=>j,fun _ _ j=>j⟩
  ·exact h.elim
theorem zeY {o:zg} (s:o.op.kd=2) (h:zG E o ρ L KV):∃r L',(L'=L\/∃b,L'=L++[b])/\KV r L'/\∀K':IV->List Blk->Prop,K' r L'->zG E o ρ L K':=by
 obtain ⟨d,op,g⟩:=o
 cases g with
 | none=>obtain ⟨r,b,q,l⟩:=z4I s h;exact ⟨r,_,.inr ⟨b,rfl⟩,q,l⟩
 | some p=>
  obtain ⟨t,w⟩:=p
  simp only [zG] at h ⊢
  split at h
  ·rename_i b u
   by_cases hw:b=w
   ·obtain ⟨r,b,q,l⟩:=z4I s (h.1 hw)
    exact ⟨r,_,.inr ⟨b,rfl⟩,q,fun K' j=>⟨fun _=>l K' j,fun m=>absurd hw m⟩⟩
   ·exact ⟨.und,L,.inl rfl,h.2 hw,fun K' j=>⟨fun m=>absurd m hw,fun _=>j⟩⟩
  ·exact ⟨.und,L,.inl rfl,h,fun _ j=>j⟩
  ·exact h.elim
theorem zcB {o:zg} (m:o.op.kd<4) (h:zG E o ρ L KV):∃r L',KV r L'/\∀K':IV->List Blk->Prop,K' r L'->zG E o ρ L K':=by
 obtain ⟨d,op,g⟩:=o
 cases g with
 | none=>exact z4y m h
 | some p=>
  obtain ⟨t,w⟩:=p
  simp only [zG] at h ⊢
  split at h
  ·rename_i b u
   by_cases hw:b=w
   ·obtain ⟨r,L',s,q⟩:=z4y m (h.1 hw)
    exact ⟨r,L',s,fun K' j=>⟨fun _=>q K' j,fun l=>absurd hw l⟩⟩
   ·exact ⟨.und,L,h.2 hw,fun K' j=>⟨fun l=>absurd l hw,fun _=>j⟩⟩
  ·exact ⟨.und,L,h,fun _ j=>j⟩
  ·exact h.elim
theorem jA {o:zg} {K':IV->List Blk->Prop} (b:∀v L',KV v L'->K' v L') (h:zG E o ρ L KV):zG E o ρ L K':=by
 obtain ⟨d,op,g⟩:=o
 cases g with
 | none=>exact ZC b h
 | some p=>
  obtain ⟨t,w⟩:=p
  simp only [zG] at h ⊢
  split at h
  ·exact ⟨fun j=>ZC b (h.1 j),fun j=>b _ _ (h.2 j)⟩
  ·exact b _ _ h
  ·exact h.elim
theorem vN {d:Option Nat} {v:IV} {l:List Nat} (h:z0I d l=true):∀n∈l,put ρ d v n=ρ n:=by
 intro n j
 cases d with
 | none=>rfl
 | some d=>
  simp only [put]
  rw [if_neg]
  intro b;subst b
  simp only [z0I,Bool.not_eq_true',List.contains_eq_mem] at h
  simp [j] at h
theorem put_comm {d d':Option Nat} {v u:IV} (h:neO d d'=true):put (put ρ d v) d' u=put (put ρ d' u) d v:=by
 cases d with
 | none=>rfl
 | some d=>cases d' with
  | none=>rfl
  | some d'=>
   simp only [neO,Bool.not_eq_true',beq_eq_false_iff_ne,ne_eq] at h
   funext n
   simp only [put]
   by_cases h1:n=d'
   ·subst h1;simp [Ne.symm h]
   ·simp [h1]
def sOp (E:Env) (xs:List zg) (i:Nat) (KK:Rho->List Blk->Prop) (ρ:Rho) (L:List Blk):Prop:=
 match xs[i]? with
 | none=>KK ρ L
 | some o=>zG E o ρ L fun v L'=>KK (put ρ o.dst v) L'
def z0n (E:Env) (ops:Array Oper) (xs:List zg) (K:Rho->List Blk->Prop):Nat->Array Bool->Rho->List Blk->Prop
 | 0,listed,ρ,L=>Region.ready .any ops listed=[]/\K ρ L
 | n+1,listed,ρ,L=>(Region.ready .any ops listed=[]->K ρ L)/\∀i∈Region.ready .any ops listed,sOp E xs i (z0n E ops xs K n (listed.setIfInBounds i true)) ρ L
structure z5z (ops:Array Oper) (i:Nat) (W:Nat->Prop):Prop where
 self:W i
 edge:∀j,W j->j≠i->∃o e,ops[j]?=some o/\e∈o.after/\Region.binds .any e=true/\W e.on
theorem yH (ops:Array Oper) (i:Nat):z5z ops i (fun j=>j∈ZU ops i):=by
 unfold ZU
 have key:∀(l:List Nat) (b:List Nat),z5z ops i (fun j=>j∈b)->z5z ops i (fun j=>j∈l.foldl (fun b j=>if ((ops[j]?).map fun o=>o.after.any fun e=>Region.binds .any e&&b.contains e.on).getD false then j::b else b) b):=by
  intro l
  induction l with
  | nil=>intro b h;exact h
  | cons x l s=>
   intro b h
   rw [List.foldl_cons]
   refine s _ ?_
   split
   ·rename_i d
    refine ⟨List.mem_cons_of_mem _ h.self,fun j q m=>?_⟩
    rcases List.mem_cons.1 q with rfl | q
    ·cases ho:ops[j]? with
     | none=>rw [ho] at d;cases d
     | some o=>
      rw [ho] at d
      simp only [Option.map_some,Option.getD_some] at d
      rw [Array.any_eq_true] at d
      obtain ⟨k,B,d⟩:=d
      simp only [Bool.and_eq_true,List.contains_eq_mem,decide_eq_true_eq] at d
      exact ⟨o,o.after[k],rfl,Array.getElem_mem B,d.1,List.mem_cons_of_mem _ d.2⟩
    ·obtain ⟨o,e,A,u,w,r⟩:=h.edge j q m
     exact ⟨o,e,A,u,w,List.mem_cons_of_mem _ r⟩
   ·exact h
 exact key _ _ ⟨by simp,fun j q m=>by simp at q;exact absurd q m⟩
theorem WC (o:XO):(∃sz z n ps,o=.bslice sz z n ps)\/o.kd2=o.kd:=by
 cases o<;>first | exact .inr rfl | exact .inl ⟨_,_,_,_,rfl⟩
theorem z8Y {o:zg} (d:o.op.kd2=0) (h:zG E o ρ L KV):∃r,KV r L/\∀(L':List Blk) (K':IV->List Blk->Prop),K' r L'->zG E o ρ L' K':=by
 rcases WC o.op with ⟨sz,z,n,ps,b⟩ | b
 ·rw [b] at d;simp [XO.kd2] at d
 ·exact zfL (b▸d) h
theorem z99 {o:zg} (j:o.op.kd2=1) (h:zG E o ρ L KV):∃r,KV r L/\(∀K':IV->List Blk->Prop,K' r L->zG E o ρ L K')/\∀(b:Blk) (K':IV->List Blk->Prop),K' r (L++[b])->zG E o ρ (L++[b]) K':=by
 rcases WC o.op with ⟨sz,z,n,ps,d⟩ | d
 ·rw [d] at j;simp [XO.kd2] at j
 ·exact zf7 (d▸j) h
theorem z6C {E:Env} {L:List Blk} {KV:IV->List Blk->Prop} {sz n:Nat} {z:List IV} {ps:List (Nat × Opd)} {e:Opd->IV} (h:xop E (.bslice sz z n ps) e L KV):∃r b,KV r (L++[b])/\∀K':IV->List Blk->Prop,K' r (L++[b])->xop E (.bslice sz z n ps) e L K':=by
 simp only [xop] at h ⊢
 obtain ⟨j,h⟩:=h
 split at h
 ·rename_i rows l
  exact ⟨_,_,h,fun K' d=>⟨j,by first | exact d | (rw [l];exact d)⟩⟩
 ·exact h.elim
theorem z8K {o:zg} {sz n:Nat} {z:List IV} {ps:List (Nat × Opd)} (s:o.op=.bslice sz z n ps) (h:zG E o ρ L KV):∃r L',(L'=L\/∃b,L'=L++[b])/\KV r L'/\∀K':IV->List Blk->Prop,K' r L'->zG E o ρ L K':=by
 obtain ⟨d,op,g⟩:=o
 simp only at s
 subst s
 cases g with
 | none=>obtain ⟨r,b,q,l⟩:=z6C (E:=E) h;exact ⟨r,_,.inr ⟨b,rfl⟩,q,l⟩
 | some p=>
  obtain ⟨t,w⟩:=p
  simp only [zG] at h ⊢
  split at h
  ·rename_i b u
   by_cases hw:b=w
   ·obtain ⟨r,b,q,l⟩:=z6C (E:=E) (h.1 hw)
    exact ⟨r,_,.inr ⟨b,rfl⟩,q,fun K' j=>⟨fun _=>l K' j,fun m=>absurd hw m⟩⟩
   ·exact ⟨.und,L,.inl rfl,h.2 hw,fun K' j=>⟨fun m=>absurd m hw,fun _=>j⟩⟩
  ·exact ⟨.und,L,.inl rfl,h,fun _ j=>j⟩
  ·exact h.elim
theorem zc1 {o:zg} (j:o.op.kd2=2) (h:zG E o ρ L KV):∃r L',(L'=L\/∃b,L'=L++[b])/\KV r L'/\∀K':IV->List Blk->Prop,K' r L'->zG E o ρ L K':=by
 rcases WC o.op with ⟨sz,z,n,ps,d⟩ | d
 ·exact z8K d h
 ·exact zeY (d▸j) h
theorem zat {o:zg} (l:o.op.kd2<4) (h:zG E o ρ L KV):∃r L',KV r L'/\∀K':IV->List Blk->Prop,K' r L'->zG E o ρ L K':=by
 rcases WC o.op with ⟨sz,z,n,ps,b⟩ | b
 ·obtain ⟨r,L',_,j,d⟩:=z8K b h
  exact ⟨r,L',j,d⟩
 ·exact zcB (b▸l) h
theorem z8t {oi d:zg} {v:IV} {Li:List Blk} {KK:Rho->List Blk->Prop} (s:z95 oi d=true) (M:∀KV:IV->List Blk->Prop,KV v Li->zG E oi ρ L KV)
  (h:zG E d (put ρ oi.dst v) Li fun u L'=>KK (put (put ρ oi.dst v) d.dst u) L') :
  zG E d ρ L fun u L'=>∃Li',(∀KV:IV->List Blk->Prop,KV v Li'->zG E oi (put ρ d.dst u) L' KV)/\KK (put (put ρ d.dst u) oi.dst v) Li':=by
 simp only [z95,Bool.and_eq_true] at s
 obtain ⟨⟨⟨S,O⟩,T⟩,w⟩:=s
 simp only [zaX,Bool.and_eq_true,Bool.or_eq_true,decide_eq_true_eq,beq_iff_eq] at w
 rw [z2F (ρ':=ρ) (fun n J=>vN S n J)] at h
 have Y:∀u L' KV,zG E oi (put ρ d.dst u) L' KV=zG E oi ρ L' KV:=fun u L' KV=>z2F fun n J=>vN O n J
 simp only [put_comm T] at h
 simp only [Y]
 have m:=M (fun r L'=>r=v/\L'=Li) ⟨rfl,rfl⟩
 by_cases hi0:oi.op.kd2=0
 ·obtain ⟨r,⟨rfl,rfl⟩,j⟩:=z8Y hi0 m
  exact jA (fun u L' l=>⟨L',fun KV w=>j L' KV w,l⟩) h
 obtain ⟨⟨V,U⟩,w⟩:=w.resolve_left hi0
 by_cases hj0:d.op.kd2=0
 ·obtain ⟨u,X,j⟩:=z8Y hj0 h
  exact j L _ ⟨Li,M,X⟩
 obtain ⟨G,Q⟩:oi.op.kd2=1/\d.op.kd2<3:=by omega
 obtain ⟨r,⟨rfl,rfl⟩,j,D⟩:=z99 G m
 have q:d.op.kd2=1\/d.op.kd2=2:=by omega
 rcases q with I | I
 ·obtain ⟨u,l,A,_⟩:=z99 I h
  exact A _ ⟨_,j,l⟩
 ·obtain ⟨u,L',B,l,A⟩:=zc1 I h
  rcases B with rfl | ⟨b,rfl⟩
  ·exact A _ ⟨_,j,l⟩
  ·exact A _ ⟨_,D b,l⟩
theorem z1E {ops:Array Oper} {xs:List zg} {K:Rho->List Blk->Prop} {i:Nat} {oi:zg} {v:IV} (M:xs.length=ops.size) (hi:xs[i]?=some oi) {W:Nat->Prop} (hW:z5z ops i W) :
  ∀(fuel:Nat) (d:Array Bool) (ρ:Rho) (L Li:List Blk),(∀j,W j->d.getD j true=false)->
   (∀j w,xs[j]?=some w->j≠i->d.getD j true=false->¬W j->z95 oi w=true)->
   i∈Region.ready .any ops d->(∀KV:IV->List Blk->Prop,KV v Li->zG E oi ρ L KV)->
   z0n E ops xs K fuel (d.setIfInBounds i true) (put ρ oi.dst v) Li->z0n E ops xs K (fuel+1) d ρ L:=by
 intro fuel
 induction fuel with
 | zero=>
  intro d ρ L Li _ _ A V H
  refine ⟨fun h=>(by rw [h] at A;cases A),fun j T=>?_⟩
  by_cases hji:j=i
  ·subst hji;simp only [sOp,hi];exact V _ H
  ·have:=ready_mono T hji
   rw [H.1] at this
   cases this
 | succ fuel ih=>
  intro d ρ L Li D l A V H
  refine ⟨fun h=>(by rw [h] at A;cases A),fun j T=>?_⟩
  by_cases hji:j=i
  ·subst hji;simp only [sOp,hi];exact V _ H
  ·have h1:=H.2 j (ready_mono T hji)
   obtain ⟨q,ag,r,G⟩:=mem_ready.1 T
   have J:¬W j:=fun hw=>by
    obtain ⟨o,e,S,Z,Y,h5⟩:=hW.edge j hw hji
    rw [r] at S
    obtain rfl:=Option.some.inj S
    have Q:=G e Z Y
    have s:=D _ h5
    rw [Array.getD_eq_getD_getElem?] at Q s
    cases hx:d[e.on]? with
    | none=>rw [hx] at s;cases s
    | some b=>rw [hx] at Q s;simp at Q s;rw [Q] at s;cases s
   have I:j<xs.length:=by rw [M];exact (Array.getElem?_eq_some_iff.1 r).1
   obtain ⟨w,O⟩:∃w,xs[j]?=some w:=⟨_,List.getElem?_eq_getElem I⟩
   simp only [sOp,O] at h1 ⊢
   have ae:=l j w O hji q J
   have S:=z8t ae V h1
   refine jA (fun u L' ⟨Li',Z,Y⟩=>?_) S
   refine ih (d.setIfInBounds j true) _ _ Li' (fun k U=>?_) (fun k ok U af B X=>?_) (ready_mono A (Ne.symm hji)) Z ?_
   ·have m:j≠k:=fun h=>J (h▸U)
    rw [Go.getD_set_ne true m];exact D k U
   ·refine l k ok U af ?_ X
    by_cases m:j=k
    ·subst m;exact q
    ·rw [Go.getD_set_ne true m] at B;exact B
   ·rw [Array.setIfInBounds_comm _ _ hji]
    exact Y
theorem z4W {ops:Array Oper} {xs:List zg} {K:Rho->List Blk->Prop} {k:Nat} {o:zg} (h0:xs[k]?=some o) {W:Nat->Prop} (hW:z5z ops k W):∀(fuel:Nat) (S:List Nat) (l:Array Bool) (ρ:Rho) (L:List Blk),
  S.length<=fuel->(∀j,W j->l.getD j true=false)->(∀j oj,ops[j]?=some oj->j≠k->l.getD j true=false->¬W j->j∈S/\∃p,xs[j]?=some p/\xmv o p=true)->k∈Region.ready .any ops l->
  zG E o ρ L (fun v L'=>z0n E ops xs K fuel (l.setIfInBounds k true) (put ρ o.dst v) L')->z0n E ops xs K (fuel+1) l ρ L:=by
 intro fuel
 induction fuel with
 | zero=>
  intro S l ρ L Y B r U h
  refine ⟨fun h=>(by rw [h] at U;cases U),fun j Z=>?_⟩
  by_cases hjk:j=k
  ·subst hjk;simp only [sOp,h0];exact h
  ·exfalso
   obtain ⟨m,Q,s,w⟩:=mem_ready.1 Z
   have G:¬W j:=fun hw=>by
    obtain ⟨o',e,M,X,T,h5⟩:=hW.edge j hw hjk
    rw [s] at M
    obtain rfl:=Option.some.inj M
    have D:=w e X T
    have u:=B _ h5
    rw [Array.getD_eq_getD_getElem?] at D u
    cases J:l[e.on]? with
    | none=>rw [J] at u;cases u
    | some b=>rw [J] at D u;simp at D u;rw [D] at u;cases u
   obtain ⟨h1,_⟩:=r j Q s hjk m G
   cases S with
   | nil=>cases h1
   | cons=>simp at Y
 | succ fuel ih=>
  intro S l ρ L Y B r U h
  refine ⟨fun h=>(by rw [h] at U;cases U),fun j Z=>?_⟩
  by_cases hjk:j=k
  ·subst hjk;simp only [sOp,h0];exact h
  ·obtain ⟨m,Q,s,w⟩:=mem_ready.1 Z
   have G:¬W j:=fun hw=>by
    obtain ⟨o',e,M,X,T,h5⟩:=hW.edge j hw hjk
    rw [s] at M
    obtain rfl:=Option.some.inj M
    have D:=w e X T
    have u:=B _ h5
    rw [Array.getD_eq_getD_getElem?] at D u
    cases J:l[e.on]? with
    | none=>rw [J] at u;cases u
    | some b=>rw [J] at D u;simp at D u;rw [D] at u;cases u
   obtain ⟨ah,p,hp,O⟩:=r j Q s hjk m G
   have ak:=O
   simp only [xmv,Bool.and_eq_true] at O
   obtain ⟨⟨⟨d1,d2⟩,d3⟩,hm⟩:=O
   obtain ⟨x,J,hg⟩:∃x,p.op=.mov x/\p.guard=none:=by
    obtain ⟨d,op,g⟩:=p
    cases op<;>first | (simp at hm;done) | skip
    cases g with
    | none=>exact ⟨_,rfl,rfl⟩
    | some q=>simp at hm
   have V:∀(ρ:Rho) (L:List Blk) (KV:IV->List Blk->Prop),zG E p ρ L KV=KV (Opd.ev ρ x) L:=fun ρ L KV=>by simp only [zG,hg,J,xop]
   simp only [sOp,hp,V]
   have aj:∀v,Opd.ev (put ρ o.dst v) x=Opd.ev ρ x:=fun v=>by
    cases x with
    | t n=>exact vN d1 n (by simp [zg.rds,J,XO.us,Opd.us])
    | _=>rfl
   refine ih (S.erase j) _ _ _ (by rw [List.length_erase_of_mem ah];omega) (fun i hi=>?_) (fun i oi ai af A ae=>?_) (ready_mono U (Ne.symm hjk)) ?_
   ·have I:j≠i:=fun h=>G (h▸hi)
    rw [Go.getD_set_ne true I];exact B i hi
   ·have I:j≠i:=by
     rintro rfl
     have ag:j<l.size:=by
      rw [Array.getD_eq_getD_getElem?] at m
      cases hx2:l[j]? with
      | none=>rw [hx2] at m;cases m
      | some b=>exact (Array.getElem?_eq_some_iff.1 hx2).1
     rw [Array.getD_eq_getD_getElem?,Array.getElem?_setIfInBounds_self_of_lt ag] at A
     cases A
    rw [Go.getD_set_ne true I] at A
    obtain ⟨h1,M⟩:=r i oi ai af A ae
    exact ⟨(List.mem_erase_of_ne (Ne.symm I)).2 h1,M⟩
   ·rw [<-z2F (ρ:=ρ) (fun n hn=>(vN d2 n hn).symm)]
    refine jA (fun v L' X=>?_) h
    have T:=X.2 j (ready_mono Z hjk)
    simp only [sOp,hp,V,aj] at T
    rw [Array.setIfInBounds_comm _ _ hjk,<-put_comm d3]
    exact T
theorem WG {ops:Array Oper} {xs:List zg} {K:Rho->List Blk->Prop} (q:xs.length=ops.size):∀(l:List zg) (k:Nat) (b:Array Bool) (ρ:Rho) (L:List Blk),(∀j,l[j]?=xs[k+j]?)->(∀j,j<k->b.getD j true=true)->
  jE ops xs l.length k b=true->Y7 E l ρ L K->z0n E ops xs K l.length b ρ L
 | [],_,_,_,_,_,_,hB,h=>⟨by simpa [jE] using hB,h⟩
 | o::l,k,b,ρ,L,hl,hk0,hB,h=>by
  have Q:xs[k]?=some o:=by simpa using (hl 0).symm
  simp only [llc,jE,Bool.and_eq_true] at hB
  obtain ⟨hr,X,D⟩:=hB
  rw [z19] at h
  simp only [z5P,Bool.and_eq_true,List.all_eq_true] at X
  obtain ⟨J,M⟩:=X
  have I:∀j,l[j]?=xs[k+1+j]?:=fun j=>by have:=hl (j+1);simpa [Nat.add_assoc,Nat.add_comm 1 j] using this
  have O:k∈Region.ready .any ops b:=by simpa using hr
  have G:∀j,j<k+1->(b.setIfInBounds k true).getD j true=true:=fun j w=>by
   by_cases r:k=j
   ·subst r
    rw [Array.getD_eq_getD_getElem?]
    by_cases hlt:k<b.size
    ·rw [Array.getElem?_setIfInBounds_self_of_lt hlt];rfl
    ·rw [Array.getElem?_eq_none (by simp;omega)];rfl
   ·rw [Go.getD_set_ne true r];exact hk0 j od
  by_cases hk4:o.op.kd2<4
  ·obtain ⟨v,Li,U,Y⟩:=zat hk4 h
   refine z1E q Q (yH ops k) l.length b ρ L Li (fun j w=>by simpa using J j w) (fun j T w r u B=>?_) O Y
    (WG q l (k+1) _ _ _ I G D U)
   have m:=M j (by rw [List.mem_range,<-q];exact zk w)
   simp only [Bool.or_eq_true,beq_iff_eq,List.contains_eq_mem,decide_eq_true_eq,Q,w] at m
   rcases m with ((m | m) | m) | m
   ·exact absurd m r
   ·rw [u] at m;cases m
   ·exact absurd m B
   ·rcases m with m | m
    ·exact m
    ·simp only [xmv,Bool.and_eq_true] at m
     obtain ⟨m,s⟩:=m
     simp only [z95,Bool.and_eq_true]
     refine ⟨m,?_⟩
     have V:T.op.kd2=0:=by
      obtain ⟨d,op,g⟩:=T
      cases op<;>first | (simp at s;done) | rfl
     simp only [zaX,V]
     simp [hk4]
  ·refine z4W Q (yH ops k) l.length (List.range' (k+1) l.length) b ρ L (by simp) (fun j w=>by simpa using J j w) (fun j T w r u B=>?_) O (jA (fun v L' U=>WG q l (k+1) _ _ _ I G D U) h)
   have A:j<xs.length:=by rw [q];exact (Array.getElem?_eq_some_iff.1 w).1
   obtain ⟨p,S⟩:∃p,xs[j]?=some p:=⟨_,List.getElem?_eq_getElem A⟩
   have m:=M j (by rw [List.mem_range,<-q];exact A)
   simp only [Bool.or_eq_true,beq_iff_eq,List.contains_eq_mem,decide_eq_true_eq,Q,S] at m
   have Z:k<j:=by
    rcases Nat.lt_trichotomy j k with s | s | s
    ·have:=hk0 j s;rw [u] at this;cases this
    ·exact absurd s r
    ·exact s
   refine ⟨?_,p,S,?_⟩
   ·rw [List.mem_range'_1]
    have s:=hl (j - k)
    rw [show k+(j - k)=j by omega,S] at s
    have V:=zk s
    simp only [llc] at V
    omega
   ·rcases m with ((m | m) | m) | m
    ·exact absurd m r
    ·rw [u] at m;cases m
    ·exact absurd m B
    ·rcases m with m | m
     ·simp only [z95,zaX,Bool.and_eq_true,Bool.or_eq_true,beq_iff_eq,decide_eq_true_eq] at m
      omega
     ·exact m
theorem zem {o p:zg} (h:xap o p=true):z95 o p=true:=by
 simp only [xap,z95,Bool.and_eq_true] at h ⊢
 refine ⟨h.1,?_⟩
 have d:=h.2
 have b:∀q:XO,q.kd2=q.kd\/(q.kd=4/\q.kd2=2):=fun q=>by
  cases q<;>first | exact .inl rfl | exact .inr ⟨rfl,rfl⟩
 simp only [zaX,Bool.or_eq_true,Bool.and_eq_true,beq_iff_eq,decide_eq_true_eq] at d ⊢
 rcases b o.op with j | ⟨j,m⟩<;>rcases b p.op with l | ⟨l,r⟩<;>omega
theorem z5A {ops:Array Oper} {xs:List zg}:∀(f k:Nat) (b:Array Bool),z6c ops xs f k b=true->jE ops xs f k b=true
 | 0,_,_,h=>h
 | f+1,k,b,h=>by
  simp only [z6c,jE,Bool.and_eq_true] at h ⊢
  refine ⟨h.1,?_,z5A f _ _ h.2.2⟩
  have l:=h.2.1
  simp only [zcI,z5P,Bool.and_eq_true,List.all_eq_true] at l ⊢
  refine ⟨l.1,fun j m=>?_⟩
  have d:=l.2 j m
  rw [Bool.or_eq_true] at d ⊢
  rcases d with d | d
  ·exact .inl d
  ·refine .inr ?_
   split at d
   ·rename_i o p _ _
    rw [zem d];rfl
   ·cases d
theorem jr {ops:Array Oper} {xs:List zg} (h:z6y ops xs=true):z1S ops xs=true:=z5A _ _ _ h
end
section
variable {E:Env} {e:Opd->IV} {L:List Blk} {K:IV->List Blk->Prop}
def V9 (sz bytes:Nat) (s x:IV) (g:Nat) (L:List Blk) (K:IV->List Blk->Prop):Prop:=
 match rowsOf L x with
 | none=>False
 | some rs=>yc sz rs/\
  match s with
  | .nsl | .esl=>(rs=[]->K s L)/\(rs≠[]->L[g]?=some .unborn/\rs.length*bytes<=70368744177664/\K (.sl g 0 rs.length rs.length) (L.set g (.cells sz rs)))
  | .sl t off len cap=>match L[t]? with
   | some (.cells sz' rows)=>sz'=sz/\off+cap<=rows.length/\
    if len+rs.length<=cap then K (.sl t off (len+rs.length) cap) (L.set t (.cells sz (splice rows (off+len) rs)))
    else L[g]?=some .unborn/\(len+rs.length)*bytes<=70368744177664/\
     K (.sl g 0 (len+rs.length) (len+rs.length)) ((L.set t .dead).set g (.cells sz ((rows.drop off).take len++rs)))
   | _=>False
  | _=>False
def Y6 (ty bytes:Nat) (s x:IV) (g:Nat) (L:List Blk) (K:IV->List Blk->Prop):Prop:=
 match rowsOf L x with
 | none=>False
 | some rs=>yc 1 rs/\
  match s with
  | .nsl=>(rs=[]->K s L)/\(rs≠[]->L[g]?=some .unborn/\rs.length*bytes<=70368744177664/\K (.sl g 0 rs.length rs.length) (L.set g (.tcells ty 1 rs)))
  | .raw (.slice none 0 0)=>(rs=[]->K s L)/\(rs≠[]->L[g]?=some .unborn/\rs.length*bytes<=70368744177664/\K (.sl g 0 rs.length rs.length) (L.set g (.tcells ty 1 rs)))
  | .sl t off len cap=>off=0/\len=cap/\match L[t]? with
   | some (.tcells ty' sz' rows)=>ty'=ty/\sz'=1/\rows.length=len/\(rs=[]->K s L)/\
     (rs≠[]->L[g]?=some .unborn/\(len+rs.length)*bytes<=70368744177664/\K (.sl g 0 (len+rs.length) (len+rs.length)) ((L.set t .dead).set g (.tcells ty 1 (rows++rs))))
   | some (.cells _ _)=>V9 1 bytes s x g L K
   | _=>False
  | _=>False
def z4r (E:Env) (k:XX) (vs:List IV) (g:Nat) (L:List Blk) (K:IV->List Blk->Prop):Prop:=
 match k with
 | .strB ty=>match vs with
  | [.str s]=>s.length<=9223372036854775807/\L[g]?=some .unborn/\K (.sl g 0 s.length s.length) (L.set g (.tcells ty 1 (Zq s)))
  | _=>False
 | .appT ty b=>match vs with
  | [s,x]=>Y6 ty b s x g L K
  | _=>False
 | k=>xex E k vs L.length L K
def z0E (E:Env) (o:XO) (e:Opd->IV) (g:Nat) (L:List Blk) (K:IV->List Blk->Prop):Prop:=
 match o with
 | .alloc zero=>L[g]?=some .unborn/\K (.ptr g 0 0) (L.set g (.cells zero.length [zero]))
 | .box x=>L[g]?=some .unborn/\K (.ptr g 0 0) (L.set g (.cells (cellsOf (e x)).length [cellsOf (e x)]))
 | .bslice sz zero len parts=>L[g]?=some .unborn/\zero.length=sz/\match zO sz (List.replicate len zero) (parts.map fun p=>(p.1,e p.2)) with
  | some rows=>K (.sl g 0 len len) (L.set g (.cells sz rows))
  | none=>False
 | .mkslice zero bytes len cap=>L[g]?=some .unborn/\match e len,e cap with
  | .int _ n,.int _ m=>0<=n/\n<=m/\m<=9223372036854775807/\m*bytes<=281474976710656/\
   K (.sl g 0 n.toNat m.toNat) (L.set g (.cells zero.length (List.replicate m.toNat zero)))
  | _,_=>False
 | .append sz bytes s x=>V9 sz bytes (e s) (e x) g L K
 | .ex k xs=>z4r E k (xs.map e) g L K
 | o=>xop E o e L K
theorem Zy {L:List Blk} {g:Nat} {k:Blk} (h:L[g]?=some .unborn):zy L g k=L.set g k:=by
 unfold zy
 rw [if_neg]
 have:=zk h
 omega
theorem JA {sz bytes g:Nat} {s x:IV} (h:V9 sz bytes s x g L K):∃q,Free L q/\Zl sz bytes s x q (fun L k=>zy L q k) L K:=by
 unfold V9 at h
 unfold Zl
 cases hr:rowsOf L x with
 | none=>rw [hr] at h;exact h.elim
 | some rs=>
  rw [hr] at h
  simp only at h ⊢
  obtain ⟨hc,h⟩:=h
  split at h
  ·by_cases h0:rs=[]
   ·exact ⟨L.length,.inl rfl,hc,h.1,fun j=>absurd h0 j⟩
   ·obtain ⟨d,l,b⟩:=h.2 h0
    exact ⟨g,.inr d,hc,fun j=>absurd j h0,fun _=>⟨l,by rw [Zy d];exact b⟩⟩
  ·by_cases h0:rs=[]
   ·exact ⟨L.length,.inl rfl,hc,h.1,fun j=>absurd h0 j⟩
   ·obtain ⟨d,l,b⟩:=h.2 h0
    exact ⟨g,.inr d,hc,fun j=>absurd j h0,fun _=>⟨l,by rw [Zy d];exact b⟩⟩
  ·rename_i t off len cap
   cases hL:L[t]? with
   | none=>rw [hL] at h;exact h.elim
   | some k=>
    rw [hL] at h
    cases k with
    | cells u rows=>
     simp only at h ⊢
     obtain ⟨d,l,h⟩:=h
     by_cases hle:len+rs.length<=cap
     ·rw [if_pos hle] at h
      refine ⟨L.length,.inl rfl,hc,?_⟩
      simp only [hL]
      exact ⟨d,l,by rw [if_pos hle];exact h⟩
     ·rw [if_neg hle] at h
      obtain ⟨b,r,w⟩:=h
      have m:t≠g:=by rintro rfl;rw [hL] at b;cases b
      refine ⟨g,.inr b,hc,?_⟩
      simp only [hL]
      refine ⟨d,l,?_⟩
      rw [if_neg hle]
      exact ⟨r,by rw [Zy (by rw [List.getElem?_set_ne m];exact b)];exact w⟩
    | _=>exact h.elim
  ·exact h.elim
theorem z1s {ty bytes g:Nat} {s x:IV} (h:Y6 ty bytes s x g L K):∃r,Free L r/\YG ty bytes s x r L K:=by
 unfold Y6 at h
 unfold YG
 cases hr:rowsOf L x with
 | none=>rw [hr] at h;exact h.elim
 | some rs=>
  rw [hr] at h
  simp only at h ⊢
  obtain ⟨hc,h⟩:=h
  split at h
  ·by_cases h0:rs=[]
   ·exact ⟨L.length,.inl rfl,hc,h.1,fun b=>absurd h0 b⟩
   ·obtain ⟨d,j,m⟩:=h.2 h0
    exact ⟨g,.inr d,hc,fun b=>absurd b h0,fun _=>⟨j,by rw [Zy d];exact m⟩⟩
  ·by_cases h0:rs=[]
   ·exact ⟨L.length,.inl rfl,hc,h.1,fun b=>absurd h0 b⟩
   ·obtain ⟨d,j,m⟩:=h.2 h0
    exact ⟨g,.inr d,hc,fun b=>absurd b h0,fun _=>⟨j,by rw [Zy d];exact m⟩⟩
  ·rename_i t off len cap
   obtain ⟨u,l,h⟩:=h
   cases hL:L[t]? with
   | none=>rw [hL] at h;exact h.elim
   | some k=>
    rw [hL] at h
    cases k with
    | cells w rows=>
     simp only at h ⊢
     obtain ⟨r,d,j⟩:=JA h
     exact ⟨r,d,hc,u,l,by simp only [hL];exact j⟩
    | tcells D w rows=>
     simp only at h ⊢
     obtain ⟨d,j,m,B,J⟩:=h
     by_cases h0:rs=[]
     ·exact ⟨L.length,.inl rfl,hc,u,l,by simp only [hL];exact ⟨d,j,m,B,fun b=>absurd h0 b⟩⟩
     ·obtain ⟨q,I,G⟩:=J h0
      have A:t≠g:=by rintro rfl;rw [hL] at q;cases q
      exact ⟨g,.inr q,hc,u,l,by simp only [hL];exact ⟨d,j,m,fun b=>absurd b h0,fun _=>⟨I,by rw [Zy (by rw [List.getElem?_set_ne A];exact q)];exact G⟩⟩⟩
    | _=>exact h.elim
  ·exact h.elim
theorem z5p {k:XX} {vs:List IV} {g:Nat} (h:z4r E k vs g L K):∃b,Free L b/\xex E k vs b L K:=by
 unfold z4r at h
 split at h
 ·split at h
  ·exact ⟨g,.inr h.2.1,by simp only [xex];rw [Zy h.2.1];exact ⟨h.1,h.2.2⟩⟩
  ·exact h.elim
 ·split at h
  ·obtain ⟨b,j,d⟩:=z1s h
   exact ⟨b,j,by simp only [xex];exact d⟩
  ·exact h.elim
 ·exact ⟨L.length,.inl rfl,h⟩
theorem zbR {o:XO} {g:Nat} (h:z0E E o e g L K):∃d,Free L d/\jc E o e d L K:=by
 cases o with
 | append sz b s x=>exact JA h
 | alloc z=>exact ⟨g,.inr h.1,by simp only [jc];rw [Zy h.1];exact h.2⟩
 | box x=>exact ⟨g,.inr h.1,by simp only [jc];rw [Zy h.1];exact h.2⟩
 | bslice sz z len ps=>exact ⟨g,.inr h.1,by simp only [jc];simp only [Zy h.1];exact h.2⟩
 | mkslice z b l c=>exact ⟨g,.inr h.1,by simp only [jc];simp only [Zy h.1];exact h.2⟩
 | ex k xs=>exact z5p h
 | _=>exact ⟨L.length,.inl rfl,h⟩
def wJ (L:List Blk):List (Nat × Blk)->List Blk
 | []=>L
 | (t,k)::r=>wJ (L.set t k) r
theorem z0k:∀(wl:List (Nat × Blk)) (L:List Blk),(wJ L wl).length=L.length
 | [],_=>rfl
 | (t,k)::r,L=>by rw [wJ,z0k r,lls]
theorem z4Z {i:Nat}:∀(wl:List (Nat × Blk)) (L:List Blk),(∀p∈wl,p.1≠i)->(wJ L wl)[i]?=L[i]?
 | [],_,_=>rfl
 | (t,k)::r,L,h=>by
  rw [wJ,z4Z r _ fun p b=>h p (List.mem_cons_of_mem _ b),List.getElem?_set_ne (h (t,k) List.mem_cons_self)]
theorem J9 {i:Nat}:∀(wl:List (Nat × Blk)) (L L':List Blk),L.length=L'.length->L[i]?=L'[i]?->(wJ L wl)[i]?=(wJ L' wl)[i]?
 | [],_,_,_,h=>h
 | (t,k)::r,L,L',hl,h=>by
  rw [wJ,wJ]
  refine J9 r _ _ (by simp [hl]) ?_
  rw [List.getElem?_set,List.getElem?_set,hl,h]
theorem WJ {t:Nat} {k:Blk}:∀(wl:List (Nat × Blk)) (L:List Blk),(∀p∈wl,p.1≠t)->wJ (L.set t k) wl=(wJ L wl).set t k
 | [],_,_=>rfl
 | (u,k')::r,L,h=>by
  rw [wJ,wJ,List.set_comm _ _ (Ne.symm (h (u,k') List.mem_cons_self)),WJ r _ fun p b=>h p (List.mem_cons_of_mem _ b)]
theorem z15:∀(wl b:List (Nat × Blk)) (L:List Blk),(∀p∈wl,∀q∈b,p.1≠q.1)->wJ (wJ L wl) b=wJ (wJ L b) wl
 | [],_,_,_=>rfl
 | (t,k)::r,b,L,h=>by
  rw [wJ,z15 r b _ fun p j=>h p (List.mem_cons_of_mem _ j),WJ b L fun q d=>(h (t,k) List.mem_cons_self q d).symm]
  rfl
def FrR (E:Env) (o:XO) (e:Opd->IV) (g:Nat) (L:List Blk) (v:IV) (wl:List (Nat × Blk)) (rd:List Nat):Prop:=
 ∀L':List Blk,(∀i∈rd,L'[i]?=L[i]?)->∀K:IV->List Blk->Prop,K v (wJ L' wl)->z0E E o e g L' K
theorem vX {gl:Nat->Option (List IV)} {x:IV} {L':List Blk} (h:∀i∈slP x,L'[i]?=L[i]?):Zj gl L' x=Zj gl L x:=by
 cases x with
 | ptr s r o=>simp only [Zj];rw [h s (by simp [slP])]
 | raw v=>
  cases v with
  | pointer a=>
   cases a with
   | none=>rfl
   | some a=>obtain ⟨b,o,sp⟩:=a;cases sp<;>rfl
  | _=>rfl
 | _=>rfl
theorem YL {x:IV} {L':List Blk} (h:∀i∈slS x,L'[i]?=L[i]?):rowsOf L' x=rowsOf L x:=by
 cases x with
 | sl s off len cap=>simp only [rowsOf];rw [h s (by simp [slS])]
 | _=>rfl
theorem J4 {s:Nat} {L':List Blk} (h:L'[s]?=L[s]?):vJ L' s=vJ L s:=by
 unfold vJ;rw [h]
theorem z1c {gl:Nat->Option (List IV)} {x:IV} {p:List (List IV) × Nat × Nat} (h:Zj gl L x=some p):∀i∈slP x,i<L.length:=by
 intro i hi
 cases x<;>simp only [slP,List.not_mem_nil] at hi
 rename_i s r o
 rw [List.mem_singleton] at hi;subst hi
 simp only [Zj] at h
 cases hL:L[i]? with
 | none=>rw [hL] at h;cases h
 | some k=>exact zk hL
theorem jv {x:IV} {p:List (List IV)} (h:rowsOf L x=some p):∀i∈slS x,i<L.length:=by
 intro i hi
 cases x<;>simp only [slS,List.not_mem_nil] at hi
 rename_i s off len cap
 rw [List.mem_singleton] at hi;subst hi
 simp only [rowsOf] at h
 cases hL:L[i]? with
 | none=>rw [hL] at h;cases h
 | some k=>exact zk hL
theorem z4L {s m:Nat} (h:vJ L s=some m):s<L.length:=by
 unfold vJ at h
 cases hL:L[s]? with
 | none=>rw [hL] at h;cases h
 | some k=>exact zk hL
theorem zeH {o:XO} {g:Nat} (d:o.kd=1) (h:xop E o e L K):∃r,K r L/\(∀i∈o.rd e L,i<L.length)/\FrR E o e g L r [] (o.rd e L):=by
 cases o<;>simp only [XO.kd] at d<;>try (exact absurd d (by decide))
 case isNil=>split at d<;>exact absurd d (by decide)
 case load1 x=>
  simp only [xop] at h
  cases D:Zj E.gl L (e x) with
  | none=>rw [D] at h;exact h.elim
  | some p=>
   obtain ⟨rows,r,off⟩:=p
   rw [D] at h
   refine ⟨_,h.2.2,z1c D,fun L' ha K' d=>?_⟩
   show xop E (.load1 x) e L' K'
   simp only [xop]
   rw [vX ha,D]
   exact ⟨h.1,h.2.1,d⟩
 case loadN n x=>
  simp only [xop] at h
  cases D:Zj E.gl L (e x) with
  | none=>rw [D] at h;exact h.elim
  | some p=>
   obtain ⟨rows,r,off⟩:=p
   rw [D] at h
   refine ⟨_,h.2.2,z1c D,fun L' ha K' d=>?_⟩
   show xop E (.loadN n x) e L' K'
   simp only [xop]
   rw [vX ha,D]
   exact ⟨h.1,h.2.1,d⟩
 case idxS m x i=>
  simp only [xop] at h
  have key:∀{v:IV},(∀(L':List Blk) (K':IV->List Blk->Prop),(∀i∈slS (e x),L'[i]?=L[i]?)->K' v L'->xop E (.idxS m x i) e L' K')->FrR E (.idxS m x i) e g L v [] ((XO.idxS m x i).rd e L):=
   fun U L' ha K' d=>U L' K' ha d
  split at h
  ·rename_i rows k n w hi
   exact ⟨_,h.2.2.2,by simp [XO.rd,w,slS],key fun L' K' ha d=>by simp only [xop,w,hi];exact ⟨h.1,h.2.1,h.2.2.1,d⟩⟩
  ·rename_i s off len cap k n w hi
   exact ⟨_,h.2.2.2,by simp only [XO.rd,w,slS,List.mem_singleton];rintro _ rfl;exact z4L h.1,key fun L' K' ha d=>by simp only [xop,w,hi];exact ⟨by rw [J4 (ha s (by rw [w];simp [slS]))];exact h.1,h.2.1,h.2.2.1,d⟩⟩
  ·exact h.elim
 case slice m x lo hi=>
  simp only [xop] at h
  have key:∀{v:IV},(∀(L':List Blk) (K':IV->List Blk->Prop),(∀i∈slS (e x),L'[i]?=L[i]?)->K' v L'->xop E (.slice m x lo hi) e L' K')->FrR E (.slice m x lo hi) e g L v [] ((XO.slice m x lo hi).rd e L):=
   fun U L' ha K' d=>U L' K' ha d
  split at h
  ·rename_i rows w
   obtain ⟨V,h⟩:=h
   obtain ⟨l,h,u⟩:=Zt h
   obtain ⟨hh,h,G⟩:=Zt h
   exact ⟨_,h.2.2,by simp [XO.rd,w,slS],key fun L' K' ha d=>by simp only [xop,w];exact ⟨V,u _ (G _ ⟨h.1,h.2.1,d⟩)⟩⟩
  ·rename_i s off len cap w
   obtain ⟨V,h⟩:=h
   obtain ⟨l,h,u⟩:=Zt h
   obtain ⟨hh,h,G⟩:=Zt h
   exact ⟨_,h.2.2,by simp only [XO.rd,w,slS,List.mem_singleton];rintro _ rfl;exact z4L V,key fun L' K' ha d=>by simp only [xop,w];exact ⟨by rw [J4 (ha s (by rw [w];simp [slS]))];exact V,u _ (G _ ⟨h.1,h.2.1,d⟩)⟩⟩
  ·rename_i w
   obtain ⟨l,h,u⟩:=Zt h
   obtain ⟨hh,h,G⟩:=Zt h
   exact ⟨_,h.2.2,by simp [XO.rd,w,slS],key fun L' K' ha d=>by simp only [xop,w];exact u _ (G _ ⟨h.1,h.2.1,d⟩)⟩
  ·rename_i w
   obtain ⟨l,h,u⟩:=Zt h
   obtain ⟨hh,h,G⟩:=Zt h
   exact ⟨_,h.2.2,by simp [XO.rd,w,slS],key fun L' K' ha d=>by simp only [xop,w];exact u _ (G _ ⟨h.1,h.2.1,d⟩)⟩
  ·exact h.elim
 case pcall f as=>
  simp only [xop] at h
  split at h
  ·rename_i n a b S
   rcases h with ⟨Z,args',r,u,G,V,O,B⟩ | ⟨r,J,G,B⟩
   rotate_left
   ·have Q:∀L',conv L' fuel zt=conv L fuel zt:=fun L'=>by funext y;exact YB fuel y _ _
    refine ⟨r,B,(by simp only [XO.rd,S,J];intro i hi;exact List.mem_range.1 hi),fun L' ha K' d=>?_⟩
    show xop E (.pcall f as) e L' K'
    simp only [xop,S]
    refine .inr ⟨r,by rw [Q];exact J,fun L2 af=>G L2 fun i hi=>?_,d⟩
    have X:=ha i (by simp only [XO.rd,S,J];exact List.mem_range.2 hi)
    rw [af i,X]
    obtain ⟨k,ae⟩:∃k,L[i]?=some k:=⟨_,List.getElem?_eq_getElem hi⟩
    rw [ae] at X
    exact zk X
   have Q:∀L',conv L' fuel zt=conv L fuel zt:=fun L'=>by funext y;exact YB fuel y _ _
   cases J:zF (conv L fuel zt) (a++as.map e++b) with
   | some q=>
    refine ⟨r,B,(by simp only [XO.rd,S,J];intro i hi;cases hi),fun L' _ K' d=>?_⟩
    show xop E (.pcall f as) e L' K'
    simp only [xop,S]
    refine .inl ⟨Z,args',r,?_,G,V,O,d⟩
    cases Z
    ·simp only [Bool.false_eq_true,if_false] at u ⊢
     rw [Q];exact u
    ·simp only [if_true] at u ⊢
     have h5:=yf (fun x y=>JX (L:=L) fuel x y) J
     rw [u] at h5;cases h5
     rw [<-Q L'] at J
     exact yf (fun x y=>JX (L:=L') fuel x y) J
   | none=>
    refine ⟨r,B,(by simp only [XO.rd,S,J];intro i hi;exact List.mem_range.1 hi),fun L' ha K' d=>?_⟩
    show xop E (.pcall f as) e L' K'
    simp only [xop,S]
    refine .inl ⟨Z,args',r,?_,G,V,O,d⟩
    refine yf (fun x y=>wV (fun s k hs=>?_) fuel _ x y) u
    rw [ha s (by simp only [XO.rd,S,J];exact List.mem_range.2 (zk hs))];exact hs
  ·exact h.elim
 case ex k xs=>
  cases k<;>simp only [XX.kd] at d<;>try (exact absurd d (by decide))
  case mlook st zero ok=>
   simp only [xop] at h
   have w:∀L':List Blk,(∀i∈(XO.ex (.mlook st zero ok) xs).rd e L,L'[i]?=L[i]?)->∀m∈xs.map e,∀s,m=IV.mp s->L'[s]?=L[s]?:=fun L' ha m M s hs=>by
    obtain ⟨x,w,rfl⟩:=List.mem_map.1 M
    exact ha s (by simp only [XO.rd,List.mem_flatMap];exact ⟨x,w,by rw [hs];simp [slM]⟩)
   have I:∀i∈(XO.ex (.mlook st zero ok) xs).rd e L,∃m∈xs.map e,m=IV.mp i:=fun i hi=>by
    simp only [XO.rd,List.mem_flatMap] at hi
    obtain ⟨x,w,u⟩:=hi
    cases hex:e x<;>rw [hex] at u<;>simp [slM] at u
    subst u
    exact ⟨_,List.mem_map.2 ⟨x,w,rfl⟩,hex⟩
   simp only [xex] at h
   split at h
   ·rename_i k A
    refine ⟨_,h.2,fun i hi=>?_,fun L' ha K' d=>?_⟩
    ·obtain ⟨m,M,rfl⟩:=I i hi
     rw [A] at M
     rcases List.mem_cons.1 M with O | O
     ·cases O
     ·rw [List.mem_singleton] at O;subst O;simp [isKey] at h
    ·show z4r E (.mlook st zero ok) (xs.map e) g L' K'
     simp only [z4r,xex,A];exact ⟨h.1,d⟩
   ·rename_i m k ag A
    unfold V4 Y9 at h
    split at h
    ·rename_i s
     obtain ⟨u,h⟩:=h
     split at h
     ·rename_i es c Y
      split at h
      ·rename_i r D
       cases r with
       | none=>
        refine ⟨_,h,fun i hi=>?_,fun L' ha K' d=>?_⟩
        ·obtain ⟨m,M,rfl⟩:=I i hi
         rw [A] at M
         rcases List.mem_cons.1 M with B | B
         ·cases B;exact zk Y
         ·rw [List.mem_singleton] at B;subst B;simp [isKey] at u
        ·show z4r E (.mlook st zero ok) (xs.map e) g L' K'
         have T:L'[s]?=some (.map es c):=by rw [w L' ha _ (by rw [A];simp) s rfl];exact Y
         simp only [z4r,xex,A]
         unfold V4 Y9
         refine ⟨u,?_⟩
         simp only [T,D]
         exact d
       | some j=>
        refine ⟨_,h,fun i hi=>?_,fun L' ha K' d=>?_⟩
        ·obtain ⟨m,M,rfl⟩:=I i hi
         rw [A] at M
         rcases List.mem_cons.1 M with B | B
         ·cases B;exact zk Y
         ·rw [List.mem_singleton] at B;subst B;simp [isKey] at u
        ·show z4r E (.mlook st zero ok) (xs.map e) g L' K'
         have T:L'[s]?=some (.map es c):=by rw [w L' ha _ (by rw [A];simp) s rfl];exact Y
         simp only [z4r,xex,A]
         unfold V4 Y9
         refine ⟨u,?_⟩
         simp only [T,D]
         exact d
      ·exact h.elim
     ·exact h.elim
    ·exact h.elim
   ·exact h.elim
  simp only [xop,xex] at h
  split at h<;>try exact h.elim
  rename_i v U
  split at h<;>try exact h.elim
  rename_i s hs
  obtain ⟨x,rfl,rfl⟩:∃x,xs=[x]/\e x=v:=by
   cases xs with
   | nil=>cases U
   | cons x r=>cases r with
    | nil=>exact ⟨x,rfl,by simpa using U⟩
    | cons y r=>simp at U
  obtain ⟨rs,u,G⟩:=Option.bind_eq_some_iff.1 hs
  have D:rowsOf L (e x)=some rs:=by
   unfold yu at u;split at u
   ·cases u
   ·exact u
  have I:(XO.ex .bStr [x]).rd e L=slS (e x):=by simp [XO.rd]
  refine ⟨_,h,by rw [I];exact jv D,fun L' ha K' d=>?_⟩
  show z4r E .bStr [e x] g L' K'
  have O:yu L' (e x)=some rs:=by
   rw [I] at ha
   have B:=YL ha
   rw [D] at B
   unfold yu at u ⊢
   split at u
   ·cases u
   ·exact B
  simp only [z4r,xex,O,Option.bind_some,G]
  exact d
theorem z0l {U:List Blk} {i:Nat} {k:Blk} (h:L[i]?=some k):(L++U)[i]?=some k:=by
 rw [List.getElem?_append_left (zk h)];exact h
theorem jL {U:List Blk} {i:Nat} {k:Blk} (h:i<L.length):(L++U).set i k=L.set i k++U:=List.set_append_left _ _ h
theorem jJ {m:Nat} {k:Blk}:(L++List.replicate (m+1) Blk.unborn).set L.length k=(L++[k])++List.replicate m .unborn:=by
 rw [List.set_append_right _ _ (Nat.le_refl _),Nat.sub_self,List.replicate_succ,List.set_cons_zero,List.append_assoc];rfl
theorem Y2 {m:Nat}:(L++List.replicate (m+1) Blk.unborn)[L.length]?=some .unborn:=by
 rw [List.getElem?_append_right (Nat.le_refl _),Nat.sub_self,List.replicate_succ];rfl
theorem z9u {o:XO} {g:Nat} (b:o.kd=0):z0E E o e g L K=xop E o e L K:=by
 cases o<;>first | rfl | (simp only [XO.kd] at b;exact absurd b (by decide)) | (rename_i k xs;cases k<;>first | rfl | (simp [XO.kd,XX.kd] at b))
def Res (E:Env) (o:XO) (e:Opd->IV) (L:List Blk) (v:IV) (L':List Blk) (wl:List (Nat × Blk)) (p:Nat):Prop:=
 L'.length=L.length+p/\(∀q∈wl,q.1∈o.wr e++yQ o L L')/\∀m,FrR E o e L.length (L++List.replicate (p+m) .unborn) v wl (o.rd e L++yQ o L L')/\
  wJ (L++List.replicate (p+m) .unborn) wl=L'++List.replicate m .unborn
theorem W9 {o:XO} {v:IV} {k:Blk} (d:yQ o L (L++[k])=[L.length])
  (h:∀(L':List Blk) (K':IV->List Blk->Prop),L'[L.length]?=some .unborn->K' v (L'.set L.length k)->z0E E o e L.length L' K'):Res E o e L v (L++[k]) [(L.length,k)] 1:=by
 refine ⟨by simp,fun q b=>by rw [List.mem_singleton] at b;subst b;rw [d];simp,fun m=>⟨fun L' ha K' j=>h L' K' ?_ j,?_⟩⟩
 ·rw [ha L.length (by rw [d];simp),Nat.add_comm];exact Y2
 ·rw [Nat.add_comm];exact jJ
theorem z5H {sz by_:Nat} {s x:Opd} (h:xop E (.append sz by_ s x) e L K):∃v L' p wl,K v L'/\Res E (.append sz by_ s x) e L v L' wl p:=by
 simp only [xop] at h
 unfold ZN at h
 cases hr:rowsOf L (e x) with
 | none=>rw [hr] at h;exact h.elim
 | some rs=>
  rw [hr] at h
  simp only at h
  obtain ⟨l,h⟩:=h
  have j:∀{L':List Blk} {m:Nat} {n:List Nat},(∀i∈(XO.append sz by_ s x).rd e L++n,L'[i]?=(L++List.replicate m Blk.unborn)[i]?)->rowsOf L' (e x)=some rs:=fun {L' m n} ha=>by
   rw [<-hr]
   refine YL fun i hi=>?_
   rw [ha i (by simp [XO.rd,hi]),List.getElem?_append_left (jv hr i hi)]
  have r:(e s=.nsl\/e s=.esl)->(rs=[]->K (e s) L)/\(rs≠[]->rs.length*by_<=70368744177664/\K (.sl L.length 0 rs.length rs.length) (L++[.cells sz rs]))->
    ∃v L' p wl,K v L'/\Res E (.append sz by_ s x) e L v L' wl p:=fun hs h=>by
   by_cases h0:rs=[]
   ·refine ⟨e s,L,0,[],h.1 h0,rfl,by simp,fun m=>⟨fun L' ha K' b=>?_,by rw [Nat.zero_add];rfl⟩⟩
    show V9 sz by_ (e s) (e x) _ L' K'
    unfold V9
    rw [j ha]
    refine ⟨l,?_⟩
    rcases hs with hs | hs<;>rw [hs] at b ⊢<;>exact ⟨fun _=>b,fun u=>absurd h0 u⟩
   ·obtain ⟨D,B⟩:=h.2 h0
    refine ⟨_,_,1,[(L.length,.cells sz rs)],B,by simp,fun q d=>by rw [List.mem_singleton] at d;subst d;simp [yQ],fun m=>⟨fun L' ha K' b=>?_,by rw [Nat.add_comm];exact jJ⟩⟩
    show V9 sz by_ (e s) (e x) _ L' K'
    have G:L'[L.length]?=some .unborn:=by
     rw [ha L.length (by simp [yQ]),Nat.add_comm];exact Y2
    unfold V9
    rw [j ha]
    refine ⟨l,?_⟩
    rcases hs with hs | hs<;>rw [hs]<;>exact ⟨fun u=>absurd u h0,fun _=>⟨G,D,b⟩⟩
  split at h
  ·rename_i hs;exact r (.inl hs) h
  ·rename_i hs;exact r (.inr hs) h
  ·rename_i t off len cap hs
   cases hL:L[t]? with
   | none=>rw [hL] at h;exact h.elim
   | some k=>
    rw [hL] at h
    cases k with
    | cells I rows=>
     simp only at h
     obtain ⟨D,B,h⟩:=h
     have A:=zk hL
     have w:∀{L':List Blk} {m:Nat} {n:List Nat},(∀i∈(XO.append sz by_ s x).rd e L++n,L'[i]?=(L++List.replicate m Blk.unborn)[i]?)->L'[t]?=some (.cells I rows):=fun {L' m n} ha=>by
      rw [ha t (by simp [XO.rd,hs,slS]),z0l hL]
     by_cases hle:len+rs.length<=cap
     ·rw [if_pos hle] at h
      refine ⟨_,_,0,[(t,.cells sz (splice rows (off+len) rs))],h,by simp,fun q d=>by rw [List.mem_singleton] at d;subst d;simp [XO.wr,hs,slS],fun m=>⟨fun L' ha K' b=>?_,by rw [Nat.zero_add];exact jL A⟩⟩
      show V9 sz by_ (e s) (e x) _ L' K'
      unfold V9
      rw [j ha]
      refine ⟨l,?_⟩
      rw [hs]
      simp only
      rw [w ha]
      exact ⟨D,B,by rw [if_pos hle];exact b⟩
     ·rw [if_neg hle] at h
      obtain ⟨M,J⟩:=h
      have u:yQ (.append sz by_ s x) L (L.set t .dead++[.cells sz ((rows.drop off).take len++rs)])=[L.length]:=by simp [yQ]
      refine ⟨_,_,1,[(t,.dead),(L.length,.cells sz ((rows.drop off).take len++rs))],J,by simp,fun q d=>?_,fun m=>⟨fun L' ha K' b=>?_,?_⟩⟩
      ·rw [u]
       rcases List.mem_cons.1 d with rfl | d
       ·simp [XO.wr,hs,slS]
       ·rw [List.mem_singleton] at d;subst d;simp
      ·rw [u] at ha
       have G:L'[L.length]?=some .unborn:=by
        rw [ha L.length (by simp),Nat.add_comm];exact Y2
       show V9 sz by_ (e s) (e x) _ L' K'
       unfold V9
       rw [j ha]
       refine ⟨l,?_⟩
       rw [hs]
       simp only
       rw [w ha]
       exact ⟨D,B,by rw [if_neg hle];exact ⟨G,M,b⟩⟩
      ·rw [Nat.add_comm,wJ,wJ,wJ,jL A]
       have:=jJ (L:=L.set t .dead) (m:=m) (k:=.cells sz ((rows.drop off).take len++rs))
       rw [lls] at this
       exact this
    | _=>exact h.elim
  ·exact h.elim
theorem z7C {ty by_:Nat} {s x:Opd} (h:YG ty by_ (e s) (e x) L.length L K):∃v L' p wl,K v L'/\Res E (.ex (.appT ty by_) [s,x]) e L v L' wl p:=by
 unfold YG at h
 cases hr:rowsOf L (e x) with
 | none=>rw [hr] at h;exact h.elim
 | some rs=>
  rw [hr] at h
  simp only at h
  obtain ⟨j,h⟩:=h
  have d:∀{L':List Blk} {m:Nat} {n:List Nat},(∀i∈(XO.ex (.appT ty by_) [s,x]).rd e L++n,L'[i]?=(L++List.replicate m Blk.unborn)[i]?)->rowsOf L' (e x)=some rs:=fun {L' m n} ha=>by
   rw [<-hr]
   refine YL fun i hi=>?_
   rw [ha i (by simp [XO.rd,hi]),List.getElem?_append_left (jv hr i hi)]
  have w:(e s=.nsl\/e s=.raw (.slice none 0 0))->(rs=[]->K (e s) L)/\(rs≠[]->rs.length*by_<=70368744177664/\K (.sl L.length 0 rs.length rs.length) (zy L L.length (.tcells ty 1 rs)))->
    ∃v L' p wl,K v L'/\Res E (.ex (.appT ty by_) [s,x]) e L v L' wl p:=fun hs h=>by
   rw [zB] at h
   by_cases h0:rs=[]
   ·refine ⟨e s,L,0,[],h.1 h0,rfl,by simp,fun m=>⟨fun L' ha K' b=>?_,by rw [Nat.zero_add];rfl⟩⟩
    show Y6 ty by_ (e s) (e x) _ L' K'
    unfold Y6
    rw [d ha]
    refine ⟨j,?_⟩
    rcases hs with hs | hs<;>rw [hs] at b ⊢<;>exact ⟨fun _=>b,fun l=>absurd h0 l⟩
   ·obtain ⟨Q,G⟩:=h.2 h0
    refine ⟨_,_,1,[(L.length,.tcells ty 1 rs)],G,by simp,fun q r=>by rw [List.mem_singleton] at r;subst r;simp [yQ],fun m=>⟨fun L' ha K' b=>?_,by rw [Nat.add_comm];exact jJ⟩⟩
    show Y6 ty by_ (e s) (e x) _ L' K'
    have S:L'[L.length]?=some .unborn:=by
     rw [ha L.length (by simp [yQ]),Nat.add_comm];exact Y2
    unfold Y6
    rw [d ha]
    refine ⟨j,?_⟩
    rcases hs with hs | hs<;>rw [hs]<;>exact ⟨fun l=>absurd l h0,fun _=>⟨S,Q,b⟩⟩
  split at h
  ·rename_i hs;exact w (.inl hs) h
  ·rename_i hs;exact w (.inr hs) h
  ·rename_i t off len cap hs
   obtain ⟨U,B,h⟩:=h
   cases hL:L[t]? with
   | none=>rw [hL] at h;exact h.elim
   | some k=>
    rw [hL] at h
    have T:=zk hL
    have A:∀{L':List Blk} {m:Nat} {n:List Nat},(∀i∈(XO.ex (.appT ty by_) [s,x]).rd e L++n,L'[i]?=(L++List.replicate m Blk.unborn)[i]?)->L'[t]?=some k:=fun {L' m n} ha=>by
     rw [ha t (by simp [XO.rd,hs,slS]),z0l hL]
    cases k with
    | cells X rows=>
     simp only at h
     have G:xop E (.append 1 by_ s x) e L K:=by
      show ZN 1 by_ (e s) (e x) L K
      unfold Zl at h
      unfold ZN
      rw [hr] at h ⊢
      simp only [hs,hL] at h ⊢
      obtain ⟨I,J,M,u⟩:=h
      refine ⟨I,J,M,?_⟩
      split at u
      ·rename_i D;rw [if_pos D];exact u
      ·rename_i D;rw [if_neg D]
       have V:zy (L.set t Blk.dead) L.length (.cells 1 ((rows.drop off).take len++rs))=L.set t .dead++[.cells 1 ((rows.drop off).take len++rs)]:=by unfold zy;rw [if_pos (by rw [lls])]
       rw [V] at u;exact u
     obtain ⟨v,L',p,wl,I,J,M,u⟩:=z5H G
     refine ⟨v,L',p,wl,I,J,fun q r=>?_,fun m=>⟨fun L2 ha K' b=>?_,(u m).2⟩⟩
     ·have:=M q r
      simpa [XO.wr,yQ] using this
     ·have O:=(u m).1 L2 (fun i hi=>ha i (by simpa [XO.rd,yQ] using hi)) K' b
      show Y6 ty by_ (e s) (e x) _ L2 K'
      unfold Y6
      rw [d ha]
      refine ⟨j,?_⟩
      rw [hs]
      refine ⟨U,B,?_⟩
      simp only [A ha]
      rw [<-hs]
      exact O
    | tcells Y X rows=>
     simp only at h
     obtain ⟨Q,G,I,J,M⟩:=h
     by_cases h0:rs=[]
     ·refine ⟨_,L,0,[],J h0,rfl,by simp,fun m=>⟨fun L' ha K' b=>?_,by rw [Nat.zero_add];rfl⟩⟩
      show Y6 ty by_ (e s) (e x) _ L' K'
      unfold Y6
      rw [d ha]
      refine ⟨j,?_⟩
      rw [hs]
      refine ⟨U,B,?_⟩
      simp only [A ha]
      exact ⟨Q,G,I,fun _=>by rw [<-hs];exact b,fun l=>absurd h0 l⟩
     ·obtain ⟨u,O⟩:=M h0
      have V:zy (L.set t Blk.dead) L.length (.tcells ty 1 (rows++rs))=L.set t .dead++[.tcells ty 1 (rows++rs)]:=by unfold zy;rw [if_pos (by rw [lls])]
      rw [V] at O
      have l:yQ (.ex (.appT ty by_) [s,x]) L (L.set t .dead++[.tcells ty 1 (rows++rs)])=[L.length]:=by simp [yQ]
      refine ⟨_,_,1,[(t,.dead),(L.length,.tcells ty 1 (rows++rs))],O,by simp,fun q r=>?_,fun m=>⟨fun L' ha K' b=>?_,?_⟩⟩
      ·rw [l]
       rcases List.mem_cons.1 r with rfl | r
       ·simp [XO.wr,hs,slS]
       ·rw [List.mem_singleton] at r;subst r;simp
      ·rw [l] at ha
       have S:L'[L.length]?=some .unborn:=by
        rw [ha L.length (by simp),Nat.add_comm];exact Y2
       show Y6 ty by_ (e s) (e x) _ L' K'
       unfold Y6
       rw [d ha]
       refine ⟨j,?_⟩
       rw [hs]
       refine ⟨U,B,?_⟩
       simp only [A ha]
       exact ⟨Q,G,I,fun l=>absurd l h0,fun _=>⟨S,u,b⟩⟩
      ·rw [Nat.add_comm,wJ,wJ,wJ,jL T]
       have:=jJ (L:=L.set t .dead) (m:=m) (k:=.tcells ty 1 (rows++rs))
       rw [lls] at this
       exact this
    | _=>exact h.elim
  ·exact h.elim
theorem zbj {o:XO} (B:o.rk<4) (h:xop E o e L K):∃v L' p wl,K v L'/\Res E o e L v L' wl p:=by
 have hc:o.kd=0\/o.kd=1\/o.kd=2\/o.kd=3\/o.kd=4:=by
  cases o<;>try (simp [XO.kd];done)
  case ex k _=>cases k<;>simp [XO.kd,XX.kd]
  case isNil k _ _=>simp only [XO.kd];split<;>simp
 rcases hc with d | d | d | d | d
 ·obtain ⟨r,A,I⟩:=z3u d h
  exact ⟨r,L,0,[],A,rfl,by simp,fun m=>⟨fun L' _ K' b=>by rw [z9u d];exact I L' K' b,by rw [Nat.zero_add];rfl⟩⟩
 ·obtain ⟨r,A,I,M⟩:=zeH (g:=L.length) d h
  refine ⟨r,L,0,[],A,rfl,by simp,fun m=>⟨fun L' ha K' b=>M L' (fun i hi=>?_) K' b,by rw [Nat.zero_add];rfl⟩⟩
  rw [ha i (List.mem_append_left _ hi),List.getElem?_append_left (I i hi)]
 ·cases o<;>simp only [XO.kd] at d<;>try (exact absurd d (by decide))
  case alloc z=>exact ⟨_,_,1,_,h,W9 rfl fun L' K' j b=>⟨j,b⟩⟩
  case box x=>exact ⟨_,_,1,_,h,W9 rfl fun L' K' j b=>⟨j,b⟩⟩
  case isNil=>split at d<;>exact absurd d (by decide)
  case ex k xs=>
   cases k<;>first | (simp [XX.kd] at d;done) | skip
   rename_i ty
   simp only [xop,xex] at h
   split at h
   ·rename_i s hs
    rw [zB] at h
    exact ⟨_,_,1,_,h.2,W9 rfl fun L' K' j b=>by
     show z4r E (.strB ty) (xs.map e) L.length L' K'
     rw [hs];exact ⟨h.1,j,b⟩⟩
   ·exact h.elim
 ·cases o<;>simp only [XO.kd] at d<;>try (exact absurd d (by decide))
  case isNil=>split at d<;>exact absurd d (by decide)
  case store n x y=>
   simp only [xop] at h
   split at h
   ·rename_i s r off D
    split at h
    ·rename_i sz rows J
     have w:=zk J
     refine ⟨_,_,0,[(s,.cells sz (rows.set r (splice (rows.getD r []) off (cellsOf (e y)))))],h.2.2.2.2,by simp,?_,fun m=>⟨fun L' ha K' b=>?_,?_⟩⟩
     ·intro q G;rw [List.mem_singleton] at G;subst G;simp [XO.wr,D,slP]
     ·show xop E (.store n x y) e L' K'
      simp only [xop,D]
      have:=ha s (by simp [XO.rd,D,slP])
      rw [z0l J] at this
      rw [this]
      exact ⟨h.1,h.2.1,h.2.2.1,h.2.2.2.1,b⟩
     ·rw [Nat.zero_add];exact jL w
    ·rename_i ty sz rows J
     have w:=zk J
     refine ⟨_,_,0,[(s,.tcells ty sz (rows.set r (splice (rows.getD r []) off (cellsOf (e y)))))],h.2.2.2.2,by simp,?_,fun m=>⟨fun L' ha K' b=>?_,?_⟩⟩
     ·intro q G;rw [List.mem_singleton] at G;subst G;simp [XO.wr,D,slP]
     ·show xop E (.store n x y) e L' K'
      simp only [xop,D]
      have:=ha s (by simp [XO.rd,D,slP])
      rw [z0l J] at this
      rw [this]
      exact ⟨h.1,h.2.1,h.2.2.1,h.2.2.2.1,b⟩
     ·rw [Nat.zero_add];exact jL w
    ·exact h.elim
   ·exact h.elim
  case ex k xs=>cases k<;>first | (simp [XX.kd] at d;done) | (simp [XO.rk] at B;done)
 ·cases o<;>simp only [XO.kd] at d<;>try (exact absurd d (by decide))
  case isNil=>simp only [XO.rk,XO.kd] at B;rw [d] at B;exact absurd B (by decide)
  case bslice sz z len ps=>
   simp only [xop] at h
   obtain ⟨A,h⟩:=h
   split at h
   ·rename_i rows U
    exact ⟨_,_,1,_,h,W9 rfl fun L' K' j b=>by simp only [z0E];rw [U];exact ⟨j,A,b⟩⟩
   ·exact h.elim
  case mkslice z by_ l c=>
   simp only [xop] at h
   split at h
   ·rename_i k n X m T hc
    obtain ⟨A,I,M,O,V⟩:=h
    exact ⟨_,_,1,_,V,W9 rfl fun L' K' j b=>by simp only [z0E,T,hc];exact ⟨j,A,I,M,O,b⟩⟩
   ·exact h.elim
  case append sz by_ s x=>exact z5H h
  case ex k xs=>
   cases k<;>first | (simp [XX.kd] at d;done) | (simp [XO.rk,XO.kd,XX.kd] at B;done) | skip
   rename_i ty by_
   have h:xex E (.appT ty by_) (xs.map e) L.length L K:=h
   simp only [xex] at h
   split at h
   ·rename_i Q S u
    obtain ⟨s,x,rfl,rfl,rfl⟩:∃s x,xs=[s,x]/\e s=Q/\e x=S:=by
     cases xs with
     | nil=>cases u
     | cons s r=>cases r with
      | nil=>simp at u
      | cons x r=>cases r with
       | nil=>exact ⟨s,x,rfl,by simpa using u⟩
       | cons y r=>simp at u
    exact z7C h
   ·exact h.elim
  all_goals (simp only [XO.rk,XO.kd] at B;exact absurd B (by decide))
end
structure Tr where
 v:IV
 wl:List (Nat × Blk)
 g:Nat
 rd:List Nat
 wr:List Nat
abbrev St:=Rho × List Blk
def Tr.up (t:Tr) (o:zg) (s:St):St:=(put s.1 o.dst t.v,wJ s.2 t.wl)
def z1p (E:Env) (o:zg) (g:Nat) (ρ:Rho) (L:List Blk) (KV:IV->List Blk->Prop):Prop:=
 match o.guard with
 | none=>z0E E o.op (Opd.ev ρ) g L KV
 | some (t,want)=>match ρ t with
  | .bool b=>(b=want->z0E E o.op (Opd.ev ρ) g L KV)/\(b≠want->KV .und L)
  | .und=>KV .und L
  | _=>False
def zbo (E:Env) (o:zg) (t:Tr) (s:St):Prop:=
 (∀p∈t.wl,p.1∈t.wr)/\(o.op.rk=0->t.rd=[]/\t.wr=[])/\(o.op.rk=1->t.wr=[])/\∀(ρ:Rho) (L:List Blk),(∀n∈o.rds,ρ n=s.1 n)->(∀i∈t.rd,L[i]?=s.2[i]?)->∀KV:IV->List Blk->Prop,KV t.v (wJ L t.wl)->z1p E o t.g ρ L KV
def z1Q (E:Env):List zg->List Tr->St->St->Prop
 | [],[],s,s'=>s=s'
 | o::xs,t::tr,s,s'=>zbo E o t s/\z1Q E xs tr (t.up o s) s'
 | _,_,_,_=>False
def z4e:Nat->List (Nat × List Nat × List Nat)->List (zg × List Nat × Bool)->List Tr->Prop
 | _,_,[],[]=>True
 | i,lg,(_,chk,keep)::l,t::tr=>((t.wr=[]/\t.rd=[])\/z3f chk t.rd t.wr lg)/\((t.wr=[]/\t.rd=[]/\z4e (i+1) lg l tr)\/z4e (i+1) (if keep then (i,t.rd,t.wr)::lg else lg) l tr)
 | _,_,_,_=>False
section
variable {E:Env}
theorem z7l {o:XO} {ρ ρ':Rho} {g:Nat} {L:List Blk} {K:IV->List Blk->Prop} (h:∀n∈o.us,ρ n=ρ' n):z0E E o (Opd.ev ρ) g L K=z0E E o (Opd.ev ρ') g L K:=by
 have j:∀{x:Opd},(∀n,n∈x.us->n∈o.us)->x.ev ρ=x.ev ρ':=fun {x} l=>z2y x fun n d=>h n (l n d)
 cases o with
 | alloc z=>rfl
 | box x=>simp only [z0E];rw [j (x:=x) fun n d=>d]
 | bslice sz z len ps=>
  simp only [z0E]
  have:(ps.map fun p=>(p.1,p.2.ev ρ))=ps.map fun p=>(p.1,p.2.ev ρ'):=
   List.map_congr_left fun p m=>by rw [j (x:=p.2) (fun n d=>by simp only [XO.us,List.mem_flatMap];exact ⟨p,m,d⟩)]
  rw [this]
 | ex k xs=>
  simp only [z0E]
  rw [z2j xs (fun n d=>h n d)]
 | mkslice z b x y | append sz b x y=>
  simp only [z0E]
  rw [j (x:=x) (fun n d=>by simp [XO.us,d]),j (x:=y) (fun n d=>by simp [XO.us,d])]
 | _=>exact z6g (E:=E) h
theorem zfC {o:XO} {e:Opd->IV} {L L':List Blk} (h:o.rk=0):o.rd e L++yQ o L L'=[]/\o.wr e++yQ o L L'=[]:=by
 cases o<;>first | exact ⟨rfl,rfl⟩ | (rename_i k _;cases k<;>first | exact ⟨rfl,rfl⟩ | (simp [XO.rk,XO.kd,XX.kd] at h)) | (simp only [XO.rk,XO.kd] at h;exact absurd h (by decide))
theorem zfv {o:XO} {e:Opd->IV} {L L':List Blk} (h:o.rk=1):o.wr e++yQ o L L'=[]:=by
 cases o<;>first | rfl | (simp only [XO.rk,XO.kd] at h;exact absurd h (by decide)) | (rename_i k xs;cases k<;>first | rfl | (simp [XO.rk,XO.kd,XX.kd] at h))
theorem z9N {o:zg} {ρ:Rho} {L:List Blk} {v:IV} {L':List Blk} {wl:List (Nat × Blk)} {p:Nat} (m:Nat) (h:Res E o.op (Opd.ev ρ) L v L' wl p) (hg:o.guard=none\/∃t b,o.guard=some (t,b)/\ρ t=.bool b) :
  zbo E o ⟨v,wl,L.length,o.op.rd (Opd.ev ρ) L++yQ o.op L L',o.op.wr (Opd.ev ρ)++yQ o.op L L'⟩ (ρ,L++List.replicate (p+m) .unborn):=by
 refine ⟨h.2.1,fun l=>zfC l,fun l=>zfv l,fun ρ' L'' d u KV s=>?_⟩
 have q:=(h.2.2 m).1 L'' u KV s
 rw [<-z7l (ρ:=ρ') (fun n j=>d n (by simp [zg.rds,j]))] at q
 unfold z1p
 rcases hg with hg | ⟨t,b,hg,r⟩
 ·rw [hg];exact q
 ·rw [hg]
  have:=d t (by simp [zg.rds,hg])
  simp only
  rw [this]
  show match ρ t with | _=>_
  simp only [r]
  exact ⟨fun _=>q,fun j=>absurd rfl j⟩
theorem z9F {o:zg} {ρ:Rho} {L:List Blk} {t:Nat} {d:Bool} (hg:o.guard=some (t,d)) (j:ρ t=.und\/∃b,ρ t=.bool b/\b≠d):zbo E o ⟨.und,[],0,[],[]⟩ (ρ,L):=by
 refine ⟨by simp,fun _=>⟨rfl,rfl⟩,fun _=>rfl,fun ρ' L'' l r KV m=>?_⟩
 have:=l t (by simp [zg.rds,hg])
 unfold z1p
 rw [hg]
 simp only
 rw [this]
 show match ρ t with | _=>_
 rcases j with j | ⟨b,j,q⟩
 ·simp only [j];exact m
 ·simp only [j];exact ⟨fun h=>absurd h q,fun _=>m⟩
theorem trace {K:Rho->List Blk->Prop}:∀(l:List (zg × List Nat × Bool)) (i:Nat) (lg:List (Nat × List Nat × List Nat)) (ρ:Rho) (L:List Blk),(∀x∈l,x.1.op.rk<4)->Zo E i lg l ρ L K->
  ∃(tr:List Tr) (m:Nat) (ρ':Rho) (L':List Blk),K ρ' L'/\z1Q E (l.map (·.1)) tr (ρ,L++List.replicate m .unborn) (ρ',L')/\z4e i lg l tr
 | [],i,lg,ρ,L,_,h=>⟨[],0,ρ,L,h,by simp [z1Q],trivial⟩
 | (o,chk,keep)::l,i,lg,ρ,L,hk,h=>by
  have w:o.op.rk<4:=hk _ List.mem_cons_self
  have s:∀x∈l,x.1.op.rk<4:=fun x r=>hk x (List.mem_cons_of_mem _ r)
  have q:(o.guard=none\/∃t d,o.guard=some (t,d)/\ρ t=.bool d)->(xop E o.op (Opd.ev ρ) L fun v L'=>z3f chk (o.op.rd (Opd.ev ρ) L++yQ o.op L L') (o.op.wr (Opd.ev ρ)++yQ o.op L L') lg/\
    Zo E (i+1) (if keep then (i,o.op.rd (Opd.ev ρ) L++yQ o.op L L',o.op.wr (Opd.ev ρ)++yQ o.op L L')::lg else lg) l (put ρ o.dst v) L' K)->
    ∃(tr:List Tr) (m:Nat) (ρ':Rho) (L':List Blk),K ρ' L'/\z1Q E (((o,chk,keep)::l).map (·.1)) tr (ρ,L++List.replicate m .unborn) (ρ',L')/\z4e i lg ((o,chk,keep)::l) tr:=by
   intro hg r
   obtain ⟨v,L',p,wl,⟨hc,r⟩,G⟩:=zbj w r
   obtain ⟨tr,m,ρ',Lf,D,A,B⟩:=trace l _ _ _ _ s r
   refine ⟨⟨v,wl,L.length,_,_⟩::tr,p+m,ρ',Lf,D,⟨z9N m G hg,?_⟩,?_⟩
   ·show z1Q E (l.map (·.1)) tr (put ρ o.dst v,wJ (L++List.replicate (p+m) .unborn) wl) (ρ',Lf)
    rw [(G.2.2 m).2];exact A
   ·exact ⟨.inr hc,.inr B⟩
  have j:∀t d,o.guard=some (t,d)->(ρ t=.und\/∃b,ρ t=.bool b/\b≠d)->Zo E (i+1) lg l (put ρ o.dst .und) L K->
    ∃(tr:List Tr) (m:Nat) (ρ':Rho) (L':List Blk),K ρ' L'/\z1Q E (((o,chk,keep)::l).map (·.1)) tr (ρ,L++List.replicate m .unborn) (ρ',L')/\z4e i lg ((o,chk,keep)::l) tr:=by
   intro t d hg I r
   obtain ⟨tr,m,ρ',Lf,D,A,B⟩:=trace l _ _ _ _ s r
   exact ⟨⟨.und,[],0,[],[]⟩::tr,m,ρ',Lf,D,⟨z9F hg I,A⟩,.inl ⟨rfl,rfl⟩,.inl ⟨rfl,rfl,B⟩⟩
  unfold Zo at h
  split at h
  ·rename_i hg;exact q (.inl hg) h
  ·rename_i t d hg
   split at h
   ·rename_i b u
    by_cases hbw:b=d
    ·exact q (.inr ⟨t,d,hg,by rw [u,hbw]⟩) (h.1 hbw)
    ·exact j t d hg (.inr ⟨b,u,hbw⟩) (h.2 hbw)
   ·rename_i u;exact j t d hg (.inl u) h
   ·exact h.elim
def Ind (o:zg) (t:Tr) (p:zg) (u:Tr):Prop:=
 z0I o.dst p.rds=true/\z0I p.dst o.rds=true/\neO o.dst p.dst=true/\Ap t.rd t.wr u.rd u.wr
theorem Ind.symm {o p:zg} {t u:Tr} (h:Ind o t p u):Ind p u o t:=by
 obtain ⟨m,j,d,l,q⟩:=h
 refine ⟨j,m,?_,q,l⟩
 cases ho:o.dst with
 | none=>cases p.dst<;>rfl
 | some a=>cases hp:p.dst with
  | none=>rfl
  | some b=>
   rw [ho,hp] at d
   simp only [neO,Bool.not_eq_true',beq_eq_false_iff_ne,ne_eq] at d ⊢
   exact fun h=>d h.symm
def Fits (t:Tr):Prop:=∀p∈t.wl,p.1∈t.wr
theorem z9r {o p:zg} {t u:Tr} (m:Fits t) (B:Fits u) (h:Ind o t p u) (s:St):t.up o (u.up p s)=u.up p (t.up o s):=by
 obtain ⟨_,_,A,j,D⟩:=h
 unfold Tr.up
 simp only
 rw [put_comm A,z15 u.wl t.wl s.2 fun q l r w d=>?_]
 have b:=m r w
 rw [<-d] at b
 exact (j _ b).2 (B q l)
def Agree (p:zg) (u:Tr) (s s':St):Prop:=(∀n∈p.rds,s.1 n=s'.1 n)/\(∀i∈u.rd,s.2[i]?=s'.2[i]?)/\s.2.length=s'.2.length
theorem z9o {o p:zg} {t u:Tr} {s s':St} (h:Agree p u s s'):Agree p u (t.up o s) (t.up o s'):=by
 obtain ⟨j,m,l⟩:=h
 refine ⟨fun n b=>?_,fun i hi=>J9 _ _ _ l (m i hi),by simp only [Tr.up,z0k];exact l⟩
 simp only [Tr.up]
 cases o.dst with
 | none=>exact j n b
 | some d=>
  simp only [put]
  split
  ·rfl
  ·exact j n b
theorem z4J {o p:zg} {t u:Tr} {s s':St} (A:Fits t) (hi:Ind o t p u) (h:Agree p u s s'):Agree p u (t.up o s) s':=by
 obtain ⟨w,m,r⟩:=h
 refine ⟨fun n d=>?_,fun i b=>?_,by simp only [Tr.up,z0k];exact r⟩
 ·simp only [Tr.up];rw [vN hi.1 n d];exact w n d
 ·simp only [Tr.up]
  rw [z4Z _ _ fun q l j=>(hi.2.2.2.1 _ (A q l)).1 (j▸b)]
  exact m i b
theorem Agree.symm {p:zg} {u:Tr} {s s':St} (h:Agree p u s s'):Agree p u s' s:=⟨fun n b=>(h.1 n b).symm,fun i hi=>(h.2.1 i hi).symm,h.2.2.symm⟩
theorem z8h {o p:zg} {t u:Tr} {s s':St} (b:Fits t) (hi:Ind o t p u) (h:Agree p u s s'):Agree p u s (t.up o s'):=(z4J b hi h.symm).symm
def SS (xs:List zg) (tr:List Tr) (lst:Nat->Bool) (s0:St):Nat->St
 | 0=>s0
 | k+1=>if lst k then (match xs[k]?,tr[k]? with | some o,some t=>t.up o (SS xs tr lst s0 k) | _,_=>SS xs tr lst s0 k) else SS xs tr lst s0 k
theorem z05 {xs:List zg} {tr:List Tr} {l b:Nat->Bool} {s0:St}:∀(k:Nat),(∀i,i<k->l i=b i)->SS xs tr l s0 k=SS xs tr b s0 k
 | 0,_=>rfl
 | k+1,h=>by
  unfold SS
  rw [z05 k fun i hi=>h i od,h k od]
theorem z1J {o:zg} {t:Tr} {xs:List zg} {tr:List Tr} {s0:St}:∀(k:Nat),SS (o::xs) (t::tr) (fun _=>true) s0 (k+1)=SS xs tr (fun _=>true) (t.up o s0) k
 | 0=>rfl
 | k+1=>by
  rw [SS,z1J k]
  simp only [if_true,List.getElem?_cons_succ]
  rfl
theorem z9a:∀(xs:List zg) (tr:List Tr) (s0 s':St),z1Q E xs tr s0 s'->xs.length=tr.length/\
  (∀k o t,xs[k]?=some o->tr[k]?=some t->zbo E o t (SS xs tr (fun _=>true) s0 k))/\SS xs tr (fun _=>true) s0 xs.length=s'
 | [],[],s0,s',h=>⟨rfl,fun k o t b=>by simp at b,h⟩
 | [],_::_,_,_,h=>h.elim
 | _::_,[],_,_,h=>h.elim
 | o::xs,t::tr,s0,s',h=>by
  obtain ⟨b,l⟩:=h
  obtain ⟨q,m,r⟩:=z9a xs tr _ _ l
  refine ⟨by simp [q],fun k p u d j=>?_,by rw [llc,z1J];exact r⟩
  cases k with
  | zero=>simp at d j;subst d;subst j;exact b
  | succ k=>rw [z1J];exact m k p u (by simpa using d) (by simpa using j)
section
variable {xs:List zg} {tr:List Tr} {s0:St} (hfit:∀t∈tr,Fits t)
include hfit
theorem z8u {d:Nat->Bool} {j:Nat} {p:zg} {u:Tr} (B:xs[j]?=some p) (A:tr[j]?=some u) (r:d j=false)
  (s:∀i o t,i<j->d i=false->xs[i]?=some o->tr[i]?=some t->Ind o t p u) (q:∀i o t,j<i->d i=true->xs[i]?=some o->tr[i]?=some t->Ind o t p u) :
  ∀k,(k<=j->Agree p u (SS xs tr d s0 k) (SS xs tr (fun _=>true) s0 k))/\(j<=k->Agree p u (SS xs tr d s0 k) (SS xs tr (fun _=>true) s0 j)):=by
 have m:∀k,k<=j->Agree p u (SS xs tr d s0 k) (SS xs tr (fun _=>true) s0 k):=by
  intro k
  induction k with
  | zero=>intro _;exact ⟨fun _ _=>rfl,fun _ _=>rfl,rfl⟩
  | succ k b=>
   intro w
   have b:=b od
   simp only [SS,if_true]
   cases hx:xs[k]? with
   | none=>simp only [];split<;>exact b
   | some o=>
    cases ht:tr[k]? with
    | none=>simp only [];split<;>exact b
    | some t=>
     simp only []
     split
     ·exact z9o b
     ·rename_i l
      exact z8h (hfit t (List.mem_of_getElem? ht)) (s k o t od (by simpa using l) hx ht) b
 intro k
 refine ⟨m k,?_⟩
 induction k with
 | zero=>
  intro h
  obtain rfl:j=0:=by omega
  exact m 0 (Nat.le_refl _)
 | succ k b=>
  intro w
  rcases Nat.lt_or_ge k j with h | h
  ·obtain rfl:j=k+1:=by omega
   exact m _ (Nat.le_refl _)
  ·have b:=b h
   simp only [SS]
   by_cases hkj:k=j
   ·subst hkj;rw [r];exact b
   ·cases hx:xs[k]? with
    | none=>simp only [];split<;>exact b
    | some o=>
     cases ht:tr[k]? with
     | none=>simp only [];split<;>exact b
     | some t=>
      simp only []
      split
      ·rename_i l
       exact z4J (hfit t (List.mem_of_getElem? ht)) (q k o t od l hx ht) b
      ·exact b
theorem zc3 {b lst':Nat->Bool} {j:Nat} {p:zg} {u:Tr} (w:xs[j]?=some p) (q:tr[j]?=some u) (A:b j=false) (m:lst' j=true) (r:∀i,i≠j->lst' i=b i)
  (s:∀i o t,j<i->b i=true->xs[i]?=some o->tr[i]?=some t->Ind o t p u):∀k,j<k->SS xs tr lst' s0 k=u.up p (SS xs tr b s0 k):=by
 intro k
 induction k with
 | zero=>intro h;omega
 | succ k d=>
  intro B
  by_cases hkj:k=j
  ·subst hkj
   simp only [SS,A,m,w,q,if_true,Bool.false_eq_true,if_false]
   rw [z05 k fun i hi=>r i od]
  ·have d:=d od
   simp only [SS,r k hkj]
   rw [d]
   split
   ·rename_i l
    cases hx:xs[k]? with
    | none=>simp only []
    | some o=>
     cases ht:tr[k]? with
     | none=>simp only []
     | some t=>
      simp only []
      exact z9r (hfit t (List.mem_of_getElem? ht)) (hfit u (List.mem_of_getElem? q)) (s k o t od l hx ht) _
   ·rfl
end
theorem z2R {r w:List Nat}:Ap r w [] []:=⟨fun i _=>⟨by simp,by simp⟩,fun i h=>by simp at h⟩
theorem z3z {r w:List Nat}:Ap [] [] r w:=⟨fun i h=>by simp at h,fun i _=>⟨by simp,by simp⟩⟩
theorem z2t {d r w:List Nat}:∀{lg:List (Nat × List Nat × List Nat)},z3f d r w lg->∀q∈lg,q.1∈d->Ap q.2.1 q.2.2 r w
 | [],_,q,b=>by cases b
 | (i,r1,w1)::lg,⟨h1,h2⟩,q,b=>by
  rcases List.mem_cons.1 b with rfl | b
  ·exact h1
  ·exact z2t h2 q b
theorem z0e:∀(l:List (zg × List Nat × Bool)) (i:Nat) (lg:List (Nat × List Nat × List Nat)) (tr:List Tr),z4e i lg l tr->
  (∀q∈lg,∀(b:Nat) (p:zg) (m:List Nat) (keep:Bool) (u:Tr),l[b]?=some (p,m,keep)->tr[b]?=some u->q.1∈m->Ap q.2.1 q.2.2 u.rd u.wr)/\
  (∀(a b:Nat) (o:zg) (m:List Nat) (keep:Bool) (t:Tr) (p:zg) (j:List Nat) (d:Bool) (u:Tr),a<b->l[a]?=some (o,m,keep)->tr[a]?=some t->l[b]?=some (p,j,d)->tr[b]?=some u->keep=true->i+a∈j->Ap t.rd t.wr u.rd u.wr)
 | [],i,lg,[],_=>⟨fun q _ b p m keep u h=>by simp at h,fun a b o m keep t p j d u _ h=>by simp at h⟩
 | [],_,_,_::_,h=>h.elim
 | _::_,_,_,[],h=>h.elim
 | (o,m,keep)::l,i,lg,t::tr,⟨V,G⟩=>by
  have D:(∀q∈lg,∀(b:Nat) (p:zg) (m:List Nat) (keep:Bool) (u:Tr),l[b]?=some (p,m,keep)->tr[b]?=some u->q.1∈m->Ap q.2.1 q.2.2 u.rd u.wr)/\
    (∀(a b:Nat) (o:zg) (m:List Nat) (keep:Bool) (t:Tr) (p:zg) (j:List Nat) (d:Bool) (u:Tr),a<b->l[a]?=some (o,m,keep)->tr[a]?=some t->l[b]?=some (p,j,d)->tr[b]?=some u->keep=true->(i+1)+a∈j->Ap t.rd t.wr u.rd u.wr)/\
    (∀(b:Nat) (p:zg) (j:List Nat) (d:Bool) (u:Tr),l[b]?=some (p,j,d)->tr[b]?=some u->keep=true->i∈j->Ap t.rd t.wr u.rd u.wr):=by
   rcases G with ⟨T,U,G⟩ | G
   ·obtain ⟨A,Q⟩:=z0e l _ _ tr G
    exact ⟨A,Q,fun b p j d u _ _ _ _=>by rw [T,U];exact z3z⟩
   ·obtain ⟨A,Q⟩:=z0e l _ _ tr G
    cases O:keep with
    | false=>
     rw [O] at A
     exact ⟨A,Q,fun b p j d u _ _ X=>by cases X⟩
    | true=>
     rw [O] at A
     exact ⟨fun q S=>A q (List.mem_cons_of_mem _ S),Q,fun b p j d u B w _ hi=>A _ List.mem_cons_self b p j d u B w hi⟩
  obtain ⟨r1,r2,Y⟩:=D
  refine ⟨fun q S b p j d u B w hi=>?_,fun a b Z M s t' p j d u ae ha r B w O hi=>?_⟩
  ·cases b with
   | zero=>
    simp only [List.getElem?_cons_zero,sij,Prod.mk.injEq] at B w
    obtain ⟨rfl,rfl,rfl⟩:=B;subst w
    rcases V with ⟨T,U⟩ | V
    ·rw [T,U];exact z2R
    ·exact z2t V q S hi
   | succ b=>exact r1 q S b p j d u (by simpa using B) (by simpa using w) hi
  ·cases b with
   | zero=>omega
   | succ b=>
    have J:l[b]?=some (p,j,d):=by simpa using B
    have I:tr[b]?=some u:=by simpa using w
    cases a with
    | zero=>
     simp only [List.getElem?_cons_zero,sij,Prod.mk.injEq] at ha r
     obtain ⟨rfl,rfl,rfl⟩:=ha;subst r
     exact Y b p j d u J I O (by simpa using hi)
    | succ a=>exact r2 a b Z M s t' p j d u od (by simpa using ha) (by simpa using r) J I O (by rw [Nat.add_assoc,Nat.add_comm 1 a];exact hi)
structure zc4 (ops:Array Oper) (xs:List (zg × List Nat × Bool)):Prop where
 len:xs.length=ops.size
 rk:∀x∈xs,x.1.op.rk<4
 topo:∀(j:Nat) (o:Oper),ops[j]?=some o->∀e∈o.after,Region.binds .any e=true->e.on<j
 pair:∀(i j:Nat) (o:zg) (chk:List Nat) (keep:Bool) (p:zg) (chk':List Nat) (keep':Bool),i<j->xs[i]?=some (o,chk,keep)->xs[j]?=some (p,chk',keep')->j∈ZU ops i\/
  (z0I o.dst p.rds=true/\z0I p.dst o.rds=true/\neO o.dst p.dst=true/\(racy o p=true->keep=true/\i∈chk'))
theorem z5d {ops:Array Oper} {xs:List (zg × List Nat × Bool)} (h:z7Q ops xs=true):zc4 ops xs:=by
 unfold z7Q at h
 simp only [Bool.and_eq_true,beq_iff_eq,List.all_eq_true,decide_eq_true_eq,List.mem_range] at h
 obtain ⟨⟨⟨O,q⟩,I⟩,A⟩:=h
 refine ⟨q,O,fun j o s e w J=>?_,fun i j o D keep p r l S hi u=>?_⟩
 ·have:=I j (Array.getElem?_eq_some_iff.1 s).1
  rw [s] at this
  simp only at this
  rw [Array.all_eq_true] at this
  obtain ⟨k,Q,rfl⟩:=Array.mem_iff_getElem.1 w
  have:=this k Q
  rw [J] at this
  simpa using this
 ·have m:j<ops.size:=by rw [<-q];exact zk u
  have:=A i od j m
  rw [hi,u] at this
  simp only [Bool.or_eq_true,Bool.not_eq_true',decide_eq_false_iff_not,List.contains_eq_mem,decide_eq_true_eq,Bool.and_eq_true] at this
  rcases this with (d | d) | ⟨⟨⟨d,B⟩,G⟩,b⟩
  ·omega
  ·exact .inl d
  ·refine .inr ⟨d,B,G,fun M=>?_⟩
   rcases b with b | b
   ·rw [M] at b;cases b
   ·exact b
end
end Go.X
end
