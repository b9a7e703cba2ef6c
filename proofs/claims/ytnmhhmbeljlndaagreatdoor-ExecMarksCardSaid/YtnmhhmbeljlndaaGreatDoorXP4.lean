/- Parts of the proof: XOps7, XKind, XMono. -/
import Derived.Test.YtnmhhmbeljlndaaGreatDoorXP3
import Derived.Lib.Strings
set_option linter.unusedVariables false
set_option linter.unusedSimpArgs false
set_option linter.unusedSectionVars false
section
namespace Go.X
open Go

section
variable {E:Env} {C:Ctx} {a:Act} {e:Opd->IV} {o:Oper} {K:IV->List Blk->Prop}
theorem z3E (sim:Sim C) (he:Opds C a e) {t el:TypeId} {x i:Operand} {x' i':Opd} {m n:Nat} (ho:o.op=.indexAddr t x i) (ht:E.P.underlying t=some (.array m el)) (hn:Z4 E.P el=some n)
  (hx:opd x=some x') (hi:opd i=some i') (h:xop E (.idxA m n x' i') e C.L K):Z5 E C a o K:=by
 have hxv:=he x x' hx
 have hiv:=he i i' hi
 generalize hxe:a.eval x=xv at hxv
 generalize hie:a.eval i=iv at hiv
 simp only [xop] at h
 generalize e x'=ex at *
 generalize e i'=ei at *
 have hrun:∀(b k:Nat) (q:IntKind) (j:Int),xv=.pointer (some ⟨b,k,none⟩)->iv=.int q j->0<=j->j<m->
   (Instr.indexAt t (a.eval x) (a.eval i)).run E.P C.w=.ok (.pointer (some ⟨b,k+j.toNat*n,none⟩)) C.w:=by
  rintro b k q j rfl rfl h0 h1
  rw [hxe,hie]
  unfold Instr.indexAt
  simp only [asIntOf,Sem.run_bind,Sem.run_pure,Result.andThen_ok,zN ht,Instr.sureAddr,z0a]
  rw [if_pos ⟨h0,h1⟩]
  simp only [Sem.run_bind,Sem.run_pure,Result.andThen_ok,zO hn]
 split at h
 ·rename_i s r off q j
  obtain ⟨h0,h1,h⟩:=h
  cases hiv
  cases hxv with
  | ptr _ _ _ hs=>
   refine zn (by unfold execOp;rw [ho]) (hrun _ _ q j rfl rfl h0 h1) (Zk ?_ h)
   rw [Nat.add_assoc];exact .ptr _ _ _ hs
 ·rename_i rows r off q j
  obtain ⟨h0,h1,h⟩:=h
  cases hiv
  cases hxv with
  | iptr _ _ _ b base sz vals hsz hcl hb hown ha hv=>
   refine zn (by unfold execOp;rw [ho]) (hrun _ _ q j rfl rfl h0 h1) (Zk ?_ h)
   rw [Nat.add_assoc];exact .iptr _ _ _ b base sz vals hsz hcl hb hown ha hv
 ·rename_i b k q j
  obtain ⟨h0,h1,h⟩:=h
  cases hiv
  cases hxv
  exact zn (by unfold execOp;rw [ho]) (hrun b k q j rfl rfl h0 h1) (Zk (.raw _ rfl) h)
 ·exact h.elim
theorem z5z (sim:Sim C) (he:Opds C a e) {t:TypeId} {x i:Operand} {x' i':Opd} (ho:o.op=.index t x i) (ht:E.P.underlying t=some .string)
  (hx:opd x=some x') (hi:opd i=some i') (h:xop E (.idx x' i') e C.L K):Z5 E C a o K:=by
 have hxv:=he x x' hx
 have hiv:=he i i' hi
 generalize hxe:a.eval x=xv at hxv
 generalize hie:a.eval i=iv at hiv
 simp only [xop] at h
 generalize e x'=ex at *
 generalize e i'=ei at *
 split at h
 ·rename_i s q j
  obtain ⟨h0,h1,h⟩:=h
  cases hiv
  cases hxv
  refine zn (s:=Instr.index t (a.eval x) (a.eval i)) (by unfold execOp;rw [ho]) (v:=.int .u8 (s.getD j.toNat 0).toNat) (w':=C.w) ?_ (Zk (.int _ _) h)
  rw [hxe,hie]
  unfold Instr.index
  simp only [asIntOf,Sem.run_bind,Sem.run_pure,Result.andThen_ok,zN ht]
  rw [if_pos h0]
  have hlt:j.toNat<s.length:=by omega
  have:(⟨s.toArray⟩:ByteArray)[j.toNat]?=some (s.getD j.toNat 0):=by
   have hsz:j.toNat<(⟨s.toArray⟩:ByteArray).size:=by simpa [ByteArray.size] using hlt
   rw [getElem?_pos (⟨s.toArray⟩:ByteArray) j.toNat hsz]
   congr 1
   simp only [List.getD,List.getElem?_eq_getElem hlt]
   rfl
  rw [this]
  rfl
 ·exact h.elim
theorem z9F {x:Option Operand} {q:Option Opd} (h:opdO x=some q):(x=none/\q=none)\/∃p r,x=some p/\q=some r/\opd p=some r:=by
 cases x with
 | none=>simp only [opdO,sij] at h;exact .inl ⟨rfl,h.symm⟩
 | some p=>simp only [opdO,oms] at h;obtain ⟨r,hr,rfl⟩:=h;exact .inr ⟨p,r,rfl,rfl,hr⟩
theorem Yv (he:Opds C a e) {x:Option Operand} {q:Option Opd} (hq:opdO x=some q) {d:Nat} {Q:Nat->Prop} (h:bnd (q.map e) d Q) :
  ∃n,Q n/\((x=none/\n=d)\/∃p,x=some p/\∃k,a.eval p=.int k n):=by
 rcases z9F hq with ⟨rfl,rfl⟩ | ⟨p,r,rfl,rfl,hpr⟩
 ·exact ⟨d,h,.inl ⟨rfl,rfl⟩⟩
 ·have hv:=he p r hpr
  simp only [Option.map_some,bnd] at h
  split at h
  ·rename_i heq;cases heq
  ·rename_i k n heq
   simp only [sij] at heq
   rw [heq] at hv
   generalize hpe:a.eval p=pv at hv
   cases hv
   refine ⟨n.toNat,h.2,.inr ⟨p,rfl,k,?_⟩⟩
   rw [hpe];congr 1;omega
  ·exact h.elim
theorem Wi {P:Program} {w:World} {isS:Bool} {len cap l hh:Nat} {lo hi:Option Value} (hlo:(lo=none/\l=0)\/∃k,lo=some (.int k l)) (hhi:(hi=none/\hh=len)\/∃k,hi=some (.int k hh))
  (h1:l<=hh) (h2:hh<=cap) (_h3:len<=cap):(Instr.sliceBounds isS len cap lo hi none).run P w=.ok (l,hh,cap) w:=by
 have hb:∀(n y:Nat) (k:IntKind) (c:BoundsCode),n<=y->(Instr.sliceBound (.int k n) y c).run P w=.ok n w:=fun n y k c hny=>by
  unfold Instr.sliceBound
  simp only [asIntOf,Sem.run_bind,Sem.run_pure,Result.andThen_ok]
  rw [if_pos ⟨by omega,by omega⟩]
  simp
 unfold Instr.sliceBounds
 rcases hlo with ⟨rfl,rfl⟩ | ⟨k,rfl⟩<;>rcases hhi with ⟨rfl,rfl⟩ | ⟨k',rfl⟩<;>simp [hb,h1,h2]
theorem WQ (sim:Sim C) (he:Opds C a e) {t:TypeId} {x:Operand} {lo hi:Option Operand} {x':Opd} {lo' hi':Option Opd} (ho:o.op=.slice t x lo hi none) (ht:E.P.underlying t=some .string)
  (hx:opd x=some x') (hl:opdO lo=some lo') (hh:opdO hi=some hi') {s:List UInt8} (hs:e x'=.str s)
  (h:bnd (lo'.map e) 0 fun l=>bnd (hi'.map e) s.length fun h=>l<=h/\h<=s.length/\K (.str ((s.take h).drop l)) C.L):Z5 E C a o K:=by
 have hxv:=he x x' hx
 rw [hs] at hxv
 generalize hxe:a.eval x=xv at hxv
 cases hxv
 obtain ⟨l,h,hl1⟩:=Yv he hl h
 obtain ⟨hb,⟨h1,h2,hK⟩,hh1⟩:=Yv he hh h
 refine zn (s:=Instr.sliceAt t (a.eval x) (lo.map a.eval) (hi.map a.eval) none) (by unfold execOp;rw [ho];rfl) (v:=.string ⟨((s.take hb).drop l).toArray⟩) (w':=C.w) ?_ (Zk (.str _) hK)
 rw [hxe]
 unfold Instr.sliceAt
 rw [Sem.run_bind,zN ht]
 simp only [Result.andThen_ok]
 unfold Instr.slice
 rw [Sem.run_bind,zN ht]
 simp only [Result.andThen_ok,Option.isSome_none,Bool.false_eq_true,if_false]
 rw [Sem.run_bind,Wi (l:=l) (hh:=hb)]
 ·simp only [Result.andThen_ok,Sem.run_pure]
  congr 2
  show (⟨_⟩:ByteArray)=_
  congr 1
  apply Array.ext'
  simp
  rw [List.drop_take]
 ·rcases hl1 with ⟨rfl,rfl⟩ | ⟨p,rfl,k,hk⟩
  ·exact .inl ⟨rfl,rfl⟩
  ·exact .inr ⟨k,by rw [<-hk];rfl⟩
 ·rcases hh1 with ⟨rfl,rfl⟩ | ⟨p,rfl,k,hk⟩
  ·exact .inl ⟨rfl,by simp [ByteArray.size]⟩
  ·exact .inr ⟨k,by rw [<-hk];rfl⟩
 ·exact h1
 ·simpa [ByteArray.size] using h2
 ·exact Nat.le_refl _
theorem Jr {P:Program} {w:World} {t el:TypeId} {n l hb len cap:Nat} {b:Option Addr} {lo hi:Option Value} (ht:P.underlying t=some (.slice el)) (hn:Z4 P el=some n)
  (hlo:(lo=none/\l=0)\/∃k,lo=some (.int k l)) (hhi:(hi=none/\hb=len)\/∃k,hi=some (.int k hb)) (h1:l<=hb) (h2:hb<=cap) (h3:len<=cap) :
  (Instr.sliceAt t (.slice b len cap) lo hi none).run P w=.ok (.slice (if cap=l then b else b.map (·.add (l*n))) (hb - l) (cap - l)) w:=by
 unfold Instr.sliceAt
 rw [Sem.run_bind,zN ht]
 simp only [Result.andThen_ok]
 unfold Instr.slice
 rw [Sem.run_bind,zN ht]
 simp only [Result.andThen_ok]
 rw [Sem.run_bind,Wi hlo hhi h1 h2 h3]
 simp only [Result.andThen_ok]
 rw [Sem.run_bind,zO hn]
 rfl
theorem z0y (sim:Sim C) (he:Opds C a e) {t el:TypeId} {x:Operand} {lo hi:Option Operand} {x':Opd} {lo' hi':Option Opd} {n:Nat} (ho:o.op=.slice t x lo hi none) (ht:E.P.underlying t=some (.slice el))
  (hn:Z4 E.P el=some n) (hx:opd x=some x') (hl:opdO lo=some lo') (hh:opdO hi=some hi') (h:xop E (.slice n x' lo' hi') e C.L K):Z5 E C a o K:=by
 have hxv:=he x x' hx
 simp only [xop] at h
 generalize hxe:a.eval x=xv at hxv
 have hgood:∀(b:Option Addr) (len cap l hb:Nat),xv=.slice b len cap->((lo=none/\l=0)\/∃p,lo=some p/\∃k,a.eval p=.int k l)->((hi=none/\hb=len)\/∃p,hi=some p/\∃k,a.eval p=.int k hb)->
   l<=hb->hb<=cap->len<=cap->∀r,VR C r (.slice (if cap=l then b else b.map (·.add (l*n))) (hb - l) (cap - l))->K r C.L->Z5 E C a o K:=by
  rintro b len cap l hb rfl hl1 hh1 h1 h2 h3 r hr hK
  refine zn (s:=Instr.sliceAt t (a.eval x) (lo.map a.eval) (hi.map a.eval) none) (by unfold execOp;rw [ho];rfl) (w':=C.w) ?_ (Zk hr hK)
  rw [hxe]
  refine Jr ht hn ?_ ?_ h1 h2 h3
  ·rcases hl1 with ⟨rfl,rfl⟩ | ⟨p,rfl,k,hk⟩
   ·exact .inl ⟨rfl,rfl⟩
   ·exact .inr ⟨k,by rw [<-hk];rfl⟩
  ·rcases hh1 with ⟨rfl,rfl⟩ | ⟨p,rfl,k,hk⟩
   ·exact .inl ⟨rfl,rfl⟩
   ·exact .inr ⟨k,by rw [<-hk];rfl⟩
 split at h
 ·rename_i rows heq
  rw [heq] at hxv
  obtain ⟨hr,h⟩:=h
  obtain ⟨l,h,hl1⟩:=Yv he hl h
  obtain ⟨hb,⟨h1,h2,hK⟩,hh1⟩:=Yv he hh h
  cases hxv with
  | isl _ av cap' sz vals hcap hsz hcl ha hv=>
   refine hgood av rows.length cap' l hb rfl hl1 hh1 h1 (by omega) hcap _ ?_ hK
   have hlen:((rows.take hb).drop l).length=hb - l:=by rw [List.length_drop,List.length_take];omega
   have hget:∀(i:Nat) (row:List IV),((rows.take hb).drop l)[i]?=some row->rows[l+i]?=some row:=fun i row hi=>by
    rw [List.getElem?_drop,List.getElem?_take] at hi
    split at hi
    ·exact hi
    ·cases hi
   rw [<-hlen]
   refine .isl _ _ _ sz (fun i j=>vals (l+i) j) (by omega) (fun i row hi=>hsz _ row (hget i row hi)) (fun i row hi=>hcl _ row (hget i row hi)) ?_ (fun i row hi j y hj=>hv _ row (hget i row hi) j y hj)
   rcases ha with ha | ⟨b,k,rfl,hbl,hno,hc⟩
   ·left;subst ha;simp
   ·by_cases hrs:(rows.take hb).drop l=[]
    ·exact .inl hrs
    ·have hpos:0<hb - l:=by rw [<-hlen];exact List.length_pos_iff.2 hrs
     have hne:cap'≠l:=by omega
     have hss:sz=n:=by
      have h5:l<rows.length:=by omega
      have:=List.getElem?_eq_getElem h5
      rw [<-hsz _ _ this,hr _ (List.getElem_mem h5)]
     subst hss
     refine .inr ⟨b,k+l*sz,?_,hbl,hno,fun i row hi j y hj=>?_⟩
     ·rw [if_neg hne];simp only [Option.map_some,z0a]
     ·have:=hc _ row (hget i row hi) j y hj
      rw [<-this];congr 2;rw [Nat.add_mul];omega
 ·rename_i s off len cap heq
  rw [heq] at hxv
  obtain ⟨hz,h⟩:=h
  obtain ⟨l,h,hl1⟩:=Yv he hl h
  obtain ⟨hb,⟨h1,h2,hK⟩,hh1⟩:=Yv he hh h
  cases hxv with
  | sl _ _ _ _ av cap' hs hlc hcc ha=>
   refine hgood av len cap' l hb rfl hl1 hh1 h1 (by omega) (by omega) _ ?_ hK
   refine .sl s (off+l) (hb - l) (cap - l) _ (cap' - l) hs (by omega) (by omega) ?_ (by omega)
   by_cases hcl:cap'=l
   ·left;omega
   ·right
    obtain ⟨rfl,c,ty,fr,h5,h6⟩:=ha.resolve_left (by omega)
    have h7:=z8E sim hz
    rw [h7] at h6 ⊢
    refine ⟨?_,c,ty,fr,h5,?_⟩
    ·rw [if_neg hcl];simp only [Option.map_some,z0a,Nat.add_mul];congr 2;omega
    ·rw [show off+l+(cap' - l)=off+cap' by omega];exact h6
 ·rename_i heq
  rw [heq] at hxv
  obtain ⟨l,h,hl1⟩:=Yv he hl h
  obtain ⟨hb,⟨rfl,rfl,hK⟩,hh1⟩:=Yv he hh h
  cases hxv with
  | esl av=>exact hgood av 0 0 0 0 rfl hl1 hh1 (Nat.le_refl _) (Nat.le_refl _) (Nat.le_refl _) _ (by simpa using VR.esl av) hK
 ·rename_i heq
  rw [heq] at hxv
  obtain ⟨l,h,hl1⟩:=Yv he hl h
  obtain ⟨hb,⟨rfl,rfl,hK⟩,hh1⟩:=Yv he hh h
  cases hxv with
  | nsl=>exact hgood none 0 0 0 0 rfl hl1 hh1 (Nat.le_refl _) (Nat.le_refl _) (Nat.le_refl _) _ (by simpa using VR.nsl) hK
 ·exact h.elim
theorem JU (sim:Sim C) (he:Opds C a e) {t el:TypeId} {x:Operand} {x':Opd} {n:Nat} {k k':IntKind} (ho:o.op=.slice t x none (some (.const (.int k 0))) (some (.const (.int k' 0))))
  (ht:E.P.underlying t=some (.slice el)) (hn:Z4 E.P el=some n) (hx:opd x=some x') (h:xop E (.slice0 x') e C.L K):Z5 E C a o K:=by
 have hxv:=he x x' hx
 simp only [xop] at h
 generalize hxe:a.eval x=xv at hxv
 have hgood:∀(b:Option Addr) (len cap:Nat),xv=.slice b len cap->K .esl C.L->Z5 E C a o K:=by
  rintro b len cap rfl hK
  refine zn (s:=Instr.sliceAt t (a.eval x) none (some (.int k 0)) (some (.int k' 0))) (by unfold execOp;rw [ho];rfl) (v:=.slice b 0 0) (w':=C.w) ?_ (Zk (.esl b) hK)
  rw [hxe]
  unfold Instr.sliceAt
  rw [Sem.run_bind,zN ht]
  simp only [Result.andThen_ok]
  unfold Instr.slice
  rw [Sem.run_bind,zN ht]
  simp only [Result.andThen_ok]
  have hsb:(Instr.sliceBounds true len cap none (some (.int k 0)) (some (.int k' 0))).run E.P C.w=.ok (0,0,0) C.w:=by
   simp [Instr.sliceBounds,Instr.sliceBound,asIntOf]
  rw [Sem.run_bind,hsb]
  simp only [Result.andThen_ok]
  rw [Sem.run_bind,zO hn]
  rfl
 generalize e x'=ex at *
 split at h
 ·cases hxv;exact hgood _ _ _ rfl h
 ·cases hxv;exact hgood _ _ _ rfl h
 ·cases hxv;exact hgood _ _ _ rfl h
 ·cases hxv;exact hgood _ _ _ rfl h
 ·exact h.elim
theorem z4v (he:Opds C a e) {l:List Operand} {l':List Opd} (h:mapO opd l=some l') :
  (l'.map e).length=(l.map a.eval).length/\∀(i:Nat) (x:IV),(l'.map e)[i]?=some x->VR C x ((l.map a.eval).getD i undef):=by
 refine ⟨by simp [zG h],fun i x hi=>?_⟩
 rw [List.getElem?_map,oms] at hi
 obtain ⟨q,hq,rfl⟩:=hi
 obtain ⟨p,h1,h2⟩:=zM h i q hq
 have:(l.map a.eval).getD i undef=a.eval p:=Yd (by rw [List.getElem?_map,h1];rfl)
 rw [this];exact he p q h2
theorem z3s (sim:Sim C) (he:Opds C a e) {f:Fn} {xs ys:Array Operand} {xs' ys':List Opd} (ho:o.op=.makeFunc f xs ys) (hx:mapO opd xs.toList=some xs') (hy:mapO opd ys.toList=some ys')
  (h:K (.fn f (xs'.map e) (ys'.map e)) C.L):Z5 E C a o K:=by
 obtain ⟨h1,h2⟩:=z4v he hx
 obtain ⟨h3,h4⟩:=z4v he hy
 refine zn (s:=Instr.makeFunc f (xs.map a.eval) (ys.map a.eval)) (by unfold execOp;rw [ho]) (v:=.func f (xs.toList.map a.eval).toArray (ys.toList.map a.eval).toArray) (w':=C.w) ?_ (Zk (.fn f _ _ _ _ h1 h3 h2 h4) h)
 unfold Instr.makeFunc
 rw [Sem.run_pure]
 congr 2<;>(apply Array.ext';simp)
theorem z5p (sim:Sim C) (he:Opds C a e) {c:Call} {x:Operand} {x':Opd} {el:TypeId} (ho:o.op=.call c) (hcb:c.callee=.builtin .len) (hargs:c.args.toList=[x])
  (ht:(c.argTypes[0]?).bind E.P.underlying=some (.slice el)) (hx:opd x=some x') (h:xop E (.len x') e C.L K):Z5 E C a o K:=by
 have hxv:=he x x' hx
 simp only [xop] at h
 have e1:c.args.map a.eval=#[a.eval x]:=by apply Array.ext';simp [hargs]
 split at h
 ·rename_i n hn
  refine zn (s:=Builtin.len_ c.argTypes o.type #[a.eval x]) (v:=.int .i64 n) (w':=C.w) (by
   unfold execOp;rw [ho];simp only [resolve,hcb];rw [e1];rfl) ?_ (Zk (.int _ _) h)
  unfold Builtin.len_
  cases ht0:c.argTypes[0]? with
  | none=>rw [ht0] at ht;cases ht
  | some t=>
   rw [ht0] at ht
   simp only [Option.bind_some] at ht
   simp only [List.getElem?_toArray,List.getElem?_cons_zero]
   generalize hxe:a.eval x=xv at hxv
   generalize e x'=ex at *
   cases hxv<;>first
    | (simp only [lenOf,sij] at hn;subst hn;rw [Sem.run_bind,zN ht];rfl)
    | (cases hn;done)
    | skip
   unfold lenOf at hn
   split at hn<;>first | (rename_i h0;cases h0;done) | skip
   ·rename_i h0
    obtain rfl:xv=.slice none 0 0:=by simpa using h0
    cases hn
    rw [Sem.run_bind,zN ht];rfl
   ·cases hn
 ·exact h.elim
theorem z2M (sim:Sim C) (he:Opds C a e) {c:Call} {x:Operand} {x':Opd} (ho:o.op=.call c) (hcb:c.callee=.builtin .len) (hargs:c.args.toList=[x])
  (ht:(c.argTypes[0]?).bind E.P.underlying=some .string) (hx:opd x=some x') (h:xop E (.lenS x') e C.L K):Z5 E C a o K:=by
 have hxv:=he x x' hx
 simp only [xop] at h
 have e1:c.args.map a.eval=#[a.eval x]:=by apply Array.ext';simp [hargs]
 generalize hxe:a.eval x=xv at hxv
 generalize e x'=ex at *
 split at h
 ·rename_i s
  cases hxv
  refine zn (s:=Builtin.len_ c.argTypes o.type #[a.eval x]) (v:=.int .i64 s.length) (w':=C.w) (by
   unfold execOp;rw [ho];simp only [resolve,hcb];rw [e1];rfl) ?_ (Zk (.int _ _) h)
  unfold Builtin.len_
  cases ht0:c.argTypes[0]? with
  | none=>rw [ht0] at ht;cases ht
  | some t=>
   rw [ht0] at ht
   simp only [Option.bind_some] at ht
   simp only [List.getElem?_toArray,List.getElem?_cons_zero]
   rw [hxe,Sem.run_bind,zN ht];rfl
 ·exact h.elim
theorem z5q (sim:Sim C) (he:Opds C a e) {s d:TypeId} {x:Operand} {x':Opd} {f:FloatKind} {k:IntKind} (ho:o.op=.convert s d x) (hs:E.P.underlying s=some (.float f)) (hd:E.P.underlying d=some (.int k))
  (hx:opd x=some x') {g:Nat} (h:xex E (.ru (.toInt k)) [e x'] g C.L K):Z5 E C a o K:=by
 have hv:=he x x' hx
 generalize hxe:a.eval x=xv at hv
 generalize e x'=ex at *
 simp only [xex] at h
 split at h
 ·rename_i v heq
  obtain rfl:ex=.raw v:=by simpa using heq
  obtain ⟨r,h1,h2⟩:=h
  cases hv
  cases xv<;>simp only [z3W] at h1<;>first | (cases h1;done) | skip
  obtain ⟨n,hn,rfl⟩:=Option.map_eq_some_iff.1 h1
  refine zn (s:=convert s d (a.eval x)) (by unfold execOp;rw [ho]) (v:=.int k n) (w':=C.w) ?_ (Zk (.int _ _) h2)
  rw [hxe]
  exact run_convert_float_int _ _ _ _ _ _ _ (by simp [hs]) hd hn
 ·exact h.elim
theorem Jg (sim:Sim C) (he:Opds C a e) {c:Call} {x:Operand} {x':Opd} {im:Bool} (ho:o.op=.call c) (hcb:c.callee=.builtin (if im then .imag else .real)) (hargs:c.args.toList=[x])
  (hx:opd x=some x') {g:Nat} (h:xex E (.ru (if im then .im else .re)) [e x'] g C.L K):Z5 E C a o K:=by
 have hv:=he x x' hx
 have e1:c.args.map a.eval=#[a.eval x]:=by apply Array.ext';simp [hargs]
 generalize hxe:a.eval x=xv at hv
 generalize e x'=ex at *
 simp only [xex] at h
 split at h
 ·rename_i v heq
  obtain rfl:ex=.raw v:=by simpa using heq
  obtain ⟨r,h1,h2⟩:=h
  cases hv
  cases im<;>cases xv<;>simp [z3W] at h1<;>subst h1
  ·rename_i k p q _
   exact zn (s:=Builtin.real_ c.argTypes o.type #[a.eval x]) (v:=.float k p) (w':=C.w) (by
    unfold execOp;rw [ho];simp only [resolve,hcb];rw [e1,hxe];rfl) (by rw [hxe];rfl) (Zk (.raw _ rfl) h2)
  ·rename_i k p q _
   exact zn (s:=Builtin.imag_ c.argTypes o.type #[a.eval x]) (v:=.float k q) (w':=C.w) (by
    unfold execOp;rw [ho];simp only [resolve,hcb];rw [e1,hxe];rfl) (by rw [hxe];rfl) (Zk (.raw _ rfl) h2)
 ·exact h.elim
theorem z5c (sim:Sim C) (he:Opds C a e) {c:Call} {x y:Operand} {x' y':Opd} (ho:o.op=.call c) (hcb:c.callee=.builtin .max) (hargs:c.args.toList=[x,y])
  (hx:opd x=some x') (hy:opd y=some y') (h:xop E (.max2 x' y') e C.L K):Z5 E C a o K:=by
 have hxv:=he x x' hx
 have hyv:=he y y' hy
 simp only [xop] at h
 have e1:c.args.map a.eval=#[a.eval x,a.eval y]:=by apply Array.ext';simp [hargs]
 generalize hxe:a.eval x=xv at hxv
 generalize hye:a.eval y=yv at hyv
 generalize e x'=ex at *
 generalize e y'=ey at *
 split at h
 ·rename_i k p k' q
  cases hxv;cases hyv
  refine zn (s:=Builtin.max_ c.argTypes o.type #[a.eval x,a.eval y]) (v:=.int k (if q>p then q else p)) (w':=C.w) (by
   unfold execOp;rw [ho];simp only [resolve,hcb];rw [e1,hxe,hye];rfl) ?_ (Zk (.int _ _) h)
  rw [hxe,hye];rfl
 ·exact h.elim
theorem z5X (sim:Sim C) (he:Opds C a e) {c:Call} {x y:Operand} {x' y':Opd} (ho:o.op=.call c) (hcb:c.callee=.builtin .min) (hargs:c.args.toList=[x,y])
  (hx:opd x=some x') (hy:opd y=some y') (h:xop E (.min2 x' y') e C.L K):Z5 E C a o K:=by
 have hxv:=he x x' hx
 have hyv:=he y y' hy
 simp only [xop] at h
 have e1:c.args.map a.eval=#[a.eval x,a.eval y]:=by apply Array.ext';simp [hargs]
 generalize hxe:a.eval x=xv at hxv
 generalize hye:a.eval y=yv at hyv
 generalize e x'=ex at *
 generalize e y'=ey at *
 split at h
 ·rename_i k p k' q
  cases hxv;cases hyv
  refine zn (s:=Builtin.min_ c.argTypes o.type #[a.eval x,a.eval y]) (v:=.int k (if q<p then q else p)) (w':=C.w) (by
   unfold execOp;rw [ho];simp only [resolve,hcb];rw [e1,hxe,hye];rfl) ?_ (Zk (.int _ _) h)
  rw [hxe,hye];rfl
 ·exact h.elim
theorem z18 (sim:Sim C) (he:Opds C a e) {x:Operand} {x':Opd} (ho:o.op=.nilCheck x) (hx:opd x=some x') (h:xop E (.nilck x') e C.L K):Z5 E C a o K:=by
 have hxv:=he x x' hx
 simp only [xop] at h
 generalize hxe:a.eval x=xv at hxv
 have hgood:∀r,VR C r (a.eval x)->(execOp a.eval o).run E.P C.w=.ok (.value (a.eval x)) C.w->K r C.L->Z5 E C a o K:=fun r hr hrun hK=>⟨_,r,hrun,hr,hK⟩
 generalize e x'=ex at *
 split at h
 ·cases hxv with
  | ptr s r off hs=>exact hgood _ (by rw [hxe];exact .ptr _ _ _ hs) (by unfold execOp;rw [ho];simp only [hxe];rfl) h
 ·cases hxv with
  | iptr _ _ _ b base sz vals hsz hcl hb hown ha hv=>exact hgood _ (by rw [hxe];exact .iptr _ _ _ b base sz vals hsz hcl hb hown ha hv) (by unfold execOp;rw [ho];simp only [hxe];rfl) h
 ·cases hxv with
  | fn _ _ _ va vb ha hb hva hvb=>exact hgood _ (by rw [hxe];exact .fn _ _ _ va vb ha hb hva hvb) (by unfold execOp;rw [ho];simp only [hxe];rfl) h
 ·cases hxv
  exact hgood _ (by rw [hxe];exact .raw _ rfl) (by unfold execOp;rw [ho];simp only [hxe];rfl) h
 ·exact h.elim
theorem z5Y (sim:Sim C) (he:Opds C a e) {t:Operand} {t':Opd} {i:Nat} (ho:o.op=.extract t i) (ht:opd t=some t') (h:xop E (.ext t' i) e C.L K):Z5 E C a o K:=by
 have hxv:=he t t' ht
 simp only [xop] at h
 generalize hxe:a.eval t=xv at hxv
 generalize e t'=ex at *
 split at h
 ·rename_i cs
  cases hxv with
  | tup _ vs hl hv=>
  have h3:=hv i _ (getD_get (d:=.und) h.1)
  refine zn (s:=Instr.extract (a.eval t) i) (by unfold execOp;rw [ho]) (v:=vs.getD i undef) (w':=C.w) ?_ (Zk h3 h.2)
  rw [hxe]
  unfold Instr.extract
  have:vs.toArray[i]?=some (vs.getD i undef):=by rw [List.getElem?_toArray];exact getD_get (by omega)
  simp only [this];rfl
 ·exact h.elim
theorem z7g (wf:Wf E.g0 C) (sim:Sim C) (hG:E.G C.w) (he:Opds C a e) {c:Call} {f:Operand} {f':Opd} {as:List Opd} (ho:o.op=.call c) (hcb:c.callee=.value f) (hf:opd f=some f') (has:mapO opd c.args.toList=some as)
  (h:xop E (.call f' as) e C.L K):Good E C a o K:=by
 have hfv:=he f f' hf
 obtain ⟨h1,h2⟩:=z4v he has
 simp only [xop] at h
 generalize hfe:a.eval f=fv at hfv
 generalize e f'=ef at *
 split at h
 ·rename_i n p q
  cases hfv with
  | fn _ _ _ va vb ha hb hva hvb=>
  have hlen:(p++as.map e++q).length=(va++c.args.toList.map a.eval++vb).length:=by
   simp only [lla,h1,ha,hb]
  have hargs:∀(i:Nat) (x:IV),(p++as.map e++q)[i]?=some x→VR C x ((va++c.args.toList.map a.eval++vb).getD i undef):=by
   intro i x hi
   rw [List.getD_eq_getElem?_getD]
   have lx:∀{l:List IV} {v:List Value} {j:Nat},(∀(i:Nat) (x:IV),l[i]?=some x→VR C x (v.getD i undef))→l.length=v.length→l[j]?=some x→VR C x (v[j]?.getD undef):=fun hl hll hj=>by
    have:=hl _ _ hj;rwa [List.getD_eq_getElem?_getD] at this
   rcases Nat.lt_or_ge i (p++as.map e).length with h5 | h5
   ·rw [List.getElem?_append_left h5] at hi
    rw [List.getElem?_append_left (by rw [lla] at h5 ⊢;omega)]
    rcases Nat.lt_or_ge i p.length with h6 | h6
    ·rw [List.getElem?_append_left h6] at hi
     rw [List.getElem?_append_left (by omega)]
     exact lx hva ha hi
    ·rw [List.getElem?_append_right h6] at hi
     rw [List.getElem?_append_right (by omega),←ha]
     exact lx h2 h1 hi
   ·rw [List.getElem?_append_right h5] at hi
    rw [List.getElem?_append_right (by rw [lla] at h5 ⊢;omega)]
    have e2:(va++c.args.toList.map a.eval).length=(p++as.map e).length:=by simp only [lla,ha,h1]
    rw [e2]
    exact lx hvb hb hi
  have e3:va.toArray++Array.map a.eval c.args++vb.toArray=(va++c.args.toList.map a.eval++vb).toArray:=by
   apply Array.ext';simp
  rcases h with h | ⟨r,h,hk⟩ | h | h | h
  case inr.inr.inr.inr=>
   obtain ⟨r,L',φ',v,w',h1,h2,h3,h4,h5,h6⟩:=h C.w C.φ C.X (va++c.args.toList.map a.eval++vb) wf sim hG hlen hargs
   refine .inl ⟨v,w',?_,r,L',φ',h2,h3,h4,h5,h6⟩
   unfold execOp
   rw [ho]
   simp only [resolve,hcb,hfe,Deferred.ofValue]
   rw [Sem.run_bind,Sem.run_pure]
   simp only [Result.andThen_ok,invoke]
   rw [e3]
   exact h1
  case inr.inl=>
   obtain ⟨v,hv1,hv2⟩:=h C _ hG hlen hargs
   refine .inl ⟨v,C.w,?_,ZF wf sim hv2 hk⟩
   unfold execOp
   rw [ho]
   simp only [resolve,hcb,hfe,Deferred.ofValue]
   rw [Sem.run_bind,Sem.run_pure]
   simp only [Result.andThen_ok,invoke]
   rw [e3]
   exact hv1
  all_goals
  obtain ⟨⟨fn,hfn,hnm,hbody⟩,hcall⟩:jR E.P n∧Calls E.P n (va++c.args.toList.map a.eval++vb).toArray C.w fun e w'=>∃v,(e=.returned v∧Post E C K v w')∨(e=.panicked [{ v,recovered:=false }]∧Post E C E.pan v w'):=by
   first
    | exact ⟨(JG (C:=C) (vs:=va++c.args.toList.map a.eval++vb) wf sim hG hlen hargs h).1,(JG (C:=C) (vs:=va++c.args.toList.map a.eval++vb) wf sim hG hlen hargs h).2.mono fun e w' ⟨v,h1,h2⟩=>⟨v,.inl ⟨h1,h2⟩⟩⟩
    | exact z2z (C:=C) (vs:=va++c.args.toList.map a.eval++vb) wf sim hG hlen hargs h
    | exact ⟨h.1,(h.2 C.w C.φ C.X (va++c.args.toList.map a.eval++vb) wf sim hG hlen hargs).mono fun e w' ⟨r,L',φ',v,wf',sim',ext',hv,hh⟩=>⟨v,hh.elim (fun h1=>.inl ⟨h1.2,r,L',φ',h1.1,wf',sim',ext',hv⟩) (fun h1=>.inr ⟨h1.2,r,L',φ',h1.1,wf',sim',ext',hv⟩)⟩⟩
  refine .inr (.inr (.inl ⟨n,(va++c.args.toList.map a.eval++vb).toArray,C.w,?_,hcall⟩))
  unfold execOp
  rw [ho]
  simp only [resolve,hcb,hfe,Deferred.ofValue]
  rw [Sem.run_bind,Sem.run_pure]
  simp only [Result.andThen_ok,invoke]
  rw [e3]
  unfold callFunc
  rw [Sem.run_bind,run_program]
  simp only [Result.andThen_ok,hfn]
  have hnm' : (fn.name == "runtime.NumGoroutine") = false := by simpa using hnm
  simp only [hnm',Bool.false_eq_true,if_false,hbody]
  rfl
 ·rename_i s
  cases hfv with
  | yld _ hs=>
  obtain ⟨fn,tmps,asg,body,h3,h4⟩:=E.hyl C s (as.map e) (c.args.toList.map a.eval) _ wf sim hG h1 h2 h
  refine .inr (.inr (.inr (.inl ⟨_,fn,tmps,asg,body,C.w,?_,h4⟩)))
  unfold execOp
  rw [ho]
  simp only [resolve,hcb,hfe,Deferred.ofValue]
  rw [Sem.run_bind,Sem.run_pure]
  simp only [Result.andThen_ok,invoke]
  rw [←h3]
  congr 1
  congr 1
  apply Array.ext';simp
 ·exact h.elim
theorem z3O {P:Program} {t:TypeId} (h:isU8 P t=true):P.underlying t=some (.int .u8):=by
 unfold isU8 at h
 split at h
 ·assumption
 ·cases h
theorem z0z {g:Nat} (hgf:Free C.L g) (wf:Wf E.g0 C) (sim:Sim C) (hG:E.G C.w) (he:Opds C a e) {x:XO} (hc:wI E.P o.op=some x) (h:xopT E x e g C.L K):Good E C a o K:=by
 cases ho:o.op<;>rw [ho] at hc<;>simp only [wI] at hc<;>try (cases hc;done)
 case move x=>
  simp only [oms] at hc;obtain ⟨q,hq,rfl⟩:=hc
  exact (jb sim he (.inl ho) hq h).good wf sim
 case assign x=>
  simp only [oms] at hc;obtain ⟨q,hq,rfl⟩:=hc
  exact (jb sim he (.inr ho) hq h).good wf sim
 case pick c x y=>
  simp only [obs,oms] at hc
  obtain ⟨c',hc',x',hx',y',hy',rfl⟩:=hc
  simp only [xopT,xop] at h
  split at h
  ·rename_i t ht;exact (z3q sim he ho hc' hx' hy' ht h).good wf sim
  ·exact h.elim
 case alloc t=>
  simp only [oms] at hc;obtain ⟨z,hz,hc⟩:=hc
  split at hc
  ·subst hc;exact z4x hgf wf sim ho hz h
  ·subst hc;exact z6H hgf wf sim ho hz h
 case box t x=>
  simp only [oms] at hc;obtain ⟨q,hq,rfl⟩:=hc
  exact zaa hgf wf sim he ho hq h
 case build t ps=>
  split at hc
  ·rename_i fs ht
   simp only [obs] at hc
   obtain ⟨z,hz,qs,hq,hc⟩:=hc
   split at hc
   ·rename_i hfs
    simp only [sij] at hc;subst hc
    simp only [xopT,xop] at h
    split at h
    ·rename_i cs hcs
     exact (YJ sim he ho ht hz (by simpa only [obs,oms] using hq) hfs hcs h).good wf sim
    ·exact h.elim
   ·cases hc
  ·rename_i m el ht
   simp only [obs,oms] at hc
   obtain ⟨z,hz,n,hn,qs,hq,rfl⟩:=hc
   simp only [xopT,xop] at h
   split at h
   ·rename_i cs hcs
    exact (wB sim he ho ht hz hn hq hcs h).good wf sim
   ·exact h.elim
  ·cases hc
 case buildSlice t len ps=>
  split at hc
  ·rename_i el ht
   simp only [obs] at hc
   obtain ⟨n,hn,z,hz,qs,hq,hc⟩:=hc
   split at hc
   ·rename_i hcond
    simp only [sij] at hc;subst hc
    simp only [xopT] at h
    obtain ⟨_,h⟩:=h
    split at h
    ·rename_i rows hrows
     exact z4i hgf wf sim he ho ht hn hz hq hcond.1 hcond.2.1 hcond.2.2 hrows h
    ·exact h.elim
   ·cases hc
  ·cases hc
 case load t x=>
  simp only [obs,oms] at hc
  obtain ⟨g,hg,n,hn,q,hq,rfl⟩:=hc
  cases g
  ·simp only [Bool.false_eq_true,if_false,xopT,xop] at h
   split at h
   ·rename_i rows r off hr
    exact (z19 sim hG he ho hq hg hr h.1 h.2.1 h.2.2).good wf sim
   ·exact h.elim
  ·simp only [if_true,xopT,xop] at h
   split at h
   ·rename_i rows r off hr
    exact (z0G sim hG he ho hq hg hn hr h.1 h.2.1 h.2.2).good wf sim
   ·exact h.elim
 case store t p x=>
  simp only [obs,oms] at hc
  obtain ⟨g,hg,n,hn,p',hp,x',hx,rfl⟩:=hc
  simp only [xopT,xop] at h
  split at h
  ·rename_i s r off hs
   split at h
   ·rename_i sz rows hL
    exact z6u wf sim he ho hp hx hn hs hL h.1 h.2.1 h.2.2.1 h.2.2.2.1 h.2.2.2.2
   ·rename_i ty sz rows hL
    exact z4w wf sim he ho hp hx hn hs hL h.1 h.2.1 h.2.2.1 h.2.2.2.1 h.2.2.2.2
   ·exact h.elim
  ·exact h.elim
 case nilCheck x=>
  simp only [oms] at hc;obtain ⟨q,hq,rfl⟩:=hc
  exact (z18 sim he ho hq h).good wf sim
 case binOp op t x y ty=>
  split at hc
  ·rename_i ht
   simp only [obs,oms] at hc
   obtain ⟨x',hx,y',hy,rfl⟩:=hc
   exact (z5N sim he ho ht hx hy h).good wf sim
  ·split at hc
   ·rename_i ht
    simp only [obs,oms] at hc
    obtain ⟨x',hx,y',hy,rfl⟩:=hc
    exact (Je sim he ho rfl (by assumption) hx hy h).good wf sim
   ·rename_i ht
    simp only [obs,oms] at hc
    obtain ⟨x',hx,y',hy,rfl⟩:=hc
    exact (Je sim he ho rfl (by assumption) hx hy h).good wf sim
   ·rename_i el ht
    simp only [obs] at hc
    obtain ⟨n,hn,hc⟩:=hc
    split at hc
    ·cases hc
    ·rename_i hn0
     simp only [obs,oms] at hc
     obtain ⟨x',hx,y',hy,rfl⟩:=hc
     exact (z5W (g:=g) (neg:=false) sim he ho rfl (by assumption) hn hn0 hx hy h).good wf sim
   ·rename_i el ht
    simp only [obs] at hc
    obtain ⟨n,hn,hc⟩:=hc
    split at hc
    ·cases hc
    ·rename_i hn0
     simp only [obs,oms] at hc
     obtain ⟨x',hx,y',hy,rfl⟩:=hc
     exact (z5W (g:=g) (neg:=true) sim he ho rfl (by assumption) hn hn0 hx hy h).good wf sim
   ·rename_i fs ht
    simp only [obs,oms] at hc
    obtain ⟨ks,hk,x',hx,y',hy,rfl⟩:=hc
    exact (z5g (g:=g) (neg:=false) sim he ho rfl (by assumption) hk hx hy h).good wf sim
   ·rename_i fs ht
    simp only [obs,oms] at hc
    obtain ⟨ks,hk,x',hx,y',hy,rfl⟩:=hc
    exact (z5g (g:=g) (neg:=true) sim he ho rfl (by assumption) hk hx hy h).good wf sim
   ·simp only [obs,oms] at hc
    obtain ⟨k,hk,x',hx,rfl⟩:=hc
    exact (z0U sim he ho rfl hk hx h).good wf sim
   ·simp only [obs,oms] at hc
    obtain ⟨k,hk,x',hx,rfl⟩:=hc
    exact (z0U sim he ho rfl hk hx h).good wf sim
   ·cases hc
 case range t x=>
  split at hc
  ·rename_i ht
   simp only [oms] at hc;obtain ⟨q,hq,rfl⟩:=hc
   exact z9N wf sim he ho ht hq h
  ·rename_i kt el ht
   simp only [oms] at hc;obtain ⟨q,hq,rfl⟩:=hc
   exact z8w hgf wf sim he ho ht hq h
  ·cases hc
 case makeMap t r=>
  cases r with
  | none=>simp only [sij] at hc;subst hc;exact z6A hgf wf sim ho h
  | some r=>cases hc
 case lookup t x i ok=>
  split at hc
  ·rename_i kt el ht
   simp only [obs,oms] at hc
   obtain ⟨st,hst,z,hz,x',hx,i',hi,rfl⟩:=hc
   exact (z6p (g:=g) wf sim he ho ht hst hz hx hi h).good wf sim
  ·cases hc
 case mapUpdate t m k v=>
  split at hc
  ·rename_i kt el ht
   simp only [obs,oms] at hc
   obtain ⟨st,hst,m',hm,k',hk',v',hv',rfl⟩:=hc
   exact z3J (g:=g) wf sim he (.inl ho) ht hst hm hk' hv' h
  ·cases hc
 case insert t m k v=>
  split at hc
  ·rename_i kt el ht
   simp only [obs,oms] at hc
   obtain ⟨st,hst,m',hm,k',hk',v',hv',rfl⟩:=hc
   exact z3J (g:=g) wf sim he (.inr ho) ht hst hm hk' hv' h
  ·cases hc
 case mapEntry t m k=>
  split at hc
  ·rename_i kt el ht
   simp only [obs,oms] at hc
   obtain ⟨st,hst,z,hz,m',hm,k',hk',rfl⟩:=hc
   exact z7M (g:=g) wf sim he ho ht hst hz hm hk' h
  ·cases hc
 case entryStore t m k v=>
  simp only [obs,oms] at hc
  obtain ⟨m',hm,k',hk',v',hv',rfl⟩:=hc
  exact z7p (g:=g) wf sim he ho hm hk' hv' h
 case next x b=>
  cases b
  ·simp only [Bool.false_eq_true,if_false,oms] at hc;obtain ⟨q,hq,rfl⟩:=hc
   exact z92 (g:=g) wf sim he ho hq h
  ·simp only [if_true,oms] at hc;obtain ⟨q,hq,rfl⟩:=hc
   exact zam wf sim he ho hq h
 case unOp op t x=>
  simp only [oms] at hc;obtain ⟨q,hq,rfl⟩:=hc
  exact (z7k sim he ho hq h).good wf sim
 case convert s d x=>
  split at hc
  ·rename_i k0 k hs hd
   simp only [oms] at hc;obtain ⟨q,hq,rfl⟩:=hc
   simp only [xopT,xop] at h
   split at h
   ·rename_i k1 n h1;exact (z0N sim he ho hs hd hq h1 h).good wf sim
   ·exact h.elim
  ·rename_i k0 hs hd
   simp only [oms] at hc;obtain ⟨q,hq,rfl⟩:=hc
   simp only [xopT,xop] at h
   split at h
   ·rename_i k1 n h1;exact (jg sim he ho hs hd hq h1 h).good wf sim
   ·exact h.elim
  ·rename_i k f hs hd
   simp only [oms] at hc;obtain ⟨q,hq,rfl⟩:=hc
   exact (z99 (g:=g) sim he ho hs hd hq h).good wf sim
  ·rename_i f k hs hd
   simp only [oms] at hc;obtain ⟨q,hq,rfl⟩:=hc
   exact (z5q (g:=g) sim he ho hs hd hq h).good wf sim
  ·rename_i hs hd
   simp only [oms] at hc;obtain ⟨q,hq,rfl⟩:=hc
   simp only [xopT,xop] at h
   split at h
   ·rename_i l h1;exact (z1c sim he ho hs hd hq h1 h).good wf sim
   ·exact h.elim
  ·rename_i el hs hd
   split at hc
   ·rename_i hu
    simp only [oms] at hc;obtain ⟨q,hq,rfl⟩:=hc
    exact (z7F (g:=g) sim he ho hs (z3O hu) hd hq h).good wf sim
   ·split at hc
    ·rename_i hu
     simp only [oms] at hc;obtain ⟨q,hq,rfl⟩:=hc
     exact (z7K (g:=g) sim he ho hs (z9L hu) hd hq h).good wf sim
    ·cases hc
  ·rename_i el hs hd
   split at hc
   ·rename_i hu
    simp only [oms] at hc;obtain ⟨q,hq,rfl⟩:=hc
    exact z7N hgf wf sim he ho hs hd (z3O hu) hq h
   ·cases hc
  ·rename_i el el' hs hd
   split at hc
   ·rename_i hu
    obtain ⟨rfl,hu⟩:=hu
    simp only [oms] at hc;obtain ⟨q,hq,rfl⟩:=hc
    exact z6W (g:=g) wf sim he ho hs (z3O hu) hq h
   ·cases hc
  ·rename_i t hs hd
   simp only [obs] at hc
   obtain ⟨n,hn,hc⟩:=hc
   split at hc
   ·cases hc
   ·rename_i hn0
    simp only [oms] at hc;obtain ⟨q,hq,rfl⟩:=hc
    exact (zaJ (g:=g) sim he ho hs hd hn hn0 hq h).good wf sim
  ·rename_i t hs hd
   simp only [obs] at hc
   obtain ⟨n,hn,hc⟩:=hc
   split at hc
   ·cases hc
   ·rename_i hn0
    simp only [oms] at hc;obtain ⟨q,hq,rfl⟩:=hc
    exact (zan (g:=g) sim he ho hs hd hn (fun h0=>hn0 (.inl h0)) (Decidable.of_not_not fun h0=>hn0 (.inr h0)) hq h).good wf sim
  ·cases hc
 case fieldAddr s x f=>
  split at hc
  ·rename_i fs hs
   simp only [obs] at hc
   obtain ⟨g,hg,n,hn,hc⟩:=hc
   split at hc
   ·cases hc
   ·rename_i hn0
    simp only [oms] at hc;obtain ⟨q,hq,rfl⟩:=hc
    exact (z2o sim he ho hs hg hn hn0 hq h).good wf sim
  ·cases hc
 case field s x f=>
  split at hc
  ·rename_i fs hs
   simp only [obs,oms] at hc
   obtain ⟨g,hg,n,hn,b,hb,q,hq,rfl⟩:=hc
   exact (z4Y sim he ho hs hg hn hb hq h).good wf sim
  ·cases hc
 case indexAddr t x i=>
  split at hc
  ·rename_i el ht
   simp only [obs] at hc
   obtain ⟨n,hn,hc⟩:=hc
   split at hc
   ·cases hc
   ·simp only [obs,oms] at hc
    obtain ⟨x',hx,i',hi,rfl⟩:=hc
    exact (z3I sim he ho ht hn hx hi h).good wf sim
  ·rename_i m el ht
   simp only [obs,oms] at hc
   obtain ⟨n,hn,x',hx,i',hi,rfl⟩:=hc
   exact (z3E sim he ho ht hn hx hi h).good wf sim
  ·cases hc
 case index t x i=>
  split at hc
  ·rename_i ht
   simp only [obs,oms] at hc
   obtain ⟨x',hx,i',hi,rfl⟩:=hc
   exact (z5z sim he ho ht hx hi h).good wf sim
  ·cases hc
 case slice t x lo hi mx=>
  unfold z0j at hc
  split at hc
  ·split at hc
   ·rename_i ht
    simp only [obs,oms] at hc
    obtain ⟨x',hx,l,hl,hh,hhi,rfl⟩:=hc
    simp only [xopT,xop] at h
    split at h
    ·rename_i s hs
     exact (WQ sim he ho ht hx hl hhi hs h).good wf sim
    ·exact h.elim
   ·rename_i el ht
    simp only [obs] at hc
    obtain ⟨n,hn,hc⟩:=hc
    split at hc
    ·cases hc
    ·simp only [obs,oms] at hc
     obtain ⟨x',hx,l,hl,hh,hhi,rfl⟩:=hc
     exact (z0y sim he ho ht hn hx hl hhi h).good wf sim
   ·rename_i m el ht
    split at hc
    ·rename_i hcond
     obtain ⟨hn1,hh0⟩:=hcond
     simp only [obs,oms] at hc
     obtain ⟨x',hx,l,hl,rfl⟩:=hc
     cases hi with
     | none=>exact zb1 (g:=g) wf sim he ho ht hn1 hx hl h
     | some _=>cases hh0
    ·cases hc
   ·cases hc
  ·rename_i m
   split at hc
   ·rename_i el ht
    simp only [obs] at hc
    obtain ⟨n,hn,hc⟩:=hc
    split at hc
    ·rename_i hcond
     simp only [Bool.and_eq_true] at hcond
     obtain ⟨⟨h1,h2⟩,h3⟩:=hcond
     simp only [oms] at hc;obtain ⟨q,hq,rfl⟩:=hc
     unfold Jn at h1 h2
     split at h1
     ·rename_i k1 hk1
      split at h2
      ·rename_i k2 hk2
       cases lo with
       | some l=>cases h3
       | none=>rw [hk1] at ho;exact (JU sim he ho ht hn hq h).good wf sim
      ·cases h2
     ·cases h1
    ·split at hc
     ·rename_i hp
      split at hc
      ·cases hc
      ·simp only [obs,oms] at hc
       obtain ⟨x',hx,l,hl,h',hh,m',hm,rfl⟩:=hc
       exact (z5G (g:=g) sim he ho ht hn hx hl hh hm h).good wf sim
     ·cases hc
   ·cases hc
 case makeFunc f xs ys=>
  simp only [obs,oms] at hc
  obtain ⟨xs',hx,ys',hy,rfl⟩:=hc
  exact (z3s sim he ho hx hy h).good wf sim
 case makeSlice t l c=>
  split at hc
  ·rename_i el ht
   simp only [obs] at hc
   obtain ⟨n,hn,z,hz,m,hm,l',hl,c',hc',hc⟩:=hc
   split at hc
   ·rename_i hcond
    simp only [sij] at hc;subst hc
    simp only [xopT] at h
    split at h
    ·rename_i k1 n1 k2 n2 h1 h2
     exact z3D hgf wf sim he ho ht hn hz hm hl hc' hcond.1 hcond.2 h1 h2 h.1 h.2.1 h.2.2.1 h.2.2.2.1 h.2.2.2.2
    ·exact h.elim
   ·cases hc
  ·cases hc
 case extract t i=>
  simp only [oms] at hc;obtain ⟨q,hq,rfl⟩:=hc
  exact (z5Y sim he ho hq h).good wf sim
 case makeInterface t x=>
  split at hc
  ·rename_i hcc
   simp only [oms] at hc;obtain ⟨q,hq,rfl⟩:=hc
   exact (z9i sim he ho hcc hq h).good wf sim
  ·cases hc
 case typeAssert x st t ok=>
  split at hc
  ·cases hc
  ·rename_i d hd ht
   split at hc
   ·rename_i hok
    subst hok
    simp only [oms] at hc;obtain ⟨q,hq,rfl⟩:=hc
    exact (z9S (g:=g) sim he ho ht (fun ms hm=>hd ms hm) hq h).good wf sim
   ·cases hc
  ·cases hc
 case panic x=>
  simp only [oms] at hc;obtain ⟨q,hq,rfl⟩:=hc
  have h:xex E .panic [e q] g C.L K:=h
  simp only [xex] at h
  split at h
  ·rename_i t v heq
   exact z6Y wf sim he ho hq (by simpa using heq) h
  ·exact h.elim
 case call c=>
  unfold z1Y at hc
  split at hc
  ·rename_i f hcb
   simp only [obs,oms] at hc
   obtain ⟨f',hf,as,has,rfl⟩:=hc
   exact z7g wf sim hG he ho hcb hf has h
  ·rename_i hcb
   split at hc
   ·rename_i x hargs ht
    simp only [oms] at hc;obtain ⟨q,hq,rfl⟩:=hc
    exact (z2M sim he ho hcb hargs ht hq h).good wf sim
   ·rename_i x el hargs ht
    simp only [oms] at hc;obtain ⟨q,hq,rfl⟩:=hc
    exact (z5p sim he ho hcb hargs ht hq h).good wf sim
   ·cases hc
  ·rename_i hcb
   split at hc
   ·rename_i s x el el2 hargs h1 h2
    simp only [obs] at hc
    obtain ⟨s',hs,x',hx,n,hn,m,hm,z,hz,hc⟩:=hc
    split at hc
    ·rename_i hcond
     split at hc
     ·split at hc
      ·rename_i hn1
       subst hn1
       simp only [sij] at hc;subst hc
       exact z2A hgf wf sim he ho hcb hargs h1 ⟨_,h2,fun k h=>by cases h⟩ hs hx hn hm hz hcond.1 hcond.2.2 h
      ·cases hc
     ·simp only [sij] at hc;subst hc
      exact ve hgf wf sim he ho hcb hargs h1 ⟨_,h2,fun k h=>by cases h⟩ hs hx hn hm hz hcond.1 hcond.2.1 hcond.2.2 h
    ·cases hc
   ·rename_i s x el hargs h1 h2
    simp only [obs] at hc
    obtain ⟨s',hs,x',hx,n,hn,m,hm,z,hz,hc⟩:=hc
    split at hc
    ·rename_i hcond
     split at hc
     ·split at hc
      ·rename_i hn1
       subst hn1
       simp only [sij] at hc;subst hc
       exact z2A hgf wf sim he ho hcb hargs h1 ⟨_,h2,fun k h=>by cases h⟩ hs hx hn hm hz hcond.1 hcond.2.2 h
      ·cases hc
     ·simp only [sij] at hc;subst hc
      exact ve hgf wf sim he ho hcb hargs h1 ⟨_,h2,fun k h=>by cases h⟩ hs hx hn hm hz hcond.1 hcond.2.1 hcond.2.2 h
    ·cases hc
   ·cases hc
  ·rename_i hcb
   split at hc
   ·rename_i d x el hargs h1
    simp only [obs,oms] at hc
    obtain ⟨n,hn,d',hd,x',hx,rfl⟩:=hc
    exact z9x (g:=g) wf sim he ho hcb hargs h1 hn hd hx h
   ·cases hc
  ·rename_i hcb
   split at hc
   ·rename_i x hargs
    simp only [oms] at hc;obtain ⟨q,hq,rfl⟩:=hc
    exact (z7d (g:=g) sim he ho hcb hargs hq h).good wf sim
   ·cases hc
  ·rename_i hcb
   split at hc
   ·rename_i x y pt t2 hargs hat
    split at hc
    ·rename_i el hpt
     simp only [obs] at hc
     obtain ⟨x',hx,y',hy,hc⟩:=hc
     split at hc
     ·rename_i hce
      simp only [sij] at hc;subst hc
      exact z9o (g:=g) wf sim he ho hcb hargs hat hpt hce hx hy h
     ·cases hc
    ·cases hc
   ·cases hc
  ·rename_i hcb
   split at hc
   ·rename_i x hargs
    simp only [oms] at hc
    obtain ⟨x',hx,rfl⟩:=hc
    exact (Jg (im:=false) (g:=g) sim he ho hcb hargs hx h).good wf sim
   ·cases hc
  ·rename_i hcb
   split at hc
   ·rename_i x hargs
    simp only [oms] at hc
    obtain ⟨x',hx,rfl⟩:=hc
    exact (Jg (im:=true) (g:=g) sim he ho hcb hargs hx h).good wf sim
   ·cases hc
  ·rename_i hcb
   split at hc
   ·rename_i m k t hargs hty
    split at hc
    ·rename_i kt el ht
     simp only [obs,oms] at hc
     obtain ⟨st,hst,m',hm,k',hk',rfl⟩:=hc
     exact z8m (g:=g) wf sim he ho hcb hargs hty ht hst hm hk' h
    ·cases hc
   ·cases hc
  ·rename_i hcb
   split at hc
   ·rename_i x y hargs
    simp only [obs,oms] at hc
    obtain ⟨x',hx,y',hy,rfl⟩:=hc
    exact (zaO (g:=g) sim he ho hcb hargs hx hy h).good wf sim
   ·cases hc
  ·rename_i hcb
   split at hc
   ·rename_i x y hargs
    simp only [obs,oms] at hc
    obtain ⟨x',hx,y',hy,rfl⟩:=hc
    exact (z5c sim he ho hcb hargs hx hy h).good wf sim
   ·cases hc
  ·rename_i hcb
   split at hc
   ·rename_i x y hargs
    simp only [obs,oms] at hc
    obtain ⟨x',hx,y',hy,rfl⟩:=hc
    exact (z5X sim he ho hcb hargs hx hy h).good wf sim
   ·cases hc
  ·cases hc
theorem zaC (sim:Sim C) (hG:E.G C.w) (he:Opds C a e) {x:XO} (hc:wI E.P o.op=some x) (hq0:x.quiet=true) (h:xop E x e C.L K):Z5 E C a o K:=by
 cases ho:o.op<;>rw [ho] at hc<;>simp only [wI] at hc<;>try (cases hc;done)
 case move x=>
  simp only [oms] at hc;obtain ⟨q,hq,rfl⟩:=hc
  exact jb sim he (.inl ho) hq h
 case assign x=>
  simp only [oms] at hc;obtain ⟨q,hq,rfl⟩:=hc
  exact jb sim he (.inr ho) hq h
 case pick c x y=>
  simp only [obs,oms] at hc
  obtain ⟨c',hc',x',hx',y',hy',rfl⟩:=hc
  simp only [xop] at h
  split at h
  ·rename_i t ht;exact z3q sim he ho hc' hx' hy' ht h
  ·exact h.elim
 case alloc t=>
  simp only [oms] at hc;obtain ⟨z,hz,hc⟩:=hc
  split at hc<;>subst hc<;>exact Bool.noConfusion (show false=true from hq0)
 case box t x=>
  simp only [oms] at hc;obtain ⟨q,hq,rfl⟩:=hc
  exact Bool.noConfusion (show false=true from hq0)
 case build t ps=>
  split at hc
  ·rename_i fs ht
   simp only [obs] at hc
   obtain ⟨z,hz,qs,hq,hc⟩:=hc
   split at hc
   ·rename_i hfs
    simp only [sij] at hc;subst hc
    simp only [xop] at h
    split at h
    ·rename_i cs hcs
     exact YJ sim he ho ht hz (by simpa only [obs,oms] using hq) hfs hcs h
    ·exact h.elim
   ·cases hc
  ·rename_i m el ht
   simp only [obs,oms] at hc
   obtain ⟨z,hz,n,hn,qs,hq,rfl⟩:=hc
   simp only [xop] at h
   split at h
   ·rename_i cs hcs
    exact wB sim he ho ht hz hn hq hcs h
   ·exact h.elim
  ·cases hc
 case buildSlice t len ps=>
  split at hc
  ·rename_i el ht
   simp only [obs] at hc
   obtain ⟨n,hn,z,hz,qs,hq,hc⟩:=hc
   split at hc
   ·rename_i hcond
    simp only [sij] at hc;subst hc
    simp only [xop] at h
    obtain ⟨_,h⟩:=h
    split at h
    ·rename_i rows hrows
     exact Bool.noConfusion (show false=true from hq0)
    ·exact h.elim
   ·cases hc
  ·cases hc
 case load t x=>
  simp only [obs,oms] at hc
  obtain ⟨g,hg,n,hn,q,hq,rfl⟩:=hc
  cases g
  ·simp only [Bool.false_eq_true,if_false,xop] at h
   split at h
   ·rename_i rows r off hr
    exact z19 sim hG he ho hq hg hr h.1 h.2.1 h.2.2
   ·exact h.elim
  ·simp only [if_true,xop] at h
   split at h
   ·rename_i rows r off hr
    exact z0G sim hG he ho hq hg hn hr h.1 h.2.1 h.2.2
   ·exact h.elim
 case store t p x=>
  simp only [obs,oms] at hc
  obtain ⟨g,hg,n,hn,p',hp,x',hx,rfl⟩:=hc
  simp only [xop] at h
  split at h
  ·rename_i s r off hs
   split at h
   ·rename_i sz rows hL
    exact Bool.noConfusion (show false=true from hq0)
   ·exact Bool.noConfusion (show false=true from hq0)
   ·exact h.elim
  ·exact h.elim
 case nilCheck x=>
  simp only [oms] at hc;obtain ⟨q,hq,rfl⟩:=hc
  exact z18 sim he ho hq h
 case binOp op t x y ty=>
  split at hc
  ·rename_i ht
   simp only [obs,oms] at hc
   obtain ⟨x',hx,y',hy,rfl⟩:=hc
   exact z5N sim he ho ht hx hy h
  ·split at hc
   ·rename_i ht
    simp only [obs,oms] at hc
    obtain ⟨x',hx,y',hy,rfl⟩:=hc
    exact Je sim he ho rfl (by assumption) hx hy h
   ·rename_i ht
    simp only [obs,oms] at hc
    obtain ⟨x',hx,y',hy,rfl⟩:=hc
    exact Je sim he ho rfl (by assumption) hx hy h
   ·rename_i el ht
    simp only [obs] at hc
    obtain ⟨n,hn,hc⟩:=hc
    split at hc
    ·cases hc
    ·simp only [obs,oms] at hc
     obtain ⟨x',hx,y',hy,rfl⟩:=hc
     exact Bool.noConfusion (show false=true from hq0)
   ·rename_i el ht
    simp only [obs] at hc
    obtain ⟨n,hn,hc⟩:=hc
    split at hc
    ·cases hc
    ·simp only [obs,oms] at hc
     obtain ⟨x',hx,y',hy,rfl⟩:=hc
     exact Bool.noConfusion (show false=true from hq0)
   ·simp only [obs,oms] at hc
    obtain ⟨ks,hk,x',hx,y',hy,rfl⟩:=hc
    exact Bool.noConfusion (show false=true from hq0)
   ·simp only [obs,oms] at hc
    obtain ⟨ks,hk,x',hx,y',hy,rfl⟩:=hc
    exact Bool.noConfusion (show false=true from hq0)
   ·simp only [obs,oms] at hc
    obtain ⟨k,hk,x',hx,rfl⟩:=hc
    exact Bool.noConfusion (show false=true from hq0)
   ·simp only [obs,oms] at hc
    obtain ⟨k,hk,x',hx,rfl⟩:=hc
    exact Bool.noConfusion (show false=true from hq0)
   ·cases hc
 case range t x=>
  split at hc
  ·simp only [oms] at hc;obtain ⟨q,hq,rfl⟩:=hc
   exact Bool.noConfusion (show false=true from hq0)
  ·simp only [oms] at hc;obtain ⟨q,hq,rfl⟩:=hc
   exact Bool.noConfusion (show false=true from hq0)
  ·cases hc
 case makeMap t r=>
  cases r with
  | none=>simp only [sij] at hc;subst hc;exact Bool.noConfusion (show false=true from hq0)
  | some r=>cases hc
 case lookup t x i ok=>
  split at hc
  ·simp only [obs,oms] at hc
   obtain ⟨st,hst,z,hz,x',hx,i',hi,rfl⟩:=hc
   exact Bool.noConfusion (show false=true from hq0)
  ·cases hc
 case mapUpdate t m k v=>
  split at hc
  ·simp only [obs,oms] at hc
   obtain ⟨st,hst,m',hm,k',hk',v',hv',rfl⟩:=hc
   exact Bool.noConfusion (show false=true from hq0)
  ·cases hc
 case insert t m k v=>
  split at hc
  ·simp only [obs,oms] at hc
   obtain ⟨st,hst,m',hm,k',hk',v',hv',rfl⟩:=hc
   exact Bool.noConfusion (show false=true from hq0)
  ·cases hc
 case mapEntry t m k=>
  split at hc
  ·simp only [obs,oms] at hc
   obtain ⟨st,hst,z,hz,m',hm,k',hk',rfl⟩:=hc
   exact Bool.noConfusion (show false=true from hq0)
  ·cases hc
 case entryStore t m k v=>
  simp only [obs,oms] at hc
  obtain ⟨m',hm,k',hk',v',hv',rfl⟩:=hc
  exact Bool.noConfusion (show false=true from hq0)
 case next x b=>
  cases b
  ·simp only [Bool.false_eq_true,if_false,oms] at hc;obtain ⟨q,hq,rfl⟩:=hc
   exact Bool.noConfusion (show false=true from hq0)
  ·simp only [if_true,oms] at hc;obtain ⟨q,hq,rfl⟩:=hc
   exact Bool.noConfusion (show false=true from hq0)
 case unOp op t x=>
  simp only [oms] at hc;obtain ⟨q,hq,rfl⟩:=hc
  exact z7k sim he ho hq h
 case convert s d x=>
  split at hc
  ·rename_i k0 k hs hd
   simp only [oms] at hc;obtain ⟨q,hq,rfl⟩:=hc
   simp only [xop] at h
   split at h
   ·rename_i k1 n h1;exact z0N sim he ho hs hd hq h1 h
   ·exact h.elim
  ·rename_i k0 hs hd
   simp only [oms] at hc;obtain ⟨q,hq,rfl⟩:=hc
   simp only [xop] at h
   split at h
   ·rename_i k1 n h1;exact jg sim he ho hs hd hq h1 h
   ·exact h.elim
  ·simp only [oms] at hc;obtain ⟨q,hq,rfl⟩:=hc
   exact Bool.noConfusion (show false=true from hq0)
  ·rename_i f k hs hd
   simp only [oms] at hc;obtain ⟨q,hq,rfl⟩:=hc
   first | exact Bool.noConfusion (show false=true from hq0) | exact z5q (g:=g) sim he ho hs hd hq h
  ·rename_i hs hd
   simp only [oms] at hc;obtain ⟨q,hq,rfl⟩:=hc
   simp only [xop] at h
   split at h
   ·rename_i l h1;exact z1c sim he ho hs hd hq h1 h
   ·exact h.elim
  ·rename_i el hs hd
   split at hc
   ·rename_i hu
    simp only [oms] at hc;obtain ⟨q,hq,rfl⟩:=hc
    exact Bool.noConfusion (show false=true from hq0)
   ·split at hc
    ·simp only [oms] at hc;obtain ⟨q,hq,rfl⟩:=hc
     exact Bool.noConfusion (show false=true from hq0)
    ·cases hc
  ·rename_i el hs hd
   split at hc
   ·rename_i hu
    simp only [oms] at hc;obtain ⟨q,hq,rfl⟩:=hc
    exact Bool.noConfusion (show false=true from hq0)
   ·cases hc
  ·rename_i el el' hs hd
   split at hc
   ·rename_i hu
    simp only [oms] at hc;obtain ⟨q,hq,rfl⟩:=hc
    exact Bool.noConfusion (show false=true from hq0)
   ·cases hc
  ·rename_i t hs hd
   simp only [obs] at hc
   obtain ⟨n,hn,hc⟩:=hc
   split at hc
   ·cases hc
   ·rename_i hn0
    simp only [oms] at hc;obtain ⟨q,hq,rfl⟩:=hc
    exact Bool.noConfusion (show false=true from hq0)
  ·rename_i t hs hd
   simp only [obs] at hc
   obtain ⟨n,hn,hc⟩:=hc
   split at hc
   ·cases hc
   ·rename_i hn0
    simp only [oms] at hc;obtain ⟨q,hq,rfl⟩:=hc
    exact Bool.noConfusion (show false=true from hq0)
  ·cases hc
 case fieldAddr s x f=>
  split at hc
  ·rename_i fs hs
   simp only [obs] at hc
   obtain ⟨g,hg,n,hn,hc⟩:=hc
   split at hc
   ·cases hc
   ·rename_i hn0
    simp only [oms] at hc;obtain ⟨q,hq,rfl⟩:=hc
    exact z2o sim he ho hs hg hn hn0 hq h
  ·cases hc
 case field s x f=>
  split at hc
  ·rename_i fs hs
   simp only [obs,oms] at hc
   obtain ⟨g,hg,n,hn,b,hb,q,hq,rfl⟩:=hc
   exact z4Y sim he ho hs hg hn hb hq h
  ·cases hc
 case indexAddr t x i=>
  split at hc
  ·rename_i el ht
   simp only [obs] at hc
   obtain ⟨n,hn,hc⟩:=hc
   split at hc
   ·cases hc
   ·simp only [obs,oms] at hc
    obtain ⟨x',hx,i',hi,rfl⟩:=hc
    exact z3I sim he ho ht hn hx hi h
  ·rename_i m el ht
   simp only [obs,oms] at hc
   obtain ⟨n,hn,x',hx,i',hi,rfl⟩:=hc
   exact z3E sim he ho ht hn hx hi h
  ·cases hc
 case index t x i=>
  split at hc
  ·rename_i ht
   simp only [obs,oms] at hc
   obtain ⟨x',hx,i',hi,rfl⟩:=hc
   exact z5z sim he ho ht hx hi h
  ·cases hc
 case slice t x lo hi mx=>
  unfold z0j at hc
  split at hc
  ·split at hc
   ·rename_i ht
    simp only [obs,oms] at hc
    obtain ⟨x',hx,l,hl,hh,hhi,rfl⟩:=hc
    simp only [xop] at h
    split at h
    ·rename_i s hs
     exact WQ sim he ho ht hx hl hhi hs h
    ·exact h.elim
   ·rename_i el ht
    simp only [obs] at hc
    obtain ⟨n,hn,hc⟩:=hc
    split at hc
    ·cases hc
    ·simp only [obs,oms] at hc
     obtain ⟨x',hx,l,hl,hh,hhi,rfl⟩:=hc
     exact z0y sim he ho ht hn hx hl hhi h
   ·rename_i m el ht
    split at hc
    ·rename_i hcond
     obtain ⟨hn1,hh0⟩:=hcond
     simp only [obs,oms] at hc
     obtain ⟨x',hx,l,hl,rfl⟩:=hc
     cases hi with
     | none=>exact Bool.noConfusion (show false=true from hq0)
     | some _=>cases hh0
    ·cases hc
   ·cases hc
  ·rename_i m
   split at hc
   ·rename_i el ht
    simp only [obs] at hc
    obtain ⟨n,hn,hc⟩:=hc
    split at hc
    ·rename_i hcond
     simp only [Bool.and_eq_true] at hcond
     obtain ⟨⟨h1,h2⟩,h3⟩:=hcond
     simp only [oms] at hc;obtain ⟨q,hq,rfl⟩:=hc
     unfold Jn at h1 h2
     split at h1
     ·rename_i k1 hk1
      split at h2
      ·rename_i k2 hk2
       cases lo with
       | some l=>cases h3
       | none=>rw [hk1] at ho;exact JU sim he ho ht hn hq h
      ·cases h2
     ·cases h1
    ·split at hc
     ·rename_i hp
      split at hc
      ·cases hc
      ·simp only [obs,oms] at hc
       obtain ⟨x',hx,l,hl,h',hh,m',hm,rfl⟩:=hc
       first | exact Bool.noConfusion (show false=true from hq0) | exact z5G (g:=g) sim he ho ht hn hx hl hh hm h
     ·cases hc
   ·cases hc
 case makeFunc f xs ys=>
  simp only [obs,oms] at hc
  obtain ⟨xs',hx,ys',hy,rfl⟩:=hc
  exact z3s sim he ho hx hy h
 case makeSlice t l c=>
  split at hc
  ·rename_i el ht
   simp only [obs] at hc
   obtain ⟨n,hn,z,hz,m,hm,l',hl,c',hc',hc⟩:=hc
   split at hc
   ·rename_i hcond
    simp only [sij] at hc;subst hc
    simp only [xop] at h
    split at h
    ·rename_i k1 n1 k2 n2 h1 h2
     exact Bool.noConfusion (show false=true from hq0)
    ·exact h.elim
   ·cases hc
  ·cases hc
 case extract t i=>
  simp only [oms] at hc;obtain ⟨q,hq,rfl⟩:=hc
  exact z5Y sim he ho hq h
 case makeInterface t x=>
  split at hc
  ·simp only [oms] at hc;obtain ⟨q,hq,rfl⟩:=hc
   exact Bool.noConfusion (show false=true from hq0)
  ·cases hc
 case typeAssert x st t ok=>
  split at hc
  ·cases hc
  ·split at hc
   ·simp only [oms] at hc;obtain ⟨q,hq,rfl⟩:=hc
    exact Bool.noConfusion (show false=true from hq0)
   ·cases hc
  ·cases hc
 case panic x=>
  simp only [oms] at hc;obtain ⟨q,hq,rfl⟩:=hc
  exact Bool.noConfusion (show false=true from hq0)
 case call c=>
  unfold z1Y at hc
  split at hc
  ·rename_i f hcb
   simp only [obs,oms] at hc
   obtain ⟨f',hf,as,has,rfl⟩:=hc
   exact Bool.noConfusion (show false=true from hq0)
  ·rename_i hcb
   split at hc
   ·rename_i x hargs ht
    simp only [oms] at hc;obtain ⟨q,hq,rfl⟩:=hc
    exact z2M sim he ho hcb hargs ht hq h
   ·rename_i x el hargs ht
    simp only [oms] at hc;obtain ⟨q,hq,rfl⟩:=hc
    exact z5p sim he ho hcb hargs ht hq h
   ·cases hc
  ·rename_i hcb
   split at hc
   ·rename_i s x el el2 hargs h1 h2
    simp only [obs] at hc
    obtain ⟨s',hs,x',hx,n,hn,m,hm,z,hz,hc⟩:=hc
    split at hc
    ·split at hc
     ·split at hc
      ·simp only [sij] at hc;subst hc
       exact Bool.noConfusion (show false=true from hq0)
      ·cases hc
     ·simp only [sij] at hc;subst hc
      exact Bool.noConfusion (show false=true from hq0)
    ·cases hc
   ·rename_i s x el hargs h1 h2
    simp only [obs] at hc
    obtain ⟨s',hs,x',hx,n,hn,m,hm,z,hz,hc⟩:=hc
    split at hc
    ·split at hc
     ·split at hc
      ·simp only [sij] at hc;subst hc
       exact Bool.noConfusion (show false=true from hq0)
      ·cases hc
     ·simp only [sij] at hc;subst hc
      exact Bool.noConfusion (show false=true from hq0)
    ·cases hc
   ·cases hc
  ·rename_i hcb
   split at hc
   ·rename_i d x el hargs h1
    simp only [obs,oms] at hc
    obtain ⟨n,hn,d',hd,x',hx,rfl⟩:=hc
    exact Bool.noConfusion (show false=true from hq0)
   ·cases hc
  ·rename_i hcb
   split at hc
   ·rename_i x hargs
    simp only [oms] at hc;obtain ⟨q,hq,rfl⟩:=hc
    exact Bool.noConfusion (show false=true from hq0)
   ·cases hc
  ·rename_i hcb
   split at hc
   ·rename_i x y pt t2 hargs hat
    split at hc
    ·rename_i el hpt
     simp only [obs] at hc
     obtain ⟨x',hx,y',hy,hc⟩:=hc
     split at hc
     ·rename_i hce
      simp only [sij] at hc;subst hc
      exact Bool.noConfusion (show false=true from hq0)
     ·cases hc
    ·cases hc
   ·cases hc
  ·rename_i hcb
   split at hc
   ·rename_i x hargs
    simp only [oms] at hc
    obtain ⟨x',hx,rfl⟩:=hc
    first | exact Bool.noConfusion (show false=true from hq0) | exact Jg (im:=false) (g:=g) sim he ho hcb hargs hx h
   ·cases hc
  ·rename_i hcb
   split at hc
   ·rename_i x hargs
    simp only [oms] at hc
    obtain ⟨x',hx,rfl⟩:=hc
    first | exact Bool.noConfusion (show false=true from hq0) | exact Jg (im:=true) (g:=g) sim he ho hcb hargs hx h
   ·cases hc
  ·rename_i hcb
   split at hc
   ·split at hc
    ·simp only [obs,oms] at hc
     obtain ⟨st,hst,m',hm,k',hk',rfl⟩:=hc
     exact Bool.noConfusion (show false=true from hq0)
    ·cases hc
   ·cases hc
  ·rename_i hcb
   split at hc
   ·simp only [obs,oms] at hc
    obtain ⟨x',hx,y',hy,rfl⟩:=hc
    exact Bool.noConfusion (show false=true from hq0)
   ·cases hc
  ·rename_i hcb
   split at hc
   ·rename_i x y hargs
    simp only [obs,oms] at hc
    obtain ⟨x',hx,y',hy,rfl⟩:=hc
    exact z5c sim he ho hcb hargs hx hy h
   ·cases hc
  ·rename_i hcb
   split at hc
   ·rename_i x y hargs
    simp only [obs,oms] at hc
    obtain ⟨x',hx,y',hy,rfl⟩:=hc
    exact z5X sim he ho hcb hargs hx hy h
   ·cases hc
  ·cases hc
theorem z8T (wf:Wf E.g0 C) (sim:Sim C) (hG:E.G C.w) (he:Opds C a e) {x:XO} (hc:wI E.P o.op=some x) (h:xop E x e C.L K):Good E C a o K:=
 z0z (.inl rfl) wf sim hG he hc (zh2 h)
end
end Go.X
end
section
namespace Go.X
open Go
section
variable {E:Env} {e:Opd->IV} {L:List Blk} {K:IV->List Blk->Prop}
theorem z5P {ρ ρ':Rho} (x:Opd) (h:∀n∈x.us,ρ n=ρ' n):x.ev ρ=x.ev ρ':=by
 cases x with
 | t n=>exact h n (by simp [Opd.us])
 | _=>rfl
theorem z4N {ρ ρ':Rho}:∀(l:List Opd),(∀n∈usL l,ρ n=ρ' n)->l.map (Opd.ev ρ)=l.map (Opd.ev ρ')
 | [],_=>rfl
 | x::r,h=>by
  simp only [List.map_cons]
  rw [z5P x (fun n hn=>h n (by simp [usL,hn])),z4N r (fun n hn=>h n (by simp only [usL,List.flatMap_cons,List.mem_append];exact .inr hn))]
theorem zcC {ρ ρ':Rho} (x:Option Opd) (h:∀n∈usO x,ρ n=ρ' n):x.map (Opd.ev ρ)=x.map (Opd.ev ρ'):=by
 cases x with
 | none=>rfl
 | some x=>simp only [Option.map_some];rw [z5P x h]
theorem z8n {o:XO} {ρ ρ':Rho} (h:∀n∈o.us,ρ n=ρ' n):xop E o (Opd.ev ρ) L K=xop E o (Opd.ev ρ') L K:=by
 have h1:∀{x:Opd},(∀n,n∈x.us->n∈o.us)->x.ev ρ=x.ev ρ':=fun {x} hx=>z5P x fun n hn=>h n (hx n hn)
 have hO:∀{x:Option Opd},(∀n,n∈usO x->n∈o.us)->x.map (Opd.ev ρ)=x.map (Opd.ev ρ'):=fun {x} hx=>zcC x fun n hn=>h n (hx n hn)
 have hL:∀{l:List Opd},(∀n,n∈usL l->n∈o.us)->l.map (Opd.ev ρ)=l.map (Opd.ev ρ'):=fun {l} hx=>z4N l fun n hn=>h n (hx n hn)
 cases o with
 | mov x | box x | load1 x | loadN _ x | nilck x | un _ x | cvInt _ x | cvIntStr x | cvStr x | fldA _ x | fld _ _ _ x | slice0 x | len x | lenS x | isNil _ _ x | rng x | nxt x | ext x _=>
  simp only [xop,h1 (x:=x) (fun n hn=>hn)]
 | pick c x y=>
  simp only [xop]
  rw [h1 (x:=c) (fun n hn=>by simp [XO.us,hn]),h1 (x:=x) (fun n hn=>by simp [XO.us,hn]),h1 (x:=y) (fun n hn=>by simp [XO.us,hn])]
 | alloc z=>rfl
 | build z ps=>
  simp only [xop]
  have:(ps.map fun p=>(p.1,p.2.1,p.2.2.ev ρ))=ps.map fun p=>(p.1,p.2.1,p.2.2.ev ρ'):=
   List.map_congr_left fun p hp=>by rw [h1 (x:=p.2.2) (fun n hn=>by simp only [XO.us,List.mem_flatMap];exact ⟨p,hp,hn⟩)]
  rw [this]
 | bslice sz z len ps=>
  simp only [xop]
  have:(ps.map fun p=>(p.1,p.2.ev ρ))=ps.map fun p=>(p.1,p.2.ev ρ'):=
   List.map_congr_left fun p hp=>by rw [h1 (x:=p.2) (fun n hn=>by simp only [XO.us,List.mem_flatMap];exact ⟨p,hp,hn⟩)]
  rw [this]
 | store _ x y | bin _ x y | eqB _ x y | idxS _ x y | idxA _ _ x y | idx x y | mkslice _ _ x y | append _ _ x y | max2 x y | min2 x y=>
  simp only [xop]
  rw [h1 (x:=x) (fun n hn=>by simp [XO.us,hn]),h1 (x:=y) (fun n hn=>by simp [XO.us,hn])]
 | slice _ x lo hi | sliceS x lo hi=>
  simp only [xop]
  rw [h1 (x:=x) (fun n hn=>by simp [XO.us,hn]),hO (x:=lo) (fun n hn=>by simp [XO.us,hn]),hO (x:=hi) (fun n hn=>by simp [XO.us,hn])]
 | mkfn f a b=>
  simp only [xop]
  rw [hL (l:=a) (fun n hn=>by simp [XO.us,hn]),hL (l:=b) (fun n hn=>by simp [XO.us,hn])]
 | call f as | pcall f as=>
  simp only [xop]
  rw [h1 (x:=f) (fun n hn=>by simp [XO.us,hn]),hL (l:=as) (fun n hn=>by simp [XO.us,hn])]
 | ex k xs=>
  simp only [xop]
  rw [hL (l:=xs) (fun n hn=>by simpa [XO.us] using hn)]
theorem z9Z {op:BinOp} {x y:IV} {Q:IV->Prop} (h:xbin op x y Q):∃r,Q r/\∀Q':IV->Prop,Q' r->xbin op x y Q':=by
 unfold xbin at h
 split at h<;>first
  | exact ⟨_,h,fun _ hk=>hk⟩
  | exact ⟨_,h.2,fun _ hk=>⟨h.1,hk⟩⟩
  | exact ⟨_,h.2.2,fun _ hk=>⟨h.1,h.2.1,hk⟩⟩
  | (obtain ⟨r,h1,h2⟩:=h;exact ⟨_,h2,fun _ hk=>by rw [z5t];exact ⟨r,h1,hk⟩⟩)
  | exact h.elim
theorem zcm {op:UnOp} {x:IV} {Q:IV->Prop} (h:xun op x Q):∃r,Q r/\∀Q':IV->Prop,Q' r->xun op x Q':=by
 unfold xun at h
 split at h<;>first
  | (obtain ⟨r,h1,h2⟩:=h;exact ⟨_,h2,fun _ hk=>⟨r,h1,hk⟩⟩)
  | exact ⟨_,h,fun _ hk=>hk⟩
  | exact h.elim
theorem ZM {x:Option IV} {d:Nat} {Q:Nat->Prop} (h:bnd x d Q):∃n,Q n/\∀Q':Nat->Prop,Q' n->bnd x d Q':=by
 unfold bnd at h
 split at h<;>first
  | exact ⟨_,h,fun _ hk=>hk⟩
  | exact ⟨_,h.2,fun _ hk=>⟨h.1,hk⟩⟩
  | exact h.elim
theorem zeE {k:XX} {vs:List IV} {g:Nat} (hk:k.kd=0) (h:xex E k vs g L K):∃r,K r L/\∀(g':Nat) (L':List Blk) (K':IV->List Blk->Prop),K' r L'->xex E k vs g' L' K':=by
 cases k<;>simp only [XX.kd] at hk<;>try (exact absurd hk (by decide))
 case mkif t=>
  simp only [xex] at h ⊢
  split at h<;>try exact h.elim
  exact ⟨_,h,fun _ _ _ hk=>hk⟩
 case sdata=>
  simp only [xex] at h ⊢
  split at h<;>try exact h.elim
  ·exact ⟨_,h,fun _ _ _ hk=>hk⟩
  ·exact ⟨_,h,fun _ _ _ hk=>hk⟩
  ·exact ⟨_,h.2,fun _ _ _ hk=>⟨h.1,hk⟩⟩
 case itof f=>
  simp only [xex] at h ⊢
  split at h<;>try exact h.elim
  exact ⟨_,h,fun _ _ _ hk=>hk⟩
 case cpx=>
  simp only [xex] at h ⊢
  split at h<;>try exact h.elim
  exact ⟨_,h.2,fun _ _ _ hk=>⟨h.1,hk⟩⟩
 case ru op=>
  simp only [xex] at h ⊢
  split at h<;>try exact h.elim
  obtain ⟨r,h1,h2⟩:=h
  exact ⟨_,h2,fun _ _ _ hk=>⟨r,h1,hk⟩⟩
 all_goals
  simp only [xex] at h ⊢
  split at h<;>(try exact h.elim)
  split at h<;>(try exact h.elim)
  exact ⟨_,h,fun _ _ _ hk=>hk⟩
theorem z5H {o:XO} (hk:o.kd=0) (h:xop E o e L K):∃r,K r L/\∀(L':List Blk) (K':IV->List Blk->Prop),K' r L'->xop E o e L' K':=by
 cases o<;>simp only [XO.kd] at hk<;>try (exact absurd hk (by decide))
 case isNil kk neg x=>
  split at hk
  ·rename_i hk1
   subst hk1
   simp only [xop,xnil] at h ⊢
   split at h<;>first | exact h.elim | (rename_i h0 _;exact absurd h0 (by decide)) | (rename_i h0 _ _;exact absurd h0 (by decide)) | skip
   all_goals first | exact ⟨_,h,fun _ _ hk=>hk⟩ | (simp_all;done)
  ·exact absurd hk (by decide)
 case mov x=>exact ⟨_,h,fun _ _ hk=>hk⟩
 case mkfn f a b=>exact ⟨_,h,fun _ _ hk=>hk⟩
 case bin op x y=>
  simp only [xop] at h ⊢
  obtain ⟨r,h1,h2⟩:=z9Z h
  exact ⟨r,h1,fun L' K' hk=>h2 (fun v=>K' v L') hk⟩
 case un op x=>
  simp only [xop] at h ⊢
  obtain ⟨r,h1,h2⟩:=zcm h
  exact ⟨r,h1,fun L' K' hk=>h2 (fun v=>K' v L') hk⟩
 case sliceS x lo hi=>
  simp only [xop] at h ⊢
  split at h
  ·rename_i s hs
   obtain ⟨l,h,h1⟩:=ZM h
   obtain ⟨hh,h,h2⟩:=ZM h
   exact ⟨_,h.2.2,fun L' K' hk=>h1 _ (h2 _ ⟨h.1,h.2.1,hk⟩)⟩
  ·exact h.elim
 case fld off n agg x=>
  simp only [xop] at h ⊢
  split at h
  ·obtain ⟨h1,h2⟩:=h
   cases agg
   ·simp only [Bool.false_eq_true,if_false] at h2 ⊢
    exact ⟨_,h2.2,fun _ _ hk=>⟨h1,h2.1,hk⟩⟩
   ·simp only [if_true] at h2 ⊢
    exact ⟨_,h2,fun _ _ hk=>⟨h1,hk⟩⟩
  ·exact h.elim
 all_goals
  simp only [xop] at h ⊢
  (try split at h)<;>first
   | exact h.elim
   | exact ⟨_,h,fun _ _ hk=>hk⟩
   | exact ⟨_,h.2,fun _ _ hk=>⟨h.1,hk⟩⟩
   | exact ⟨_,h.2.2,fun _ _ hk=>⟨h.1,h.2.1,hk⟩⟩
   | (obtain ⟨r,h1,h2⟩:=zeE (by simpa [XO.kd] using hk) h;exact ⟨r,h1,fun L' K' hk'=>h2 _ L' K' hk'⟩)
   | skip
theorem yM {b:Blk} {s:Nat} {k:Blk} (h:L[s]?=some k):(L++[b])[s]?=some k:=by
 rw [List.getElem?_append_left (zf h)];exact h
theorem z0E {gl:Nat->Option (List IV)} {x:IV} {b:Blk} {y:List (List IV) × Nat × Nat} (h:ZH gl L x=some y):ZH gl (L++[b]) x=some y:=by
 unfold ZH at h ⊢
 split at h
 ·exact h
 ·split at h
  ·rename_i hs;simp only [yM hs];exact h
  ·rename_i hs;simp only [yM hs];exact h
  ·cases h
 ·exact h
 ·cases h
theorem z6i {x:IV} {b:Blk} {y:List (List IV)} (h:rowsOf L x=some y):rowsOf (L++[b]) x=some y:=by
 unfold rowsOf at h ⊢
 split at h
 ·exact h
 ·exact h
 ·split at h
  ·rename_i hs;simp only [yM hs];exact h
  ·rename_i hs;simp only [yM hs];exact h
  ·cases h
 ·exact h
 ·exact h
 ·cases h
theorem z6t {x:IV} {b:Blk} {y:List (List IV)} (h:yx L x=some y):yx (L++[b]) x=some y:=by
 unfold yx at h ⊢
 split at h
 ·cases h
 ·exact z6i h
theorem z5l {s m:Nat} {b:Blk} (h:szOf L s=some m):szOf (L++[b]) s=some m:=by
 unfold szOf at h ⊢
 split at h
 ·rename_i hs;simp only [yM hs];exact h
 ·rename_i hs;simp only [yM hs];exact h
 ·cases h
theorem wK:∀(n:Nat) (x:IV) (L L':List Blk),conv L n zV x=conv L' n zV x
 | 0,_,_,_=>rfl
 | n+1,x,L,L'=>by
  have h0:mapO (conv L n zV)=mapO (conv L' n zV):=by
   congr 1;funext y;exact wK n y L L'
  cases x<;>simp only [conv,zV,h0]
  case iface t v=>rw [wK n v L L']
theorem yY {α β:Type} {f g:α->Option β} (h:∀x y,f x=some y->g x=some y):∀{l:List α} {l':List β},mapO f l=some l'->mapO g l=some l'
 | [],_,hl=>hl
 | x::r,l',hl=>by
  simp only [mapO] at hl ⊢
  split at hl
  ·rename_i y hy
   split at hl
   ·rename_i ys hys
    rw [h _ _ hy,yY h hys];exact hl
   ·cases hl
  ·cases hl
theorem vF {L L':List Blk} (hL:∀(s:Nat) (k:Blk),L[s]?=some k->L'[s]?=some k):∀(n:Nat) (m:Ren) (x y:IV),conv L n m x=some y->conv L' n m x=some y
 | 0,_,_,_,h=>h
 | n+1,m,x,y,h=>by
  have h0:∀(m:Ren) {l l':List IV},mapO (conv L n m) l=some l'->mapO (conv L' n m) l=some l':=fun m=>yY fun x y=>vF hL n m x y
  have h1:∀(m:Ren) {l l':List (List IV)},mapO (mapO (conv L n m)) l=some l'->mapO (mapO (conv L' n m)) l=some l':=fun m=>yY fun x y=>h0 m
  cases x with
  | ptr s r o=>
   simp only [conv] at h ⊢
   split at h
   ·exact h
   ·split at h
    ·rename_i hs
     rw [hL _ _ hs]
     simp only [oms] at h ⊢
     obtain ⟨a,h2,h3⟩:=h
     exact ⟨a,h1 _ h2,h3⟩
    ·rename_i hs
     rw [hL _ _ hs]
     simp only [oms] at h ⊢
     obtain ⟨a,h2,h3⟩:=h
     exact ⟨a,h1 _ h2,h3⟩
    ·cases h
   ·cases h
  | sl s off len cap=>
   simp only [conv] at h ⊢
   split at h
   ·exact h
   ·split at h
    ·rename_i hs
     rw [hL _ _ hs]
     simp only
     split at h
     ·rename_i hle
      rw [if_pos hle]
      simp only [oms] at h ⊢
      obtain ⟨a,h2,h3⟩:=h
      exact ⟨a,h1 _ h2,h3⟩
     ·cases h
    ·rename_i hs
     rw [hL _ _ hs]
     simp only
     split at h
     ·rename_i hle
      rw [if_pos hle]
      simp only [oms] at h ⊢
      obtain ⟨a,h2,h3⟩:=h
      exact ⟨a,h1 _ h2,h3⟩
     ·cases h
    ·cases h
   ·cases h
  | agg cs=>simp only [conv,oms] at h ⊢;obtain ⟨a,h2,h3⟩:=h;exact ⟨a,h0 _ h2,h3⟩
  | tup cs=>simp only [conv,oms] at h ⊢;obtain ⟨a,h2,h3⟩:=h;exact ⟨a,h0 _ h2,h3⟩
  | fn f a b=>
   simp only [conv] at h ⊢
   split at h
   ·rename_i ha hb
    rw [h0 _ ha,h0 _ hb];exact h
   ·cases h
  | iface t v=>simp only [conv,oms] at h ⊢;obtain ⟨a,h2,h3⟩:=h;exact ⟨a,vF hL n m v a h2,h3⟩
  | _=>exact h
theorem z1F:∀(n:Nat) (x y:IV),conv L n zV x=some y->conv L n zy x=some y
 | 0,_,_,h=>h
 | n+1,x,y,h=>by
  have h0:∀{l l':List IV},mapO (conv L n zV) l=some l'->mapO (conv L n zy) l=some l':=yY fun x y=>z1F n x y
  cases x with
  | ptr s r o=>simp only [conv,zV] at h;cases h
  | sl s off len cap=>simp only [conv,zV] at h;cases h
  | mp s=>simp only [conv,zV] at h;cases h
  | yld s=>simp only [conv,zV] at h;cases h
  | agg cs=>simp only [conv,oms] at h ⊢;obtain ⟨a,h2,h3⟩:=h;exact ⟨a,h0 h2,h3⟩
  | tup cs=>simp only [conv,oms] at h ⊢;obtain ⟨a,h2,h3⟩:=h;exact ⟨a,h0 h2,h3⟩
  | fn f a b=>
   simp only [conv] at h ⊢
   split at h
   ·rename_i ha hb
    rw [h0 ha,h0 hb];exact h
   ·cases h
  | iface t v=>simp only [conv,oms] at h ⊢;obtain ⟨a,h2,h3⟩:=h;exact ⟨a,z1F n v a h2,h3⟩
  | _=>exact h
theorem zeB {k:XX} {vs:List IV} {g:Nat} (hk:k.kd=1) (h:xex E k vs g L K):∃r,K r L/\(∀(g':Nat) (K':IV->List Blk->Prop),K' r L->xex E k vs g' L K')/\
  ∀(g':Nat) (b:Blk) (K':IV->List Blk->Prop),K' r (L++[b])->xex E k vs g' (L++[b]) K':=by
 cases k<;>simp only [XX.kd] at hk<;>try (exact absurd hk (by decide))
 case mlook st zero ok=>
  simp only [xex] at h ⊢
  split at h
  ·exact ⟨_,h.2,fun _ _ hk=>⟨h.1,hk⟩,fun _ _ _ hk=>⟨h.1,hk⟩⟩
  ·rename_i m k hne
   unfold wz Yx at h ⊢
   split at h
   ·rename_i s
    obtain ⟨h1,h⟩:=h
    split at h
    ·rename_i es c hL
     split at h
     ·rename_i r hr
      cases r with
      | none=>
       refine ⟨_,h,fun _ K' hk=>⟨h1,?_⟩,fun _ b K' hk=>⟨h1,?_⟩⟩
       ·simp only [];exact hk
       ·simp only [yM hL,hr];exact hk
      | some i=>
       refine ⟨_,h,fun _ K' hk=>⟨h1,?_⟩,fun _ b K' hk=>⟨h1,?_⟩⟩
       ·simp only [];exact hk
       ·simp only [yM hL,hr];exact hk
     ·exact h.elim
    ·exact h.elim
   ·exact h.elim
  ·exact h.elim
 case bStr=>
  simp only [xex] at h ⊢
  split at h<;>try exact h.elim
  split at h<;>try exact h.elim
  rename_i v s hs
  refine ⟨_,h,fun g' K' hk=>hk,fun g' b K' hk=>?_⟩
  obtain ⟨rs,h1,h2⟩:=Option.bind_eq_some_iff.1 hs
  rw [z6t h1,Option.bind_some,h2]
  exact hk
theorem z8x {o:XO} (hk:o.kd=1) (h:xop E o e L K):∃r,K r L/\(∀K':IV->List Blk->Prop,K' r L->xop E o e L K')/\∀(b:Blk) (K':IV->List Blk->Prop),K' r (L++[b])->xop E o e (L++[b]) K':=by
 cases o<;>simp only [XO.kd] at hk<;>try (exact absurd hk (by decide))
 case isNil=>split at hk<;>exact absurd hk (by decide)
 case load1 x=>
  simp only [xop] at h ⊢
  split at h
  ·rename_i rows r off hr
   refine ⟨_,h.2.2,fun K' hk=>?_,fun b K' hk=>?_⟩
   ·exact ⟨h.1,h.2.1,hk⟩
   ·simp only [z0E hr];exact ⟨h.1,h.2.1,hk⟩
  ·exact h.elim
 case loadN n x=>
  simp only [xop] at h ⊢
  split at h
  ·rename_i rows r off hr
   refine ⟨_,h.2.2,fun K' hk=>?_,fun b K' hk=>?_⟩
   ·exact ⟨h.1,h.2.1,hk⟩
   ·simp only [z0E hr];exact ⟨h.1,h.2.1,hk⟩
  ·exact h.elim
 case idxS m x i=>
  simp only [xop] at h ⊢
  split at h
  ·exact ⟨_,h.2.2.2,fun K' hk=>⟨h.1,h.2.1,h.2.2.1,hk⟩,fun b K' hk=>⟨h.1,h.2.1,h.2.2.1,hk⟩⟩
  ·exact ⟨_,h.2.2.2,fun K' hk=>⟨h.1,h.2.1,h.2.2.1,hk⟩,fun b K' hk=>⟨z5l h.1,h.2.1,h.2.2.1,hk⟩⟩
  ·exact h.elim
 case slice m x lo hi=>
  simp only [xop] at h ⊢
  split at h
  ·obtain ⟨h0,h⟩:=h
   obtain ⟨l,h,h1⟩:=ZM h
   obtain ⟨hh,h,h2⟩:=ZM h
   exact ⟨_,h.2.2,fun K' hk=>⟨h0,h1 _ (h2 _ ⟨h.1,h.2.1,hk⟩)⟩,fun b K' hk=>⟨h0,h1 _ (h2 _ ⟨h.1,h.2.1,hk⟩)⟩⟩
  ·obtain ⟨h0,h⟩:=h
   obtain ⟨l,h,h1⟩:=ZM h
   obtain ⟨hh,h,h2⟩:=ZM h
   exact ⟨_,h.2.2,fun K' hk=>⟨h0,h1 _ (h2 _ ⟨h.1,h.2.1,hk⟩)⟩,fun b K' hk=>⟨z5l h0,h1 _ (h2 _ ⟨h.1,h.2.1,hk⟩)⟩⟩
  ·obtain ⟨l,h,h1⟩:=ZM h
   obtain ⟨hh,h,h2⟩:=ZM h
   exact ⟨_,h.2.2,fun K' hk=>h1 _ (h2 _ ⟨h.1,h.2.1,hk⟩),fun b K' hk=>h1 _ (h2 _ ⟨h.1,h.2.1,hk⟩)⟩
  ·obtain ⟨l,h,h1⟩:=ZM h
   obtain ⟨hh,h,h2⟩:=ZM h
   exact ⟨_,h.2.2,fun K' hk=>h1 _ (h2 _ ⟨h.1,h.2.1,hk⟩),fun b K' hk=>h1 _ (h2 _ ⟨h.1,h.2.1,hk⟩)⟩
  ·exact h.elim
 case pcall f as=>
  simp only [xop] at h ⊢
  split at h
  ·rcases h with ⟨fz,args',r,h1,h2,h0,h3,h4⟩ | ⟨r,h1,h2,h4⟩
   ·exact ⟨r,h4,fun K' hk=>.inl ⟨fz,args',r,h1,h2,h0,h3,hk⟩,fun b K' hk=>.inl ⟨fz,args',r,yY (fun x y=>vF (fun s k hs=>yM hs) fuel _ x y) h1,h2,h0,h3,hk⟩⟩
   ·refine ⟨r,h4,fun K' hk=>.inr ⟨r,h1,h2,hk⟩,fun b K' hk=>.inr ⟨r,?_,fun L' ha=>h2 L' fun i hi=>?_,hk⟩⟩
    ·have hnn:conv (L++[b]) fuel zV=conv L fuel zV:=by funext y;exact wK fuel y _ _
     rw [hnn];exact h1
    ·rw [ha i (by rw [lla];omega),List.getElem?_append_left hi]
  ·exact h.elim
 case ex k xs=>
  obtain ⟨r,h1,h2,h3⟩:=zeB (by simpa [XO.kd] using hk) h
  exact ⟨r,h1,fun K' hk'=>h2 _ K' hk',fun b K' hk'=>h3 _ b K' hk'⟩
theorem z88 {o:XO} (hk:o.kd=2) (h:xop E o e L K):∃r b,K r (L++[b])/\∀K':IV->List Blk->Prop,K' r (L++[b])->xop E o e L K':=by
 cases o<;>simp only [XO.kd] at hk<;>try (exact absurd hk (by decide))
 case isNil=>split at hk<;>exact absurd hk (by decide)
 case alloc z=>exact ⟨_,_,h,fun K' hk=>hk⟩
 case box x=>exact ⟨_,_,h,fun K' hk=>hk⟩
 case ex k xs=>
  cases k<;>first | (simp [XX.kd] at hk;done) | skip
  simp only [xop,xex] at h ⊢
  split at h
  ·rename_i s hs
   rw [Zb] at h
   refine ⟨_,_,h.2,fun K' hk=>⟨h.1,?_⟩⟩
   rw [Zb];exact hk
  ·exact h.elim
theorem zdp {o:XO} (hk:o.kd=3) (h:xop E o e L K):∃r L',K r L'/\∀K':IV->List Blk->Prop,K' r L'->xop E o e L K':=by
 cases o<;>simp only [XO.kd] at hk<;>try (exact absurd hk (by decide))
 case isNil=>split at hk<;>exact absurd hk (by decide)
 case store n x y=>
  simp only [xop] at h ⊢
  split at h
  ·split at h
   ·exact ⟨_,_,h.2.2.2.2,fun K' hk=>⟨h.1,h.2.1,h.2.2.1,h.2.2.2.1,hk⟩⟩
   ·exact ⟨_,_,h.2.2.2.2,fun K' hk=>⟨h.1,h.2.1,h.2.2.1,h.2.2.2.1,hk⟩⟩
   ·exact h.elim
  ·exact h.elim
 case ex k xs=>
  cases k<;>first | (simp [XX.kd] at hk;done) | skip
  case ustr ty=>
   simp only [xop,xex] at h ⊢
   split at h
   ·exact ⟨_,_,h.2,fun K' hk=>⟨h.1,hk⟩⟩
   ·unfold xusU at h ⊢
    obtain ⟨h1,h2,h⟩:=h
    split at h
    ·obtain ⟨h3,h4,h5,h6,h7,h⟩:=h
     split at h
     ·rename_i hbs
      refine ⟨_,_,h,fun K' hk=>⟨h1,h2,?_⟩⟩
      simp only [*]
      exact ⟨trivial,trivial,trivial,by simpa [h5] using h6,by simpa [h5] using h7,trivial⟩
     ·exact h.elim
    ·exact h.elim
   ·exact h.elim
theorem z8g {o:XO} (hk:o.kd<4) (h:xop E o e L K):∃r L',K r L'/\∀K':IV->List Blk->Prop,K' r L'->xop E o e L K':=by
 have h4:o.kd=0\/o.kd=1\/o.kd=2\/o.kd=3:=by omega
 rcases h4 with h0 | h0 | h0 | h0
 ·obtain ⟨r,h1,h2⟩:=z5H h0 h;exact ⟨r,L,h1,fun K' hk=>h2 L K' hk⟩
 ·obtain ⟨r,h1,h2,_⟩:=z8x h0 h;exact ⟨r,L,h1,h2⟩
 ·obtain ⟨r,b,h1,h2⟩:=z88 h0 h;exact ⟨r,_,h1,h2⟩
 ·exact zdp h0 h
theorem XT.mono {f:FuncId} {args:List IV} {L:List Blk} {R R':IV->List Blk->Prop} (h:XT E f args L R) (hr:∀r L',R r L'->R' r L'):XT E f args L R':=
 ⟨h.1,fun w φ X vs wf sim hG hl hv=>(h.2 w φ X vs wf sim hG hl hv).mono fun e w' ⟨r,L',φ',v,h1,h2⟩=>⟨r,L',φ',v,hr _ _ h1,h2⟩⟩
theorem XTP.mono {f:FuncId} {args:List IV} {L:List Blk} {R R' Q Q':IV->List Blk->Prop} (h:XTP E f args L R Q) (hr:∀r L',R r L'->R' r L') (hq:∀r L',Q r L'->Q' r L'):XTP E f args L R' Q':=
 ⟨h.1,fun w φ X vs wf sim hG hl hv=>(h.2 w φ X vs wf sim hG hl hv).mono fun e w' ⟨r,L',φ',v,h1,h2,h3,h4,h5⟩=>⟨r,L',φ',v,h1,h2,h3,h4,h5.imp (fun h=>⟨hr _ _ h.1,h.2⟩) (fun h=>⟨hq _ _ h.1,h.2⟩)⟩⟩
theorem zq {f:FuncId} {args args':List IV} {L:List Blk} {K:IV->List Blk->Prop} {r:IV} (hc:mapO (conv L fuel zV) args=some args') (h:zI E f args' r) (hr:conv [] fuel (ZB L.length) r=some r)
  (hk:K r L):YW E f args L K:=
 .inl ⟨false,args',hc,h.mono fun r' L1 ⟨h1,h2⟩=>by
  subst h1;subst h2
  exact ⟨by simp,r',[],hr,rfl,by simpa using hk⟩⟩
theorem z4E {o:XO} (h:xop E o.toP e L K):xop E o e L K:=by
 cases o<;>simp only [XO.toP] at h<;>try exact h
 simp only [xop] at h ⊢
 split at h
 ·rename_i heq
  simp only [heq]
  rcases h with ⟨fz,args',r,h1,h2,h0,h3,h4⟩ | ⟨r,h1,h2,h4⟩
  ·cases fz
   ·exact zq h1 h2 (h3 _) h4
   ·exact .inl ⟨true,args',h1,h2.mono fun r' L1 ⟨h5,h6⟩=>by
     subst h5;subst h6
     exact ⟨fun _=>⟨h0 rfl,rfl⟩,_,[],h3 _,rfl,by simpa using h4⟩⟩
  ·refine .inr (.inr (.inr (.inl ⟨(h2 L fun _ _=>rfl).1,fun w φ X vs wf sim hG hl hv=>((h2 L fun _ _=>rfl).2 w φ X vs wf sim hG hl hv).mono fun e w' ⟨r',L',φ',v,⟨h5,h6⟩,h7,h8,h9,h10,h11⟩=>?_⟩)))
   subst h5;subst h6
   exact ⟨_,_,φ',v,h8,h9,h10,h11,.inl ⟨h4,h7⟩⟩
 ·exact h.elim
end
end Go.X
end
section
namespace Go.X
open Go
section
variable {E:Env}
theorem z6x {f:FuncId} {args:List IV} {L:List Blk} {K K':IV->List Blk->Prop} (hk:∀v L',K v L'->K' v L') (h:YW E f args L K):YW E f args L K':=by
 rcases h with ⟨b,args',h1,h2⟩ | ⟨r,h1,h2⟩ | ⟨sel,dl,b,args',L0,h1,h2,h3,h4,h5,h6⟩ | h1 | h1
 case inr.inr.inr.inl=>exact .inr (.inr (.inr (.inl (h1.mono (fun r L1 h=>hk _ _ h) fun _ _ h=>h))))
 case inr.inr.inr.inr=>exact .inr (.inr (.inr (.inr fun w φ X vs wf sim hG hl hv=>by
  obtain ⟨r,L',φ',v,w',h2,h3,h4⟩:=h1 w φ X vs wf sim hG hl hv
  exact ⟨r,L',φ',v,w',h2,hk _ _ h3,h4⟩)))
 case inr.inl=>exact .inr (.inl ⟨r,h1,hk _ _ h2⟩)
 case inr.inr.inl=>exact .inr (.inr (.inl ⟨sel,dl,b,args',L0,h1,h2,h3,h4,h5,h6.mono (fun r L1 ⟨h7,r',L1',h8,h9,h10⟩=>⟨h7,r',L1',h8,h9,hk _ _ h10⟩) fun _ _ h=>h⟩))
 exact .inl ⟨b,args',h1,h2.mono fun r L1 ⟨h3,r',L1',h4,h5,h6⟩=>⟨h3,r',L1',h4,h5,hk _ _ h6⟩⟩
theorem z9n {op:BinOp} {x y:IV} {K K':IV->Prop} (hk:∀v,K v->K' v) (h:xbin op x y K):xbin op x y K':=by
 unfold xbin at *
 split at h
 all_goals first | exact ⟨h.1,hk _ h.2⟩ | exact ⟨h.1,h.2.1,hk _ h.2.2⟩ | exact h.imp fun _ h=>⟨h.1,hk _ h.2⟩ | exact hk _ h | exact h.elim
theorem zaR {op:UnOp} {x:IV} {K K':IV->Prop} (hk:∀v,K v->K' v) (h:xun op x K):xun op x K':=by
 unfold xun at *
 split at h
 all_goals first | exact h.imp fun _ h=>⟨h.1,hk _ h.2⟩ | exact hk _ h | exact h.elim
theorem Wq {x:Option IV} {d:Nat} {K K':Nat->Prop} (hk:∀v,K v->K' v) (h:bnd x d K):bnd x d K':=by
 unfold bnd at *
 split at h
 all_goals first | exact hk _ h | exact ⟨h.1,hk _ h.2⟩ | exact h.elim
theorem z2I {sz by_:Nat} {s x:IV} {L:List Blk} {K K':IV->List Blk->Prop} (hk:∀v L',K v L'->K' v L') (h:ZA sz by_ s x L K):ZA sz by_ s x L K':=by
 unfold ZA at *
 split
 ·simp_all
 ·rename_i rs hrs
  rw [hrs] at h
  refine ⟨h.1,?_⟩
  have h2:=h.2
  split
  ·exact ⟨fun h=>hk _ _ (h2.1 h),fun h=>⟨(h2.2 h).1,hk _ _ (h2.2 h).2⟩⟩
  ·exact ⟨fun h=>hk _ _ (h2.1 h),fun h=>⟨(h2.2 h).1,hk _ _ (h2.2 h).2⟩⟩
  ·rename_i t off len cap
   simp only at h2
   split
   ·rename_i sz' rows hL
    simp only [hL] at h2
    obtain ⟨h3,h4,h5⟩:=h2
    refine ⟨h3,h4,?_⟩
    split
    ·rename_i hle;rw [if_pos hle] at h5;exact hk _ _ h5
    ·rename_i hle;rw [if_neg hle] at h5;exact ⟨h5.1,hk _ _ h5.2⟩
   ·rename_i hL
    split at h2
    ·rename_i sz' rows hL';exact absurd hL' (hL _ _)
    ·exact h2
  ·split at h2
   ·rename_i h3 _ _;exact absurd rfl h3
   ·rename_i h3 _;exact absurd rfl (by assumption)
   ·rename_i t off len cap h3 h4 h5;exact absurd rfl (h5 _ _ _ _)
   ·exact h2
theorem z1i {sz by_ g:Nat} {lay:List Blk->Blk->List Blk} {s x:IV} {L:List Blk} {K K':IV->List Blk->Prop} (hk:∀v L',K v L'->K' v L') (h:ZQ sz by_ s x g lay L K):ZQ sz by_ s x g lay L K':=by
 unfold ZQ at *
 split
 ·simp_all
 ·rename_i rs hrs
  rw [hrs] at h
  refine ⟨h.1,?_⟩
  have h2:=h.2
  split
  ·exact ⟨fun h=>hk _ _ (h2.1 h),fun h=>⟨(h2.2 h).1,hk _ _ (h2.2 h).2⟩⟩
  ·exact ⟨fun h=>hk _ _ (h2.1 h),fun h=>⟨(h2.2 h).1,hk _ _ (h2.2 h).2⟩⟩
  ·rename_i t off len cap
   simp only at h2
   split
   ·rename_i sz' rows hL
    simp only [hL] at h2
    obtain ⟨h3,h4,h5⟩:=h2
    refine ⟨h3,h4,?_⟩
    split
    ·rename_i hle;rw [if_pos hle] at h5;exact hk _ _ h5
    ·rename_i hle;rw [if_neg hle] at h5;exact ⟨h5.1,hk _ _ h5.2⟩
   ·rename_i hL
    split at h2
    ·rename_i sz' rows hL';exact absurd hL' (hL _ _)
    ·exact h2
  ·split at h2
   ·rename_i h3 _ _;exact absurd rfl h3
   ·rename_i h3 _;exact absurd rfl (by assumption)
   ·rename_i t off len cap h3 h4 h5;exact absurd rfl (h5 _ _ _ _)
   ·exact h2
theorem z6N {ty bytes g:Nat} {s x:IV} {L:List Blk} {K K':IV->List Blk->Prop} (hk:∀v L',K v L'->K' v L') (h:Y1 ty bytes s x g L K):Y1 ty bytes s x g L K':=by
 unfold Y1 at *
 split at h<;>try exact h.elim
 refine ⟨h.1,?_⟩
 have h2:=h.2
 clear h
 split at h2
 ·exact ⟨fun h0=>hk _ _ (h2.1 h0),fun h0=>⟨(h2.2 h0).1,hk _ _ (h2.2 h0).2⟩⟩
 ·exact ⟨fun h0=>hk _ _ (h2.1 h0),fun h0=>⟨(h2.2 h0).1,hk _ _ (h2.2 h0).2⟩⟩
 ·refine ⟨h2.1,h2.2.1,?_⟩
  have h3:=h2.2.2
  clear h2
  split at h3<;>try exact h3.elim
  ·exact ⟨h3.1,h3.2.1,h3.2.2.1,fun h0=>hk _ _ (h3.2.2.2.1 h0),fun h0=>⟨(h3.2.2.2.2 h0).1,hk _ _ (h3.2.2.2.2 h0).2⟩⟩
  ·exact z1i hk h3
 ·exact h2.elim
theorem Wx {st:Bool} {m k:IV} {L:List Blk} {F F':Nat->List (IV × IV × Nat)->Nat->Option Nat->Prop} (hf:∀s es c r,F s es c r->F' s es c r) (h:Yx st m k L F):Yx st m k L F':=by
 unfold Yx at *
 split at h
 ·refine ⟨h.1,?_⟩
  have h:=h.2
  split at h
  ·split at h
   ·exact hf _ _ _ _ h
   ·exact h.elim
  ·exact h.elim
 ·exact h.elim
theorem zaI {k:XX} {vs:List IV} {g:Nat} {L:List Blk} {K K':IV->List Blk->Prop} (hk:∀v L',K v L'->K' v L') (h:xex E k vs g L K):xex E k vs g L K':=by
 have hU:∀{ty s r o:Nat} {n:Int},xusU ty s r o n L K->xusU ty s r o n L K':=fun h=>by
  refine ⟨h.1,h.2.1,?_⟩
  have h2:=h.2.2
  clear h
  split at h2<;>try exact h2.elim
  refine ⟨h2.1,h2.2.1,h2.2.2.1,h2.2.2.2.1,h2.2.2.2.2.1,?_⟩
  have h3:=h2.2.2.2.2.2
  clear h2
  split at h3<;>try exact h3.elim
  exact hk _ _ h3
 have hP:∀{ty n s r o:Nat},z4C ty n s r o L K->z4C ty n s r o L K':=fun h=>by
  refine ⟨h.1,h.2.1,?_⟩
  have h2:=h.2.2
  clear h
  split at h2<;>try exact h2.elim
  exact ⟨h2.1,h2.2.1,h2.2.2.1,hk _ _ h2.2.2.2⟩
 cases k<;>simp only [xex] at *<;>try exact h
 case allocT=>exact hk _ _ h
 case mkif=>split at h<;>first | exact h.elim | exact hk _ _ h
 case ru=>split at h<;>first | exact h.imp (fun _ h=>⟨h.1,hk _ _ h.2⟩) | exact h.elim
 case itof=>split at h<;>first | exact h.elim | exact hk _ _ h
 case cpx=>split at h<;>first | exact h.elim | exact ⟨h.1,hk _ _ h.2⟩
 case mmake=>exact hk _ _ h
 case mlook=>
  split at h
  ·exact ⟨h.1,hk _ _ h.2⟩
  ·exact Wx (fun s es c r h=>by cases r<;>exact hk _ _ h) h
  ·exact h.elim
 case mset=>split at h<;>first | exact h.elim | exact Wx (fun s es c r h=>by cases r<;>exact hk _ _ h) h
 case mdel=>split at h<;>first | exact h.elim | exact Wx (fun s es c r h=>by cases r<;>exact hk _ _ h) h
 case ment=>split at h<;>first | exact h.elim | exact Wx (fun s es c r h=>by cases r<;>exact hk _ _ h) h
 case msto=>
  split at h
  ·unfold zc7 at *
   split at h
   ·split at h
    ·exact hk _ _ h
    ·exact h.elim
   ·exact h.elim
  ·exact h.elim
 case copy=>
  split at h
  ·unfold z0u at *
   split at h
   ·split at h
    ·obtain ⟨h1,h2,h3,h4⟩:=h
     refine ⟨h1,h2,fun h0=>hk _ _ (h3 h0),fun h0=>?_⟩
     have h4:=h4 h0
     split at h4
     ·exact ⟨h4.1,h4.2.1,hk _ _ h4.2.2⟩
     ·exact ⟨h4.1,h4.2.1,hk _ _ h4.2.2⟩
     ·exact h4.elim
    ·exact h.elim
   ·exact h.elim
  ·exact h.elim
 case sla=>
  split at h
  ·split at h
   ·exact ⟨h.1,h.2.1,h.2.2.1,h.2.2.2.1,h.2.2.2.2.1,hk _ _ h.2.2.2.2.2⟩
   ·exact h.elim
  ·exact h.elim
 case sl3=>split at h<;>first | exact h.elim | exact ⟨h.1,h.2.1,h.2.2.1,h.2.2.2.1,h.2.2.2.2.1,hk _ _ h.2.2.2.2.2⟩
 case mrng=>
  split at h
  ·split at h
   ·exact hk _ _ h
   ·exact h.elim
  ·exact h.elim
 case mnxt=>
  split at h
  ·split at h
   ·split at h
    ·exact hk _ _ h
    ·exact h.elim
   ·exact h.elim
  ·exact h.elim
 case slId=>
  split at h
  ·refine ⟨h.1,?_⟩
   have h2:=h.2
   split at h2
   ·exact hk _ _ h2
   ·exact h2.elim
  ·exact h.elim
 case strB=>split at h<;>first | exact h.elim | exact ⟨h.1,hk _ _ h.2⟩
 case appT=>split at h<;>first | exact h.elim | exact z6N hk h
 case sdata=>
  split at h
  ·exact hk _ _ h
  ·exact hk _ _ h
  ·exact ⟨h.1,hk _ _ h.2⟩
  ·exact h.elim
 case ustr=>
  split at h
  ·exact ⟨h.1,hk _ _ h.2⟩
  ·exact hU h
  ·exact h.elim
 case toU=>split at h<;>first | exact h.elim | exact hP h
 case ofU=>split at h<;>first | exact h.elim | exact hP h
 case tas=>
  split at h
  ·split at h
   ·rename_i ht;rw [if_pos ht];exact hk _ _ h
   ·exact h.elim
  ·exact h.elim
 all_goals
  split at h<;>try exact h.elim
  split at h<;>try exact h.elim
  exact hk _ _ h
theorem yz {o : XO} {e : Opd -> IV} {L : List Blk} {K K' : IV -> List Blk -> Prop} (hk : ∀ v L', K v L' -> K' v L') (h : xop E o e L K) : xop E o e L K' := by
  cases o with
  | bin op x y => exact z9n (fun v hv => hk v L hv) h
  | un op x => exact zaR (fun v hv => hk v L hv) h
  | append sz by_ s x => exact z2I hk h
  | fld off n agg x =>
    simp only [xop] at *
    cases hx : e x <;> simp only [hx] at h ⊢ <;> first | exact h.elim | skip
    refine ⟨h.1, ?_⟩
    have h2 := h.2
    split
    · rename_i hg; rw [if_pos hg] at h2; exact hk _ _ h2
    · rename_i hg; rw [if_neg hg] at h2; exact ⟨h2.1, hk _ _ h2.2⟩
  | store n a x =>
    simp only [xop] at *
    cases hx : e a <;> simp only [hx] at h ⊢ <;> first | exact h.elim | skip
    split at h
    · exact ⟨h.1, h.2.1, h.2.2.1, h.2.2.2.1, hk _ _ h.2.2.2.2⟩
    · exact ⟨h.1, h.2.1, h.2.2.1, h.2.2.2.1, hk _ _ h.2.2.2.2⟩
    · exact h.elim
  | ex k xs => exact zaI hk h
  | slice m x lo hi =>
    simp only [xop] at *
    cases hx : e x <;> simp only [hx] at h ⊢ <;>
      first
        | exact h.elim
        | exact ⟨h.1, Wq (fun l => Wq fun _ h => ⟨h.1, h.2.1, hk _ _ h.2.2⟩) h.2⟩
        | exact Wq (fun l => Wq fun _ h => ⟨h.1, h.2.1, hk _ _ h.2.2⟩) h
  | sliceS x lo hi =>
    simp only [xop] at *
    cases hx : e x <;> simp only [hx] at h ⊢ <;>
      first
        | exact h.elim
        | exact Wq (fun l => Wq fun _ h => ⟨h.1, h.2.1, hk _ _ h.2.2⟩) h
  | call f as =>
    simp only [xop] at *
    split at h
    · exact z6x hk h
    · exact E.hylm _ _ _ _ _ hk h
    · exact h.elim
  | pcall f as =>
    simp only [xop] at *
    split at h
    · rename_i hf
      rcases h with ⟨fz, args', r, h1, h2, h0, h3, h4⟩ | ⟨r, h1, h2, h4⟩
      · exact .inl ⟨fz, args', r, h1, h2, h0, h3, hk _ _ h4⟩
      · exact .inr ⟨r, h1, h2, hk _ _ h4⟩
    · exact h.elim
  | isNil k neg x =>
    simp only [xop] at *
    unfold xnil at *
    split at h <;> first
      | exact hk _ _ h
      | exact ⟨hk _ _ h.1, hk _ _ h.2⟩
      | exact ⟨hk _ _ h.1, fun hr => hk _ _ (h.2 hr)⟩
      | exact h.elim
  | nxt t =>
    simp only [xop] at *
    split at h
    · split at h
      · split at h
        · rename_i h1 _ _ _ h2 h3; simp only [h3, if_true]; exact hk _ _ h
        · rename_i h1 _ _ _ h2 h3; simp only [h3, if_false]; exact hk _ _ h
      · exact h.elim
    · exact h.elim
  | _ =>
    simp only [xop] at *
    first
      | exact hk _ _ h
      | (split at h <;>
          first
            | exact hk _ _ h
            | exact ⟨h.1, hk _ _ h.2⟩
            | exact ⟨h.1, h.2.1, hk _ _ h.2.2⟩
            | exact ⟨h.1, h.2.1, h.2.2.1, hk _ _ h.2.2.2⟩
            | exact ⟨h.1, h.2.1, h.2.2.1, h.2.2.2.1, hk _ _ h.2.2.2.2⟩
            | exact h.elim)
      | (refine ⟨h.1, ?_⟩
         have h2 := h.2
         clear h
         split at h2 <;> first | exact hk _ _ h2 | exact h2.elim)

end
end Go.X
end
