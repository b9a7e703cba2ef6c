/- Parts of the proof: XOps7, XKind, XMono. -/
import Derived.Test.YtjliemjcailckaaGreatDoorXP2
import Derived.Lib.Strings
set_option linter.unusedVariables false
set_option linter.unusedSimpArgs false
set_option linter.unusedSectionVars false
section
namespace Go.X
open Go
section
variable {E:Env} {C:Ctx} {a:Act} {e:Opd->IV} {o:Oper} {K:IV->List Blk->Prop}
theorem z1h (V:Sim C) (S:Zr C a e) {t T:TypeId} {x i:Operand} {I G:Opd} {m n:Nat} (Q:o.op=.indexAddr t x i) (ht:E.P.underlying t=some (.array m T)) (Y:zI E.P T=some n)
  (U:opd x=some I) (hi:opd i=some G) (h:xop E (.idxA m n I G) e C.L K):zN E C a o K:=by
 have l:=S x I U
 have u:=S i G hi
 generalize O:a.eval x=xv at l
 generalize J:a.eval i=iv at u
 simp only [xop] at h
 generalize e I=ex at *
 generalize e G=ei at *
 have d:∀(b k:Nat) (q:IntKind) (j:Int),xv=.pointer (some ⟨b,k,none⟩)->iv=.int q j->0<=j->j<m->
   (Instr.indexAt t (a.eval x) (a.eval i)).run E.P C.w=.ok (.pointer (some ⟨b,k+j.toNat*n,none⟩)) C.w:=by
  rintro b k q j rfl rfl A B
  rw [O,J]
  unfold Instr.indexAt
  simp only [asIntOf,Sem.run_bind,Sem.run_pure,Result.andThen_ok,zC ht,Instr.sureAddr,VH]
  rw [if_pos ⟨A,B⟩]
  simp only [Sem.run_bind,Sem.run_pure,Result.andThen_ok,zx Y]
 split at h
 ·rename_i s r off q j
  obtain ⟨A,B,h⟩:=h
  cases u
  cases l with
  | ptr _ _ _ hs=>
   refine zh (by unfold execOp;rw [Q]) (d _ _ q j rfl rfl A B) (zZ ?_ h)
   rw [Nat.add_assoc];exact .ptr _ _ _ hs
 ·rename_i rows r off q j
  obtain ⟨A,B,h⟩:=h
  cases u
  cases l with
  | iptr _ _ _ b base sz vals hsz M Z D ha X=>
   refine zh (by unfold execOp;rw [Q]) (d _ _ q j rfl rfl A B) (zZ ?_ h)
   rw [Nat.add_assoc];exact .iptr _ _ _ b base sz vals hsz M Z D ha X
 ·rename_i b k q j
  obtain ⟨A,B,h⟩:=h
  cases u
  cases l
  exact zh (by unfold execOp;rw [Q]) (d b k q j rfl rfl A B) (zZ (.raw _ rfl) h)
 ·exact h.elim
theorem z3h (G:Sim C) (B:Zr C a e) {t:TypeId} {x i:Operand} {r m:Opd} (I:o.op=.index t x i) (M:E.P.underlying t=some .string)
  (D:opd x=some r) (hi:opd i=some m) (h:xop E (.idx r m) e C.L K):zN E C a o K:=by
 have b:=B x r D
 have l:=B i m hi
 generalize A:a.eval x=xv at b
 generalize u:a.eval i=iv at l
 simp only [xop] at h
 generalize e r=ex at *
 generalize e m=ei at *
 split at h
 ·rename_i s q j
  obtain ⟨J,O,h⟩:=h
  cases l
  cases b
  refine zh (s:=Instr.index t (a.eval x) (a.eval i)) (by unfold execOp;rw [I]) (v:=.int .u8 (s.getD j.toNat 0).toNat) (w':=C.w) ?_ (zZ (.int _ _) h)
  rw [A,u]
  unfold Instr.index
  simp only [asIntOf,Sem.run_bind,Sem.run_pure,Result.andThen_ok,zC M]
  rw [if_pos J]
  have d:j.toNat<s.length:=by omega
  have:(⟨s.toArray⟩:ByteArray)[j.toNat]?=some (s.getD j.toNat 0):=by
   have hsz:j.toNat<(⟨s.toArray⟩:ByteArray).size:=by simpa [ByteArray.size] using d
   rw [getElem?_pos (⟨s.toArray⟩:ByteArray) j.toNat hsz]
   congr 1
   simp only [List.getD,List.getElem?_eq_getElem d]
   rfl
  rw [this]
  rfl
 ·exact h.elim
theorem z6E {x:Option Operand} {q:Option Opd} (h:Jk x=some q):(x=none/\q=none)\/∃p r,x=some p/\q=some r/\opd p=some r:=by
 cases x with
 | none=>simp only [Jk,sij] at h;exact .inl ⟨rfl,h.symm⟩
 | some p=>simp only [Jk,oms] at h;obtain ⟨r,b,rfl⟩:=h;exact .inr ⟨p,r,rfl,rfl,b⟩
theorem yT (s:Zr C a e) {x:Option Operand} {q:Option Opd} (u:Jk x=some q) {d:Nat} {Q:Nat->Prop} (h:bnd (q.map e) d Q) :
  ∃n,Q n/\((x=none/\n=d)\/∃p,x=some p/\∃k,a.eval p=.int k n):=by
 rcases z6E u with ⟨rfl,rfl⟩ | ⟨p,r,rfl,rfl,j⟩
 ·exact ⟨d,h,.inl ⟨rfl,rfl⟩⟩
 ·have l:=s p r j
  simp only [Option.map_some,bnd] at h
  split at h
  ·rename_i b;cases b
  ·rename_i k n b
   simp only [sij] at b
   rw [b] at l
   generalize m:a.eval p=pv at l
   cases l
   refine ⟨n.toNat,h.2,.inr ⟨p,rfl,k,?_⟩⟩
   rw [m];congr 1;omega
  ·exact h.elim
theorem YD {P:Program} {w:World} {h:Bool} {len cap l hh:Nat} {lo hi:Option Value} (b:(lo=none/\l=0)\/∃k,lo=some (.int k l)) (d:(hi=none/\hh=len)\/∃k,hi=some (.int k hh))
  (q:l<=hh) (j:hh<=cap) (_h3:len<=cap):(Instr.sliceBounds h len cap lo hi none).run P w=.ok (l,hh,cap) w:=by
 have m:∀(n y:Nat) (k:IntKind) (c:BoundsCode),n<=y->(Instr.sliceBound (.int k n) y c).run P w=.ok n w:=fun n y k c r=>by
  unfold Instr.sliceBound
  simp only [asIntOf,Sem.run_bind,Sem.run_pure,Result.andThen_ok]
  rw [if_pos ⟨od,od⟩]
  simp
 unfold Instr.sliceBounds
 rcases b with ⟨rfl,rfl⟩ | ⟨k,rfl⟩<;>rcases d with ⟨rfl,rfl⟩ | ⟨s,rfl⟩<;>simp [m,q,j]
theorem wo (J:Sim C) (m:Zr C a e) {t:TypeId} {x:Operand} {lo hi:Option Operand} {A:Opd} {d j:Option Opd} (O:o.op=.slice t x lo hi none) (G:E.P.underlying t=some .string)
  (I:opd x=some A) (Q:Jk lo=some d) (hh:Jk hi=some j) {s:List UInt8} (hs:e A=.str s)
  (h:bnd (d.map e) 0 fun l=>bnd (j.map e) s.length fun h=>l<=h/\h<=s.length/\K (.str ((s.take h).drop l)) C.L):zN E C a o K:=by
 have b:=m x A I
 rw [hs] at b
 generalize r:a.eval x=xv at b
 cases b
 obtain ⟨l,h,q⟩:=yT m Q h
 obtain ⟨D,⟨T,M,S⟩,u⟩:=yT m hh h
 refine zh (s:=Instr.sliceAt t (a.eval x) (lo.map a.eval) (hi.map a.eval) none) (by unfold execOp;rw [O];rfl) (v:=.string ⟨((s.take D).drop l).toArray⟩) (w':=C.w) ?_ (zZ (.str _) S)
 rw [r]
 unfold Instr.sliceAt
 rw [Sem.run_bind,zC G]
 simp only [Result.andThen_ok]
 unfold Instr.slice
 rw [Sem.run_bind,zC G]
 simp only [Result.andThen_ok,Option.isSome_none,Bool.false_eq_true,if_false]
 rw [Sem.run_bind,YD (l:=l) (hh:=D)]
 ·simp only [Result.andThen_ok,Sem.run_pure]
  congr 2
  show (⟨_⟩:ByteArray)=_
  congr 1
  apply Array.ext'
  simp
  rw [List.drop_take]
 ·rcases q with ⟨rfl,rfl⟩ | ⟨p,rfl,k,B⟩
  ·exact .inl ⟨rfl,rfl⟩
  ·exact .inr ⟨k,by rw [<-B];rfl⟩
 ·rcases u with ⟨rfl,rfl⟩ | ⟨p,rfl,k,B⟩
  ·exact .inl ⟨rfl,by simp [ByteArray.size]⟩
  ·exact .inr ⟨k,by rw [<-B];rfl⟩
 ·exact T
 ·simpa [ByteArray.size] using M
 ·exact Nat.le_refl _
theorem VN {P:Program} {w:World} {t m:TypeId} {n l d len cap:Nat} {b:Option Addr} {lo hi:Option Value} (q:P.underlying t=some (.slice m)) (u:zI P m=some n)
  (h:(lo=none/\l=0)\/∃k,lo=some (.int k l)) (j:(hi=none/\d=len)\/∃k,hi=some (.int k d)) (A:l<=d) (r:d<=cap) (s:len<=cap) :
  (Instr.sliceAt t (.slice b len cap) lo hi none).run P w=.ok (.slice (if cap=l then b else b.map (·.add (l*n))) (d - l) (cap - l)) w:=by
 unfold Instr.sliceAt
 rw [Sem.run_bind,zC q]
 simp only [Result.andThen_ok]
 unfold Instr.slice
 rw [Sem.run_bind,zC q]
 simp only [Result.andThen_ok]
 rw [Sem.run_bind,YD h j A r s]
 simp only [Result.andThen_ok]
 rw [Sem.run_bind,zx u]
 rfl
theorem Jh (Z:Sim C) (I:Zr C a e) {t el:TypeId} {x:Operand} {lo hi:Option Operand} {x':Opd} {U T:Option Opd} {n:Nat} (ho:o.op=.slice t x lo hi none) (ht:E.P.underlying t=some (.slice el))
  (hn:zI E.P el=some n) (hx:opd x=some x') (X:Jk lo=some U) (hh:Jk hi=some T) (h:xop E (.slice n x' U T) e C.L K):zN E C a o K:=by
 have m:=I x x' hx
 simp only [xop] at h
 generalize af:a.eval x=xv at m
 have A:∀(b:Option Addr) (len cap l B:Nat),xv=.slice b len cap->((lo=none/\l=0)\/∃p,lo=some p/\∃k,a.eval p=.int k l)->((hi=none/\B=len)\/∃p,hi=some p/\∃k,a.eval p=.int k B)->
   l<=B->B<=cap->len<=cap->∀r,VR C r (.slice (if cap=l then b else b.map (·.add (l*n))) (B - l) (cap - l))->K r C.L->zN E C a o K:=by
  rintro b len cap l B rfl q u V h2 h3 r hr J
  refine zh (s:=Instr.sliceAt t (a.eval x) (lo.map a.eval) (hi.map a.eval) none) (by unfold execOp;rw [ho];rfl) (w':=C.w) ?_ (zZ hr J)
  rw [af]
  refine VN ht hn ?_ ?_ V h2 h3
  ·rcases q with ⟨rfl,rfl⟩ | ⟨p,rfl,k,hk⟩
   ·exact .inl ⟨rfl,rfl⟩
   ·exact .inr ⟨k,by rw [<-hk];rfl⟩
  ·rcases u with ⟨rfl,rfl⟩ | ⟨p,rfl,k,hk⟩
   ·exact .inl ⟨rfl,rfl⟩
   ·exact .inr ⟨k,by rw [<-hk];rfl⟩
 split at h
 ·rename_i rows D
  rw [D] at m
  obtain ⟨hr,h⟩:=h
  obtain ⟨l,h,q⟩:=yT I X h
  obtain ⟨B,⟨V,h2,J⟩,u⟩:=yT I hh h
  cases m with
  | isl _ Q cap' sz vals S hsz O ha hv=>
   refine A Q rows.length cap' l B rfl q u V od S _ ?_ J
   have M:((rows.take B).drop l).length=B - l:=by rw [List.length_drop,List.length_take];omega
   have G:∀(i:Nat) (d:List IV),((rows.take B).drop l)[i]?=some d->rows[l+i]?=some d:=fun i d hi=>by
    rw [List.getElem?_drop,List.getElem?_take] at hi
    split at hi
    ·exact hi
    ·cases hi
   rw [<-M]
   refine .isl _ _ _ sz (fun i j=>vals (l+i) j) od (fun i d hi=>hsz _ d (G i d hi)) (fun i d hi=>O _ d (G i d hi)) ?_ (fun i d hi j y hj=>hv _ d (G i d hi) j y hj)
   rcases ha with ha | ⟨b,k,rfl,ae,ag,hc⟩
   ·left;subst ha;simp
   ·by_cases hrs:(rows.take B).drop l=[]
    ·exact .inl hrs
    ·have aj:0<B - l:=by rw [<-M];exact List.length_pos_iff.2 hrs
     have ah:cap'≠l:=by omega
     have ai:sz=n:=by
      have Y:l<rows.length:=by omega
      have:=List.getElem?_eq_getElem Y
      rw [<-hsz _ _ this,hr _ (List.getElem_mem Y)]
     subst ai
     refine .inr ⟨b,k+l*sz,?_,ae,ag,fun i d hi j y hj=>?_⟩
     ·rw [if_neg ah];simp only [Option.map_some,VH]
     ·have:=hc _ d (G i d hi) j y hj
      rw [<-this];congr 2;rw [Nat.add_mul];omega
 ·rename_i s off len cap D
  rw [D] at m
  obtain ⟨hz,h⟩:=h
  obtain ⟨l,h,q⟩:=yT I X h
  obtain ⟨B,⟨V,h2,J⟩,u⟩:=yT I hh h
  cases m with
  | sl _ _ _ _ Q cap' hs ak au ha=>
   refine A Q len cap' l B rfl q u V od od _ ?_ J
   refine .sl s (off+l) (B - l) (cap - l) _ (cap' - l) hs od od ?_ od
   by_cases O:cap'=l
   ·left;omega
   ·right
    obtain ⟨rfl,c,ty,fr,Y,h6⟩:=ha.resolve_left od
    have h7:=z5D Z hz
    rw [h7] at h6 ⊢
    refine ⟨?_,c,ty,fr,Y,?_⟩
    ·rw [if_neg O];simp only [Option.map_some,VH,Nat.add_mul];congr 2;omega
    ·rw [show off+l+(cap' - l)=off+cap' by omega];exact h6
 ·rename_i D
  rw [D] at m
  obtain ⟨l,h,q⟩:=yT I X h
  obtain ⟨B,⟨rfl,rfl,J⟩,u⟩:=yT I hh h
  cases m with
  | esl Q=>exact A Q 0 0 0 0 rfl q u (Nat.le_refl _) (Nat.le_refl _) (Nat.le_refl _) _ (by simpa using VR.esl Q) J
 ·rename_i D
  rw [D] at m
  obtain ⟨l,h,q⟩:=yT I X h
  obtain ⟨B,⟨rfl,rfl,J⟩,u⟩:=yT I hh h
  cases m with
  | nsl=>exact A none 0 0 0 0 rfl q u (Nat.le_refl _) (Nat.le_refl _) (Nat.le_refl _) _ (by simpa using VR.nsl) J
 ·exact h.elim
theorem jk (G:Sim C) (B:Zr C a e) {t u:TypeId} {x:Operand} {l:Opd} {n:Nat} {k r:IntKind} (I:o.op=.slice t x none (some (.const (.int k 0))) (some (.const (.int r 0))))
  (A:E.P.underlying t=some (.slice u)) (J:zI E.P u=some n) (D:opd x=some l) (h:xop E (.slice0 l) e C.L K):zN E C a o K:=by
 have j:=B x l D
 simp only [xop] at h
 generalize q:a.eval x=xv at j
 have d:∀(b:Option Addr) (len cap:Nat),xv=.slice b len cap->K .esl C.L->zN E C a o K:=by
  rintro b len cap rfl M
  refine zh (s:=Instr.sliceAt t (a.eval x) none (some (.int k 0)) (some (.int r 0))) (by unfold execOp;rw [I];rfl) (v:=.slice b 0 0) (w':=C.w) ?_ (zZ (.esl b) M)
  rw [q]
  unfold Instr.sliceAt
  rw [Sem.run_bind,zC A]
  simp only [Result.andThen_ok]
  unfold Instr.slice
  rw [Sem.run_bind,zC A]
  simp only [Result.andThen_ok]
  have m:(Instr.sliceBounds true len cap none (some (.int k 0)) (some (.int r 0))).run E.P C.w=.ok (0,0,0) C.w:=by
   simp [Instr.sliceBounds,Instr.sliceBound,asIntOf]
  rw [Sem.run_bind,m]
  simp only [Result.andThen_ok]
  rw [Sem.run_bind,zx J]
  rfl
 generalize e l=ex at *
 split at h
 ·cases j;exact d _ _ _ rfl h
 ·cases j;exact d _ _ _ rfl h
 ·cases j;exact d _ _ _ rfl h
 ·cases j;exact d _ _ _ rfl h
 ·exact h.elim
theorem z1L (d:Zr C a e) {l:List Operand} {b:List Opd} (h:zF opd l=some b) :
  (b.map e).length=(l.map a.eval).length/\∀(i:Nat) (x:IV),(b.map e)[i]?=some x->VR C x ((l.map a.eval).getD i undef):=by
 refine ⟨by simp [zu h],fun i x hi=>?_⟩
 rw [List.getElem?_map,oms] at hi
 obtain ⟨q,m,rfl⟩:=hi
 obtain ⟨p,r,j⟩:=zq h i q m
 have:(l.map a.eval).getD i undef=a.eval p:=YJ (by rw [List.getElem?_map,r];rfl)
 rw [this];exact d p q j
theorem z1m (B:Sim C) (l:Zr C a e) {f:Fn} {xs j:Array Operand} {d b:List Opd} (q:o.op=.makeFunc f xs j) (A:zF opd xs.toList=some d) (G:zF opd j.toList=some b)
  (h:K (.fn f (d.map e) (b.map e)) C.L):zN E C a o K:=by
 obtain ⟨u,m⟩:=z1L l A
 obtain ⟨D,r⟩:=z1L l G
 refine zh (s:=Instr.makeFunc f (xs.map a.eval) (j.map a.eval)) (by unfold execOp;rw [q]) (v:=.func f (xs.toList.map a.eval).toArray (j.toList.map a.eval).toArray) (w':=C.w) ?_ (zZ (.fn f _ _ _ _ u D m r) h)
 unfold Instr.makeFunc
 rw [Sem.run_pure]
 congr 2<;>(apply Array.ext';simp)
theorem z2L (B:Sim C) (u:Zr C a e) {c:Call} {x:Operand} {m:Opd} {J:TypeId} (G:o.op=.call c) (r:c.callee=.builtin .len) (d:c.args.toList=[x])
  (j:(c.argTypes[0]?).bind E.P.underlying=some (.slice J)) (A:opd x=some m) (h:xop E (.len m) e C.L K):zN E C a o K:=by
 have l:=u x m A
 simp only [xop] at h
 have I:c.args.map a.eval=#[a.eval x]:=by apply Array.ext';simp [d]
 split at h
 ·rename_i n b
  refine zh (s:=Builtin.len_ c.argTypes o.type #[a.eval x]) (v:=.int .i64 n) (w':=C.w) (by
   unfold execOp;rw [G];simp only [resolve,r];rw [I];rfl) ?_ (zZ (.int _ _) h)
  unfold Builtin.len_
  cases ht0:c.argTypes[0]? with
  | none=>rw [ht0] at j;cases j
  | some t=>
   rw [ht0] at j
   simp only [Option.bind_some] at j
   simp only [List.getElem?_toArray,List.getElem?_cons_zero]
   generalize D:a.eval x=xv at l
   generalize e m=ex at *
   cases l<;>first
    | (simp only [lenOf,sij] at b;subst b;rw [Sem.run_bind,zC j];rfl)
    | (cases b;done)
    | skip
   unfold lenOf at b
   split at b<;>first | (rename_i q;cases q;done) | skip
   ·rename_i q
    obtain rfl:xv=.slice none 0 0:=by simpa using q
    cases b
    rw [Sem.run_bind,zC j];rfl
   ·cases b
 ·exact h.elim
theorem z0M (D:Sim C) (r:Zr C a e) {c:Call} {x:Operand} {l:Opd} (u:o.op=.call c) (q:c.callee=.builtin .len) (b:c.args.toList=[x])
  (j:(c.argTypes[0]?).bind E.P.underlying=some .string) (B:opd x=some l) (h:xop E (.lenS l) e C.L K):zN E C a o K:=by
 have d:=r x l B
 simp only [xop] at h
 have A:c.args.map a.eval=#[a.eval x]:=by apply Array.ext';simp [b]
 generalize m:a.eval x=xv at d
 generalize e l=ex at *
 split at h
 ·rename_i s
  cases d
  refine zh (s:=Builtin.len_ c.argTypes o.type #[a.eval x]) (v:=.int .i64 s.length) (w':=C.w) (by
   unfold execOp;rw [u];simp only [resolve,q];rw [A];rfl) ?_ (zZ (.int _ _) h)
  unfold Builtin.len_
  cases ht0:c.argTypes[0]? with
  | none=>rw [ht0] at j;cases j
  | some t=>
   rw [ht0] at j
   simp only [Option.bind_some] at j
   simp only [List.getElem?_toArray,List.getElem?_cons_zero]
   rw [m,Sem.run_bind,zC j];rfl
 ·exact h.elim
theorem z3a (B:Sim C) (u:Zr C a e) {s d:TypeId} {x:Operand} {b:Opd} {f:FloatKind} {k:IntKind} (G:o.op=.convert s d x) (hs:E.P.underlying s=some (.float f)) (hd:E.P.underlying d=some (.int k))
  (A:opd x=some b) {g:Nat} (h:xex E (.ru (.toInt k)) [e b] g C.L K):zN E C a o K:=by
 have q:=u x b A
 generalize j:a.eval x=xv at q
 generalize e b=ex at *
 simp only [xex] at h
 split at h
 ·rename_i v l
  obtain rfl:ex=.raw v:=by simpa using l
  obtain ⟨r,m,D⟩:=h
  cases q
  cases xv<;>simp only [z2f] at m<;>first | (cases m;done) | skip
  obtain ⟨n,I,rfl⟩:=Option.map_eq_some_iff.1 m
  refine zh (s:=convert s d (a.eval x)) (by unfold execOp;rw [G]) (v:=.int k n) (w':=C.w) ?_ (zZ (.int _ _) D)
  rw [j]
  exact run_convert_float_int _ _ _ _ _ _ _ (by simp [hs]) hd I
 ·exact h.elim
theorem Vq (M:Sim C) (I:Zr C a e) {c:Call} {x:Operand} {l:Opd} {im:Bool} (B:o.op=.call c) (j:c.callee=.builtin (if im then .imag else .real)) (d:c.args.toList=[x])
  (J:opd x=some l) {g:Nat} (h:xex E (.ru (if im then .im else .re)) [e l] g C.L K):zN E C a o K:=by
 have A:=I x l J
 have D:c.args.map a.eval=#[a.eval x]:=by apply Array.ext';simp [d]
 generalize b:a.eval x=xv at A
 generalize e l=ex at *
 simp only [xex] at h
 split at h
 ·rename_i v m
  obtain rfl:ex=.raw v:=by simpa using m
  obtain ⟨r,G,u⟩:=h
  cases A
  cases im<;>cases xv<;>simp [z2f] at G<;>subst G
  ·rename_i k p q _
   exact zh (s:=Builtin.real_ c.argTypes o.type #[a.eval x]) (v:=.float k p) (w':=C.w) (by
    unfold execOp;rw [B];simp only [resolve,j];rw [D,b];rfl) (by rw [b];rfl) (zZ (.raw _ rfl) u)
  ·rename_i k p q _
   exact zh (s:=Builtin.imag_ c.argTypes o.type #[a.eval x]) (v:=.float k q) (w':=C.w) (by
    unfold execOp;rw [B];simp only [resolve,j];rw [D,b];rfl) (by rw [b];rfl) (zZ (.raw _ rfl) u)
 ·exact h.elim
theorem z2w (G:Sim C) (B:Zr C a e) {c:Call} {x y:Operand} {r u:Opd} (I:o.op=.call c) (A:c.callee=.builtin .max) (b:c.args.toList=[x,y])
  (D:opd x=some r) (M:opd y=some u) (h:xop E (.max2 r u) e C.L K):zN E C a o K:=by
 have d:=B x r D
 have j:=B y u M
 simp only [xop] at h
 have J:c.args.map a.eval=#[a.eval x,a.eval y]:=by apply Array.ext';simp [b]
 generalize l:a.eval x=xv at d
 generalize m:a.eval y=yv at j
 generalize e r=ex at *
 generalize e u=ey at *
 split at h
 ·rename_i k p O q
  cases d;cases j
  refine zh (s:=Builtin.max_ c.argTypes o.type #[a.eval x,a.eval y]) (v:=.int k (if q>p then q else p)) (w':=C.w) (by
   unfold execOp;rw [I];simp only [resolve,A];rw [J,l,m];rfl) ?_ (zZ (.int _ _) h)
  rw [l,m];rfl
 ·exact h.elim
theorem z2U (G:Sim C) (B:Zr C a e) {c:Call} {x y:Operand} {r u:Opd} (I:o.op=.call c) (A:c.callee=.builtin .min) (b:c.args.toList=[x,y])
  (D:opd x=some r) (M:opd y=some u) (h:xop E (.min2 r u) e C.L K):zN E C a o K:=by
 have d:=B x r D
 have j:=B y u M
 simp only [xop] at h
 have J:c.args.map a.eval=#[a.eval x,a.eval y]:=by apply Array.ext';simp [b]
 generalize l:a.eval x=xv at d
 generalize m:a.eval y=yv at j
 generalize e r=ex at *
 generalize e u=ey at *
 split at h
 ·rename_i k p O q
  cases d;cases j
  refine zh (s:=Builtin.min_ c.argTypes o.type #[a.eval x,a.eval y]) (v:=.int k (if q<p then q else p)) (w':=C.w) (by
   unfold execOp;rw [I];simp only [resolve,A];rw [J,l,m];rfl) ?_ (zZ (.int _ _) h)
  rw [l,m];rfl
 ·exact h.elim
theorem Js (O:Sim C) (J:Zr C a e) {x:Operand} {A:Opd} (u:o.op=.nilCheck x) (M:opd x=some A) (h:xop E (.nilck A) e C.L K):zN E C a o K:=by
 have l:=J x A M
 simp only [xop] at h
 generalize j:a.eval x=xv at l
 have d:∀r,VR C r (a.eval x)->(execOp a.eval o).run E.P C.w=.ok (.value (a.eval x)) C.w->K r C.L->zN E C a o K:=fun r T m U=>⟨_,r,m,T,U⟩
 generalize e A=ex at *
 split at h
 ·cases l with
  | ptr s r off hs=>exact d _ (by rw [j];exact .ptr _ _ _ hs) (by unfold execOp;rw [u];simp only [j];rfl) h
 ·cases l with
  | iptr _ _ _ b base sz vals hsz D I q ha S=>exact d _ (by rw [j];exact .iptr _ _ _ b base sz vals hsz D I q ha S) (by unfold execOp;rw [u];simp only [j];rfl) h
 ·cases l with
  | fn _ _ _ Q V ha I G B=>exact d _ (by rw [j];exact .fn _ _ _ Q V ha I G B) (by unfold execOp;rw [u];simp only [j];rfl) h
 ·cases l
  exact d _ (by rw [j];exact .raw _ rfl) (by unfold execOp;rw [u];simp only [j];rfl) h
 ·exact h.elim
theorem z3y (m:Sim C) (l:Zr C a e) {t:Operand} {t':Opd} {i:Nat} (u:o.op=.extract t i) (A:opd t=some t') (h:xop E (.ext t' i) e C.L K):zN E C a o K:=by
 have b:=l t t' A
 simp only [xop] at h
 generalize j:a.eval t=xv at b
 generalize e t'=ex at *
 split at h
 ·rename_i cs
  cases b with
  | tup _ vs B q=>
  have r:=q i _ (getD_get (d:=.und) h.1)
  refine zh (s:=Instr.extract (a.eval t) i) (by unfold execOp;rw [u]) (v:=vs.getD i undef) (w':=C.w) ?_ (zZ r h.2)
  rw [j]
  unfold Instr.extract
  have:vs.toArray[i]?=some (vs.getD i undef):=by rw [List.getElem?_toArray];exact getD_get od
  simp only [this];rfl
 ·exact h.elim
theorem z4t (wf:Wf E.g0 C) (sim:Sim C) (hG:E.G C.w) (he:Zr C a e) {c:Call} {f:Operand} {f':Opd} {as:List Opd} (ho:o.op=.call c) (hcb:c.callee=.value f) (hf:opd f=some f') (has:zF opd c.args.toList=some as)
  (h:xop E (.call f' as) e C.L K):Good E C a o K:=by
 have hfv:=he f f' hf
 obtain ⟨h1,h2⟩:=z1L he has
 simp only [xop] at h
 generalize hfe:a.eval f=fv at hfv
 generalize e f'=ef at *
 split at h
 ·rename_i n p q
  cases hfv with
  | fn _ _ _ va vb ha hb hva hvb=>
  have hlen:(p++as.map e++q).length=(va++c.args.toList.map a.eval++vb).length:=by
   simp only [lla,h1,ha,hb]
  have hargs:∀(i:Nat) (x:IV),(p++as.map e++q)[i]?=some x→VR C x ((va++c.args.toList.map a.eval++vb).getD i undef):=by
   intro i x hi
   rw [List.getD_eq_getElem?_getD]
   have lx:∀{l:List IV} {v:List Value} {j:Nat},(∀(i:Nat) (x:IV),l[i]?=some x→VR C x (v.getD i undef))→l.length=v.length→l[j]?=some x→VR C x (v[j]?.getD undef):=fun hl hll hj=>by
    have:=hl _ _ hj;rwa [List.getD_eq_getElem?_getD] at this
   rcases Nat.lt_or_ge i (p++as.map e).length with h5 | h5
   ·rw [List.getElem?_append_left h5] at hi
    rw [List.getElem?_append_left (by rw [lla] at h5 ⊢;omega)]
    rcases Nat.lt_or_ge i p.length with h6 | h6
    ·rw [List.getElem?_append_left h6] at hi
     rw [List.getElem?_append_left od]
     exact lx hva ha hi
    ·rw [List.getElem?_append_right h6] at hi
     rw [List.getElem?_append_right od,←ha]
     exact lx h2 h1 hi
   ·rw [List.getElem?_append_right h5] at hi
    rw [List.getElem?_append_right (by rw [lla] at h5 ⊢;omega)]
    have e2:(va++c.args.toList.map a.eval).length=(p++as.map e).length:=by simp only [lla,ha,h1]
    rw [e2]
    exact lx hvb hb hi
  have e3:va.toArray++Array.map a.eval c.args++vb.toArray=(va++c.args.toList.map a.eval++vb).toArray:=by
   apply Array.ext';simp
  rcases h with h | ⟨r,h,hk⟩ | h | h | h
  case inr.inr.inr.inr=>
   obtain ⟨r,L',φ',v,w',h1,h2,h3,h4,h5,h6⟩:=h C.w C.φ C.X (va++c.args.toList.map a.eval++vb) wf sim hG hlen hargs
   refine .inl ⟨v,w',?_,r,L',φ',h2,h3,h4,h5,h6⟩
   unfold execOp
   rw [ho]
   simp only [resolve,hcb,hfe,Deferred.ofValue]
   rw [Sem.run_bind,Sem.run_pure]
   simp only [Result.andThen_ok,invoke]
   rw [e3]
   exact h1
  case inr.inl=>
   obtain ⟨v,hv1,hv2⟩:=h C _ hG hlen hargs
   refine .inl ⟨v,C.w,?_,Zf wf sim hv2 hk⟩
   unfold execOp
   rw [ho]
   simp only [resolve,hcb,hfe,Deferred.ofValue]
   rw [Sem.run_bind,Sem.run_pure]
   simp only [Result.andThen_ok,invoke]
   rw [e3]
   exact hv1
  all_goals
  obtain ⟨⟨fn,hfn,hnm,hbody⟩,hcall⟩:vY E.P n∧Calls E.P n (va++c.args.toList.map a.eval++vb).toArray C.w fun e w'=>∃v,(e=.returned v∧Post E C K v w')∨(e=.panicked [{ v,recovered:=false }]∧Post E C E.pan v w'):=by
   first
    | exact ⟨(VO (C:=C) (vs:=va++c.args.toList.map a.eval++vb) wf sim hG hlen hargs h).1,(VO (C:=C) (vs:=va++c.args.toList.map a.eval++vb) wf sim hG hlen hargs h).2.mono fun e w' ⟨v,h1,h2⟩=>⟨v,.inl ⟨h1,h2⟩⟩⟩
    | exact z0J (C:=C) (vs:=va++c.args.toList.map a.eval++vb) wf sim hG hlen hargs h
    | exact ⟨h.1,(h.2 C.w C.φ C.X (va++c.args.toList.map a.eval++vb) wf sim hG hlen hargs).mono fun e w' ⟨r,L',φ',v,wf',sim',ext',hv,hh⟩=>⟨v,hh.elim (fun h1=>.inl ⟨h1.2,r,L',φ',h1.1,wf',sim',ext',hv⟩) (fun h1=>.inr ⟨h1.2,r,L',φ',h1.1,wf',sim',ext',hv⟩)⟩⟩
  refine .inr (.inr (.inl ⟨n,(va++c.args.toList.map a.eval++vb).toArray,C.w,?_,hcall⟩))
  unfold execOp
  rw [ho]
  simp only [resolve,hcb,hfe,Deferred.ofValue]
  rw [Sem.run_bind,Sem.run_pure]
  simp only [Result.andThen_ok,invoke]
  rw [e3]
  unfold callFunc
  rw [Sem.run_bind,run_program]
  simp only [Result.andThen_ok,hfn]
  have hnm' : (fn.name == "runtime.NumGoroutine") = false := by simpa using hnm
  simp only [hnm',Bool.false_eq_true,if_false,hbody]
  rfl
 ·rename_i s
  cases hfv with
  | yld _ hs=>
  obtain ⟨fn,tmps,asg,body,h3,h4⟩:=E.hyl C s (as.map e) (c.args.toList.map a.eval) _ wf sim hG h1 h2 h
  refine .inr (.inr (.inr (.inl ⟨_,fn,tmps,asg,body,C.w,?_,h4⟩)))
  unfold execOp
  rw [ho]
  simp only [resolve,hcb,hfe,Deferred.ofValue]
  rw [Sem.run_bind,Sem.run_pure]
  simp only [Result.andThen_ok,invoke]
  rw [←h3]
  congr 1
  congr 1
  apply Array.ext';simp
 ·exact h.elim
theorem z1G {P:Program} {t:TypeId} (h:zaD P t=true):P.underlying t=some (.int .u8):=by
 unfold zaD at h
 split at h
 ·assumption
 ·cases h
theorem Jj {g:Nat} (S:Free C.L g) (wf:Wf E.g0 C) (j:Sim C) (hG:E.G C.w) (B:Zr C a e) {x:XO} (hc:Y3 E.P o.op=some x) (h:jc E x e g C.L K):Good E C a o K:=by
 cases ho:o.op<;>rw [ho] at hc<;>simp only [Y3] at hc<;>try (cases hc;done)
 case move x=>
  simp only [oms] at hc;obtain ⟨q,D,rfl⟩:=hc
  exact (WF j B (.inl ho) D h).good wf j
 case assign x=>
  simp only [oms] at hc;obtain ⟨q,D,rfl⟩:=hc
  exact (WF j B (.inr ho) D h).good wf j
 case pick c x y=>
  simp only [obs,oms] at hc
  obtain ⟨c',ak,Q,dm,y',ax,rfl⟩:=hc
  simp only [jc,xop] at h
  split at h
  ·rename_i t M;exact (z0x j B ho ak dm ax M h).good wf j
  ·exact h.elim
 case alloc t=>
  simp only [oms] at hc;obtain ⟨z,V,hc⟩:=hc
  split at hc
  ·subst hc;exact z2r S wf j ho V h
  ·subst hc;exact z3S S wf j ho V h
 case box t x=>
  simp only [oms] at hc;obtain ⟨q,D,rfl⟩:=hc
  exact z7X S wf j B ho D h
 case build t ps=>
  split at hc
  ·rename_i fs M
   simp only [obs] at hc
   obtain ⟨z,V,qs,D,hc⟩:=hc
   split at hc
   ·rename_i di
    simp only [sij] at hc;subst hc
    simp only [jc,xop] at h
    split at h
    ·rename_i cs au
     exact (Y5 j B ho M V (by simpa only [obs,oms] using D) di au h).good wf j
    ·exact h.elim
   ·cases hc
  ·rename_i m T M
   simp only [obs,oms] at hc
   obtain ⟨z,V,n,O,qs,D,rfl⟩:=hc
   simp only [jc,xop] at h
   split at h
   ·rename_i cs au
    exact (Yv j B ho M V O D au h).good wf j
   ·exact h.elim
  ·cases hc
 case buildSlice t len ps=>
  split at hc
  ·rename_i T M
   simp only [obs] at hc
   obtain ⟨n,O,z,V,qs,D,hc⟩:=hc
   split at hc
   ·rename_i A
    simp only [sij] at hc;subst hc
    simp only [jc] at h
    obtain ⟨_,h⟩:=h
    split at h
    ·rename_i rows ai
     exact z2p S wf j B ho M O V D A.1 A.2.1 A.2.2 ai h
    ·exact h.elim
   ·cases hc
  ·cases hc
 case load t x=>
  simp only [obs,oms] at hc
  obtain ⟨g,hg,n,O,q,D,rfl⟩:=hc
  cases g
  ·simp only [Bool.false_eq_true,if_false,jc,xop] at h
   split at h
   ·rename_i rows r off hr
    exact (Jp j hG B ho D hg hr h.1 h.2.1 h.2.2).good wf j
   ·exact h.elim
  ·simp only [if_true,jc,xop] at h
   split at h
   ·rename_i rows r off hr
    exact (Jy j hG B ho D hg O hr h.1 h.2.1 h.2.2).good wf j
   ·exact h.elim
 case store t p x=>
  simp only [obs,oms] at hc
  obtain ⟨g,hg,n,O,p',hp,Q,I,rfl⟩:=hc
  simp only [jc,xop] at h
  split at h
  ·rename_i s r off hs
   split at h
   ·rename_i sz rows hL
    exact z4n wf j B ho hp I O hs hL h.1 h.2.1 h.2.2.1 h.2.2.2.1 h.2.2.2.2
   ·rename_i ty sz rows hL
    exact z1P wf j B ho hp I O hs hL h.1 h.2.1 h.2.2.1 h.2.2.2.1 h.2.2.2.2
   ·exact h.elim
  ·exact h.elim
 case nilCheck x=>
  simp only [oms] at hc;obtain ⟨q,D,rfl⟩:=hc
  exact (Js j B ho D h).good wf j
 case binOp op t x y ty=>
  split at hc
  ·rename_i M
   simp only [obs,oms] at hc
   obtain ⟨Q,I,y',U,rfl⟩:=hc
   exact (z2P j B ho M I U h).good wf j
  ·split at hc
   ·rename_i M
    simp only [obs,oms] at hc
    obtain ⟨Q,I,y',U,rfl⟩:=hc
    exact (VE j B ho rfl (by assumption) I U h).good wf j
   ·rename_i M
    simp only [obs,oms] at hc
    obtain ⟨Q,I,y',U,rfl⟩:=hc
    exact (VE j B ho rfl (by assumption) I U h).good wf j
   ·rename_i T M
    simp only [obs] at hc
    obtain ⟨n,O,hc⟩:=hc
    split at hc
    ·cases hc
    ·rename_i Z
     simp only [obs,oms] at hc
     obtain ⟨Q,I,y',U,rfl⟩:=hc
     exact (z3w (g:=g) (neg:=false) j B ho rfl (by assumption) O Z I U h).good wf j
   ·rename_i T M
    simp only [obs] at hc
    obtain ⟨n,O,hc⟩:=hc
    split at hc
    ·cases hc
    ·rename_i Z
     simp only [obs,oms] at hc
     obtain ⟨Q,I,y',U,rfl⟩:=hc
     exact (z3w (g:=g) (neg:=true) j B ho rfl (by assumption) O Z I U h).good wf j
   ·rename_i fs M
    simp only [obs,oms] at hc
    obtain ⟨ks,hk,Q,I,y',U,rfl⟩:=hc
    exact (z2G (g:=g) (neg:=false) j B ho rfl (by assumption) hk I U h).good wf j
   ·rename_i fs M
    simp only [obs,oms] at hc
    obtain ⟨ks,hk,Q,I,y',U,rfl⟩:=hc
    exact (z2G (g:=g) (neg:=true) j B ho rfl (by assumption) hk I U h).good wf j
   ·split at hc
    ·rename_i k hk
     simp only [oms] at hc
     obtain ⟨Q,I,rfl⟩:=hc
     exact (WX j B ho rfl hk I h).good wf j
    ·simp only [sij] at hc;subst hc
     exact False.elim h
   ·simp only [obs,oms] at hc
    obtain ⟨k,hk,Q,I,rfl⟩:=hc
    exact (WX j B ho rfl hk I h).good wf j
   ·simp only [obs,oms] at hc
    obtain ⟨k,hk,Q,I,rfl⟩:=hc
    exact (WX j B ho rfl hk I h).good wf j
   ·cases hc
 case range t x=>
  split at hc
  ·rename_i M
   simp only [oms] at hc;obtain ⟨q,D,rfl⟩:=hc
   exact z8s wf j B ho M D h
  ·rename_i kt T M
   simp only [oms] at hc;obtain ⟨q,D,rfl⟩:=hc
   exact z5s S wf j B ho M D h
  ·cases hc
 case makeMap t r=>
  cases r with
  | none=>simp only [sij] at hc;subst hc;exact z4o S wf j ho h
  | some r=>cases hc
 case lookup t x i ok=>
  split at hc
  ·rename_i kt T M
   simp only [obs,oms] at hc
   obtain ⟨st,af,z,V,Q,I,i',hi,rfl⟩:=hc
   exact (z4m (g:=g) wf j B ho M af V I hi h).good wf j
  ·cases hc
 case mapUpdate t m k v=>
  split at hc
  ·rename_i kt T M
   simp only [obs,oms] at hc
   obtain ⟨st,af,m',X,k',ae,v',ah,rfl⟩:=hc
   exact z0q (g:=g) wf j B (.inl ho) M af X ae ah h
  ·cases hc
 case insert t m k v=>
  split at hc
  ·rename_i kt T M
   simp only [obs,oms] at hc
   obtain ⟨st,af,m',X,k',ae,v',ah,rfl⟩:=hc
   exact z0q (g:=g) wf j B (.inr ho) M af X ae ah h
  ·cases hc
 case mapEntry t m k=>
  split at hc
  ·rename_i kt T M
   simp only [obs,oms] at hc
   obtain ⟨st,af,z,V,m',X,k',ae,rfl⟩:=hc
   exact z6b (g:=g) wf j B ho M af V X ae h
  ·cases hc
 case entryStore t m k v=>
  simp only [obs,oms] at hc
  obtain ⟨m',X,k',ae,v',ah,rfl⟩:=hc
  exact z4v (g:=g) wf j B ho X ae ah h
 case next x b=>
  cases b
  ·simp only [Bool.false_eq_true,if_false,oms] at hc;obtain ⟨q,D,rfl⟩:=hc
   exact z5e (g:=g) wf j B ho D h
  ·simp only [if_true,oms] at hc;obtain ⟨q,D,rfl⟩:=hc
   exact z7m wf j B ho D h
 case unOp op t x=>
  simp only [oms] at hc;obtain ⟨q,D,rfl⟩:=hc
  exact (z5j j B ho D h).good wf j
 case convert s d x=>
  split at hc
  ·rename_i k0 k hs hd
   simp only [oms] at hc;obtain ⟨q,D,rfl⟩:=hc
   simp only [jc,xop] at h
   split at h
   ·rename_i k1 n Y;exact (Jd j B ho hs hd D Y h).good wf j
   ·exact h.elim
  ·rename_i k0 hs hd
   simp only [oms] at hc;obtain ⟨q,D,rfl⟩:=hc
   simp only [jc,xop] at h
   split at h
   ·rename_i k1 n Y;exact (WQ j B ho hs hd D Y h).good wf j
   ·exact h.elim
  ·rename_i k f hs hd
   simp only [oms] at hc;obtain ⟨q,D,rfl⟩:=hc
   exact (z6j (g:=g) j B ho hs hd D h).good wf j
  ·rename_i f k hs hd
   simp only [oms] at hc;obtain ⟨q,D,rfl⟩:=hc
   exact (z3a (g:=g) j B ho hs hd D h).good wf j
  ·rename_i hs hd
   simp only [oms] at hc;obtain ⟨q,D,rfl⟩:=hc
   simp only [jc,xop] at h
   split at h
   ·rename_i l Y;exact (Jq j B ho hs hd D Y h).good wf j
   ·exact h.elim
  ·rename_i T hs hd
   split at hc
   ·rename_i hu
    simp only [oms] at hc;obtain ⟨q,D,rfl⟩:=hc
    exact (z4H (g:=g) j B ho hs (z1G hu) hd D h).good wf j
   ·split at hc
    ·rename_i hu
     simp only [oms] at hc;obtain ⟨q,D,rfl⟩:=hc
     exact (z6k (g:=g) j B ho hs (z7f hu) hd D h).good wf j
    ·cases hc
  ·rename_i T hs hd
   split at hc
   ·rename_i hu
    simp only [oms] at hc;obtain ⟨q,D,rfl⟩:=hc
    exact z5T S wf j B ho hs hd (z1G hu) D h
   ·cases hc
  ·rename_i T eu hs hd
   split at hc
   ·rename_i hu
    obtain ⟨rfl,hu⟩:=hu
    simp only [oms] at hc;obtain ⟨q,D,rfl⟩:=hc
    exact z4j (g:=g) wf j B ho hs (z1G hu) D h
   ·cases hc
  ·rename_i t hs hd
   simp only [obs] at hc
   obtain ⟨n,O,hc⟩:=hc
   split at hc
   ·cases hc
   ·rename_i Z
    simp only [oms] at hc;obtain ⟨q,D,rfl⟩:=hc
    exact (z8e (g:=g) j B ho hs hd O Z D h).good wf j
  ·rename_i t hs hd
   simp only [obs] at hc
   obtain ⟨n,O,hc⟩:=hc
   split at hc
   ·cases hc
   ·rename_i Z
    simp only [oms] at hc;obtain ⟨q,D,rfl⟩:=hc
    exact (z6V (g:=g) j B ho hs hd O (fun h0=>Z (.inl h0)) (Decidable.of_not_not fun h0=>Z (.inr h0)) D h).good wf j
  ·cases hc
 case fieldAddr s x f=>
  split at hc
  ·rename_i fs hs
   simp only [obs] at hc
   obtain ⟨g,hg,n,O,hc⟩:=hc
   split at hc
   ·cases hc
   ·rename_i Z
    simp only [oms] at hc;obtain ⟨q,D,rfl⟩:=hc
    exact (z0Y j B ho hs hg O Z D h).good wf j
  ·cases hc
 case field s x f=>
  split at hc
  ·rename_i fs hs
   simp only [obs,oms] at hc
   obtain ⟨g,hg,n,O,b,hb,q,D,rfl⟩:=hc
   exact (z3v j B ho hs hg O hb D h).good wf j
  ·cases hc
 case indexAddr t x i=>
  split at hc
  ·rename_i T M
   simp only [obs] at hc
   obtain ⟨n,O,hc⟩:=hc
   split at hc
   ·cases hc
   ·simp only [obs,oms] at hc
    obtain ⟨Q,I,i',hi,rfl⟩:=hc
    exact (z1f j B ho M O I hi h).good wf j
  ·rename_i m T M
   simp only [obs,oms] at hc
   obtain ⟨n,O,Q,I,i',hi,rfl⟩:=hc
   exact (z1h j B ho M O I hi h).good wf j
  ·cases hc
 case index t x i=>
  split at hc
  ·rename_i M
   simp only [obs,oms] at hc
   obtain ⟨Q,I,i',hi,rfl⟩:=hc
   exact (z3h j B ho M I hi h).good wf j
  ·cases hc
 case slice t x lo hi mx=>
  unfold VU at hc
  split at hc
  ·split at hc
   ·rename_i M
    simp only [obs,oms] at hc
    obtain ⟨Q,I,l,hl,hh,aj,rfl⟩:=hc
    simp only [jc,xop] at h
    split at h
    ·rename_i s hs
     exact (wo j B ho M I hl aj hs h).good wf j
    ·exact h.elim
   ·rename_i T M
    simp only [obs] at hc
    obtain ⟨n,O,hc⟩:=hc
    split at hc
    ·cases hc
    ·simp only [obs,oms] at hc
     obtain ⟨Q,I,l,hl,hh,aj,rfl⟩:=hc
     exact (Jh j B ho M O I hl aj h).good wf j
   ·rename_i m T M
    split at hc
    ·rename_i A
     obtain ⟨ag,bf⟩:=A
     simp only [obs,oms] at hc
     obtain ⟨Q,I,l,hl,rfl⟩:=hc
     cases hi with
     | none=>exact z88 (g:=g) wf j B ho M ag I hl h
     | some _=>cases bf
    ·cases hc
   ·cases hc
  ·rename_i m
   split at hc
   ·rename_i T M
    simp only [obs] at hc
    obtain ⟨n,O,hc⟩:=hc
    split at hc
    ·rename_i A
     simp only [Bool.and_eq_true] at A
     obtain ⟨⟨Y,h2⟩,h3⟩:=A
     simp only [oms] at hc;obtain ⟨q,D,rfl⟩:=hc
     unfold VF at Y h2
     split at Y
     ·rename_i k1 bn
      split at h2
      ·rename_i k2 dn
       cases lo with
       | some l=>cases h3
       | none=>rw [bn] at ho;exact (jk j B ho M O D h).good wf j
      ·cases h2
     ·cases Y
    ·split at hc
     ·rename_i hp
      split at hc
      ·cases hc
      ·simp only [obs,oms] at hc
       obtain ⟨Q,I,l,hl,h',hh,m',X,rfl⟩:=hc
       exact (z3A (g:=g) j B ho M O I hl hh X h).good wf j
     ·cases hc
   ·cases hc
 case makeFunc f xs ys=>
  simp only [obs,oms] at hc
  obtain ⟨gm,I,ed,U,rfl⟩:=hc
  exact (z1m j B ho I U h).good wf j
 case makeSlice t l c=>
  split at hc
  ·rename_i T M
   simp only [obs] at hc
   obtain ⟨n,O,z,V,m,X,l',hl,c',ak,hc⟩:=hc
   split at hc
   ·rename_i A
    simp only [sij] at hc;subst hc
    simp only [jc] at h
    split at h
    ·rename_i k1 n1 k2 n2 Y h2
     exact z1i S wf j B ho M O V X hl ak A.1 A.2 Y h2 h.1 h.2.1 h.2.2.1 h.2.2.2.1 h.2.2.2.2
    ·exact h.elim
   ·cases hc
  ·cases hc
 case extract t i=>
  simp only [oms] at hc;obtain ⟨q,D,rfl⟩:=hc
  exact (z3y j B ho D h).good wf j
 case makeInterface t x=>
  split at hc
  ·rename_i dh
   simp only [oms] at hc;obtain ⟨q,D,rfl⟩:=hc
   exact (z6n j B ho dh D h).good wf j
  ·cases hc
 case typeAssert x st t ok=>
  split at hc
  ·cases hc
  ·rename_i d hd M
   split at hc
   ·rename_i bu
    subst bu
    simp only [oms] at hc;obtain ⟨q,D,rfl⟩:=hc
    exact (z7w (g:=g) j B ho M (fun ms X=>hd ms X) D h).good wf j
   ·cases hc
  ·cases hc
 case panic x=>
  simp only [oms] at hc;obtain ⟨q,D,rfl⟩:=hc
  have h:xex E .panic [e q] g C.L K:=h
  simp only [xex] at h
  split at h
  ·rename_i t v cu
   exact z3E wf j B ho D (by simpa using cu) h
  ·exact h.elim
 case call c=>
  unfold z02 at hc
  split at hc
  ·rename_i f J
   simp only [obs,oms] at hc
   obtain ⟨f',hf,as,az,rfl⟩:=hc
   exact z4t wf j hG B ho J hf az h
  ·rename_i J
   split at hc
   ·rename_i x u M
    simp only [oms] at hc;obtain ⟨q,D,rfl⟩:=hc
    exact (z0M j B ho J u M D h).good wf j
   ·rename_i x T u M
    simp only [oms] at hc;obtain ⟨q,D,rfl⟩:=hc
    exact (z2L j B ho J u M D h).good wf j
   ·cases hc
  ·rename_i J
   split at hc
   ·rename_i s x T dw u Y h2
    simp only [obs] at hc
    obtain ⟨s',hs,Q,I,n,O,m,X,z,V,hc⟩:=hc
    split at hc
    ·rename_i A
     split at hc
     ·split at hc
      ·rename_i ag
       subst ag
       simp only [sij] at hc;subst hc
       exact z0R S wf j B ho J u Y ⟨_,h2,fun k h=>by cases h⟩ hs I O X V A.1 A.2.2 h
      ·cases hc
     ·simp only [sij] at hc;subst hc
      exact wE S wf j B ho J u Y ⟨_,h2,fun k h=>by cases h⟩ hs I O X V A.1 A.2.1 A.2.2 h
    ·cases hc
   ·rename_i s x T u Y h2
    simp only [obs] at hc
    obtain ⟨s',hs,Q,I,n,O,m,X,z,V,hc⟩:=hc
    split at hc
    ·rename_i A
     split at hc
     ·split at hc
      ·rename_i ag
       subst ag
       simp only [sij] at hc;subst hc
       exact z0R S wf j B ho J u Y ⟨_,h2,fun k h=>by cases h⟩ hs I O X V A.1 A.2.2 h
      ·cases hc
     ·simp only [sij] at hc;subst hc
      exact wE S wf j B ho J u Y ⟨_,h2,fun k h=>by cases h⟩ hs I O X V A.1 A.2.1 A.2.2 h
    ·cases hc
   ·cases hc
  ·rename_i J
   split at hc
   ·rename_i d x T u Y
    simp only [obs,oms] at hc
    obtain ⟨n,O,d',hd,Q,I,rfl⟩:=hc
    exact z5K (g:=g) wf j B ho J u Y O hd I h
   ·cases hc
  ·rename_i J
   split at hc
   ·rename_i d T u Y
    simp only [obs,oms] at hc
    obtain ⟨z,V,d',hd,rfl⟩:=hc
    exact z7p (g:=g) wf j B ho J u Y V hd h
   ·cases hc
  ·rename_i J
   split at hc
   ·rename_i x u
    simp only [oms] at hc;obtain ⟨q,D,rfl⟩:=hc
    exact (z3W (g:=g) j B ho J u D h).good wf j
   ·cases hc
  ·rename_i J
   split at hc
   ·rename_i x y pt t2 u bz
    split at hc
    ·rename_i T ay
     simp only [obs] at hc
     obtain ⟨Q,I,y',U,hc⟩:=hc
     split at hc
     ·rename_i bi
      simp only [sij] at hc;subst hc
      exact z5X (g:=g) wf j B ho J u bz ay bi I U h
     ·cases hc
    ·cases hc
   ·cases hc
  ·rename_i J
   split at hc
   ·rename_i x u
    simp only [oms] at hc
    obtain ⟨Q,I,rfl⟩:=hc
    exact (Vq (im:=false) (g:=g) j B ho J u I h).good wf j
   ·cases hc
  ·rename_i J
   split at hc
   ·rename_i x u
    simp only [oms] at hc
    obtain ⟨Q,I,rfl⟩:=hc
    exact (Vq (im:=true) (g:=g) j B ho J u I h).good wf j
   ·cases hc
  ·rename_i J
   split at hc
   ·rename_i m k t u bg
    split at hc
    ·rename_i kt T M
     simp only [obs,oms] at hc
     obtain ⟨st,af,m',X,k',ae,rfl⟩:=hc
     exact z5c (g:=g) wf j B ho J u bg M af X ae h
    ·cases hc
   ·cases hc
  ·rename_i J
   split at hc
   ·rename_i x y u
    simp only [obs,oms] at hc
    obtain ⟨Q,I,y',U,rfl⟩:=hc
    exact (z8D (g:=g) j B ho J u I U h).good wf j
   ·cases hc
  ·rename_i J
   split at hc
   ·rename_i x y u
    simp only [obs,oms] at hc
    obtain ⟨Q,I,y',U,rfl⟩:=hc
    exact (z2w j B ho J u I U h).good wf j
   ·cases hc
  ·rename_i J
   split at hc
   ·rename_i x y u
    simp only [obs,oms] at hc
    obtain ⟨Q,I,y',U,rfl⟩:=hc
    exact (z2U j B ho J u I U h).good wf j
   ·cases hc
  ·cases hc
theorem z7y (A:Sim C) (hG:E.G C.w) (J:Zr C a e) {x:XO} (hc:Y3 E.P o.op=some x) (j:x.quiet=true) (h:xop E x e C.L K):zN E C a o K:=by
 cases ho:o.op<;>rw [ho] at hc<;>simp only [Y3] at hc<;>try (cases hc;done)
 case move x=>
  simp only [oms] at hc;obtain ⟨q,B,rfl⟩:=hc
  exact WF A J (.inl ho) B h
 case assign x=>
  simp only [oms] at hc;obtain ⟨q,B,rfl⟩:=hc
  exact WF A J (.inr ho) B h
 case pick c x y=>
  simp only [obs,oms] at hc
  obtain ⟨c',ak,O,bg,Y,ax,rfl⟩:=hc
  simp only [xop] at h
  split at h
  ·rename_i t M;exact z0x A J ho ak bg ax M h
  ·exact h.elim
 case alloc t=>
  simp only [oms] at hc;obtain ⟨z,X,hc⟩:=hc
  split at hc<;>subst hc<;>exact Bool.noConfusion (show false=true from j)
 case box t x=>
  simp only [oms] at hc;obtain ⟨q,B,rfl⟩:=hc
  exact Bool.noConfusion (show false=true from j)
 case build t ps=>
  split at hc
  ·rename_i fs M
   simp only [obs] at hc
   obtain ⟨z,X,qs,B,hc⟩:=hc
   split at hc
   ·rename_i bf
    simp only [sij] at hc;subst hc
    simp only [xop] at h
    split at h
    ·rename_i cs ah
     exact Y5 A J ho M X (by simpa only [obs,oms] using B) bf ah h
    ·exact h.elim
   ·cases hc
  ·rename_i m T M
   simp only [obs,oms] at hc
   obtain ⟨z,X,n,S,qs,B,rfl⟩:=hc
   simp only [xop] at h
   split at h
   ·rename_i cs ah
    exact Yv A J ho M X S B ah h
   ·exact h.elim
  ·cases hc
 case buildSlice t len ps=>
  split at hc
  ·rename_i T M
   simp only [obs] at hc
   obtain ⟨n,S,z,X,qs,B,hc⟩:=hc
   split at hc
   ·rename_i Q
    simp only [sij] at hc;subst hc
    simp only [xop] at h
    obtain ⟨_,h⟩:=h
    split at h
    ·rename_i rows au
     exact Bool.noConfusion (show false=true from j)
    ·exact h.elim
   ·cases hc
  ·cases hc
 case load t x=>
  simp only [obs,oms] at hc
  obtain ⟨g,hg,n,S,q,B,rfl⟩:=hc
  cases g
  ·simp only [Bool.false_eq_true,if_false,xop] at h
   split at h
   ·rename_i rows r off hr
    exact Jp A hG J ho B hg hr h.1 h.2.1 h.2.2
   ·exact h.elim
  ·simp only [if_true,xop] at h
   split at h
   ·rename_i rows r off hr
    exact Jy A hG J ho B hg S hr h.1 h.2.1 h.2.2
   ·exact h.elim
 case store t p x=>
  simp only [obs,oms] at hc
  obtain ⟨g,hg,n,S,p',hp,O,D,rfl⟩:=hc
  simp only [xop] at h
  split at h
  ·rename_i s r off hs
   split at h
   ·rename_i sz rows hL
    exact Bool.noConfusion (show false=true from j)
   ·exact Bool.noConfusion (show false=true from j)
   ·exact h.elim
  ·exact h.elim
 case nilCheck x=>
  simp only [oms] at hc;obtain ⟨q,B,rfl⟩:=hc
  exact Js A J ho B h
 case binOp op t x y ty=>
  split at hc
  ·rename_i M
   simp only [obs,oms] at hc
   obtain ⟨O,D,Y,U,rfl⟩:=hc
   exact z2P A J ho M D U h
  ·split at hc
   ·rename_i M
    simp only [obs,oms] at hc
    obtain ⟨O,D,Y,U,rfl⟩:=hc
    exact VE A J ho rfl (by assumption) D U h
   ·rename_i M
    simp only [obs,oms] at hc
    obtain ⟨O,D,Y,U,rfl⟩:=hc
    exact VE A J ho rfl (by assumption) D U h
   ·rename_i T M
    simp only [obs] at hc
    obtain ⟨n,S,hc⟩:=hc
    split at hc
    ·cases hc
    ·simp only [obs,oms] at hc
     obtain ⟨O,D,Y,U,rfl⟩:=hc
     exact Bool.noConfusion (show false=true from j)
   ·rename_i T M
    simp only [obs] at hc
    obtain ⟨n,S,hc⟩:=hc
    split at hc
    ·cases hc
    ·simp only [obs,oms] at hc
     obtain ⟨O,D,Y,U,rfl⟩:=hc
     exact Bool.noConfusion (show false=true from j)
   ·simp only [obs,oms] at hc
    obtain ⟨ks,hk,O,D,Y,U,rfl⟩:=hc
    exact Bool.noConfusion (show false=true from j)
   ·simp only [obs,oms] at hc
    obtain ⟨ks,hk,O,D,Y,U,rfl⟩:=hc
    exact Bool.noConfusion (show false=true from j)
   ·split at hc
    ·simp only [oms] at hc
     obtain ⟨O,D,rfl⟩:=hc
     exact Bool.noConfusion (show false=true from j)
    ·simp only [sij] at hc;subst hc
     exact Bool.noConfusion (show false=true from j)
   ·simp only [obs,oms] at hc
    obtain ⟨k,hk,O,D,rfl⟩:=hc
    exact Bool.noConfusion (show false=true from j)
   ·simp only [obs,oms] at hc
    obtain ⟨k,hk,O,D,rfl⟩:=hc
    exact Bool.noConfusion (show false=true from j)
   ·cases hc
 case range t x=>
  split at hc
  ·simp only [oms] at hc;obtain ⟨q,B,rfl⟩:=hc
   exact Bool.noConfusion (show false=true from j)
  ·simp only [oms] at hc;obtain ⟨q,B,rfl⟩:=hc
   exact Bool.noConfusion (show false=true from j)
  ·cases hc
 case makeMap t r=>
  cases r with
  | none=>simp only [sij] at hc;subst hc;exact Bool.noConfusion (show false=true from j)
  | some r=>cases hc
 case lookup t x i ok=>
  split at hc
  ·simp only [obs,oms] at hc
   obtain ⟨st,af,z,X,O,D,i',hi,rfl⟩:=hc
   exact Bool.noConfusion (show false=true from j)
  ·cases hc
 case mapUpdate t m k v=>
  split at hc
  ·simp only [obs,oms] at hc
   obtain ⟨st,af,m',Z,k',ae,v',aj,rfl⟩:=hc
   exact Bool.noConfusion (show false=true from j)
  ·cases hc
 case insert t m k v=>
  split at hc
  ·simp only [obs,oms] at hc
   obtain ⟨st,af,m',Z,k',ae,v',aj,rfl⟩:=hc
   exact Bool.noConfusion (show false=true from j)
  ·cases hc
 case mapEntry t m k=>
  split at hc
  ·simp only [obs,oms] at hc
   obtain ⟨st,af,z,X,m',Z,k',ae,rfl⟩:=hc
   exact Bool.noConfusion (show false=true from j)
  ·cases hc
 case entryStore t m k v=>
  simp only [obs,oms] at hc
  obtain ⟨m',Z,k',ae,v',aj,rfl⟩:=hc
  exact Bool.noConfusion (show false=true from j)
 case next x b=>
  cases b
  ·simp only [Bool.false_eq_true,if_false,oms] at hc;obtain ⟨q,B,rfl⟩:=hc
   exact Bool.noConfusion (show false=true from j)
  ·simp only [if_true,oms] at hc;obtain ⟨q,B,rfl⟩:=hc
   exact Bool.noConfusion (show false=true from j)
 case unOp op t x=>
  simp only [oms] at hc;obtain ⟨q,B,rfl⟩:=hc
  exact z5j A J ho B h
 case convert s d x=>
  split at hc
  ·rename_i k0 k hs hd
   simp only [oms] at hc;obtain ⟨q,B,rfl⟩:=hc
   simp only [xop] at h
   split at h
   ·rename_i k1 n V;exact Jd A J ho hs hd B V h
   ·exact h.elim
  ·rename_i k0 hs hd
   simp only [oms] at hc;obtain ⟨q,B,rfl⟩:=hc
   simp only [xop] at h
   split at h
   ·rename_i k1 n V;exact WQ A J ho hs hd B V h
   ·exact h.elim
  ·simp only [oms] at hc;obtain ⟨q,B,rfl⟩:=hc
   exact Bool.noConfusion (show false=true from j)
  ·rename_i f k hs hd
   simp only [oms] at hc;obtain ⟨q,B,rfl⟩:=hc
   first | exact Bool.noConfusion (show false=true from j) | exact z3a (g:=g) A J ho hs hd B h
  ·rename_i hs hd
   simp only [oms] at hc;obtain ⟨q,B,rfl⟩:=hc
   simp only [xop] at h
   split at h
   ·rename_i l V;exact Jq A J ho hs hd B V h
   ·exact h.elim
  ·rename_i T hs hd
   split at hc
   ·rename_i hu
    simp only [oms] at hc;obtain ⟨q,B,rfl⟩:=hc
    exact Bool.noConfusion (show false=true from j)
   ·split at hc
    ·simp only [oms] at hc;obtain ⟨q,B,rfl⟩:=hc
     exact Bool.noConfusion (show false=true from j)
    ·cases hc
  ·rename_i T hs hd
   split at hc
   ·rename_i hu
    simp only [oms] at hc;obtain ⟨q,B,rfl⟩:=hc
    exact Bool.noConfusion (show false=true from j)
   ·cases hc
  ·rename_i T dm hs hd
   split at hc
   ·rename_i hu
    simp only [oms] at hc;obtain ⟨q,B,rfl⟩:=hc
    exact Bool.noConfusion (show false=true from j)
   ·cases hc
  ·rename_i t hs hd
   simp only [obs] at hc
   obtain ⟨n,S,hc⟩:=hc
   split at hc
   ·cases hc
   ·rename_i ai
    simp only [oms] at hc;obtain ⟨q,B,rfl⟩:=hc
    exact Bool.noConfusion (show false=true from j)
  ·rename_i t hs hd
   simp only [obs] at hc
   obtain ⟨n,S,hc⟩:=hc
   split at hc
   ·cases hc
   ·rename_i ai
    simp only [oms] at hc;obtain ⟨q,B,rfl⟩:=hc
    exact Bool.noConfusion (show false=true from j)
  ·cases hc
 case fieldAddr s x f=>
  split at hc
  ·rename_i fs hs
   simp only [obs] at hc
   obtain ⟨g,hg,n,S,hc⟩:=hc
   split at hc
   ·cases hc
   ·rename_i ai
    simp only [oms] at hc;obtain ⟨q,B,rfl⟩:=hc
    exact z0Y A J ho hs hg S ai B h
  ·cases hc
 case field s x f=>
  split at hc
  ·rename_i fs hs
   simp only [obs,oms] at hc
   obtain ⟨g,hg,n,S,b,hb,q,B,rfl⟩:=hc
   exact z3v A J ho hs hg S hb B h
  ·cases hc
 case indexAddr t x i=>
  split at hc
  ·rename_i T M
   simp only [obs] at hc
   obtain ⟨n,S,hc⟩:=hc
   split at hc
   ·cases hc
   ·simp only [obs,oms] at hc
    obtain ⟨O,D,i',hi,rfl⟩:=hc
    exact z1f A J ho M S D hi h
  ·rename_i m T M
   simp only [obs,oms] at hc
   obtain ⟨n,S,O,D,i',hi,rfl⟩:=hc
   exact z1h A J ho M S D hi h
  ·cases hc
 case index t x i=>
  split at hc
  ·rename_i M
   simp only [obs,oms] at hc
   obtain ⟨O,D,i',hi,rfl⟩:=hc
   exact z3h A J ho M D hi h
  ·cases hc
 case slice t x lo hi mx=>
  unfold VU at hc
  split at hc
  ·split at hc
   ·rename_i M
    simp only [obs,oms] at hc
    obtain ⟨O,D,l,hl,hh,ag,rfl⟩:=hc
    simp only [xop] at h
    split at h
    ·rename_i s hs
     exact wo A J ho M D hl ag hs h
    ·exact h.elim
   ·rename_i T M
    simp only [obs] at hc
    obtain ⟨n,S,hc⟩:=hc
    split at hc
    ·cases hc
    ·simp only [obs,oms] at hc
     obtain ⟨O,D,l,hl,hh,ag,rfl⟩:=hc
     exact Jh A J ho M S D hl ag h
   ·rename_i m T M
    split at hc
    ·rename_i Q
     obtain ⟨di,ay⟩:=Q
     simp only [obs,oms] at hc
     obtain ⟨O,D,l,hl,rfl⟩:=hc
     cases hi with
     | none=>exact Bool.noConfusion (show false=true from j)
     | some _=>cases ay
    ·cases hc
   ·cases hc
  ·rename_i m
   split at hc
   ·rename_i T M
    simp only [obs] at hc
    obtain ⟨n,S,hc⟩:=hc
    split at hc
    ·rename_i Q
     simp only [Bool.and_eq_true] at Q
     obtain ⟨⟨V,h2⟩,h3⟩:=Q
     simp only [oms] at hc;obtain ⟨q,B,rfl⟩:=hc
     unfold VF at V h2
     split at V
     ·rename_i k1 az
      split at h2
      ·rename_i k2 bi
       cases lo with
       | some l=>cases h3
       | none=>rw [az] at ho;exact jk A J ho M S B h
      ·cases h2
     ·cases V
    ·split at hc
     ·rename_i hp
      split at hc
      ·cases hc
      ·simp only [obs,oms] at hc
       obtain ⟨O,D,l,hl,h',hh,m',Z,rfl⟩:=hc
       first | exact Bool.noConfusion (show false=true from j) | exact z3A (g:=g) A J ho M S D hl hh Z h
     ·cases hc
   ·cases hc
 case makeFunc f xs ys=>
  simp only [obs,oms] at hc
  obtain ⟨dw,D,dh,U,rfl⟩:=hc
  exact z1m A J ho D U h
 case makeSlice t l c=>
  split at hc
  ·rename_i T M
   simp only [obs] at hc
   obtain ⟨n,S,z,X,m,Z,l',hl,c',ak,hc⟩:=hc
   split at hc
   ·rename_i Q
    simp only [sij] at hc;subst hc
    simp only [xop] at h
    split at h
    ·rename_i k1 n1 k2 n2 V h2
     exact Bool.noConfusion (show false=true from j)
    ·exact h.elim
   ·cases hc
  ·cases hc
 case extract t i=>
  simp only [oms] at hc;obtain ⟨q,B,rfl⟩:=hc
  exact z3y A J ho B h
 case makeInterface t x=>
  split at hc
  ·simp only [oms] at hc;obtain ⟨q,B,rfl⟩:=hc
   exact Bool.noConfusion (show false=true from j)
  ·cases hc
 case typeAssert x st t ok=>
  split at hc
  ·cases hc
  ·split at hc
   ·simp only [oms] at hc;obtain ⟨q,B,rfl⟩:=hc
    exact Bool.noConfusion (show false=true from j)
   ·cases hc
  ·cases hc
 case panic x=>
  simp only [oms] at hc;obtain ⟨q,B,rfl⟩:=hc
  exact Bool.noConfusion (show false=true from j)
 case call c=>
  unfold z02 at hc
  split at hc
  ·rename_i f I
   simp only [obs,oms] at hc
   obtain ⟨f',hf,as,bu,rfl⟩:=hc
   exact Bool.noConfusion (show false=true from j)
  ·rename_i I
   split at hc
   ·rename_i x u M
    simp only [oms] at hc;obtain ⟨q,B,rfl⟩:=hc
    exact z0M A J ho I u M B h
   ·rename_i x T u M
    simp only [oms] at hc;obtain ⟨q,B,rfl⟩:=hc
    exact z2L A J ho I u M B h
   ·cases hc
  ·rename_i I
   split at hc
   ·rename_i s x T bz u V h2
    simp only [obs] at hc
    obtain ⟨s',hs,O,D,n,S,m,Z,z,X,hc⟩:=hc
    split at hc
    ·split at hc
     ·split at hc
      ·simp only [sij] at hc;subst hc
       exact Bool.noConfusion (show false=true from j)
      ·cases hc
     ·simp only [sij] at hc;subst hc
      exact Bool.noConfusion (show false=true from j)
    ·cases hc
   ·rename_i s x T u V h2
    simp only [obs] at hc
    obtain ⟨s',hs,O,D,n,S,m,Z,z,X,hc⟩:=hc
    split at hc
    ·split at hc
     ·split at hc
      ·simp only [sij] at hc;subst hc
       exact Bool.noConfusion (show false=true from j)
      ·cases hc
     ·simp only [sij] at hc;subst hc
      exact Bool.noConfusion (show false=true from j)
    ·cases hc
   ·cases hc
  ·rename_i I
   split at hc
   ·rename_i d x T u V
    simp only [obs,oms] at hc
    obtain ⟨n,S,d',hd,O,D,rfl⟩:=hc
    exact Bool.noConfusion (show false=true from j)
   ·cases hc
  ·rename_i I
   split at hc
   ·rename_i d T u V
    simp only [obs,oms] at hc
    obtain ⟨z,X,d',hd,rfl⟩:=hc
    exact Bool.noConfusion (show false=true from j)
   ·cases hc
  ·rename_i I
   split at hc
   ·rename_i x u
    simp only [oms] at hc;obtain ⟨q,B,rfl⟩:=hc
    exact Bool.noConfusion (show false=true from j)
   ·cases hc
  ·rename_i I
   split at hc
   ·rename_i x y pt t2 u dn
    split at hc
    ·rename_i T bn
     simp only [obs] at hc
     obtain ⟨O,D,Y,U,hc⟩:=hc
     split at hc
     ·rename_i cu
      simp only [sij] at hc;subst hc
      exact Bool.noConfusion (show false=true from j)
     ·cases hc
    ·cases hc
   ·cases hc
  ·rename_i I
   split at hc
   ·rename_i x u
    simp only [oms] at hc
    obtain ⟨O,D,rfl⟩:=hc
    first | exact Bool.noConfusion (show false=true from j) | exact Vq (im:=false) (g:=g) A J ho I u D h
   ·cases hc
  ·rename_i I
   split at hc
   ·rename_i x u
    simp only [oms] at hc
    obtain ⟨O,D,rfl⟩:=hc
    first | exact Bool.noConfusion (show false=true from j) | exact Vq (im:=true) (g:=g) A J ho I u D h
   ·cases hc
  ·rename_i I
   split at hc
   ·split at hc
    ·simp only [obs,oms] at hc
     obtain ⟨st,af,m',Z,k',ae,rfl⟩:=hc
     exact Bool.noConfusion (show false=true from j)
    ·cases hc
   ·cases hc
  ·rename_i I
   split at hc
   ·simp only [obs,oms] at hc
    obtain ⟨O,D,Y,U,rfl⟩:=hc
    exact Bool.noConfusion (show false=true from j)
   ·cases hc
  ·rename_i I
   split at hc
   ·rename_i x y u
    simp only [obs,oms] at hc
    obtain ⟨O,D,Y,U,rfl⟩:=hc
    exact z2w A J ho I u D U h
   ·cases hc
  ·rename_i I
   split at hc
   ·rename_i x y u
    simp only [obs,oms] at hc
    obtain ⟨O,D,Y,U,rfl⟩:=hc
    exact z2U A J ho I u D U h
   ·cases hc
  ·cases hc
theorem z0u (wf:Wf E.g0 C) (b:Sim C) (hG:E.G C.w) (d:Zr C a e) {x:XO} (hc:Y3 E.P o.op=some x) (h:xop E x e C.L K):Good E C a o K:=
 Jj (.inl rfl) wf b hG d hc (zeK h)
end
section
variable {E:Env} {e:Opd->IV} {L:List Blk} {K:IV->List Blk->Prop}
theorem z2y {ρ ρ':Rho} (x:Opd) (h:∀n∈x.us,ρ n=ρ' n):x.ev ρ=x.ev ρ':=by
 cases x with
 | t n=>exact h n (by simp [Opd.us])
 | _=>rfl
theorem z2j {ρ ρ':Rho}:∀(l:List Opd),(∀n∈usL l,ρ n=ρ' n)->l.map (Opd.ev ρ)=l.map (Opd.ev ρ')
 | [],_=>rfl
 | x::r,h=>by
  simp only [List.map_cons]
  rw [z2y x (fun n b=>h n (by simp [usL,b])),z2j r (fun n b=>h n (by simp only [usL,List.flatMap_cons,List.mem_append];exact .inr b))]
theorem z9n {ρ ρ':Rho} (x:Option Opd) (h:∀n∈usO x,ρ n=ρ' n):x.map (Opd.ev ρ)=x.map (Opd.ev ρ'):=by
 cases x with
 | none=>rfl
 | some x=>simp only [Option.map_some];rw [z2y x h]
theorem z6g {o:XO} {ρ ρ':Rho} (h:∀n∈o.us,ρ n=ρ' n):xop E o (Opd.ev ρ) L K=xop E o (Opd.ev ρ') L K:=by
 have j:∀{x:Opd},(∀n,n∈x.us->n∈o.us)->x.ev ρ=x.ev ρ':=fun {x} m=>z2y x fun n d=>h n (m n d)
 have s:∀{x:Option Opd},(∀n,n∈usO x->n∈o.us)->x.map (Opd.ev ρ)=x.map (Opd.ev ρ'):=fun {x} m=>z9n x fun n d=>h n (m n d)
 have q:∀{l:List Opd},(∀n,n∈usL l->n∈o.us)->l.map (Opd.ev ρ)=l.map (Opd.ev ρ'):=fun {l} m=>z2j l fun n d=>h n (m n d)
 cases o with
 | mov x | box x | load1 x | loadN _ x | nilck x | un _ x | cvInt _ x | cvIntStr x | cvStr x | fldA _ x | fld _ _ _ x | slice0 x | len x | lenS x | isNil _ _ x | rng x | nxt x | ext x _=>
  simp only [xop,j (x:=x) (fun n d=>d)]
 | pick c x y=>
  simp only [xop]
  rw [j (x:=c) (fun n d=>by simp [XO.us,d]),j (x:=x) (fun n d=>by simp [XO.us,d]),j (x:=y) (fun n d=>by simp [XO.us,d])]
 | alloc z=>rfl
 | build z ps=>
  simp only [xop]
  have:(ps.map fun p=>(p.1,p.2.1,p.2.2.ev ρ))=ps.map fun p=>(p.1,p.2.1,p.2.2.ev ρ'):=
   List.map_congr_left fun p r=>by rw [j (x:=p.2.2) (fun n d=>by simp only [XO.us,List.mem_flatMap];exact ⟨p,r,d⟩)]
  rw [this]
 | bslice sz z len ps=>
  simp only [xop]
  have:(ps.map fun p=>(p.1,p.2.ev ρ))=ps.map fun p=>(p.1,p.2.ev ρ'):=
   List.map_congr_left fun p r=>by rw [j (x:=p.2) (fun n d=>by simp only [XO.us,List.mem_flatMap];exact ⟨p,r,d⟩)]
  rw [this]
 | store _ x y | bin _ x y | eqB _ x y | idxS _ x y | idxA _ _ x y | idx x y | mkslice _ _ x y | append _ _ x y | max2 x y | min2 x y=>
  simp only [xop]
  rw [j (x:=x) (fun n d=>by simp [XO.us,d]),j (x:=y) (fun n d=>by simp [XO.us,d])]
 | slice _ x lo hi | sliceS x lo hi=>
  simp only [xop]
  rw [j (x:=x) (fun n d=>by simp [XO.us,d]),s (x:=lo) (fun n d=>by simp [XO.us,d]),s (x:=hi) (fun n d=>by simp [XO.us,d])]
 | mkfn f a b=>
  simp only [xop]
  rw [q (l:=a) (fun n d=>by simp [XO.us,d]),q (l:=b) (fun n d=>by simp [XO.us,d])]
 | call f as | pcall f as=>
  simp only [xop]
  rw [j (x:=f) (fun n d=>by simp [XO.us,d]),q (l:=as) (fun n d=>by simp [XO.us,d])]
 | ex k xs=>
  simp only [xop]
  rw [q (l:=xs) (fun n d=>by simpa [XO.us] using d)]
theorem z6X {op:BinOp} {x y:IV} {Q:IV->Prop} (h:vU op x y Q):∃r,Q r/\∀Q':IV->Prop,Q' r->vU op x y Q':=by
 unfold vU at h
 split at h<;>first
  | exact ⟨_,h,fun _ b=>b⟩
  | exact ⟨_,h.2,fun _ b=>⟨h.1,b⟩⟩
  | exact ⟨_,h.2.2,fun _ b=>⟨h.1,h.2.1,b⟩⟩
  | (obtain ⟨r,j,d⟩:=h;exact ⟨_,d,fun _ b=>by rw [z2W];exact ⟨r,j,b⟩⟩)
  | exact h.elim
theorem zay {op:UnOp} {x:IV} {Q:IV->Prop} (h:xun op x Q):∃r,Q r/\∀Q':IV->Prop,Q' r->xun op x Q':=by
 unfold xun at h
 split at h<;>first
  | (obtain ⟨r,j,d⟩:=h;exact ⟨_,d,fun _ b=>⟨r,j,b⟩⟩)
  | exact ⟨_,h,fun _ b=>b⟩
  | exact h.elim
theorem Zt {x:Option IV} {d:Nat} {Q:Nat->Prop} (h:bnd x d Q):∃n,Q n/\∀Q':Nat->Prop,Q' n->bnd x d Q':=by
 unfold bnd at h
 split at h<;>first
  | exact ⟨_,h,fun _ b=>b⟩
  | exact ⟨_,h.2,fun _ b=>⟨h.1,b⟩⟩
  | exact h.elim
theorem zbz {k:XX} {vs:List IV} {g:Nat} (b:k.kd=0) (h:xex E k vs g L K):∃r,K r L/\∀(l:Nat) (L':List Blk) (K':IV->List Blk->Prop),K' r L'->xex E k vs l L' K':=by
 cases k<;>simp only [XX.kd] at b<;>try (exact absurd b (by decide))
 case mkif t=>
  simp only [xex] at h ⊢
  split at h<;>try exact h.elim
  exact ⟨_,h,fun _ _ _ b=>b⟩
 case sdata=>
  simp only [xex] at h ⊢
  split at h<;>try exact h.elim
  ·exact ⟨_,h,fun _ _ _ b=>b⟩
  ·exact ⟨_,h,fun _ _ _ b=>b⟩
  ·exact ⟨_,h.2,fun _ _ _ b=>⟨h.1,b⟩⟩
 case itof f=>
  simp only [xex] at h ⊢
  split at h<;>try exact h.elim
  exact ⟨_,h,fun _ _ _ b=>b⟩
 case cpx=>
  simp only [xex] at h ⊢
  split at h<;>try exact h.elim
  exact ⟨_,h.2,fun _ _ _ b=>⟨h.1,b⟩⟩
 case ru op=>
  simp only [xex] at h ⊢
  split at h<;>try exact h.elim
  obtain ⟨r,j,d⟩:=h
  exact ⟨_,d,fun _ _ _ b=>⟨r,j,b⟩⟩
 all_goals
  simp only [xex] at h ⊢
  split at h<;>(try exact h.elim)
  split at h<;>(try exact h.elim)
  exact ⟨_,h,fun _ _ _ b=>b⟩
theorem z3u {o:XO} (d:o.kd=0) (h:xop E o e L K):∃r,K r L/\∀(L':List Blk) (K':IV->List Blk->Prop),K' r L'->xop E o e L' K':=by
 cases o<;>simp only [XO.kd] at d<;>try (exact absurd d (by decide))
 case isNil A neg x=>
  split at d
  ·rename_i q
   subst q
   simp only [xop,z9O] at h ⊢
   split at h<;>first | exact h.elim | (rename_i w _;exact absurd w (by decide)) | (rename_i w _ _;exact absurd w (by decide)) | skip
   all_goals first | exact ⟨_,h,fun _ _ d=>d⟩ | (simp_all;done)
  ·exact absurd d (by decide)
 case mov x=>exact ⟨_,h,fun _ _ d=>d⟩
 case mkfn f a b=>exact ⟨_,h,fun _ _ d=>d⟩
 case bin op x y=>
  simp only [xop] at h ⊢
  obtain ⟨r,m,j⟩:=z6X h
  exact ⟨r,m,fun L' K' d=>j (fun v=>K' v L') d⟩
 case un op x=>
  simp only [xop] at h ⊢
  obtain ⟨r,m,j⟩:=zay h
  exact ⟨r,m,fun L' K' d=>j (fun v=>K' v L') d⟩
 case sliceS x lo hi=>
  simp only [xop] at h ⊢
  split at h
  ·rename_i s hs
   obtain ⟨l,h,m⟩:=Zt h
   obtain ⟨hh,h,j⟩:=Zt h
   exact ⟨_,h.2.2,fun L' K' d=>m _ (j _ ⟨h.1,h.2.1,d⟩)⟩
  ·exact h.elim
 case fld off n agg x=>
  simp only [xop] at h ⊢
  split at h
  ·obtain ⟨m,j⟩:=h
   cases agg
   ·simp only [Bool.false_eq_true,if_false] at j ⊢
    exact ⟨_,j.2,fun _ _ d=>⟨m,j.1,d⟩⟩
   ·simp only [if_true] at j ⊢
    exact ⟨_,j,fun _ _ d=>⟨m,d⟩⟩
  ·exact h.elim
 all_goals
  simp only [xop] at h ⊢
  (try split at h)<;>first
   | exact h.elim
   | exact ⟨_,h,fun _ _ d=>d⟩
   | exact ⟨_,h.2,fun _ _ d=>⟨h.1,d⟩⟩
   | exact ⟨_,h.2.2,fun _ _ d=>⟨h.1,h.2.1,d⟩⟩
   | (obtain ⟨r,m,j⟩:=zbz (by simpa [XO.kd] using d) h;exact ⟨r,m,fun L' K' u=>j _ L' K' u⟩)
   | skip
theorem yR {b:Blk} {s:Nat} {k:Blk} (h:L[s]?=some k):(L++[b])[s]?=some k:=by
 rw [List.getElem?_append_left (zk h)];exact h
theorem Jo {gl:Nat->Option (List IV)} {x:IV} {b:Blk} {y:List (List IV) × Nat × Nat} (h:Zj gl L x=some y):Zj gl (L++[b]) x=some y:=by
 unfold Zj at h ⊢
 split at h
 ·exact h
 ·split at h
  ·rename_i hs;simp only [yR hs];exact h
  ·rename_i hs;simp only [yR hs];exact h
  ·cases h
 ·exact h
 ·cases h
theorem z3G {x:IV} {b:Blk} {y:List (List IV)} (h:rowsOf L x=some y):rowsOf (L++[b]) x=some y:=by
 unfold rowsOf at h ⊢
 split at h
 ·exact h
 ·exact h
 ·split at h
  ·rename_i hs;simp only [yR hs];exact h
  ·rename_i hs;simp only [yR hs];exact h
  ·cases h
 ·exact h
 ·exact h
 ·cases h
theorem z3Q {x:IV} {b:Blk} {y:List (List IV)} (h:yu L x=some y):yu (L++[b]) x=some y:=by
 unfold yu at h ⊢
 split at h
 ·cases h
 ·exact z3G h
theorem z2Q {s m:Nat} {b:Blk} (h:vJ L s=some m):vJ (L++[b]) s=some m:=by
 unfold vJ at h ⊢
 split at h
 ·rename_i hs;simp only [yR hs];exact h
 ·rename_i hs;simp only [yR hs];exact h
 ·cases h
theorem YB:∀(n:Nat) (x:IV) (L L':List Blk),conv L n zt x=conv L' n zt x
 | 0,_,_,_=>rfl
 | n+1,x,L,L'=>by
  have b:zF (conv L n zt)=zF (conv L' n zt):=by
   congr 1;funext y;exact YB n y L L'
  cases x<;>simp only [conv,zt,b]
  case iface t v=>rw [YB n v L L']
theorem yf {α j:Type} {f g:α->Option j} (h:∀x y,f x=some y->g x=some y):∀{l:List α} {b:List j},zF f l=some b->zF g l=some b
 | [],_,hl=>hl
 | x::r,b,hl=>by
  simp only [zF] at hl ⊢
  split at hl
  ·rename_i y m
   split at hl
   ·rename_i q d
    rw [h _ _ m,yf h d];exact hl
   ·cases hl
  ·cases hl
theorem wV {L L':List Blk} (u:∀(s:Nat) (k:Blk),L[s]?=some k->L'[s]?=some k):∀(n:Nat) (m:Ren) (x y:IV),conv L n m x=some y->conv L' n m x=some y
 | 0,_,_,_,h=>h
 | n+1,m,x,y,h=>by
  have A:∀(m:Ren) {l w:List IV},zF (conv L n m) l=some w->zF (conv L' n m) l=some w:=fun m=>yf fun x y=>wV u n m x y
  have B:∀(m:Ren) {l w:List (List IV)},zF (zF (conv L n m)) l=some w->zF (zF (conv L' n m)) l=some w:=fun m=>yf fun x y=>A m
  cases x with
  | ptr s r o=>
   simp only [conv] at h ⊢
   split at h
   ·exact h
   ·split at h
    ·rename_i hs
     rw [u _ _ hs]
     simp only [oms] at h ⊢
     obtain ⟨a,d,j⟩:=h
     exact ⟨a,B _ d,j⟩
    ·rename_i hs
     rw [u _ _ hs]
     simp only [oms] at h ⊢
     obtain ⟨a,d,j⟩:=h
     exact ⟨a,B _ d,j⟩
    ·cases h
   ·cases h
  | sl s off len cap=>
   simp only [conv] at h ⊢
   split at h
   ·exact h
   ·split at h
    ·rename_i hs
     rw [u _ _ hs]
     simp only
     split at h
     ·rename_i q
      rw [if_pos q]
      simp only [oms] at h ⊢
      obtain ⟨a,d,j⟩:=h
      exact ⟨a,B _ d,j⟩
     ·cases h
    ·rename_i hs
     rw [u _ _ hs]
     simp only
     split at h
     ·rename_i q
      rw [if_pos q]
      simp only [oms] at h ⊢
      obtain ⟨a,d,j⟩:=h
      exact ⟨a,B _ d,j⟩
     ·cases h
    ·cases h
   ·cases h
  | agg cs=>simp only [conv,oms] at h ⊢;obtain ⟨a,d,j⟩:=h;exact ⟨a,A _ d,j⟩
  | tup cs=>simp only [conv,oms] at h ⊢;obtain ⟨a,d,j⟩:=h;exact ⟨a,A _ d,j⟩
  | fn f a b=>
   simp only [conv] at h ⊢
   split at h
   ·rename_i ha D
    rw [A _ ha,A _ D];exact h
   ·cases h
  | iface t v=>simp only [conv,oms] at h ⊢;obtain ⟨a,d,j⟩:=h;exact ⟨a,wV u n m v a d,j⟩
  | _=>exact h
theorem JX:∀(n:Nat) (x y:IV),conv L n zt x=some y->conv L n zW x=some y
 | 0,_,_,h=>h
 | n+1,x,y,h=>by
  have m:∀{l q:List IV},zF (conv L n zt) l=some q->zF (conv L n zW) l=some q:=yf fun x y=>JX n x y
  cases x with
  | ptr s r o=>simp only [conv,zt] at h;cases h
  | sl s off len cap=>simp only [conv,zt] at h;cases h
  | mp s=>simp only [conv,zt] at h;cases h
  | yld s=>simp only [conv,zt] at h;cases h
  | agg cs=>simp only [conv,oms] at h ⊢;obtain ⟨a,d,j⟩:=h;exact ⟨a,m d,j⟩
  | tup cs=>simp only [conv,oms] at h ⊢;obtain ⟨a,d,j⟩:=h;exact ⟨a,m d,j⟩
  | fn f a b=>
   simp only [conv] at h ⊢
   split at h
   ·rename_i ha u
    rw [m ha,m u];exact h
   ·cases h
  | iface t v=>simp only [conv,oms] at h ⊢;obtain ⟨a,d,j⟩:=h;exact ⟨a,JX n v a d,j⟩
  | _=>exact h
theorem zbP {k:XX} {vs:List IV} {g:Nat} (d:k.kd=1) (h:xex E k vs g L K):∃r,K r L/\(∀(l:Nat) (K':IV->List Blk->Prop),K' r L->xex E k vs l L K')/\
  ∀(l:Nat) (b:Blk) (K':IV->List Blk->Prop),K' r (L++[b])->xex E k vs l (L++[b]) K':=by
 cases k<;>simp only [XX.kd] at d<;>try (exact absurd d (by decide))
 case mlook st zero ok=>
  simp only [xex] at h ⊢
  split at h
  ·exact ⟨_,h.2,fun _ _ d=>⟨h.1,d⟩,fun _ _ _ d=>⟨h.1,d⟩⟩
  ·rename_i m k A
   unfold V4 Y9 at h ⊢
   split at h
   ·rename_i s
    obtain ⟨j,h⟩:=h
    split at h
    ·rename_i B c u
     split at h
     ·rename_i r q
      cases r with
      | none=>
       refine ⟨_,h,fun _ K' d=>⟨j,?_⟩,fun _ b K' d=>⟨j,?_⟩⟩
       ·simp only [];exact d
       ·simp only [yR u,q];exact d
      | some i=>
       refine ⟨_,h,fun _ K' d=>⟨j,?_⟩,fun _ b K' d=>⟨j,?_⟩⟩
       ·simp only [];exact d
       ·simp only [yR u,q];exact d
     ·exact h.elim
    ·exact h.elim
   ·exact h.elim
  ·exact h.elim
 case bStr=>
  simp only [xex] at h ⊢
  split at h<;>try exact h.elim
  split at h<;>try exact h.elim
  rename_i v s hs
  refine ⟨_,h,fun l K' d=>d,fun l b K' d=>?_⟩
  obtain ⟨rs,j,w⟩:=Option.bind_eq_some_iff.1 hs
  rw [z3Q j,Option.bind_some,w]
  exact d
theorem z4u {o:XO} (d:o.kd=1) (h:xop E o e L K):∃r,K r L/\(∀K':IV->List Blk->Prop,K' r L->xop E o e L K')/\∀(b:Blk) (K':IV->List Blk->Prop),K' r (L++[b])->xop E o e (L++[b]) K':=by
 cases o<;>simp only [XO.kd] at d<;>try (exact absurd d (by decide))
 case isNil=>split at d<;>exact absurd d (by decide)
 case load1 x=>
  simp only [xop] at h ⊢
  split at h
  ·rename_i rows r off G
   refine ⟨_,h.2.2,fun K' d=>?_,fun b K' d=>?_⟩
   ·exact ⟨h.1,h.2.1,d⟩
   ·simp only [Jo G];exact ⟨h.1,h.2.1,d⟩
  ·exact h.elim
 case loadN n x=>
  simp only [xop] at h ⊢
  split at h
  ·rename_i rows r off G
   refine ⟨_,h.2.2,fun K' d=>?_,fun b K' d=>?_⟩
   ·exact ⟨h.1,h.2.1,d⟩
   ·simp only [Jo G];exact ⟨h.1,h.2.1,d⟩
  ·exact h.elim
 case idxS m x i=>
  simp only [xop] at h ⊢
  split at h
  ·exact ⟨_,h.2.2.2,fun K' d=>⟨h.1,h.2.1,h.2.2.1,d⟩,fun b K' d=>⟨h.1,h.2.1,h.2.2.1,d⟩⟩
  ·exact ⟨_,h.2.2.2,fun K' d=>⟨h.1,h.2.1,h.2.2.1,d⟩,fun b K' d=>⟨z2Q h.1,h.2.1,h.2.2.1,d⟩⟩
  ·exact h.elim
 case slice m x lo hi=>
  simp only [xop] at h ⊢
  split at h
  ·obtain ⟨u,h⟩:=h
   obtain ⟨l,h,q⟩:=Zt h
   obtain ⟨hh,h,j⟩:=Zt h
   exact ⟨_,h.2.2,fun K' d=>⟨u,q _ (j _ ⟨h.1,h.2.1,d⟩)⟩,fun b K' d=>⟨u,q _ (j _ ⟨h.1,h.2.1,d⟩)⟩⟩
  ·obtain ⟨u,h⟩:=h
   obtain ⟨l,h,q⟩:=Zt h
   obtain ⟨hh,h,j⟩:=Zt h
   exact ⟨_,h.2.2,fun K' d=>⟨u,q _ (j _ ⟨h.1,h.2.1,d⟩)⟩,fun b K' d=>⟨z2Q u,q _ (j _ ⟨h.1,h.2.1,d⟩)⟩⟩
  ·obtain ⟨l,h,q⟩:=Zt h
   obtain ⟨hh,h,j⟩:=Zt h
   exact ⟨_,h.2.2,fun K' d=>q _ (j _ ⟨h.1,h.2.1,d⟩),fun b K' d=>q _ (j _ ⟨h.1,h.2.1,d⟩)⟩
  ·obtain ⟨l,h,q⟩:=Zt h
   obtain ⟨hh,h,j⟩:=Zt h
   exact ⟨_,h.2.2,fun K' d=>q _ (j _ ⟨h.1,h.2.1,d⟩),fun b K' d=>q _ (j _ ⟨h.1,h.2.1,d⟩)⟩
  ·exact h.elim
 case pcall f as=>
  simp only [xop] at h ⊢
  split at h
  ·rcases h with ⟨I,args',r,q,j,u,A,B⟩ | ⟨r,q,j,B⟩
   ·exact ⟨r,B,fun K' d=>.inl ⟨I,args',r,q,j,u,A,d⟩,fun b K' d=>.inl ⟨I,args',r,yf (fun x y=>wV (fun s k hs=>yR hs) fuel _ x y) q,j,u,A,d⟩⟩
   ·refine ⟨r,B,fun K' d=>.inr ⟨r,q,j,d⟩,fun b K' d=>.inr ⟨r,?_,fun L' ha=>j L' fun i hi=>?_,d⟩⟩
    ·have D:conv (L++[b]) fuel zt=conv L fuel zt:=by funext y;exact YB fuel y _ _
     rw [D];exact q
    ·rw [ha i (by rw [lla];omega),List.getElem?_append_left hi]
  ·exact h.elim
 case ex k xs=>
  obtain ⟨r,q,j,A⟩:=zbP (by simpa [XO.kd] using d) h
  exact ⟨r,q,fun K' w=>j _ K' w,fun b K' w=>A _ b K' w⟩
theorem z4I {o:XO} (d:o.kd=2) (h:xop E o e L K):∃r b,K r (L++[b])/\∀K':IV->List Blk->Prop,K' r (L++[b])->xop E o e L K':=by
 cases o<;>simp only [XO.kd] at d<;>try (exact absurd d (by decide))
 case isNil=>split at d<;>exact absurd d (by decide)
 case alloc z=>exact ⟨_,_,h,fun K' d=>d⟩
 case box x=>exact ⟨_,_,h,fun K' d=>d⟩
 case ex k xs=>
  cases k<;>first | (simp [XX.kd] at d;done) | skip
  simp only [xop,xex] at h ⊢
  split at h
  ·rename_i s hs
   rw [zB] at h
   refine ⟨_,_,h.2,fun K' d=>⟨h.1,?_⟩⟩
   rw [zB];exact d
  ·exact h.elim
theorem zbs {o:XO} (b:o.kd=3) (h:xop E o e L K):∃r L',K r L'/\∀K':IV->List Blk->Prop,K' r L'->xop E o e L K':=by
 cases o<;>simp only [XO.kd] at b<;>try (exact absurd b (by decide))
 case isNil=>split at b<;>exact absurd b (by decide)
 case store n x y=>
  simp only [xop] at h ⊢
  split at h
  ·split at h
   ·exact ⟨_,_,h.2.2.2.2,fun K' b=>⟨h.1,h.2.1,h.2.2.1,h.2.2.2.1,b⟩⟩
   ·exact ⟨_,_,h.2.2.2.2,fun K' b=>⟨h.1,h.2.1,h.2.2.1,h.2.2.2.1,b⟩⟩
   ·exact h.elim
  ·exact h.elim
 case ex k xs=>
  cases k<;>first | (simp [XX.kd] at b;done) | skip
  case ustr ty=>
   simp only [xop,xex] at h ⊢
   split at h
   ·exact ⟨_,_,h.2,fun K' b=>⟨h.1,b⟩⟩
   ·unfold zcc at h ⊢
    obtain ⟨q,l,h⟩:=h
    split at h
    ·obtain ⟨w,u,d,j,m,h⟩:=h
     split at h
     ·rename_i s
      refine ⟨_,_,h,fun K' b=>⟨q,l,?_⟩⟩
      simp only [*]
      exact ⟨trivial,trivial,trivial,by simpa [d] using j,by simpa [d] using m,trivial⟩
     ·exact h.elim
    ·exact h.elim
   ·exact h.elim
theorem z4y {o:XO} (m:o.kd<4) (h:xop E o e L K):∃r L',K r L'/\∀K':IV->List Blk->Prop,K' r L'->xop E o e L K':=by
 have q:o.kd=0\/o.kd=1\/o.kd=2\/o.kd=3:=by omega
 rcases q with d | d | d | d
 ·obtain ⟨r,l,j⟩:=z3u d h;exact ⟨r,L,l,fun K' m=>j L K' m⟩
 ·obtain ⟨r,l,j,_⟩:=z4u d h;exact ⟨r,L,l,j⟩
 ·obtain ⟨r,b,l,j⟩:=z4I d h;exact ⟨r,_,l,j⟩
 ·exact zbs d h
theorem XT.mono {f:FuncId} {args:List IV} {L:List Blk} {R R':IV->List Blk->Prop} (h:XT E f args L R) (s:∀r L',R r L'->R' r L'):XT E f args L R':=
 ⟨h.1,fun w l X vs wf b hG q m=>(h.2 w l X vs wf b hG q m).mono fun e w' ⟨r,L',d,v,u,j⟩=>⟨r,L',d,v,s _ _ u,j⟩⟩
theorem XTP.mono {f:FuncId} {args:List IV} {L:List Blk} {R R' Q Q':IV->List Blk->Prop} (h:XTP E f args L R Q) (B:∀r L',R r L'->R' r L') (l:∀r L',Q r L'->Q' r L'):XTP E f args L R' Q':=
 ⟨h.1,fun w q X vs wf b hG A u=>(h.2 w q X vs wf b hG A u).mono fun e w' ⟨r,L',d,v,D,m,s,j,G⟩=>⟨r,L',d,v,D,m,s,j,G.imp (fun h=>⟨B _ _ h.1,h.2⟩) (fun h=>⟨l _ _ h.1,h.2⟩)⟩⟩
theorem ZP {f:FuncId} {args args':List IV} {L:List Blk} {K:IV->List Blk->Prop} {r:IV} (hc:zF (conv L fuel zt) args=some args') (h:ZH E f args' r) (d:conv [] fuel (yx L.length) r=some r)
  (m:K r L):WU E f args L K:=
 .inl ⟨false,args',hc,h.mono fun l L1 ⟨j,b⟩=>by
  subst j;subst b
  exact ⟨by simp,l,[],d,rfl,by simpa using m⟩⟩
theorem z1X {o:XO} (h:xop E o.toP e L K):xop E o e L K:=by
 cases o<;>simp only [XO.toP] at h<;>try exact h
 simp only [xop] at h ⊢
 split at h
 ·rename_i s
  simp only [s]
  rcases h with ⟨I,args',r,A,b,Q,D,d⟩ | ⟨r,A,b,d⟩
  ·cases I
   ·exact ZP A b (D _) d
   ·exact .inl ⟨true,args',A,b.mono fun T L1 ⟨B,j⟩=>by
     subst B;subst j
     exact ⟨fun _=>⟨Q rfl,rfl⟩,_,[],D _,rfl,by simpa using d⟩⟩
  ·refine .inr (.inr (.inr (.inl ⟨(b L fun _ _=>rfl).1,fun w J X vs wf l hG S O=>((b L fun _ _=>rfl).2 w J X vs wf l hG S O).mono fun e w' ⟨T,L',u,v,⟨B,j⟩,M,G,U,m,q⟩=>?_⟩)))
   subst B;subst j
   exact ⟨_,_,u,v,G,U,m,q,.inl ⟨d,M⟩⟩
 ·exact h.elim
end
section
variable {E:Env}
theorem z3O {f:FuncId} {args:List IV} {L:List Blk} {K K':IV->List Blk->Prop} (q:∀v L',K v L'->K' v L') (h:WU E f args L K):WU E f args L K':=by
 rcases h with ⟨b,args',d,j⟩ | ⟨r,d,j⟩ | ⟨B,U,b,args',L0,d,j,m,l,I,s⟩ | d | d
 case inr.inr.inr.inl=>exact .inr (.inr (.inr (.inl (d.mono (fun r L1 h=>q _ _ h) fun _ _ h=>h))))
 case inr.inr.inr.inr=>exact .inr (.inr (.inr (.inr fun w O X vs wf u hG T S=>by
  obtain ⟨r,L',D,v,w',j,m,l⟩:=d w O X vs wf u hG T S
  exact ⟨r,L',D,v,w',j,q _ _ m,l⟩)))
 case inr.inl=>exact .inr (.inl ⟨r,d,q _ _ j⟩)
 case inr.inr.inl=>exact .inr (.inr (.inl ⟨B,U,b,args',L0,d,j,m,l,I,s.mono (fun r L1 ⟨Q,G,L1',J,M,A⟩=>⟨Q,G,L1',J,M,q _ _ A⟩) fun _ _ h=>h⟩))
 exact .inl ⟨b,args',d,j.mono fun r L1 ⟨m,G,L1',l,I,s⟩=>⟨m,G,L1',l,I,q _ _ s⟩⟩
theorem z5t {op:BinOp} {x y:IV} {K K':IV->Prop} (b:∀v,K v->K' v) (h:vU op x y K):vU op x y K':=by
 unfold vU at *
 split at h
 all_goals first | exact ⟨h.1,b _ h.2⟩ | exact ⟨h.1,h.2.1,b _ h.2.2⟩ | exact h.imp fun _ h=>⟨h.1,b _ h.2⟩ | exact b _ h | exact h.elim
theorem z8m {op:UnOp} {x:IV} {K K':IV->Prop} (b:∀v,K v->K' v) (h:xun op x K):xun op x K':=by
 unfold xun at *
 split at h
 all_goals first | exact h.imp fun _ h=>⟨h.1,b _ h.2⟩ | exact b _ h | exact h.elim
theorem YP {x:Option IV} {d:Nat} {K K':Nat->Prop} (b:∀v,K v->K' v) (h:bnd x d K):bnd x d K':=by
 unfold bnd at *
 split at h
 all_goals first | exact b _ h | exact ⟨h.1,b _ h.2⟩ | exact h.elim
theorem z0N {sz by_:Nat} {s x:IV} {L:List Blk} {K K':IV->List Blk->Prop} (l:∀v L',K v L'->K' v L') (h:ZN sz by_ s x L K):ZN sz by_ s x L K':=by
 unfold ZN at *
 split
 ·simp_all
 ·rename_i rs u
  rw [u] at h
  refine ⟨h.1,?_⟩
  have b:=h.2
  split
  ·exact ⟨fun h=>l _ _ (b.1 h),fun h=>⟨(b.2 h).1,l _ _ (b.2 h).2⟩⟩
  ·exact ⟨fun h=>l _ _ (b.1 h),fun h=>⟨(b.2 h).1,l _ _ (b.2 h).2⟩⟩
  ·rename_i t off len cap
   simp only at b
   split
   ·rename_i r rows w
    simp only [w] at b
    obtain ⟨m,A,j⟩:=b
    refine ⟨m,A,?_⟩
    split
    ·rename_i d;rw [if_pos d] at j;exact l _ _ j
    ·rename_i d;rw [if_neg d] at j;exact ⟨j.1,l _ _ j.2⟩
   ·rename_i w
    split at b
    ·rename_i r rows q;exact absurd q (w _ _)
    ·exact b
  ·split at b
   ·rename_i m _ _;exact absurd rfl m
   ·rename_i m _;exact absurd rfl (by assumption)
   ·rename_i t off len cap m A j;exact absurd rfl (j _ _ _ _)
   ·exact b
theorem z0m {sz by_ g:Nat} {m:List Blk->Blk->List Blk} {s x:IV} {L:List Blk} {K K':IV->List Blk->Prop} (l:∀v L',K v L'->K' v L') (h:Zl sz by_ s x g m L K):Zl sz by_ s x g m L K':=by
 unfold Zl at *
 split
 ·simp_all
 ·rename_i rs w
  rw [w] at h
  refine ⟨h.1,?_⟩
  have b:=h.2
  split
  ·exact ⟨fun h=>l _ _ (b.1 h),fun h=>⟨(b.2 h).1,l _ _ (b.2 h).2⟩⟩
  ·exact ⟨fun h=>l _ _ (b.1 h),fun h=>⟨(b.2 h).1,l _ _ (b.2 h).2⟩⟩
  ·rename_i t off len cap
   simp only at b
   split
   ·rename_i u rows A
    simp only [A] at b
    obtain ⟨q,B,j⟩:=b
    refine ⟨q,B,?_⟩
    split
    ·rename_i d;rw [if_pos d] at j;exact l _ _ j
    ·rename_i d;rw [if_neg d] at j;exact ⟨j.1,l _ _ j.2⟩
   ·rename_i A
    split at b
    ·rename_i u rows r;exact absurd r (A _ _)
    ·exact b
  ·split at b
   ·rename_i q _ _;exact absurd rfl q
   ·rename_i q _;exact absurd rfl (by assumption)
   ·rename_i t off len cap q B j;exact absurd rfl (j _ _ _ _)
   ·exact b
theorem z4i {ty bytes g:Nat} {s x:IV} {L:List Blk} {K K':IV->List Blk->Prop} (l:∀v L',K v L'->K' v L') (h:YG ty bytes s x g L K):YG ty bytes s x g L K':=by
 unfold YG at *
 split at h<;>try exact h.elim
 refine ⟨h.1,?_⟩
 have d:=h.2
 clear h
 split at d
 ·exact ⟨fun b=>l _ _ (d.1 b),fun b=>⟨(d.2 b).1,l _ _ (d.2 b).2⟩⟩
 ·exact ⟨fun b=>l _ _ (d.1 b),fun b=>⟨(d.2 b).1,l _ _ (d.2 b).2⟩⟩
 ·refine ⟨d.1,d.2.1,?_⟩
  have j:=d.2.2
  clear d
  split at j<;>try exact j.elim
  ·exact ⟨j.1,j.2.1,j.2.2.1,fun b=>l _ _ (j.2.2.2.1 b),fun b=>⟨(j.2.2.2.2 b).1,l _ _ (j.2.2.2.2 b).2⟩⟩
  ·exact z0m l j
 ·exact d.elim
theorem YV {st:Bool} {m k:IV} {L:List Blk} {F F':Nat->List (IV × IV × Nat)->Nat->Option Nat->Prop} (d:∀s b c r,F s b c r->F' s b c r) (h:Y9 st m k L F):Y9 st m k L F':=by
 unfold Y9 at *
 split at h
 ·refine ⟨h.1,?_⟩
  have h:=h.2
  split at h
  ·split at h
   ·exact d _ _ _ _ h
   ·exact h.elim
  ·exact h.elim
 ·exact h.elim
theorem z8p {k:XX} {vs:List IV} {g:Nat} {L:List Blk} {K K':IV->List Blk->Prop} (b:∀v L',K v L'->K' v L') (h:xex E k vs g L K):xex E k vs g L K':=by
 have w:∀{ty s r o:Nat} {n:Int},zcc ty s r o n L K->zcc ty s r o n L K':=fun h=>by
  refine ⟨h.1,h.2.1,?_⟩
  have d:=h.2.2
  clear h
  split at d<;>try exact d.elim
  refine ⟨d.1,d.2.1,d.2.2.1,d.2.2.2.1,d.2.2.2.2.1,?_⟩
  have m:=d.2.2.2.2.2
  clear d
  split at m<;>try exact m.elim
  exact b _ _ m
 have u:∀{ty n s r o:Nat},z4l ty n s r o L K->z4l ty n s r o L K':=fun h=>by
  refine ⟨h.1,h.2.1,?_⟩
  have d:=h.2.2
  clear h
  split at d<;>try exact d.elim
  exact ⟨d.1,d.2.1,d.2.2.1,b _ _ d.2.2.2⟩
 cases k<;>simp only [xex] at *<;>try exact h
 case allocT=>exact b _ _ h
 case mkif=>split at h<;>first | exact h.elim | exact b _ _ h
 case ru=>split at h<;>first | exact h.imp (fun _ h=>⟨h.1,b _ _ h.2⟩) | exact h.elim
 case itof=>split at h<;>first | exact h.elim | exact b _ _ h
 case cpx=>split at h<;>first | exact h.elim | exact ⟨h.1,b _ _ h.2⟩
 case mmake=>exact b _ _ h
 case mlook=>
  split at h
  ·exact ⟨h.1,b _ _ h.2⟩
  ·exact YV (fun s q c r h=>by cases r<;>exact b _ _ h) h
  ·exact h.elim
 case mset=>split at h<;>first | exact h.elim | exact YV (fun s q c r h=>by cases r<;>exact b _ _ h) h
 case mdel=>split at h<;>first | exact h.elim | exact YV (fun s q c r h=>by cases r<;>exact b _ _ h) h
 case ment=>split at h<;>first | exact h.elim | exact YV (fun s q c r h=>by cases r<;>exact b _ _ h) h
 case msto=>
  split at h
  ·unfold z6Z at *
   split at h
   ·split at h
    ·exact b _ _ h
    ·exact h.elim
   ·exact h.elim
  ·exact h.elim
 case copy=>
  split at h
  ·unfold JH at *
   split at h
   ·split at h
    ·obtain ⟨A,d,m,j⟩:=h
     refine ⟨A,d,fun l=>b _ _ (m l),fun l=>?_⟩
     have j:=j l
     split at j
     ·exact ⟨j.1,j.2.1,b _ _ j.2.2⟩
     ·exact ⟨j.1,j.2.1,b _ _ j.2.2⟩
     ·exact j.elim
    ·exact h.elim
   ·exact h.elim
  ·exact h.elim
 case sla=>
  split at h
  ·split at h
   ·exact ⟨h.1,h.2.1,h.2.2.1,h.2.2.2.1,h.2.2.2.2.1,b _ _ h.2.2.2.2.2⟩
   ·exact h.elim
  ·exact h.elim
 case clr=>
  split at h
  ·unfold zfG at *
   split at h
   ·refine ⟨fun l=>b _ _ (h.1 l),fun l=>?_⟩
    have j:=h.2 l
    split at j
    ·exact ⟨j.1,j.2.1,j.2.2.1,b _ _ j.2.2.2⟩
    ·exact j.elim
   ·exact h.elim
  ·exact h.elim
 case sl3=>split at h<;>first | exact h.elim | exact ⟨h.1,h.2.1,h.2.2.1,h.2.2.2.1,h.2.2.2.2.1,b _ _ h.2.2.2.2.2⟩
 case mrng=>
  split at h
  ·split at h
   ·exact b _ _ h
   ·exact h.elim
  ·exact h.elim
 case mnxt=>
  split at h
  ·split at h
   ·split at h
    ·exact b _ _ h
    ·exact h.elim
   ·exact h.elim
  ·exact h.elim
 case slId=>
  split at h
  ·refine ⟨h.1,?_⟩
   have d:=h.2
   split at d
   ·exact b _ _ d
   ·exact d.elim
  ·exact h.elim
 case strB=>split at h<;>first | exact h.elim | exact ⟨h.1,b _ _ h.2⟩
 case appT=>split at h<;>first | exact h.elim | exact z4i b h
 case sdata=>
  split at h
  ·exact b _ _ h
  ·exact b _ _ h
  ·exact ⟨h.1,b _ _ h.2⟩
  ·exact h.elim
 case ustr=>
  split at h
  ·exact ⟨h.1,b _ _ h.2⟩
  ·exact w h
  ·exact h.elim
 case toU=>split at h<;>first | exact h.elim | exact u h
 case ofU=>split at h<;>first | exact h.elim | exact u h
 case tas=>
  split at h
  ·split at h
   ·rename_i B;rw [if_pos B];exact b _ _ h
   ·exact h.elim
  ·exact h.elim
 all_goals
  split at h<;>try exact h.elim
  split at h<;>try exact h.elim
  exact b _ _ h
theorem ZC {o : XO} {e : Opd → IV} {L : List Blk} {K K' : IV → List Blk → Prop} (hk : ∀ v L', K v L' → K' v L') (h : xop E o e L K) : xop E o e L K' := by
  cases o with
  | bin op x y => exact z5t (fun v hv => hk v L hv) h
  | un op x => exact z8m (fun v hv => hk v L hv) h
  | append sz by_ s x => exact z0N hk h
  | fld off n agg x =>
    simp only [xop] at *
    cases hx : e x <;> simp only [hx] at h ⊢ <;> first | exact h.elim | skip
    refine ⟨h.1, ?_⟩
    have h2 := h.2
    split
    · rename_i hg; rw [if_pos hg] at h2; exact hk _ _ h2
    · rename_i hg; rw [if_neg hg] at h2; exact ⟨h2.1, hk _ _ h2.2⟩
  | store n a x =>
    simp only [xop] at *
    cases hx : e a <;> simp only [hx] at h ⊢ <;> first | exact h.elim | skip
    split at h
    · exact ⟨h.1, h.2.1, h.2.2.1, h.2.2.2.1, hk _ _ h.2.2.2.2⟩
    · exact ⟨h.1, h.2.1, h.2.2.1, h.2.2.2.1, hk _ _ h.2.2.2.2⟩
    · exact h.elim
  | ex k xs => exact z8p hk h
  | slice m x lo hi =>
    simp only [xop] at *
    cases hx : e x <;> simp only [hx] at h ⊢ <;>
      first
        | exact h.elim
        | exact ⟨h.1, YP (fun l => YP fun _ h => ⟨h.1, h.2.1, hk _ _ h.2.2⟩) h.2⟩
        | exact YP (fun l => YP fun _ h => ⟨h.1, h.2.1, hk _ _ h.2.2⟩) h
  | sliceS x lo hi =>
    simp only [xop] at *
    cases hx : e x <;> simp only [hx] at h ⊢ <;>
      first
        | exact h.elim
        | exact YP (fun l => YP fun _ h => ⟨h.1, h.2.1, hk _ _ h.2.2⟩) h
  | call f as =>
    simp only [xop] at *
    split at h
    · exact z3O hk h
    · exact E.hylm _ _ _ _ _ hk h
    · exact h.elim
  | pcall f as =>
    simp only [xop] at *
    split at h
    · rename_i hf
      rcases h with ⟨fz, args', r, h1, h2, h0, h3, h4⟩ | ⟨r, h1, h2, h4⟩
      · exact .inl ⟨fz, args', r, h1, h2, h0, h3, hk _ _ h4⟩
      · exact .inr ⟨r, h1, h2, hk _ _ h4⟩
    · exact h.elim
  | isNil k neg x =>
    simp only [xop] at *
    unfold z9O at *
    split at h <;> first
      | exact hk _ _ h
      | exact ⟨hk _ _ h.1, hk _ _ h.2⟩
      | exact ⟨hk _ _ h.1, fun hr => hk _ _ (h.2 hr)⟩
      | exact h.elim
  | nxt t =>
    simp only [xop] at *
    split at h
    · split at h
      · split at h
        · rename_i h1 _ _ _ h2 h3; simp only [h3, if_true]; exact hk _ _ h
        · rename_i h1 _ _ _ h2 h3; simp only [h3, if_false]; exact hk _ _ h
      · exact h.elim
    · exact h.elim
  | _ =>
    simp only [xop] at *
    first
      | exact hk _ _ h
      | (split at h <;>
          first
            | exact hk _ _ h
            | exact ⟨h.1, hk _ _ h.2⟩
            | exact ⟨h.1, h.2.1, hk _ _ h.2.2⟩
            | exact ⟨h.1, h.2.1, h.2.2.1, hk _ _ h.2.2.2⟩
            | exact ⟨h.1, h.2.1, h.2.2.1, h.2.2.2.1, hk _ _ h.2.2.2.2⟩
            | exact h.elim)
      | (refine ⟨h.1, ?_⟩
         have h2 := h.2
         clear h
         split at h2 <;> first | exact hk _ _ h2 | exact h2.elim)
end
end Go.X
end
