/- Parts of the proof: XOps7, XKind, XMono. -/
import Derived.Test.YtnmhhmbeljlndaaGreatDoorXP3
import Derived.Lib.Strings
set_option linter.unusedVariables false
set_option linter.unusedSimpArgs false
set_option linter.unusedSectionVars false
section
namespace Go.X
open Go
section
variable {E:Env} {C:Ctx} {a:Act} {e:Opd->IV} {o:Oper} {K:IV->List Blk->Prop}
theorem z9q (Q:Sim C) (M:Y5 C a e) {t O:TypeId} {x i:Operand} {B A:Opd} {m n:Nat} (D:o.op=.indexAddr t x i) (U:E.P.underlying t=some (.array m O)) (S:Zx E.P O=some n)
  (V:opd x=some B) (hi:opd i=some A) (h:xop E (.idxA m n B A) e C.L K):Zy E C a o K:=by
 have p:=M x B V
 have l:=M i A hi
 generalize J:a.eval x=xv at p
 generalize I:a.eval i=iv at l
 simp only [xop] at h
 generalize e B=ex at *
 generalize e A=ei at *
 have d:∀(b k:Nat) (q:IntKind) (j:Int),xv=.pointer (some ⟨b,k,none⟩)->iv=.int q j->0<=j->j<m->
   (Instr.indexAt t (a.eval x) (a.eval i)).run E.P C.w=.ok (.pointer (some ⟨b,k+j.toNat*n,none⟩)) C.w:=by
  rintro b k q j rfl rfl u h1
  rw [J,I]
  unfold Instr.indexAt
  simp only [asIntOf,Sem.run_bind,Sem.run_pure,Result.andThen_ok,Zl U,Instr.sureAddr,JW]
  rw [if_pos ⟨u,h1⟩]
  simp only [Sem.run_bind,Sem.run_pure,Result.andThen_ok,Zi S]
 split at h
 ·rename_i s r off q j
  obtain ⟨u,h1,h⟩:=h
  cases l
  cases p with
  | ptr _ _ _ hs=>
   refine zu (by unfold execOp;rw [D]) (d _ _ q j rfl rfl u h1) (ZH ?_ h)
   rw [Nat.add_assoc];exact .ptr _ _ _ hs
 ·rename_i rows r off q j
  obtain ⟨u,h1,h⟩:=h
  cases l
  cases p with
  | iptr _ _ _ b base sz vals hsz G T v ha R=>
   refine zu (by unfold execOp;rw [D]) (d _ _ q j rfl rfl u h1) (ZH ?_ h)
   rw [Nat.add_assoc];exact .iptr _ _ _ b base sz vals hsz G T v ha R
 ·rename_i b k q j
  obtain ⟨u,h1,h⟩:=h
  cases l
  cases p
  exact zu (by unfold execOp;rw [D]) (d b k q j rfl rfl u h1) (ZH (.raw _ rfl) h)
 ·exact h.elim
theorem zcd (B:Sim C) (A:Y5 C a e) {t:TypeId} {x i:Operand} {p m:Opd} (D:o.op=.index t x i) (I:E.P.underlying t=some .string)
  (J:opd x=some p) (hi:opd i=some m) (h:xop E (.idx p m) e C.L K):Zy E C a o K:=by
 have l:=A x p J
 have b:=A i m hi
 generalize u:a.eval x=xv at l
 generalize r:a.eval i=iv at b
 simp only [xop] at h
 generalize e p=ex at *
 generalize e m=ei at *
 split at h
 ·rename_i s q j
  obtain ⟨G,h1,h⟩:=h
  cases b
  cases l
  refine zu (s:=Instr.index t (a.eval x) (a.eval i)) (by unfold execOp;rw [D]) (v:=.int .u8 (s.getD j.toNat 0).toNat) (w':=C.w) ?_ (ZH (.int _ _) h)
  rw [u,r]
  unfold Instr.index
  simp only [asIntOf,Sem.run_bind,Sem.run_pure,Result.andThen_ok,Zl I]
  rw [if_pos G]
  have d:j.toNat<s.length:=by omega
  have:(⟨s.toArray⟩:ByteArray)[j.toNat]?=some (s.getD j.toNat 0):=by
   have hsz:j.toNat<(⟨s.toArray⟩:ByteArray).size:=by simpa [ByteArray.size] using d
   rw [getElem?_pos (⟨s.toArray⟩:ByteArray) j.toNat hsz]
   congr 1
   simp only [List.getD,List.getElem?_eq_getElem d]
   rfl
  rw [this]
  rfl
 ·exact h.elim
theorem zaa {x:Option Operand} {q:Option Opd} (h:z0K x=some q):(x=none/\q=none)\/∃p r,x=some p/\q=some r/\opd p=some r:=by
 cases x with
 | none=>simp only [z0K,sij] at h;exact .inl ⟨rfl,h.symm⟩
 | some p=>simp only [z0K,oms] at h;obtain ⟨r,b,rfl⟩:=h;exact .inr ⟨p,r,rfl,rfl,b⟩
theorem YP (s:Y5 C a e) {x:Option Operand} {q:Option Opd} (u:z0K x=some q) {d:Nat} {Q:Nat->Prop} (h:bnd (q.map e) d Q) :
  ∃n,Q n/\((x=none/\n=d)\/∃p,x=some p/\∃k,a.eval p=.int k n):=by
 rcases zaa u with ⟨rfl,rfl⟩ | ⟨p,r,rfl,rfl,j⟩
 ·exact ⟨d,h,.inl ⟨rfl,rfl⟩⟩
 ·have m:=s p r j
  simp only [Option.map_some,bnd] at h
  split at h
  ·rename_i b;cases b
  ·rename_i k n b
   simp only [sij] at b
   rw [b] at m
   generalize l:a.eval p=pv at m
   cases m
   refine ⟨n.toNat,h.2,.inr ⟨p,rfl,k,?_⟩⟩
   rw [l];congr 1;omega
  ·exact h.elim
theorem WF {P:Program} {w:World} {h:Bool} {len cap l hh:Nat} {lo hi:Option Value} (d:(lo=none/\l=0)\/∃k,lo=some (.int k l)) (b:(hi=none/\hh=len)\/∃k,hi=some (.int k hh))
  (h1:l<=hh) (h2:hh<=cap) (_h3:len<=cap):(Instr.sliceBounds h len cap lo hi none).run P w=.ok (l,hh,cap) w:=by
 have m:∀(n y:Nat) (k:IntKind) (c:BoundsCode),n<=y->(Instr.sliceBound (.int k n) y c).run P w=.ok n w:=fun n y k c j=>by
  unfold Instr.sliceBound
  simp only [asIntOf,Sem.run_bind,Sem.run_pure,Result.andThen_ok]
  rw [if_pos ⟨od,od⟩]
  simp
 unfold Instr.sliceBounds
 rcases d with ⟨rfl,rfl⟩ | ⟨k,rfl⟩<;>rcases b with ⟨rfl,rfl⟩ | ⟨p,rfl⟩<;>simp [m,h1,h2]
theorem z0q (I:Sim C) (m:Y5 C a e) {t:TypeId} {x:Operand} {lo hi:Option Operand} {A:Opd} {j d:Option Opd} (M:o.op=.slice t x lo hi none) (G:E.P.underlying t=some .string)
  (Q:opd x=some A) (J:z0K lo=some j) (hh:z0K hi=some d) {s:List UInt8} (hs:e A=.str s)
  (h:bnd (j.map e) 0 fun l=>bnd (d.map e) s.length fun h=>l<=h/\h<=s.length/\K (.str ((s.take h).drop l)) C.L):Zy E C a o K:=by
 have b:=m x A Q
 rw [hs] at b
 generalize B:a.eval x=xv at b
 cases b
 obtain ⟨l,h,q⟩:=YP m J h
 obtain ⟨D,⟨h1,h2,O⟩,r⟩:=YP m hh h
 refine zu (s:=Instr.sliceAt t (a.eval x) (lo.map a.eval) (hi.map a.eval) none) (by unfold execOp;rw [M];rfl) (v:=.string ⟨((s.take D).drop l).toArray⟩) (w':=C.w) ?_ (ZH (.str _) O)
 rw [B]
 unfold Instr.sliceAt
 rw [Sem.run_bind,Zl G]
 simp only [Result.andThen_ok]
 unfold Instr.slice
 rw [Sem.run_bind,Zl G]
 simp only [Result.andThen_ok,Option.isSome_none,Bool.false_eq_true,if_false]
 rw [Sem.run_bind,WF (l:=l) (hh:=D)]
 ·simp only [Result.andThen_ok,Sem.run_pure]
  congr 2
  show (⟨_⟩:ByteArray)=_
  congr 1
  apply Array.ext'
  simp
  rw [List.drop_take]
 ·rcases q with ⟨rfl,rfl⟩ | ⟨p,rfl,k,u⟩
  ·exact .inl ⟨rfl,rfl⟩
  ·exact .inr ⟨k,by rw [<-u];rfl⟩
 ·rcases r with ⟨rfl,rfl⟩ | ⟨p,rfl,k,u⟩
  ·exact .inl ⟨rfl,by simp [ByteArray.size]⟩
  ·exact .inr ⟨k,by rw [<-u];rfl⟩
 ·exact h1
 ·simpa [ByteArray.size] using h2
 ·exact Nat.le_refl _
theorem z00 {P:Program} {w:World} {t m:TypeId} {n l d len cap:Nat} {b:Option Addr} {lo hi:Option Value} (p:P.underlying t=some (.slice m)) (q:Zx P m=some n)
  (j:(lo=none/\l=0)\/∃k,lo=some (.int k l)) (h:(hi=none/\d=len)\/∃k,hi=some (.int k d)) (h1:l<=d) (h2:d<=cap) (r:len<=cap) :
  (Instr.sliceAt t (.slice b len cap) lo hi none).run P w=.ok (.slice (if cap=l then b else b.map (·.add (l*n))) (d - l) (cap - l)) w:=by
 unfold Instr.sliceAt
 rw [Sem.run_bind,Zl p]
 simp only [Result.andThen_ok]
 unfold Instr.slice
 rw [Sem.run_bind,Zl p]
 simp only [Result.andThen_ok]
 rw [Sem.run_bind,WF j h h1 h2 r]
 simp only [Result.andThen_ok]
 rw [Sem.run_bind,Zi q]
 rfl
theorem z7c (U:Sim C) (D:Y5 C a e) {t el:TypeId} {x:Operand} {lo hi:Option Operand} {x':Opd} {Q O:Option Opd} {n:Nat} (ho:o.op=.slice t x lo hi none) (ht:E.P.underlying t=some (.slice el))
  (hn:Zx E.P el=some n) (hx:opd x=some x') (S:z0K lo=some Q) (hh:z0K hi=some O) (h:xop E (.slice n x' Q O) e C.L K):Zy E C a o K:=by
 have u:=D x x' hx
 simp only [xop] at h
 generalize ag:a.eval x=xv at u
 have d:∀(b:Option Addr) (len cap l v:Nat),xv=.slice b len cap->((lo=none/\l=0)\/∃p,lo=some p/\∃k,a.eval p=.int k l)->((hi=none/\v=len)\/∃p,hi=some p/\∃k,a.eval p=.int k v)->
   l<=v->v<=cap->len<=cap->∀r,VR C r (.slice (if cap=l then b else b.map (·.add (l*n))) (v - l) (cap - l))->K r C.L->Zy E C a o K:=by
  rintro b len cap l v rfl m q h1 h2 h3 r V G
  refine zu (s:=Instr.sliceAt t (a.eval x) (lo.map a.eval) (hi.map a.eval) none) (by unfold execOp;rw [ho];rfl) (w':=C.w) ?_ (ZH V G)
  rw [ag]
  refine z00 ht hn ?_ ?_ h1 h2 h3
  ·rcases m with ⟨rfl,rfl⟩ | ⟨p,rfl,k,hk⟩
   ·exact .inl ⟨rfl,rfl⟩
   ·exact .inr ⟨k,by rw [<-hk];rfl⟩
  ·rcases q with ⟨rfl,rfl⟩ | ⟨p,rfl,k,hk⟩
   ·exact .inl ⟨rfl,rfl⟩
   ·exact .inr ⟨k,by rw [<-hk];rfl⟩
 split at h
 ·rename_i rows A
  rw [A] at u
  obtain ⟨V,h⟩:=h
  obtain ⟨l,h,m⟩:=YP D S h
  obtain ⟨v,⟨h1,h2,G⟩,q⟩:=YP D hh h
  cases u with
  | isl _ M cap' sz vals R hsz J ha hv=>
   refine d M rows.length cap' l v rfl m q h1 od R _ ?_ G
   have I:((rows.take v).drop l).length=v - l:=by rw [List.length_drop,List.length_take];omega
   have B:∀(i:Nat) (row:List IV),((rows.take v).drop l)[i]?=some row->rows[l+i]?=some row:=fun i row hi=>by
    rw [List.getElem?_drop,List.getElem?_take] at hi
    split at hi
    ·exact hi
    ·cases hi
   rw [<-I]
   refine .isl _ _ _ sz (fun i j=>vals (l+i) j) od (fun i row hi=>hsz _ row (B i row hi)) (fun i row hi=>J _ row (B i row hi)) ?_ (fun i row hi j y Z=>hv _ row (B i row hi) j y Z)
   rcases ha with ha | ⟨b,k,rfl,ae,Y,hc⟩
   ·left;subst ha;simp
   ·by_cases hrs:(rows.take v).drop l=[]
    ·exact .inl hrs
    ·have ah:0<v - l:=by rw [<-I];exact List.length_pos_iff.2 hrs
     have X:cap'≠l:=by omega
     have af:sz=n:=by
      have T:l<rows.length:=by omega
      have:=List.getElem?_eq_getElem T
      rw [<-hsz _ _ this,V _ (List.getElem_mem T)]
     subst af
     refine .inr ⟨b,k+l*sz,?_,ae,Y,fun i row hi j y Z=>?_⟩
     ·rw [if_neg X];simp only [Option.map_some,JW]
     ·have:=hc _ row (B i row hi) j y Z
      rw [<-this];congr 2;rw [Nat.add_mul];omega
 ·rename_i s off len cap A
  rw [A] at u
  obtain ⟨hz,h⟩:=h
  obtain ⟨l,h,m⟩:=YP D S h
  obtain ⟨v,⟨h1,h2,G⟩,q⟩:=YP D hh h
  cases u with
  | sl _ _ _ _ M cap' hs ai aj ha=>
   refine d M len cap' l v rfl m q h1 od od _ ?_ G
   refine .sl s (off+l) (v - l) (cap - l) _ (cap' - l) hs od od ?_ od
   by_cases J:cap'=l
   ·left;omega
   ·right
    obtain ⟨rfl,c,ty,fr,T,h6⟩:=ha.resolve_left od
    have h7:=zaq U hz
    rw [h7] at h6 ⊢
    refine ⟨?_,c,ty,fr,T,?_⟩
    ·rw [if_neg J];simp only [Option.map_some,JW,Nat.add_mul];congr 2;omega
    ·rw [show off+l+(cap' - l)=off+cap' by omega];exact h6
 ·rename_i A
  rw [A] at u
  obtain ⟨l,h,m⟩:=YP D S h
  obtain ⟨v,⟨rfl,rfl,G⟩,q⟩:=YP D hh h
  cases u with
  | esl M=>exact d M 0 0 0 0 rfl m q (Nat.le_refl _) (Nat.le_refl _) (Nat.le_refl _) _ (by simpa using VR.esl M) G
 ·rename_i A
  rw [A] at u
  obtain ⟨l,h,m⟩:=YP D S h
  obtain ⟨v,⟨rfl,rfl,G⟩,q⟩:=YP D hh h
  cases u with
  | nsl=>exact d none 0 0 0 0 rfl m q (Nat.le_refl _) (Nat.le_refl _) (Nat.le_refl _) _ (by simpa using VR.nsl) G
 ·exact h.elim
theorem z4M (d:Y5 C a e) {l:List Operand} {b:List Opd} (h:zJ opd l=some b) :
  (b.map e).length=(l.map a.eval).length/\∀(i:Nat) (x:IV),(b.map e)[i]?=some x->VR C x ((l.map a.eval).getD i undef):=by
 refine ⟨by simp [zQ h],fun i x hi=>?_⟩
 rw [List.getElem?_map,oms] at hi
 obtain ⟨q,j,rfl⟩:=hi
 obtain ⟨p,h1,h2⟩:=zW h i q j
 have:(l.map a.eval).getD i undef=a.eval p:=WO (by rw [List.getElem?_map,h1];rfl)
 rw [this];exact d p q h2
theorem zaW (r:Sim C) (l:Y5 C a e) {f:Fn} {xs j:Array Operand} {b d:List Opd} (m:o.op=.makeFunc f xs j) (u:zJ opd xs.toList=some b) (p:zJ opd j.toList=some d)
  (h:K (.fn f (b.map e) (d.map e)) C.L):Zy E C a o K:=by
 obtain ⟨h1,h2⟩:=z4M l u
 obtain ⟨q,A⟩:=z4M l p
 refine zu (s:=Instr.makeFunc f (xs.map a.eval) (j.map a.eval)) (by unfold execOp;rw [m]) (v:=.func f (xs.toList.map a.eval).toArray (j.toList.map a.eval).toArray) (w':=C.w) ?_ (ZH (.fn f _ _ _ _ h1 q h2 A) h)
 unfold Instr.makeFunc
 rw [Sem.run_pure]
 congr 2<;>(apply Array.ext';simp)
theorem zbv (u:Sim C) (r:Y5 C a e) {c:Call} {x:Operand} {m:Opd} {B:TypeId} (A:o.op=.call c) (p:c.callee=.builtin .len) (d:c.args.toList=[x])
  (j:(c.argTypes[0]?).bind E.P.underlying=some (.slice B)) (G:opd x=some m) (h:xop E (.len m) e C.L K):Zy E C a o K:=by
 have l:=r x m G
 simp only [xop] at h
 have e1:c.args.map a.eval=#[a.eval x]:=by apply Array.ext';simp [d]
 split at h
 ·rename_i n b
  refine zu (s:=Builtin.len_ c.argTypes o.type #[a.eval x]) (v:=.int .i64 n) (w':=C.w) (by
   unfold execOp;rw [A];simp only [resolve,p];rw [e1];rfl) ?_ (ZH (.int _ _) h)
  unfold Builtin.len_
  cases ht0:c.argTypes[0]? with
  | none=>rw [ht0] at j;cases j
  | some t=>
   rw [ht0] at j
   simp only [Option.bind_some] at j
   simp only [List.getElem?_toArray,List.getElem?_cons_zero]
   generalize D:a.eval x=xv at l
   generalize e m=ex at *
   cases l<;>first
    | (simp only [lenOf,sij] at b;subst b;rw [Sem.run_bind,Zl j];rfl)
    | (cases b;done)
    | skip
   unfold lenOf at b
   split at b<;>first | (rename_i q;cases q;done) | skip
   ·rename_i q
    obtain rfl:xv=.slice none 0 0:=by simpa using q
    cases b
    rw [Sem.run_bind,Zl j];rfl
   ·cases b
 ·exact h.elim
theorem zao (u:Sim C) (r:Y5 C a e) {c:Call} {x:Operand} {l:Opd} (q:o.op=.call c) (m:c.callee=.builtin .len) (b:c.args.toList=[x])
  (d:(c.argTypes[0]?).bind E.P.underlying=some .string) (A:opd x=some l) (h:xop E (.lenS l) e C.L K):Zy E C a o K:=by
 have j:=r x l A
 simp only [xop] at h
 have e1:c.args.map a.eval=#[a.eval x]:=by apply Array.ext';simp [b]
 generalize p:a.eval x=xv at j
 generalize e l=ex at *
 split at h
 ·rename_i s
  cases j
  refine zu (s:=Builtin.len_ c.argTypes o.type #[a.eval x]) (v:=.int .i64 s.length) (w':=C.w) (by
   unfold execOp;rw [q];simp only [resolve,m];rw [e1];rfl) ?_ (ZH (.int _ _) h)
  unfold Builtin.len_
  cases ht0:c.argTypes[0]? with
  | none=>rw [ht0] at d;cases d
  | some t=>
   rw [ht0] at d
   simp only [Option.bind_some] at d
   simp only [List.getElem?_toArray,List.getElem?_cons_zero]
   rw [p,Sem.run_bind,Zl d];rfl
 ·exact h.elim
theorem zcu (q:Sim C) (p:Y5 C a e) {s d:TypeId} {x:Operand} {b:Opd} {f:FloatKind} {k:IntKind} (A:o.op=.convert s d x) (hs:E.P.underlying s=some (.float f)) (hd:E.P.underlying d=some (.int k))
  (B:opd x=some b) {g:Nat} (h:xex E (.ru (.toInt k)) [e b] g C.L K):Zy E C a o K:=by
 have m:=p x b B
 generalize l:a.eval x=xv at m
 generalize e b=ex at *
 simp only [xex] at h
 split at h
 ·rename_i v j
  obtain rfl:ex=.raw v:=by simpa using j
  obtain ⟨r,h1,h2⟩:=h
  cases m
  cases xv<;>simp only [z4G] at h1<;>first | (cases h1;done) | skip
  obtain ⟨n,u,rfl⟩:=Option.map_eq_some_iff.1 h1
  refine zu (s:=convert s d (a.eval x)) (by unfold execOp;rw [A]) (v:=.int k n) (w':=C.w) ?_ (ZH (.int _ _) h2)
  rw [l]
  exact run_convert_float_int _ _ _ _ _ _ _ (by simp [hs]) hd u
 ·exact h.elim
theorem z6F (D:Sim C) (B:Y5 C a e) {c:Call} {x:Operand} {l:Opd} {im:Bool} (A:o.op=.call c) (j:c.callee=.builtin (if im then .imag else .real)) (d:c.args.toList=[x])
  (G:opd x=some l) {g:Nat} (h:xex E (.ru (if im then .im else .re)) [e l] g C.L K):Zy E C a o K:=by
 have u:=B x l G
 have e1:c.args.map a.eval=#[a.eval x]:=by apply Array.ext';simp [d]
 generalize b:a.eval x=xv at u
 generalize e l=ex at *
 simp only [xex] at h
 split at h
 ·rename_i v m
  obtain rfl:ex=.raw v:=by simpa using m
  obtain ⟨r,h1,h2⟩:=h
  cases u
  cases im<;>cases xv<;>simp [z4G] at h1<;>subst h1
  ·rename_i k p q _
   exact zu (s:=Builtin.real_ c.argTypes o.type #[a.eval x]) (v:=.float k p) (w':=C.w) (by
    unfold execOp;rw [A];simp only [resolve,j];rw [e1,b];rfl) (by rw [b];rfl) (ZH (.raw _ rfl) h2)
  ·rename_i k p q _
   exact zu (s:=Builtin.imag_ c.argTypes o.type #[a.eval x]) (v:=.float k q) (w':=C.w) (by
    unfold execOp;rw [A];simp only [resolve,j];rw [e1,b];rfl) (by rw [b];rfl) (ZH (.raw _ rfl) h2)
 ·exact h.elim
theorem zbc (D:Sim C) (B:Y5 C a e) {c:Call} {x y:Operand} {u r:Opd} (G:o.op=.call c) (A:c.callee=.builtin .max) (b:c.args.toList=[x,y])
  (J:opd x=some u) (I:opd y=some r) (h:xop E (.max2 u r) e C.L K):Zy E C a o K:=by
 have l:=B x u J
 have d:=B y r I
 simp only [xop] at h
 have e1:c.args.map a.eval=#[a.eval x,a.eval y]:=by apply Array.ext';simp [b]
 generalize m:a.eval x=xv at l
 generalize j:a.eval y=yv at d
 generalize e u=ex at *
 generalize e r=ey at *
 split at h
 ·rename_i k p M q
  cases l;cases d
  refine zu (s:=Builtin.max_ c.argTypes o.type #[a.eval x,a.eval y]) (v:=.int k (if q>p then q else p)) (w':=C.w) (by
   unfold execOp;rw [G];simp only [resolve,A];rw [e1,m,j];rfl) ?_ (ZH (.int _ _) h)
  rw [m,j];rfl
 ·exact h.elim
theorem z7v (I:Sim C) (G:Y5 C a e) {x:Operand} {u:Opd} (q:o.op=.nilCheck x) (S:opd x=some u) (h:xop E (.nilck u) e C.L K):Zy E C a o K:=by
 have l:=G x u S
 simp only [xop] at h
 generalize j:a.eval x=xv at l
 have d:∀r,VR C r (a.eval x)->(execOp a.eval o).run E.P C.w=.ok (.value (a.eval x)) C.w->K r C.L->Zy E C a o K:=fun r J p R=>⟨_,r,p,J,R⟩
 generalize e u=ex at *
 split at h
 ·cases l with
  | ptr s r off hs=>exact d _ (by rw [j];exact .ptr _ _ _ hs) (by unfold execOp;rw [q];simp only [j];rfl) h
 ·cases l with
  | iptr _ _ _ b base sz vals hsz D B m ha M=>exact d _ (by rw [j];exact .iptr _ _ _ b base sz vals hsz D B m ha M) (by unfold execOp;rw [q];simp only [j];rfl) h
 ·cases l with
  | fn _ _ _ O Q ha B A v=>exact d _ (by rw [j];exact .fn _ _ _ O Q ha B A v) (by unfold execOp;rw [q];simp only [j];rfl) h
 ·cases l
  exact d _ (by rw [j];exact .raw _ rfl) (by unfold execOp;rw [q];simp only [j];rfl) h
 ·exact h.elim
theorem zbl (m:Sim C) (l:Y5 C a e) {t:Operand} {t':Opd} {i:Nat} (q:o.op=.extract t i) (u:opd t=some t') (h:xop E (.ext t' i) e C.L K):Zy E C a o K:=by
 have b:=l t t' u
 simp only [xop] at h
 generalize j:a.eval t=xv at b
 generalize e t'=ex at *
 split at h
 ·rename_i cs
  cases b with
  | tup _ vs A p=>
  have r:=p i _ (getD_get (d:=.und) h.1)
  refine zu (s:=Instr.extract (a.eval t) i) (by unfold execOp;rw [q]) (v:=vs.getD i undef) (w':=C.w) ?_ (ZH r h.2)
  rw [j]
  unfold Instr.extract
  have:vs.toArray[i]?=some (vs.getD i undef):=by rw [List.getElem?_toArray];exact getD_get od
  simp only [this];rfl
 ·exact h.elim
theorem z9s (wf:Wf E.g0 C) (sim:Sim C) (hG:E.G C.w) (he:Y5 C a e) {c:Call} {f:Operand} {f':Opd} {as:List Opd} (ho:o.op=.call c) (hcb:c.callee=.value f) (hf:opd f=some f') (has:zJ opd c.args.toList=some as)
  (h:xop E (.call f' as) e C.L K):Good E C a o K:=by
 have hfv:=he f f' hf
 obtain ⟨h1,h2⟩:=z4M he has
 simp only [xop] at h
 generalize hfe:a.eval f=fv at hfv
 generalize e f'=ef at *
 split at h
 ·rename_i n p q
  cases hfv with
  | fn _ _ _ va vb ha hb hva hvb=>
  have hlen:(p++as.map e++q).length=(va++c.args.toList.map a.eval++vb).length:=by
   simp only [lla,h1,ha,hb]
  have hargs:∀(i:Nat) (x:IV),(p++as.map e++q)[i]?=some x→VR C x ((va++c.args.toList.map a.eval++vb).getD i undef):=by
   intro i x hi
   rw [List.getD_eq_getElem?_getD]
   have lx:∀{l:List IV} {v:List Value} {j:Nat},(∀(i:Nat) (x:IV),l[i]?=some x→VR C x (v.getD i undef))→l.length=v.length→l[j]?=some x→VR C x (v[j]?.getD undef):=fun hl hll hj=>by
    have:=hl _ _ hj;rwa [List.getD_eq_getElem?_getD] at this
   rcases Nat.lt_or_ge i (p++as.map e).length with h5 | h5
   ·rw [List.getElem?_append_left h5] at hi
    rw [List.getElem?_append_left (by rw [lla] at h5 ⊢;omega)]
    rcases Nat.lt_or_ge i p.length with h6 | h6
    ·rw [List.getElem?_append_left h6] at hi
     rw [List.getElem?_append_left od]
     exact lx hva ha hi
    ·rw [List.getElem?_append_right h6] at hi
     rw [List.getElem?_append_right od,←ha]
     exact lx h2 h1 hi
   ·rw [List.getElem?_append_right h5] at hi
    rw [List.getElem?_append_right (by rw [lla] at h5 ⊢;omega)]
    have e2:(va++c.args.toList.map a.eval).length=(p++as.map e).length:=by simp only [lla,ha,h1]
    rw [e2]
    exact lx hvb hb hi
  have e3:va.toArray++Array.map a.eval c.args++vb.toArray=(va++c.args.toList.map a.eval++vb).toArray:=by
   apply Array.ext';simp
  rcases h with h | ⟨r,h,hk⟩ | h | h | h
  case inr.inr.inr.inr=>
   obtain ⟨r,L',φ',v,w',h1,h2,h3,h4,h5,h6⟩:=h C.w C.φ C.X (va++c.args.toList.map a.eval++vb) wf sim hG hlen hargs
   refine .inl ⟨v,w',?_,r,L',φ',h2,h3,h4,h5,h6⟩
   unfold execOp
   rw [ho]
   simp only [resolve,hcb,hfe,Deferred.ofValue]
   rw [Sem.run_bind,Sem.run_pure]
   simp only [Result.andThen_ok,invoke]
   rw [e3]
   exact h1
  case inr.inl=>
   obtain ⟨v,hv1,hv2⟩:=h C _ hG hlen hargs
   refine .inl ⟨v,C.w,?_,ZW wf sim hv2 hk⟩
   unfold execOp
   rw [ho]
   simp only [resolve,hcb,hfe,Deferred.ofValue]
   rw [Sem.run_bind,Sem.run_pure]
   simp only [Result.andThen_ok,invoke]
   rw [e3]
   exact hv1
  all_goals
  obtain ⟨⟨fn,hfn,hnm,hbody⟩,hcall⟩:Jo E.P n∧Calls E.P n (va++c.args.toList.map a.eval++vb).toArray C.w fun e w'=>∃v,(e=.returned v∧Post E C K v w')∨(e=.panicked [{ v,recovered:=false }]∧Post E C E.pan v w'):=by
   first
    | exact ⟨(Jg (C:=C) (vs:=va++c.args.toList.map a.eval++vb) wf sim hG hlen hargs h).1,(Jg (C:=C) (vs:=va++c.args.toList.map a.eval++vb) wf sim hG hlen hargs h).2.mono fun e w' ⟨v,h1,h2⟩=>⟨v,.inl ⟨h1,h2⟩⟩⟩
    | exact z4b (C:=C) (vs:=va++c.args.toList.map a.eval++vb) wf sim hG hlen hargs h
    | exact ⟨h.1,(h.2 C.w C.φ C.X (va++c.args.toList.map a.eval++vb) wf sim hG hlen hargs).mono fun e w' ⟨r,L',φ',v,wf',sim',ext',hv,hh⟩=>⟨v,hh.elim (fun h1=>.inl ⟨h1.2,r,L',φ',h1.1,wf',sim',ext',hv⟩) (fun h1=>.inr ⟨h1.2,r,L',φ',h1.1,wf',sim',ext',hv⟩)⟩⟩
  refine .inr (.inr (.inl ⟨n,(va++c.args.toList.map a.eval++vb).toArray,C.w,?_,hcall⟩))
  unfold execOp
  rw [ho]
  simp only [resolve,hcb,hfe,Deferred.ofValue]
  rw [Sem.run_bind,Sem.run_pure]
  simp only [Result.andThen_ok,invoke]
  rw [e3]
  unfold callFunc
  rw [Sem.run_bind,run_program]
  simp only [Result.andThen_ok,hfn]
  have hnm' : (fn.name == "runtime.NumGoroutine") = false := by simpa using hnm
  simp only [hnm',Bool.false_eq_true,if_false,hbody]
  rfl
 ·rename_i s
  cases hfv with
  | yld _ hs=>
  obtain ⟨fn,tmps,asg,body,h3,h4⟩:=E.hyl C s (as.map e) (c.args.toList.map a.eval) _ wf sim hG h1 h2 h
  refine .inr (.inr (.inr (.inl ⟨_,fn,tmps,asg,body,C.w,?_,h4⟩)))
  unfold execOp
  rw [ho]
  simp only [resolve,hcb,hfe,Deferred.ofValue]
  rw [Sem.run_bind,Sem.run_pure]
  simp only [Result.andThen_ok,invoke]
  rw [←h3]
  congr 1
  congr 1
  apply Array.ext';simp
 ·exact h.elim
theorem z9M {P:Program} {t:TypeId} (h:zff P t=true):P.underlying t=some (.int .u8):=by
 unfold zff at h
 split at h
 ·assumption
 ·cases h
theorem z1a {g:Nat} (R:Free C.L g) (wf:Wf E.g0 C) (j:Sim C) (hG:E.G C.w) (B:Y5 C a e) {x:XO} (hc:WA E.P o.op=some x) (h:z1p E x e g C.L K):Good E C a o K:=by
 cases ho:o.op<;>rw [ho] at hc<;>simp only [WA] at hc<;>try (cases hc;done)
 case move x=>
  simp only [oms] at hc;obtain ⟨q,I,rfl⟩:=hc
  exact (z2u j B (.inl ho) I h).good wf j
 case assign x=>
  simp only [oms] at hc;obtain ⟨q,I,rfl⟩:=hc
  exact (z2u j B (.inr ho) I h).good wf j
 case pick c x y=>
  simp only [obs,oms] at hc
  obtain ⟨c',bf,Q,ak,y',aj,rfl⟩:=hc
  simp only [z1p,xop] at h
  split at h
  ·rename_i t M;exact (za4 j B ho bf ak aj M h).good wf j
  ·exact h.elim
 case alloc t=>
  simp only [obs] at hc;obtain ⟨z,U,hc⟩:=hc
  split at hc
  ·cases hc
  ·cases hc;exact z7L R wf j ho U h
 case box t x=>
  simp only [oms] at hc;obtain ⟨q,I,rfl⟩:=hc
  exact zbd R wf j B ho I h
 case build t ps=>
  split at hc
  ·rename_i fs M
   simp only [obs] at hc
   obtain ⟨z,U,qs,I,hc⟩:=hc
   split at hc
   ·rename_i bi
    simp only [sij] at hc;subst hc
    simp only [z1p,xop] at h
    split at h
    ·rename_i cs ag
     exact (VX j B ho M U (by simpa only [obs,oms] using I) bi ag h).good wf j
    ·exact h.elim
   ·cases hc
  ·rename_i m S M
   simp only [obs,oms] at hc
   obtain ⟨z,U,n,O,qs,I,rfl⟩:=hc
   simp only [z1p,xop] at h
   split at h
   ·rename_i cs ag
    exact (jQ j B ho M U O I ag h).good wf j
   ·exact h.elim
  ·cases hc
 case buildSlice t len ps=>
  split at hc
  ·rename_i S M
   simp only [obs] at hc
   obtain ⟨n,O,z,U,qs,I,hc⟩:=hc
   split at hc
   ·rename_i A
    simp only [sij] at hc;subst hc
    simp only [z1p] at h
    obtain ⟨_,h⟩:=h
    split at h
    ·rename_i rows af
     exact z4H R wf j B ho M O U I A.1 A.2.1 A.2.2 af h
    ·exact h.elim
   ·cases hc
  ·cases hc
 case load t x=>
  simp only [obs,oms] at hc
  obtain ⟨g,hg,n,O,q,I,rfl⟩:=hc
  cases g
  ·simp only [Bool.false_eq_true,if_false,z1p,xop] at h
   split at h
   ·rename_i rows r off hr
    exact (z0s j hG B ho I hg hr h.1 h.2.1 h.2.2).good wf j
   ·exact h.elim
  ·simp only [if_true,z1p,xop] at h
   split at h
   ·rename_i rows r off hr
    exact (z0x j hG B ho I hg O hr h.1 h.2.1 h.2.2).good wf j
   ·exact h.elim
 case store t p x=>
  simp only [obs,oms] at hc
  obtain ⟨g,hg,n,O,p',hp,Q,D,rfl⟩:=hc
  simp only [z1p,xop] at h
  split at h
  ·rename_i s r off hs
   split at h
   ·rename_i sz rows hL
    exact z7e wf j B ho hp D O hs hL h.1 h.2.1 h.2.2.1 h.2.2.2.1 h.2.2.2.2
   ·rename_i ty sz rows hL
    exact z5m wf j B ho hp D O hs hL h.1 h.2.1 h.2.2.1 h.2.2.2.1 h.2.2.2.2
   ·exact h.elim
  ·exact h.elim
 case nilCheck x=>
  simp only [oms] at hc;obtain ⟨q,I,rfl⟩:=hc
  exact (z7v j B ho I h).good wf j
 case binOp op t x y ty=>
  split at hc
  ·rename_i M
   simp only [obs,oms] at hc
   obtain ⟨Q,D,y',T,rfl⟩:=hc
   exact (zbi j B ho M D T h).good wf j
  ·split at hc
   ·rename_i M
    simp only [obs,oms] at hc
    obtain ⟨Q,D,y',T,rfl⟩:=hc
    exact (z6O j B ho rfl (by assumption) D T h).good wf j
   ·rename_i M
    simp only [obs,oms] at hc
    obtain ⟨Q,D,y',T,rfl⟩:=hc
    exact (z6O j B ho rfl (by assumption) D T h).good wf j
   ·rename_i S M
    simp only [obs] at hc
    obtain ⟨n,O,hc⟩:=hc
    split at hc
    ·cases hc
    ·rename_i Z
     simp only [obs,oms] at hc
     obtain ⟨Q,D,y',T,rfl⟩:=hc
     exact (z6w (g:=g) (neg:=false) j B ho rfl (by assumption) O Z D T h).good wf j
   ·rename_i S M
    simp only [obs] at hc
    obtain ⟨n,O,hc⟩:=hc
    split at hc
    ·cases hc
    ·rename_i Z
     simp only [obs,oms] at hc
     obtain ⟨Q,D,y',T,rfl⟩:=hc
     exact (z6w (g:=g) (neg:=true) j B ho rfl (by assumption) O Z D T h).good wf j
   ·rename_i fs M
    simp only [obs,oms] at hc
    obtain ⟨ks,hk,Q,D,y',T,rfl⟩:=hc
    exact (z6s (g:=g) (neg:=false) j B ho rfl (by assumption) hk D T h).good wf j
   ·rename_i fs M
    simp only [obs,oms] at hc
    obtain ⟨ks,hk,Q,D,y',T,rfl⟩:=hc
    exact (z6s (g:=g) (neg:=true) j B ho rfl (by assumption) hk D T h).good wf j
   ·split at hc
    ·rename_i k hk
     simp only [oms] at hc
     obtain ⟨Q,D,rfl⟩:=hc
     exact (je j B ho rfl hk D h).good wf j
    ·simp only [sij] at hc;subst hc
     exact False.elim h
   ·simp only [obs,oms] at hc
    obtain ⟨k,hk,Q,D,rfl⟩:=hc
    exact (je j B ho rfl hk D h).good wf j
   ·simp only [obs,oms] at hc
    obtain ⟨k,hk,Q,D,rfl⟩:=hc
    exact (je j B ho rfl hk D h).good wf j
   ·cases hc
 case range t x=>
  split at hc
  ·rename_i kt S M
   simp only [oms] at hc;obtain ⟨q,I,rfl⟩:=hc
   exact z96 R wf j B ho M I h
  ·cases hc
 case makeMap t r=>
  cases r with
  | none=>simp only [sij] at hc;subst hc;exact z7x R wf j ho h
  | some r=>cases hc
 case lookup t x i ok=>
  split at hc
  ·rename_i kt S M
   simp only [obs,oms] at hc
   obtain ⟨st,V,z,U,Q,D,i',hi,rfl⟩:=hc
   exact (z7y (g:=g) wf j B ho M V U D hi h).good wf j
  ·cases hc
 case mapUpdate t m k v=>
  split at hc
  ·rename_i kt S M
   simp only [obs,oms] at hc
   obtain ⟨st,V,m',X,k',Y,v',ai,rfl⟩:=hc
   exact z3S (g:=g) wf j B (.inl ho) M V X Y ai h
  ·cases hc
 case insert t m k v=>
  split at hc
  ·rename_i kt S M
   simp only [obs,oms] at hc
   obtain ⟨st,V,m',X,k',Y,v',ai,rfl⟩:=hc
   exact z3S (g:=g) wf j B (.inr ho) M V X Y ai h
  ·cases hc
 case next x b=>
  cases b
  ·simp only [Bool.false_eq_true,if_false,oms] at hc;obtain ⟨q,I,rfl⟩:=hc
   exact z8W (g:=g) wf j B ho I h
  ·cases hc
 case unOp op t x=>
  simp only [oms] at hc;obtain ⟨q,I,rfl⟩:=hc
  exact (zeE j B ho I h).good wf j
 case convert s d x=>
  split at hc
  ·rename_i k0 k hs hd
   simp only [oms] at hc;obtain ⟨q,I,rfl⟩:=hc
   simp only [z1p,xop] at h
   split at h
   ·rename_i k1 n h1;exact (z7r j B ho hs hd I h1 h).good wf j
   ·exact h.elim
  ·rename_i k0 hs hd
   simp only [oms] at hc;obtain ⟨q,I,rfl⟩:=hc
   simp only [z1p,xop] at h
   split at h
   ·rename_i k1 n h1;exact (z1Y j B ho hs hd I h1 h).good wf j
   ·exact h.elim
  ·rename_i k f hs hd
   simp only [oms] at hc;obtain ⟨q,I,rfl⟩:=hc
   exact (zae (g:=g) j B ho hs hd I h).good wf j
  ·rename_i f k hs hd
   simp only [oms] at hc;obtain ⟨q,I,rfl⟩:=hc
   exact (zcu (g:=g) j B ho hs hd I h).good wf j
  ·rename_i S hs hd
   split at hc
   ·rename_i hu
    simp only [oms] at hc;obtain ⟨q,I,rfl⟩:=hc
    exact (z9O (g:=g) j B ho hs (z9M hu) hd I h).good wf j
   ·cases hc
  ·rename_i S hs hd
   split at hc
   ·rename_i hu
    simp only [oms] at hc;obtain ⟨q,I,rfl⟩:=hc
    exact z9f R wf j B ho hs hd (z9M hu) I h
   ·cases hc
  ·cases hc
 case fieldAddr s x f=>
  split at hc
  ·rename_i fs hs
   simp only [obs] at hc
   obtain ⟨g,hg,n,O,hc⟩:=hc
   split at hc
   ·cases hc
   ·rename_i Z
    simp only [oms] at hc;obtain ⟨q,I,rfl⟩:=hc
    exact (z99 j B ho hs hg O Z I h).good wf j
  ·cases hc
 case indexAddr t x i=>
  split at hc
  ·rename_i S M
   simp only [obs] at hc
   obtain ⟨n,O,hc⟩:=hc
   split at hc
   ·cases hc
   ·simp only [obs,oms] at hc
    obtain ⟨Q,D,i',hi,rfl⟩:=hc
    exact (z9K j B ho M O D hi h).good wf j
  ·rename_i m S M
   simp only [obs,oms] at hc
   obtain ⟨n,O,Q,D,i',hi,rfl⟩:=hc
   exact (z9q j B ho M O D hi h).good wf j
  ·cases hc
 case index t x i=>
  split at hc
  ·rename_i M
   simp only [obs,oms] at hc
   obtain ⟨Q,D,i',hi,rfl⟩:=hc
   exact (zcd j B ho M D hi h).good wf j
  ·cases hc
 case slice t x lo hi mx=>
  unfold z3q at hc
  split at hc
  ·split at hc
   ·rename_i M
    simp only [obs,oms] at hc
    obtain ⟨Q,D,l,hl,hh,ah,rfl⟩:=hc
    simp only [z1p,xop] at h
    split at h
    ·rename_i s hs
     exact (z0q j B ho M D hl ah hs h).good wf j
    ·exact h.elim
   ·rename_i S M
    simp only [obs] at hc
    obtain ⟨n,O,hc⟩:=hc
    split at hc
    ·cases hc
    ·simp only [obs,oms] at hc
     obtain ⟨Q,D,l,hl,hh,ah,rfl⟩:=hc
     exact (z7c j B ho M O D hl ah h).good wf j
   ·rename_i m S M
    split at hc
    ·rename_i A
     obtain ⟨ae,bg⟩:=A
     simp only [obs,oms] at hc
     obtain ⟨Q,D,l,hl,rfl⟩:=hc
     cases hi with
     | none=>exact zbM (g:=g) wf j B ho M ae D hl h
     | some _=>cases bg
    ·cases hc
   ·cases hc
  ·rename_i m
   split at hc
   ·rename_i S M
    simp only [obs] at hc
    obtain ⟨n,O,hc⟩:=hc
    split at hc
    ·rename_i hp
     split at hc
     ·cases hc
     ·simp only [obs,oms] at hc
      obtain ⟨Q,D,l,hl,h',hh,m',X,rfl⟩:=hc
      exact (zcf (g:=g) j B ho M O D hl hh X h).good wf j
    ·cases hc
   ·cases hc
 case makeFunc f xs ys=>
  simp only [obs,oms] at hc
  obtain ⟨bz,D,cu,T,rfl⟩:=hc
  exact (zaW j B ho D T h).good wf j
 case extract t i=>
  simp only [oms] at hc;obtain ⟨q,I,rfl⟩:=hc
  exact (zbl j B ho I h).good wf j
 case makeInterface t x=>
  split at hc
  ·rename_i ax
   simp only [oms] at hc;obtain ⟨q,I,rfl⟩:=hc
   exact (za5 j B ho ax I h).good wf j
  ·cases hc
 case typeAssert x st t ok=>
  split at hc
  ·cases hc
  ·rename_i d hd M
   split at hc
   ·rename_i az
    subst az
    simp only [oms] at hc;obtain ⟨q,I,rfl⟩:=hc
    exact (zc3 (g:=g) j B ho M (fun ms X=>hd ms X) I h).good wf j
   ·cases hc
  ·cases hc
 case panic x=>
  simp only [oms] at hc;obtain ⟨q,I,rfl⟩:=hc
  have h:xex E .panic [e q] g C.L K:=h
  simp only [xex] at h
  split at h
  ·rename_i t v bn
   exact z7G wf j B ho I (by simpa using bn) h
  ·exact h.elim
 case call c=>
  unfold z6v at hc
  split at hc
  ·rename_i f J
   simp only [obs,oms] at hc
   obtain ⟨f',hf,as,ay,rfl⟩:=hc
   exact z9s wf j hG B ho J hf ay h
  ·rename_i J
   split at hc
   ·rename_i x u M
    simp only [oms] at hc;obtain ⟨q,I,rfl⟩:=hc
    exact (zao j B ho J u M I h).good wf j
   ·rename_i x S u M
    simp only [oms] at hc;obtain ⟨q,I,rfl⟩:=hc
    exact (zbv j B ho J u M I h).good wf j
   ·cases hc
  ·rename_i J
   split at hc
   ·rename_i s x S bu u h1 h2
    simp only [obs] at hc
    obtain ⟨s',hs,Q,D,n,O,m,X,z,U,hc⟩:=hc
    split at hc
    ·rename_i A
     split at hc
     ·split at hc
      ·rename_i ae
       subst ae
       simp only [sij] at hc;subst hc
       exact z3G R wf j B ho J u h1 ⟨_,h2,fun k h=>by cases h⟩ hs D O X U A.1 A.2.2 h
      ·cases hc
     ·simp only [sij] at hc;subst hc
      exact V4 R wf j B ho J u h1 ⟨_,h2,fun k h=>by cases h⟩ hs D O X U A.1 A.2.1 A.2.2 h
    ·cases hc
   ·rename_i s x S u h1 h2
    simp only [obs] at hc
    obtain ⟨s',hs,Q,D,n,O,m,X,z,U,hc⟩:=hc
    split at hc
    ·rename_i A
     split at hc
     ·split at hc
      ·rename_i ae
       subst ae
       simp only [sij] at hc;subst hc
       exact z3G R wf j B ho J u h1 ⟨_,h2,fun k h=>by cases h⟩ hs D O X U A.1 A.2.2 h
      ·cases hc
     ·simp only [sij] at hc;subst hc
      exact V4 R wf j B ho J u h1 ⟨_,h2,fun k h=>by cases h⟩ hs D O X U A.1 A.2.1 A.2.2 h
    ·cases hc
   ·cases hc
  ·rename_i J
   split at hc
   ·rename_i d x S u h1
    simp only [obs,oms] at hc
    obtain ⟨n,O,d',hd,Q,D,rfl⟩:=hc
    exact z94 (g:=g) wf j B ho J u h1 O hd D h
   ·cases hc
  ·rename_i J
   split at hc
   ·rename_i d S u h1
    simp only [obs,oms] at hc
    obtain ⟨z,U,d',hd,rfl⟩:=hc
    exact zce (g:=g) wf j B ho J u h1 U hd h
   ·cases hc
  ·rename_i J
   split at hc
   ·rename_i x u
    simp only [oms] at hc
    obtain ⟨Q,D,rfl⟩:=hc
    exact (z6F (im:=false) (g:=g) j B ho J u D h).good wf j
   ·cases hc
  ·rename_i J
   split at hc
   ·rename_i x u
    simp only [oms] at hc
    obtain ⟨Q,D,rfl⟩:=hc
    exact (z6F (im:=true) (g:=g) j B ho J u D h).good wf j
   ·cases hc
  ·rename_i J
   split at hc
   ·rename_i m k t u au
    split at hc
    ·rename_i kt S M
     simp only [obs,oms] at hc
     obtain ⟨st,V,m',X,k',Y,rfl⟩:=hc
     exact z8z (g:=g) wf j B ho J u au M V X Y h
    ·cases hc
   ·cases hc
  ·rename_i J
   split at hc
   ·rename_i x y u
    simp only [obs,oms] at hc
    obtain ⟨Q,D,y',T,rfl⟩:=hc
    exact (zcm (g:=g) j B ho J u D T h).good wf j
   ·cases hc
  ·rename_i J
   split at hc
   ·rename_i x y u
    simp only [obs,oms] at hc
    obtain ⟨Q,D,y',T,rfl⟩:=hc
    exact (zbc j B ho J u D T h).good wf j
   ·cases hc
  ·cases hc
theorem zaE (b:Sim C) (hG:E.G C.w) (j:Y5 C a e) {t:TypeId} {p:Operand} (l:o.op=.load t p) {x:XO} (hc:WA E.P (.load t p)=some x) (h:xop E x e C.L K):Zy E C a o K:=by
 simp only [WA,obs,oms] at hc
 obtain ⟨g,hg,n,s,q,m,rfl⟩:=hc
 cases g
 ·simp only [Bool.false_eq_true,if_false,xop] at h
  split at h
  ·rename_i rows r off d
   exact z0s b hG j l m hg d h.1 h.2.1 h.2.2
  ·exact h.elim
 ·simp only [if_true,xop] at h
  split at h
  ·rename_i rows r off d
   exact z0x b hG j l m hg s d h.1 h.2.1 h.2.2
  ·exact h.elim
theorem z9D (wf:Wf E.g0 C) (b:Sim C) (hG:E.G C.w) (d:Y5 C a e) {x:XO} (hc:WA E.P o.op=some x) (h:xop E x e C.L K):Good E C a o K:=
 z1a (.inl rfl) wf b hG d hc (ziH h)
end
section
variable {E:Env} {e:Opd->IV} {L:List Blk} {K:IV->List Blk->Prop}
theorem z6a {ρ ρ':Rho} (x:Opd) (h:∀n∈x.us,ρ n=ρ' n):x.ev ρ=x.ev ρ':=by
 cases x with
 | t n=>exact h n (by simp [Opd.us])
 | _=>rfl
theorem z5i {ρ ρ':Rho}:∀(l:List Opd),(∀n∈usL l,ρ n=ρ' n)->l.map (Opd.ev ρ)=l.map (Opd.ev ρ')
 | [],_=>rfl
 | x::r,h=>by
  simp only [List.map_cons]
  rw [z6a x (fun n b=>h n (by simp [usL,b])),z5i r (fun n b=>h n (by simp only [usL,List.flatMap_cons,List.mem_append];exact .inr b))]
theorem zeg {ρ ρ':Rho} (x:Option Opd) (h:∀n∈usO x,ρ n=ρ' n):x.map (Opd.ev ρ)=x.map (Opd.ev ρ'):=by
 cases x with
 | none=>rfl
 | some x=>simp only [Option.map_some];rw [z6a x h]
theorem z8o {o:XO} {ρ ρ':Rho} (h:∀n∈o.us,ρ n=ρ' n):xop E o (Opd.ev ρ) L K=xop E o (Opd.ev ρ') L K:=by
 have h1:∀{x:Opd},(∀n,n∈x.us->n∈o.us)->x.ev ρ=x.ev ρ':=fun {x} j=>z6a x fun n d=>h n (j n d)
 have r:∀{x:Option Opd},(∀n,n∈usO x->n∈o.us)->x.map (Opd.ev ρ)=x.map (Opd.ev ρ'):=fun {x} j=>zeg x fun n d=>h n (j n d)
 have m:∀{l:List Opd},(∀n,n∈usL l->n∈o.us)->l.map (Opd.ev ρ)=l.map (Opd.ev ρ'):=fun {l} j=>z5i l fun n d=>h n (j n d)
 cases o with
 | mov x | box x | load1 x | loadN _ x | nilck x | un _ x | cvInt _ x | cvIntStr x | fldA _ x | len x | lenS x | isNil _ _ x | ext x _=>
  simp only [xop,h1 (x:=x) (fun n d=>d)]
 | pick c x y=>
  simp only [xop]
  rw [h1 (x:=c) (fun n d=>by simp [XO.us,d]),h1 (x:=x) (fun n d=>by simp [XO.us,d]),h1 (x:=y) (fun n d=>by simp [XO.us,d])]
 | alloc z=>rfl
 | build z ps=>
  simp only [xop]
  have:(ps.map fun p=>(p.1,p.2.1,p.2.2.ev ρ))=ps.map fun p=>(p.1,p.2.1,p.2.2.ev ρ'):=
   List.map_congr_left fun p q=>by rw [h1 (x:=p.2.2) (fun n d=>by simp only [XO.us,List.mem_flatMap];exact ⟨p,q,d⟩)]
  rw [this]
 | bslice sz z len ps=>
  simp only [xop]
  have:(ps.map fun p=>(p.1,p.2.ev ρ))=ps.map fun p=>(p.1,p.2.ev ρ'):=
   List.map_congr_left fun p q=>by rw [h1 (x:=p.2) (fun n d=>by simp only [XO.us,List.mem_flatMap];exact ⟨p,q,d⟩)]
  rw [this]
 | store _ x y | bin _ x y | eqB _ x y | idxS _ x y | idxA _ _ x y | idx x y | append _ _ x y | max2 x y=>
  simp only [xop]
  rw [h1 (x:=x) (fun n d=>by simp [XO.us,d]),h1 (x:=y) (fun n d=>by simp [XO.us,d])]
 | slice _ x lo hi | sliceS x lo hi=>
  simp only [xop]
  rw [h1 (x:=x) (fun n d=>by simp [XO.us,d]),r (x:=lo) (fun n d=>by simp [XO.us,d]),r (x:=hi) (fun n d=>by simp [XO.us,d])]
 | mkfn f a b=>
  simp only [xop]
  rw [m (l:=a) (fun n d=>by simp [XO.us,d]),m (l:=b) (fun n d=>by simp [XO.us,d])]
 | call f as | pcall f as=>
  simp only [xop]
  rw [h1 (x:=f) (fun n d=>by simp [XO.us,d]),m (l:=as) (fun n d=>by simp [XO.us,d])]
 | ex k xs=>
  simp only [xop]
  rw [m (l:=xs) (fun n d=>by simpa [XO.us] using d)]
theorem zbp {op:BinOp} {x y:IV} {Q:IV->Prop} (h:VM op x y Q):∃r,Q r/\∀Q':IV->Prop,Q' r->VM op x y Q':=by
 unfold VM at h
 split at h<;>first
  | exact ⟨_,h,fun _ b=>b⟩
  | exact ⟨_,h.2,fun _ b=>⟨h.1,b⟩⟩
  | exact ⟨_,h.2.2,fun _ b=>⟨h.1,h.2.1,b⟩⟩
  | (obtain ⟨r,h1,h2⟩:=h;exact ⟨_,h2,fun _ b=>by rw [z5L];exact ⟨r,h1,b⟩⟩)
  | exact h.elim
theorem zdP {op:UnOp} {x:IV} {Q:IV->Prop} (h:xun op x Q):∃r,Q r/\∀Q':IV->Prop,Q' r->xun op x Q':=by
 unfold xun at h
 split at h<;>first
  | (obtain ⟨r,h1,h2⟩:=h;exact ⟨_,h2,fun _ b=>⟨r,h1,b⟩⟩)
  | exact ⟨_,h,fun _ b=>b⟩
  | exact h.elim
theorem y5 {x:Option IV} {d:Nat} {Q:Nat->Prop} (h:bnd x d Q):∃n,Q n/\∀Q':Nat->Prop,Q' n->bnd x d Q':=by
 unfold bnd at h
 split at h<;>first
  | exact ⟨_,h,fun _ b=>b⟩
  | exact ⟨_,h.2,fun _ b=>⟨h.1,b⟩⟩
  | exact h.elim
theorem zg6 {k:XX} {vs:List IV} {g:Nat} (b:k.kd=0) (h:xex E k vs g L K):∃r,K r L/\∀(d:Nat) (L':List Blk) (K':IV->List Blk->Prop),K' r L'->xex E k vs d L' K':=by
 cases k<;>simp only [XX.kd] at b<;>try (exact absurd b (by decide))
 case mkif t=>
  simp only [xex] at h ⊢
  split at h<;>try exact h.elim
  exact ⟨_,h,fun _ _ _ b=>b⟩
 case itof f=>
  simp only [xex] at h ⊢
  split at h<;>try exact h.elim
  exact ⟨_,h,fun _ _ _ b=>b⟩
 case cpx=>
  simp only [xex] at h ⊢
  split at h<;>try exact h.elim
  exact ⟨_,h.2,fun _ _ _ b=>⟨h.1,b⟩⟩
 case ru op=>
  simp only [xex] at h ⊢
  split at h<;>try exact h.elim
  obtain ⟨r,h1,h2⟩:=h
  exact ⟨_,h2,fun _ _ _ b=>⟨r,h1,b⟩⟩
 all_goals
  simp only [xex] at h ⊢
  split at h<;>(try exact h.elim)
  split at h<;>(try exact h.elim)
  exact ⟨_,h,fun _ _ _ b=>b⟩
theorem z5H {o:XO} (d:o.kd=0) (h:xop E o e L K):∃r,K r L/\∀(L':List Blk) (K':IV->List Blk->Prop),K' r L'->xop E o e L' K':=by
 cases o<;>simp only [XO.kd] at d<;>try (exact absurd d (by decide))
 case isNil q neg x=>
  split at d
  ·rename_i p
   subst p
   simp only [xop,zdH] at h ⊢
   split at h<;>first | exact h.elim | (rename_i m _;exact absurd m (by decide)) | (rename_i m _ _;exact absurd m (by decide)) | skip
   all_goals first | exact ⟨_,h,fun _ _ d=>d⟩ | (simp_all;done)
  ·exact absurd d (by decide)
 case mov x=>exact ⟨_,h,fun _ _ d=>d⟩
 case mkfn f a b=>exact ⟨_,h,fun _ _ d=>d⟩
 case bin op x y=>
  simp only [xop] at h ⊢
  obtain ⟨r,h1,h2⟩:=zbp h
  exact ⟨r,h1,fun L' K' d=>h2 (fun v=>K' v L') d⟩
 case un op x=>
  simp only [xop] at h ⊢
  obtain ⟨r,h1,h2⟩:=zdP h
  exact ⟨r,h1,fun L' K' d=>h2 (fun v=>K' v L') d⟩
 case sliceS x lo hi=>
  simp only [xop] at h ⊢
  split at h
  ·rename_i s hs
   obtain ⟨l,h,h1⟩:=y5 h
   obtain ⟨hh,h,h2⟩:=y5 h
   exact ⟨_,h.2.2,fun L' K' d=>h1 _ (h2 _ ⟨h.1,h.2.1,d⟩)⟩
  ·exact h.elim
 all_goals
  simp only [xop] at h ⊢
  (try split at h)<;>first
   | exact h.elim
   | exact ⟨_,h,fun _ _ d=>d⟩
   | exact ⟨_,h.2,fun _ _ d=>⟨h.1,d⟩⟩
   | exact ⟨_,h.2.2,fun _ _ d=>⟨h.1,h.2.1,d⟩⟩
   | (obtain ⟨r,h1,h2⟩:=zg6 (by simpa [XO.kd] using d) h;exact ⟨r,h1,fun L' K' j=>h2 _ L' K' j⟩)
   | skip
theorem Zz {b:Blk} {s:Nat} {k:Blk} (h:L[s]?=some k):(L++[b])[s]?=some k:=by
 rw [List.getElem?_append_left (zf h)];exact h
theorem z0H {gl:Nat->Option (List IV)} {x:IV} {b:Blk} {y:List (List IV) × Nat × Nat} (h:y8 gl L x=some y):y8 gl (L++[b]) x=some y:=by
 unfold y8 at h ⊢
 split at h
 ·exact h
 ·split at h
  ·rename_i hs;simp only [Zz hs];exact h
  ·rename_i hs;simp only [Zz hs];exact h
  ·cases h
 ·exact h
 ·cases h
theorem z7t {x:IV} {b:Blk} {y:List (List IV)} (h:rowsOf L x=some y):rowsOf (L++[b]) x=some y:=by
 unfold rowsOf at h ⊢
 split at h
 ·exact h
 ·exact h
 ·split at h
  ·rename_i hs;simp only [Zz hs];exact h
  ·rename_i hs;simp only [Zz hs];exact h
  ·cases h
 ·exact h
 ·exact h
 ·cases h
theorem z7p {x:IV} {b:Blk} {y:List (List IV)} (h:yG L x=some y):yG (L++[b]) x=some y:=by
 unfold yG at h ⊢
 split at h
 ·cases h
 ·exact z7t h
theorem z6h {s m:Nat} {b:Blk} (h:Yk L s=some m):Yk (L++[b]) s=some m:=by
 unfold Yk at h ⊢
 split at h
 ·rename_i hs;simp only [Zz hs];exact h
 ·rename_i hs;simp only [Zz hs];exact h
 ·cases h
theorem WE:∀(n:Nat) (x:IV) (L L':List Blk),conv L n Za x=conv L' n Za x
 | 0,_,_,_=>rfl
 | n+1,x,L,L'=>by
  have b:zJ (conv L n Za)=zJ (conv L' n Za):=by
   congr 1;funext y;exact WE n y L L'
  cases x<;>simp only [conv,Za,b]
  case iface t v=>rw [WE n v L L']
theorem Ye {m j:Type} {f g:m->Option j} (h:∀x y,f x=some y->g x=some y):∀{l:List m} {d:List j},zJ f l=some d->zJ g l=some d
 | [],_,hl=>hl
 | x::r,d,hl=>by
  simp only [zJ] at hl ⊢
  split at hl
  ·rename_i y p
   split at hl
   ·rename_i q b
    rw [h _ _ p,Ye h b];exact hl
   ·cases hl
  ·cases hl
theorem Ve {L L':List Blk} (p:∀(s:Nat) (k:Blk),L[s]?=some k->L'[s]?=some k):∀(n:Nat) (m:Ren) (x y:IV),conv L n m x=some y->conv L' n m x=some y
 | 0,_,_,_,h=>h
 | n+1,m,x,y,h=>by
  have u:∀(m:Ren) {l q:List IV},zJ (conv L n m) l=some q->zJ (conv L' n m) l=some q:=fun m=>Ye fun x y=>Ve p n m x y
  have h1:∀(m:Ren) {l q:List (List IV)},zJ (zJ (conv L n m)) l=some q->zJ (zJ (conv L' n m)) l=some q:=fun m=>Ye fun x y=>u m
  cases x with
  | ptr s r o=>
   simp only [conv] at h ⊢
   split at h
   ·exact h
   ·split at h
    ·rename_i hs
     rw [p _ _ hs]
     simp only [oms] at h ⊢
     obtain ⟨a,h2,d⟩:=h
     exact ⟨a,h1 _ h2,d⟩
    ·rename_i hs
     rw [p _ _ hs]
     simp only [oms] at h ⊢
     obtain ⟨a,h2,d⟩:=h
     exact ⟨a,h1 _ h2,d⟩
    ·cases h
   ·cases h
  | sl s off len cap=>
   simp only [conv] at h ⊢
   split at h
   ·exact h
   ·split at h
    ·rename_i hs
     rw [p _ _ hs]
     simp only
     split at h
     ·rename_i j
      rw [if_pos j]
      simp only [oms] at h ⊢
      obtain ⟨a,h2,d⟩:=h
      exact ⟨a,h1 _ h2,d⟩
     ·cases h
    ·rename_i hs
     rw [p _ _ hs]
     simp only
     split at h
     ·rename_i j
      rw [if_pos j]
      simp only [oms] at h ⊢
      obtain ⟨a,h2,d⟩:=h
      exact ⟨a,h1 _ h2,d⟩
     ·cases h
    ·cases h
   ·cases h
  | agg cs=>simp only [conv,oms] at h ⊢;obtain ⟨a,h2,d⟩:=h;exact ⟨a,u _ h2,d⟩
  | tup cs=>simp only [conv,oms] at h ⊢;obtain ⟨a,h2,d⟩:=h;exact ⟨a,u _ h2,d⟩
  | fn f a b=>
   simp only [conv] at h ⊢
   split at h
   ·rename_i ha w
    rw [u _ ha,u _ w];exact h
   ·cases h
  | iface t v=>simp only [conv,oms] at h ⊢;obtain ⟨a,h2,d⟩:=h;exact ⟨a,Ve p n m v a h2,d⟩
  | _=>exact h
theorem z1s:∀(n:Nat) (x y:IV),conv L n Za x=some y->conv L n zF x=some y
 | 0,_,_,h=>h
 | n+1,x,y,h=>by
  have j:∀{l m:List IV},zJ (conv L n Za) l=some m->zJ (conv L n zF) l=some m:=Ye fun x y=>z1s n x y
  cases x with
  | ptr s r o=>simp only [conv,Za] at h;cases h
  | sl s off len cap=>simp only [conv,Za] at h;cases h
  | mp s=>simp only [conv,Za] at h;cases h
  | yld s=>simp only [conv,Za] at h;cases h
  | agg cs=>simp only [conv,oms] at h ⊢;obtain ⟨a,h2,d⟩:=h;exact ⟨a,j h2,d⟩
  | tup cs=>simp only [conv,oms] at h ⊢;obtain ⟨a,h2,d⟩:=h;exact ⟨a,j h2,d⟩
  | fn f a b=>
   simp only [conv] at h ⊢
   split at h
   ·rename_i ha p
    rw [j ha,j p];exact h
   ·cases h
  | iface t v=>simp only [conv,oms] at h ⊢;obtain ⟨a,h2,d⟩:=h;exact ⟨a,z1s n v a h2,d⟩
  | _=>exact h
theorem zfN {k:XX} {vs:List IV} {g:Nat} (d:k.kd=1) (h:xex E k vs g L K):∃r,K r L/\(∀(j:Nat) (K':IV->List Blk->Prop),K' r L->xex E k vs j L K')/\
  ∀(j:Nat) (b:Blk) (K':IV->List Blk->Prop),K' r (L++[b])->xex E k vs j (L++[b]) K':=by
 cases k<;>simp only [XX.kd] at d<;>try (exact absurd d (by decide))
 case mlook st zero ok=>
  simp only [xex] at h ⊢
  split at h
  ·exact ⟨_,h.2,fun _ _ d=>⟨h.1,d⟩,fun _ _ _ d=>⟨h.1,d⟩⟩
  ·rename_i m k q
   unfold jB vT at h ⊢
   split at h
   ·rename_i s
    obtain ⟨h1,h⟩:=h
    split at h
    ·rename_i u c p
     split at h
     ·rename_i r l
      cases r with
      | none=>
       refine ⟨_,h,fun _ K' d=>⟨h1,?_⟩,fun _ b K' d=>⟨h1,?_⟩⟩
       ·simp only [];exact d
       ·simp only [Zz p,l];exact d
      | some i=>
       refine ⟨_,h,fun _ K' d=>⟨h1,?_⟩,fun _ b K' d=>⟨h1,?_⟩⟩
       ·simp only [];exact d
       ·simp only [Zz p,l];exact d
     ·exact h.elim
    ·exact h.elim
   ·exact h.elim
  ·exact h.elim
 case bStr=>
  simp only [xex] at h ⊢
  split at h<;>try exact h.elim
  split at h<;>try exact h.elim
  rename_i v s hs
  refine ⟨_,h,fun j K' d=>d,fun j b K' d=>?_⟩
  obtain ⟨rs,h1,h2⟩:=Option.bind_eq_some_iff.1 hs
  rw [z7p h1,Option.bind_some,h2]
  exact d
theorem z9R {o:XO} (d:o.kd=1) (h:xop E o e L K):∃r,K r L/\(∀K':IV->List Blk->Prop,K' r L->xop E o e L K')/\∀(b:Blk) (K':IV->List Blk->Prop),K' r (L++[b])->xop E o e (L++[b]) K':=by
 cases o<;>simp only [XO.kd] at d<;>try (exact absurd d (by decide))
 case isNil=>split at d<;>exact absurd d (by decide)
 case load1 x=>
  simp only [xop] at h ⊢
  split at h
  ·rename_i rows r off v
   refine ⟨_,h.2.2,fun K' d=>?_,fun b K' d=>?_⟩
   ·exact ⟨h.1,h.2.1,d⟩
   ·simp only [z0H v];exact ⟨h.1,h.2.1,d⟩
  ·exact h.elim
 case loadN n x=>
  simp only [xop] at h ⊢
  split at h
  ·rename_i rows r off v
   refine ⟨_,h.2.2,fun K' d=>?_,fun b K' d=>?_⟩
   ·exact ⟨h.1,h.2.1,d⟩
   ·simp only [z0H v];exact ⟨h.1,h.2.1,d⟩
  ·exact h.elim
 case idxS m x i=>
  simp only [xop] at h ⊢
  split at h
  ·exact ⟨_,h.2.2.2,fun K' d=>⟨h.1,h.2.1,h.2.2.1,d⟩,fun b K' d=>⟨h.1,h.2.1,h.2.2.1,d⟩⟩
  ·exact ⟨_,h.2.2.2,fun K' d=>⟨h.1,h.2.1,h.2.2.1,d⟩,fun b K' d=>⟨z6h h.1,h.2.1,h.2.2.1,d⟩⟩
  ·exact h.elim
 case slice m x lo hi=>
  simp only [xop] at h ⊢
  split at h
  ·obtain ⟨j,h⟩:=h
   obtain ⟨l,h,h1⟩:=y5 h
   obtain ⟨hh,h,h2⟩:=y5 h
   exact ⟨_,h.2.2,fun K' d=>⟨j,h1 _ (h2 _ ⟨h.1,h.2.1,d⟩)⟩,fun b K' d=>⟨j,h1 _ (h2 _ ⟨h.1,h.2.1,d⟩)⟩⟩
  ·obtain ⟨j,h⟩:=h
   obtain ⟨l,h,h1⟩:=y5 h
   obtain ⟨hh,h,h2⟩:=y5 h
   exact ⟨_,h.2.2,fun K' d=>⟨j,h1 _ (h2 _ ⟨h.1,h.2.1,d⟩)⟩,fun b K' d=>⟨z6h j,h1 _ (h2 _ ⟨h.1,h.2.1,d⟩)⟩⟩
  ·obtain ⟨l,h,h1⟩:=y5 h
   obtain ⟨hh,h,h2⟩:=y5 h
   exact ⟨_,h.2.2,fun K' d=>h1 _ (h2 _ ⟨h.1,h.2.1,d⟩),fun b K' d=>h1 _ (h2 _ ⟨h.1,h.2.1,d⟩)⟩
  ·obtain ⟨l,h,h1⟩:=y5 h
   obtain ⟨hh,h,h2⟩:=y5 h
   exact ⟨_,h.2.2,fun K' d=>h1 _ (h2 _ ⟨h.1,h.2.1,d⟩),fun b K' d=>h1 _ (h2 _ ⟨h.1,h.2.1,d⟩)⟩
  ·exact h.elim
 case pcall f as=>
  simp only [xop] at h ⊢
  split at h
  ·rcases h with ⟨A,args',r,h1,h2,j,q,w⟩ | ⟨r,h1,h2,w⟩
   ·exact ⟨r,w,fun K' d=>.inl ⟨A,args',r,h1,h2,j,q,d⟩,fun b K' d=>.inl ⟨A,args',r,Ye (fun x y=>Ve (fun s k hs=>Zz hs) fuel _ x y) h1,h2,j,q,d⟩⟩
   ·refine ⟨r,w,fun K' d=>.inr ⟨r,h1,h2,d⟩,fun b K' d=>.inr ⟨r,?_,fun L' ha=>h2 L' fun i hi=>?_,d⟩⟩
    ·have u:conv (L++[b]) fuel Za=conv L fuel Za:=by funext y;exact WE fuel y _ _
     rw [u];exact h1
    ·rw [ha i (by rw [lla];omega),List.getElem?_append_left hi]
  ·exact h.elim
 case ex k xs=>
  obtain ⟨r,h1,h2,q⟩:=zfN (by simpa [XO.kd] using d) h
  exact ⟨r,h1,fun K' p=>h2 _ K' p,fun b K' p=>q _ b K' p⟩
theorem z9r {o:XO} (d:o.kd=2) (h:xop E o e L K):∃r b,K r (L++[b])/\∀K':IV->List Blk->Prop,K' r (L++[b])->xop E o e L K':=by
 cases o<;>simp only [XO.kd] at d<;>try (exact absurd d (by decide))
 case isNil=>split at d<;>exact absurd d (by decide)
 case alloc z=>exact ⟨_,_,h,fun K' d=>d⟩
 case box x=>exact ⟨_,_,h,fun K' d=>d⟩
 case ex k xs=>
  cases k<;>first | (simp [XX.kd] at d;done) | skip
  simp only [xop,xex] at h ⊢
  split at h
  ·rename_i s hs
   rw [Zw] at h
   refine ⟨_,_,h.2,fun K' d=>⟨h.1,?_⟩⟩
   rw [Zw];exact d
  ·exact h.elim
theorem zfs {o:XO} (b:o.kd=3) (h:xop E o e L K):∃r L',K r L'/\∀K':IV->List Blk->Prop,K' r L'->xop E o e L K':=by
 cases o<;>simp only [XO.kd] at b<;>try (exact absurd b (by decide))
 case isNil=>split at b<;>exact absurd b (by decide)
 case store n x y=>
  simp only [xop] at h ⊢
  split at h
  ·split at h
   ·exact ⟨_,_,h.2.2.2.2,fun K' b=>⟨h.1,h.2.1,h.2.2.1,h.2.2.2.1,b⟩⟩
   ·exact ⟨_,_,h.2.2.2.2,fun K' b=>⟨h.1,h.2.1,h.2.2.1,h.2.2.2.1,b⟩⟩
   ·exact h.elim
  ·exact h.elim
 case ex k xs=>
  cases k<;>first | (simp [XX.kd] at b;done) | skip
theorem z8n {o:XO} (j:o.kd<4) (h:xop E o e L K):∃r L',K r L'/\∀K':IV->List Blk->Prop,K' r L'->xop E o e L K':=by
 have l:o.kd=0\/o.kd=1\/o.kd=2\/o.kd=3:=by omega
 rcases l with d | d | d | d
 ·obtain ⟨r,h1,h2⟩:=z5H d h;exact ⟨r,L,h1,fun K' j=>h2 L K' j⟩
 ·obtain ⟨r,h1,h2,_⟩:=z9R d h;exact ⟨r,L,h1,h2⟩
 ·obtain ⟨r,b,h1,h2⟩:=z9r d h;exact ⟨r,_,h1,h2⟩
 ·exact zfs d h
theorem XT.mono {f:FuncId} {args:List IV} {L:List Blk} {R R':IV->List Blk->Prop} (h:XT E f args L R) (l:∀r L',R r L'->R' r L'):XT E f args L R':=
 ⟨h.1,fun w p X vs wf d hG m j=>(h.2 w p X vs wf d hG m j).mono fun e w' ⟨r,L',b,v,h1,h2⟩=>⟨r,L',b,v,l _ _ h1,h2⟩⟩
theorem XTP.mono {f:FuncId} {args:List IV} {L:List Blk} {R R' Q Q':IV->List Blk->Prop} (h:XTP E f args L R Q) (l:∀r L',R r L'->R' r L') (A:∀r L',Q r L'->Q' r L'):XTP E f args L R' Q':=
 ⟨h.1,fun w p X vs wf d hG m j=>(h.2 w p X vs wf d hG m j).mono fun e w' ⟨r,L',b,v,h1,h2,u,q,s⟩=>⟨r,L',b,v,h1,h2,u,q,s.imp (fun h=>⟨l _ _ h.1,h.2⟩) (fun h=>⟨A _ _ h.1,h.2⟩)⟩⟩
theorem zi {f:FuncId} {args args':List IV} {L:List Blk} {K:IV->List Blk->Prop} {r:IV} (hc:zJ (conv L fuel Za) args=some args') (h:zD E f args' r) (d:conv [] fuel (ZR L.length) r=some r)
  (j:K r L):vJ E f args L K:=
 .inl ⟨false,args',hc,h.mono fun b L1 ⟨h1,h2⟩=>by
  subst h1;subst h2
  exact ⟨by simp,b,[],d,rfl,by simpa using j⟩⟩
theorem z5C {o:XO} (h:xop E o.toP e L K):xop E o e L K:=by
 cases o<;>simp only [XO.toP] at h<;>try exact h
 simp only [xop] at h ⊢
 split at h
 ·rename_i p
  simp only [p]
  rcases h with ⟨B,args',r,h1,h2,J,u,b⟩ | ⟨r,h1,h2,b⟩
  ·cases B
   ·exact zi h1 h2 (u _) b
   ·exact .inl ⟨true,args',h1,h2.mono fun M L1 ⟨m,l⟩=>by
     subst m;subst l
     exact ⟨fun _=>⟨J rfl,rfl⟩,_,[],u _,rfl,by simpa using b⟩⟩
  ·refine .inr (.inr (.inr (.inl ⟨(h2 L fun _ _=>rfl).1,fun w I X vs wf j hG G D=>((h2 L fun _ _=>rfl).2 w I X vs wf j hG G D).mono fun e w' ⟨M,L',d,v,⟨m,l⟩,O,A,Q,s,q⟩=>?_⟩)))
   subst m;subst l
   exact ⟨_,_,d,v,A,Q,s,q,.inl ⟨b,O⟩⟩
 ·exact h.elim
end
section
variable {E:Env}
theorem z7m {f:FuncId} {args:List IV} {L:List Blk} {K K':IV->List Blk->Prop} (j:∀v L',K v L'->K' v L') (h:vJ E f args L K):vJ E f args L K':=by
 rcases h with ⟨b,args',h1,h2⟩ | ⟨r,h1,h2⟩ | ⟨s,D,b,args',L0,h1,h2,l,d,u,q⟩ | h1 | h1
 case inr.inr.inr.inl=>exact .inr (.inr (.inr (.inl (h1.mono (fun r L1 h=>j _ _ h) fun _ _ h=>h))))
 case inr.inr.inr.inr=>exact .inr (.inr (.inr (.inr fun w M X vs wf p hG J I=>by
  obtain ⟨r,L',m,v,w',h2,l,d⟩:=h1 w M X vs wf p hG J I
  exact ⟨r,L',m,v,w',h2,j _ _ l,d⟩)))
 case inr.inl=>exact .inr (.inl ⟨r,h1,j _ _ h2⟩)
 case inr.inr.inl=>exact .inr (.inr (.inl ⟨s,D,b,args',L0,h1,h2,l,d,u,q.mono (fun r L1 ⟨O,A,L1',G,Q,B⟩=>⟨O,A,L1',G,Q,j _ _ B⟩) fun _ _ h=>h⟩))
 exact .inl ⟨b,args',h1,h2.mono fun r L1 ⟨l,A,L1',d,u,q⟩=>⟨l,A,L1',d,u,j _ _ q⟩⟩
theorem z8r {op:BinOp} {x y:IV} {K K':IV->Prop} (b:∀v,K v->K' v) (h:VM op x y K):VM op x y K':=by
 unfold VM at *
 split at h
 all_goals first | exact ⟨h.1,b _ h.2⟩ | exact ⟨h.1,h.2.1,b _ h.2.2⟩ | exact h.imp fun _ h=>⟨h.1,b _ h.2⟩ | exact b _ h | exact h.elim
theorem zcC {op:UnOp} {x:IV} {K K':IV->Prop} (b:∀v,K v->K' v) (h:xun op x K):xun op x K':=by
 unfold xun at *
 split at h
 all_goals first | exact h.imp fun _ h=>⟨h.1,b _ h.2⟩ | exact b _ h | exact h.elim
theorem WX {x:Option IV} {d:Nat} {K K':Nat->Prop} (b:∀v,K v->K' v) (h:bnd x d K):bnd x d K':=by
 unfold bnd at *
 split at h
 all_goals first | exact b _ h | exact ⟨h.1,b _ h.2⟩ | exact h.elim
theorem z2W {sz l:Nat} {s x:IV} {L:List Blk} {K K':IV->List Blk->Prop} (j:∀v L',K v L'->K' v L') (h:ZQ sz l s x L K):ZQ sz l s x L K':=by
 unfold ZQ at *
 split
 ·simp_all
 ·rename_i rs p
  rw [p] at h
  refine ⟨h.1,?_⟩
  have h2:=h.2
  split
  ·exact ⟨fun h=>j _ _ (h2.1 h),fun h=>⟨(h2.2 h).1,j _ _ (h2.2 h).2⟩⟩
  ·exact ⟨fun h=>j _ _ (h2.1 h),fun h=>⟨(h2.2 h).1,j _ _ (h2.2 h).2⟩⟩
  ·rename_i t off len cap
   simp only at h2
   split
   ·rename_i r rows u
    simp only [u] at h2
    obtain ⟨m,w,b⟩:=h2
    refine ⟨m,w,?_⟩
    split
    ·rename_i d;rw [if_pos d] at b;exact j _ _ b
    ·rename_i d;rw [if_neg d] at b;exact ⟨b.1,j _ _ b.2⟩
   ·rename_i u
    split at h2
    ·rename_i r rows q;exact absurd q (u _ _)
    ·exact h2
  ·split at h2
   ·rename_i m _ _;exact absurd rfl m
   ·rename_i m _;exact absurd rfl (by assumption)
   ·rename_i t off len cap m w b;exact absurd rfl (b _ _ _ _)
   ·exact h2
theorem z1C {sz l g:Nat} {lay:List Blk->Blk->List Blk} {s x:IV} {L:List Blk} {K K':IV->List Blk->Prop} (j:∀v L',K v L'->K' v L') (h:ZP sz l s x g lay L K):ZP sz l s x g lay L K':=by
 unfold ZP at *
 split
 ·simp_all
 ·rename_i rs p
  rw [p] at h
  refine ⟨h.1,?_⟩
  have h2:=h.2
  split
  ·exact ⟨fun h=>j _ _ (h2.1 h),fun h=>⟨(h2.2 h).1,j _ _ (h2.2 h).2⟩⟩
  ·exact ⟨fun h=>j _ _ (h2.1 h),fun h=>⟨(h2.2 h).1,j _ _ (h2.2 h).2⟩⟩
  ·rename_i t off len cap
   simp only at h2
   split
   ·rename_i r rows u
    simp only [u] at h2
    obtain ⟨m,w,b⟩:=h2
    refine ⟨m,w,?_⟩
    split
    ·rename_i d;rw [if_pos d] at b;exact j _ _ b
    ·rename_i d;rw [if_neg d] at b;exact ⟨b.1,j _ _ b.2⟩
   ·rename_i u
    split at h2
    ·rename_i r rows q;exact absurd q (u _ _)
    ·exact h2
  ·split at h2
   ·rename_i m _ _;exact absurd rfl m
   ·rename_i m _;exact absurd rfl (by assumption)
   ·rename_i t off len cap m w b;exact absurd rfl (b _ _ _ _)
   ·exact h2
theorem z8h {ty bytes g:Nat} {s x:IV} {L:List Blk} {K K':IV->List Blk->Prop} (j:∀v L',K v L'->K' v L') (h:Yj ty bytes s x g L K):Yj ty bytes s x g L K':=by
 unfold Yj at *
 split at h<;>try exact h.elim
 refine ⟨h.1,?_⟩
 have h2:=h.2
 clear h
 split at h2
 ·exact ⟨fun b=>j _ _ (h2.1 b),fun b=>⟨(h2.2 b).1,j _ _ (h2.2 b).2⟩⟩
 ·exact ⟨fun b=>j _ _ (h2.1 b),fun b=>⟨(h2.2 b).1,j _ _ (h2.2 b).2⟩⟩
 ·refine ⟨h2.1,h2.2.1,?_⟩
  have d:=h2.2.2
  clear h2
  split at d<;>try exact d.elim
  ·exact ⟨d.1,d.2.1,d.2.2.1,fun b=>j _ _ (d.2.2.2.1 b),fun b=>⟨(d.2.2.2.2 b).1,j _ _ (d.2.2.2.2 b).2⟩⟩
  ·exact z1C j d
 ·exact h2.elim
theorem VP {st:Bool} {m k:IV} {L:List Blk} {F F':Nat->List (IV × IV × Nat)->Nat->Option Nat->Prop} (d:∀s b c r,F s b c r->F' s b c r) (h:vT st m k L F):vT st m k L F':=by
 unfold vT at *
 split at h
 ·refine ⟨h.1,?_⟩
  have h:=h.2
  split at h
  ·split at h
   ·exact d _ _ _ _ h
   ·exact h.elim
  ·exact h.elim
 ·exact h.elim
theorem zbG {k:XX} {vs:List IV} {g:Nat} {L:List Blk} {K K':IV->List Blk->Prop} (b:∀v L',K v L'->K' v L') (h:xex E k vs g L K):xex E k vs g L K':=by
 cases k<;>simp only [xex] at *<;>try exact h
 case mkif=>split at h<;>first | exact h.elim | exact b _ _ h
 case ru=>split at h<;>first | exact h.imp (fun _ h=>⟨h.1,b _ _ h.2⟩) | exact h.elim
 case itof=>split at h<;>first | exact h.elim | exact b _ _ h
 case cpx=>split at h<;>first | exact h.elim | exact ⟨h.1,b _ _ h.2⟩
 case mmake=>exact b _ _ h
 case mlook=>
  split at h
  ·exact ⟨h.1,b _ _ h.2⟩
  ·exact VP (fun s l c r h=>by cases r<;>exact b _ _ h) h
  ·exact h.elim
 case mset=>split at h<;>first | exact h.elim | exact VP (fun s l c r h=>by cases r<;>exact b _ _ h) h
 case mdel=>split at h<;>first | exact h.elim | exact VP (fun s l c r h=>by cases r<;>exact b _ _ h) h
 case copy=>
  split at h
  ·unfold z3y at *
   split at h
   ·split at h
    ·obtain ⟨h1,h2,m,d⟩:=h
     refine ⟨h1,h2,fun j=>b _ _ (m j),fun j=>?_⟩
     have d:=d j
     split at d
     ·exact ⟨d.1,d.2.1,b _ _ d.2.2⟩
     ·exact ⟨d.1,d.2.1,b _ _ d.2.2⟩
     ·exact d.elim
    ·exact h.elim
   ·exact h.elim
  ·exact h.elim
 case sla=>
  split at h
  ·split at h
   ·exact ⟨h.1,h.2.1,h.2.2.1,h.2.2.2.1,h.2.2.2.2.1,b _ _ h.2.2.2.2.2⟩
   ·exact h.elim
  ·exact h.elim
 case clr=>
  split at h
  ·unfold zh3 at *
   split at h
   ·refine ⟨fun j=>b _ _ (h.1 j),fun j=>?_⟩
    have d:=h.2 j
    split at d
    ·exact ⟨d.1,d.2.1,d.2.2.1,b _ _ d.2.2.2⟩
    ·exact d.elim
   ·exact h.elim
  ·exact h.elim
 case sl3=>split at h<;>first | exact h.elim | exact ⟨h.1,h.2.1,h.2.2.1,h.2.2.2.1,h.2.2.2.2.1,b _ _ h.2.2.2.2.2⟩
 case mrng=>
  split at h
  ·split at h
   ·exact b _ _ h
   ·exact h.elim
  ·exact h.elim
 case mnxt=>
  split at h
  ·split at h
   ·split at h
    ·exact b _ _ h
    ·exact h.elim
   ·exact h.elim
  ·exact h.elim
 case strB=>split at h<;>first | exact h.elim | exact ⟨h.1,b _ _ h.2⟩
 case appT=>split at h<;>first | exact h.elim | exact z8h b h
 case tas=>
  split at h
  ·split at h
   ·rename_i p;rw [if_pos p];exact b _ _ h
   ·exact h.elim
  ·exact h.elim
 all_goals
  split at h<;>try exact h.elim
  split at h<;>try exact h.elim
  exact b _ _ h
theorem YM {o : XO} {e : Opd → IV} {L : List Blk} {K K' : IV → List Blk → Prop} (hk : ∀ v L', K v L' → K' v L') (h : xop E o e L K) : xop E o e L K' := by
  cases o with
  | bin op x y => exact z8r (fun v hv => hk v L hv) h
  | un op x => exact zcC (fun v hv => hk v L hv) h
  | append sz by_ s x => exact z2W hk h
  | store n a x =>
    simp only [xop] at *
    cases hx : e a <;> simp only [hx] at h ⊢ <;> first | exact h.elim | skip
    split at h
    · exact ⟨h.1, h.2.1, h.2.2.1, h.2.2.2.1, hk _ _ h.2.2.2.2⟩
    · exact ⟨h.1, h.2.1, h.2.2.1, h.2.2.2.1, hk _ _ h.2.2.2.2⟩
    · exact h.elim
  | ex k xs => exact zbG hk h
  | slice m x lo hi =>
    simp only [xop] at *
    cases hx : e x <;> simp only [hx] at h ⊢ <;>
      first
        | exact h.elim
        | exact ⟨h.1, WX (fun l => WX fun _ h => ⟨h.1, h.2.1, hk _ _ h.2.2⟩) h.2⟩
        | exact WX (fun l => WX fun _ h => ⟨h.1, h.2.1, hk _ _ h.2.2⟩) h
  | sliceS x lo hi =>
    simp only [xop] at *
    cases hx : e x <;> simp only [hx] at h ⊢ <;>
      first
        | exact h.elim
        | exact WX (fun l => WX fun _ h => ⟨h.1, h.2.1, hk _ _ h.2.2⟩) h
  | call f as =>
    simp only [xop] at *
    split at h
    · exact z7m hk h
    · exact E.hylm _ _ _ _ _ hk h
    · exact h.elim
  | pcall f as =>
    simp only [xop] at *
    split at h
    · rename_i hf
      rcases h with ⟨fz, args', r, h1, h2, h0, h3, h4⟩ | ⟨r, h1, h2, h4⟩
      · exact .inl ⟨fz, args', r, h1, h2, h0, h3, hk _ _ h4⟩
      · exact .inr ⟨r, h1, h2, hk _ _ h4⟩
    · exact h.elim
  | isNil k neg x =>
    simp only [xop] at *
    unfold zdH at *
    split at h <;> first
      | exact hk _ _ h
      | exact ⟨hk _ _ h.1, hk _ _ h.2⟩
      | exact ⟨hk _ _ h.1, fun hr => hk _ _ (h.2 hr)⟩
      | exact h.elim
  | _ =>
    simp only [xop] at *
    first
      | exact hk _ _ h
      | (split at h <;>
          first
            | exact hk _ _ h
            | exact ⟨h.1, hk _ _ h.2⟩
            | exact ⟨h.1, h.2.1, hk _ _ h.2.2⟩
            | exact ⟨h.1, h.2.1, h.2.2.1, hk _ _ h.2.2.2⟩
            | exact ⟨h.1, h.2.1, h.2.2.1, h.2.2.2.1, hk _ _ h.2.2.2.2⟩
            | exact h.elim)
      | (refine ⟨h.1, ?_⟩
         have h2 := h.2
         clear h
         split at h2 <;> first | exact hk _ _ h2 | exact h2.elim)
end
end Go.X
end
