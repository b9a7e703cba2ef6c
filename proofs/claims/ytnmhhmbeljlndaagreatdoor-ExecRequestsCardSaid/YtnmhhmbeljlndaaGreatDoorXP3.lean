/- Parts of the proof: XEx, XMap, XCopy, XSla, XClr. -/
import Derived.Test.YtnmhhmbeljlndaaGreatDoorXP2
import Derived.Lib.Builder
import Derived.Lib.UnsafeStr
import Derived.Lib.ConvBytes
import Derived.Laws.BytesString
import Derived.Laws.Cover4
import Derived.Laws.StructEq
import Derived.LaidEql
set_option linter.unusedVariables false
set_option linter.unusedSimpArgs false
set_option linter.unusedSectionVars false
section
namespace Go.X
open Go
section
variable {E:Env} {C:Ctx} {a:Act} {o:Oper} {e:Opd->IV} {K:IV->List Blk->Prop} {g:Nat}
theorem z4a {g:Nat} (hg:Free C.L g) {c:Array Value} {ty:TypeId} {b:Nat × Nat} {sz:Nat} {rows:List (List IV)} {r:IV} {v:Value} (wf:Wf E.g0 C) (l:Sim C) (m:z8b true c.size b)
  (s:Flat C c 0 sz rows) (p:VR (Yf C g (.cells c ty b) (.tcells ty sz rows) sz) r v) (h:K r (Z4 C.L g (.tcells ty sz rows))) :
  Post E C K v (yK C.w (.cells c ty b)):=by
 refine ⟨r,Z4 C.L g (Blk.tcells ty sz rows),newφ C g sz,h,z0u (o:=.cells c ty b) hg wf l,VQ (o:=.cells c ty b) hg l ?_,wV hg (.cells c ty b) (.tcells ty sz rows) sz,p⟩
 have d:=s.mono (wV hg (.cells c ty b) (.tcells ty sz rows) sz)
 refine ⟨⟨by simp [Yf,newφ],c,ty,b,by simp only [Yf,newφ,if_true];exact ZB,m,?_,?_⟩,by simp [Yf,newφ],c,b,by simp only [Yf,newφ,if_true];exact ZB⟩
 ·simpa [Yf,newφ] using d.1
 ·intro i row hi
  refine ⟨(d.2 i row hi).1,fun j x q=>?_⟩
  obtain ⟨u,h1,h2⟩:=(d.2 i row hi).2 j x q
  exact ⟨u,by simpa [Yf,newφ] using h1,h2⟩
theorem za5 (l:Sim C) (j:Y5 C a e) {t:TypeId} {x:Operand} {b:Opd} (d:o.op=.makeInterface t x) (hc:E.P.concrete t=true) (m:opd x=some b) (h:K (.iface t (e b)) C.L):Zy E C a o K:=
 zu (s:=Instr.makeInterface t (a.eval x)) (by unfold execOp;rw [d]) (run_makeInterface _ t _ hc) (ZH (.iface _ _ _ (j x b m)) h)
theorem z7G (wf:Wf E.g0 C) (j:Sim C) (q:Y5 C a e) {x:Operand} {m:Opd} (p:o.op=.panic x) (s:opd x=some m) {t:TypeId} {y:IV} (d:e m=.iface t y) (h:E.pan (.iface t y) C.L):Good E C a o K:=by
 have l:=q x m s
 rw [d] at l
 generalize b:a.eval x=xv at l
 cases l with
 | iface _ _ u r=>
 refine .inr (.inr (.inr (.inr ⟨.iface t u,C.w,?_,ZW wf j (.iface _ _ _ r) h⟩)))
 have e1:execOp a.eval o=(do pure (Next.value (<-Instr.panic (a.eval x)))):=by unfold execOp;rw [p]
 rw [e1,b,Sem.run_bind]
 rfl
theorem z8U {P:Program} {t u:TypeId} {n:Nat} (r:P.underlying t=some (.pointer u)) (s:Zx P u=some n) (B:n≠0) (w:World) (neg:Bool) (x y:Operand) {m l:Value} {b:Bool}
  (h:(∃q,m=.pointer q/\l=.pointer q/\b=true)\/(∃q,m=.pointer (some q)/\l=.pointer none/\b=false)\/∃q,m=.pointer none/\l=.pointer (some q)/\b=false) :
  (do eqGuard (if neg then .neq else .eql) t x y m l;binOp (if neg then .neq else .eql) t m l:Sem Value).run P w=.ok (.bool (if neg then !b else b)) w:=by
 obtain ⟨j,A,v⟩:∃j,P.info? u=some j/\j.size=n:=by
  unfold Zx at s;rw [oms] at s;exact s
 have key:∀d,(Op.equalIn (d+1) t m l).run P w=.ok b w:=fun d=>by
  rcases h with ⟨q,rfl,rfl,rfl⟩ | ⟨q,rfl,rfl,rfl⟩ | ⟨q,rfl,rfl,rfl⟩
  ·cases q with
   | none=>simp [Op.equalIn,run_underlying r]
   | some q=>simp [Op.equalIn,run_underlying r,sizeOf,typeInfo,A,run_sameAddr_same]
  ·simp [Op.equalIn,run_underlying r]
  ·simp [Op.equalIn,run_underlying r]
 have D:∃p q,m=.pointer p/\l=.pointer q:=by
  rcases h with ⟨q,rfl,rfl,_⟩ | ⟨q,rfl,rfl,_⟩ | ⟨q,rfl,rfl,_⟩<;>exact ⟨_,_,rfl,rfl⟩
 obtain ⟨p,q,rfl,rfl⟩:=D
 exact z03 neg x y (by cases neg<;>rfl) (by cases neg<;>simp [binOp]) (key 9999)
theorem z6w (B:Sim C) (u:Y5 C a e) {op:BinOp} {t ty A:TypeId} {n:Nat} {x y:Operand} {p m:Opd} {neg:Bool} (G:o.op=.binOp op t x y ty) (r:op=if neg then .neq else .eql) (I:E.P.underlying t=some (.pointer A))
  (D:Zx E.P A=some n) (q:n≠0) (M:opd x=some p) (J:opd y=some m) (h:xex E (.eqP neg) [e p,e m] g C.L K):Zy E C a o K:=by
 have j:=u x p M
 have d:=u y m J
 subst r
 simp only [xex] at h
 split at h
 ·rename_i b l
  refine zu (s:=do eqGuard (if neg then .neq else .eql) t x y (a.eval x) (a.eval y);binOp (if neg then .neq else .eql) t (a.eval x) (a.eval y)) (v:=.bool (if neg then !b else b)) (w':=C.w) (by unfold execOp;rw [G]) ?_ (ZH (.bool _) h)
  refine z8U I D q C.w neg x y ?_
  generalize a.eval x=xv at *
  generalize a.eval y=yv at *
  generalize e p=ex at *
  generalize e m=ey at *
  unfold vI at l
  split at l
  ·split at l
   ·rename_i hs
    obtain ⟨rfl,rfl,rfl⟩:=hs
    cases l
    cases j;cases d
    exact .inl ⟨_,rfl,rfl,rfl⟩
   ·cases l
  ·cases l;cases j;cases d
   exact .inr (.inl ⟨_,rfl,rfl,rfl⟩)
  ·cases l;cases j;cases d
   exact .inr (.inr ⟨_,rfl,rfl,rfl⟩)
  ·cases l;cases j;cases d
   exact .inr (.inl ⟨_,rfl,rfl,rfl⟩)
  ·cases l;cases j;cases d
   exact .inl ⟨_,rfl,rfl,rfl⟩
  ·cases l
 ·exact h.elim
theorem z9f {g:Nat} (hg:Free C.L g) (wf:Wf E.g0 C) (r:Sim C) (J:Y5 C a e) {s d l:TypeId} {x:Operand} {q:Opd} (M:o.op=.convert s d x) (hs:E.P.underlying s=some .string) (hd:E.P.underlying d=some (.slice l)) (G:E.P.underlying l=some (.int .u8))
  (Q:opd x=some q) (h:xex E (.strB l) [e q] g C.L K):Good E C a o K:=by
 have A:=J x q Q
 simp only [xex] at h
 split at h
 ·rename_i t m
  obtain m:e q=.str t:=by simpa using m
  obtain ⟨u,h⟩:=h
  rw [m] at A
  generalize D:a.eval x=xv at A
  cases A
  have O:Lib.bytesWorld C.w l ⟨t.toArray⟩=yK (yP C).w (.cells (Lib.bytesCells C.w l ⟨t.toArray⟩) l ((Lib.bytesCells C.w l ⟨t.toArray⟩).size,(Lib.bytesCells C.w l ⟨t.toArray⟩).size+1)):=by
   have hh:(Lib.bytesWorld C.w l ⟨t.toArray⟩).heap=C.w.heap.push (.cells (Lib.bytesCells C.w l ⟨t.toArray⟩) l ((Lib.bytesCells C.w l ⟨t.toArray⟩).size,(Lib.bytesCells C.w l ⟨t.toArray⟩).size+1)):=by
    apply Array.ext_getElem?
    intro j
    rw [Array.getElem?_push]
    rcases Nat.lt_trichotomy j C.w.heap.size with h1 | h1 | h1
    ·rw [if_neg od];exact Lib.bytesWorld_at_old _ _ _ _ h1
    ·rw [if_pos h1,h1];exact Lib.bytesWorld_at_new _ _ _
    ·rw [if_neg od,Array.getElem?_eq_none (by rw [Lib.bytesWorld_size];omega),Array.getElem?_eq_none od]
   have e1:Lib.bytesWorld C.w l ⟨t.toArray⟩={ (yP C).w with heap:=(Lib.bytesWorld C.w l ⟨t.toArray⟩).heap }:=by
    unfold Lib.bytesWorld World.freeze
    simp only [Nat.one_ne_zero,if_false]
    rfl
   rw [e1,hh];rfl
  have hsz:(Lib.bytesCells C.w l ⟨t.toArray⟩).size=t.length+(grownCap C.w t.length 0 l - t.length):=by
   simp [Lib.bytesCells,ByteArray.size]
  have p:t.length<=grownCap C.w t.length 0 l:=by
   exact grownCap_ge _ _ _ _
  refine yU (s:=convert s d (a.eval x)) (v:=.slice (some ⟨C.w.heap.size,0,none⟩) t.length (grownCap C.w t.length 0 l)) (w':=Lib.bytesWorld C.w l ⟨t.toArray⟩) (by unfold execOp;rw [M]) ?_ ?_
  ·rw [D]
   have:=Lib.run_convert_string_bytes (P:=E.P) C.w s d l ⟨t.toArray⟩ hs hd G
   simpa [ByteArray.size] using this
  ·rw [O]
   refine Post.of_ext (Ze C) rfl ?_
   refine z4a (C:=yP C) (sz:=1) (rows:=zk t) hg (y9 wf) (ZE r) (.inr ⟨rfl,Nat.le_refl _⟩) ?_ (jc (C:=yP C) (cap':=grownCap C.w t.length 0 l) hg (Nat.le_refl _) p (by rw [hsz,Nat.mul_one];omega) (grownCap_le_maxLen _ _ _ _ u)) h
   refine ⟨by rw [hsz];simp [zk],fun i row hi=>?_⟩
   unfold zk at hi
   rw [List.getElem?_map,oms] at hi
   obtain ⟨b,I,rfl⟩:=hi
   refine ⟨rfl,fun j y B=>?_⟩
   cases j with
   | zero=>
    simp at B;subst B
    refine ⟨.int .u8 b.toNat,?_,.int _ _⟩
    have hi:=zx I
    simp only [Lib.bytesCells,Nat.zero_add,Nat.mul_one,Nat.add_zero]
    rw [Array.getElem?_append_left (by simpa using hi)]
    simp [I]
   | succ j=>simp at B
 ·exact h.elim
theorem wJ {row:List IV} {b:UInt8} (h:byteOf row=some b):row=[.int .u8 b.toNat]:=by
 unfold byteOf at h
 split at h
 ·rename_i n
  split at h
  ·rename_i d;cases h;rw [<-d]
  ·cases h
 ·cases h
theorem z2v (b:UInt8):byteOf [.int .u8 b.toNat]=some b:=by
 unfold byteOf
 simp
theorem z4W {rs:List (List IV)} {s:List UInt8} (h:zJ byteOf rs=some s) {d:List Value} (q:Wv C d 1 rs):∃r:List Int,d=r.map (Value.int .u8)/\r.length=s.length/\∀(i:Nat) (n:Int) (b:UInt8),r[i]?=some n->s[i]?=some b->UInt8.ofNat n.toNat=b:=by
 refine ⟨(List.range d.length).map fun i=>match d.getD i undef with | .int _ n=>n | _=>0,?_,?_,?_⟩
 ·apply List.ext_getElem?
  intro i
  simp only [List.map_map,List.getElem?_map]
  rcases Nat.lt_or_ge i d.length with hi | hi
  ·have j:i<rs.length:=by rw [q.1] at hi;omega
   obtain ⟨b,G,v⟩:=ZV h i _ (List.getElem?_eq_getElem j)
   have p:=wJ v
   obtain ⟨_,h2⟩:=q.2 i _ (List.getElem?_eq_getElem j)
   obtain ⟨u,m,l⟩:=h2 0 (.int .u8 b.toNat) (by rw [p];rfl)
   cases l
   rw [Nat.mul_one,Nat.add_zero] at m
   rw [m,List.getElem?_range hi]
   simp [List.getD,m]
  ·rw [List.getElem?_eq_none hi,List.getElem?_eq_none (by simpa using hi)];rfl
 ·rw [List.length_map,List.length_range,q.1,zQ h,Nat.mul_one]
 ·intro i n b w D
  obtain ⟨row,h1,h2⟩:=zW h i b D
  obtain ⟨_,m⟩:=q.2 i row h1
  obtain ⟨u,l,B⟩:=m 0 (.int .u8 b.toNat) (by rw [wJ h2];rfl)
  cases B
  rw [Nat.mul_one,Nat.add_zero] at l
  rw [List.getElem?_map,oms] at w
  obtain ⟨k,A,rfl⟩:=w
  have hi:=zx l
  rw [List.getElem?_range hi] at A
  cases A
  simp [List.getD,l]
theorem bytes_eq {d:List Int} {s:List UInt8} (m:d.length=s.length) (h:∀(i:Nat) (n:Int) (b:UInt8),d[i]?=some n->s[i]?=some b->UInt8.ofNat n.toNat=b) :
  d.foldl (fun r n=>r.push (UInt8.ofNat n.toNat)) ByteArray.empty=⟨s.toArray⟩:=by
 have key:∀(d:List Int) (r:ByteArray),d.foldl (fun r n=>r.push (UInt8.ofNat n.toNat)) r=⟨r.data++(d.map fun n=>UInt8.ofNat n.toNat).toArray⟩:=by
  intro d
  induction d with
  | nil=>intro r;simp
  | cons n d l=>
   intro r
   rw [List.foldl_cons,l]
   apply ByteArray.ext
   simp [ByteArray.push]
 rw [key]
 have e1:d.map (fun n=>UInt8.ofNat n.toNat)=s:=by
  apply List.ext_getElem?
  intro i
  rw [List.getElem?_map]
  rcases Nat.lt_or_ge i s.length with hi | hi
  ·have j:i<d.length:=by omega
   rw [List.getElem?_eq_getElem j,List.getElem?_eq_getElem hi]
   exact congrArg some (h i _ _ (List.getElem?_eq_getElem j) (List.getElem?_eq_getElem hi))
  ·rw [List.getElem?_eq_none od,List.getElem?_eq_none hi];rfl
 rw [e1]
 apply ByteArray.ext
 show #[]++s.toArray=s.toArray
 simp
theorem z9O (M:Sim C) (he:Y5 C a e) {s d Z:TypeId} {x:Operand} {D:Opd} (ho:o.op=.convert s d x) (hs:E.P.underlying s=some (.slice Z)) (V:E.P.underlying Z=some (.int .u8)) (hd:E.P.underlying d=some .string)
  (hx:opd x=some D) (h:xex E .bStr [e D] g C.L K):Zy E C a o K:=by
 have O:=he x D hx
 simp only [xex] at h
 split at h
 ·rename_i t T
  obtain ⟨rs,h1,h2⟩:=Option.bind_eq_some_iff.1 T
  have p:rowsOf C.L (e D)=some rs:=by
   unfold yG at h1;split at h1
   ·cases h1
   ·exact h1
  have S:∃m l c,a.eval x=.slice m l c:=by
   generalize e D=ex at *
   generalize a.eval x=xv at *
   cases O<;>first
    | exact ⟨_,_,_,rfl⟩
    | (simp only [yG] at h1;cases h1;done)
    | (simp only [rowsOf] at p;cases p;done)
  obtain ⟨m,l,c,B⟩:=S
  rw [B] at O
  have u:∀row∈rs,row.length=1:=fun row hr=>by
   obtain ⟨i,hi⟩:=List.getElem?_of_mem hr
   obtain ⟨b,_,Q⟩:=ZV h2 i row hi
   rw [wJ Q];rfl
  obtain ⟨q,U,A,j⟩:=VF (E:=E) M O p u
  obtain ⟨J,r,Y,Q⟩:=z4W h2 U
  have R:l=rs.length:=by
   have:(Builtin.lenOf (.slice m l c)).run E.P C.w=(pure rs.length:Sem Nat).run E.P C.w:=by rw [A]
   simpa [Builtin.lenOf,Sem.run_pure] using this
  subst R
  have I:=j C.w rfl
  refine zu (s:=convert s d (a.eval x)) (by unfold execOp;rw [ho]) (v:=.string ⟨t.toArray⟩) (w':=C.w) ?_ (ZH (.str _) h)
  rw [B,run_convert_bytes_string _ _ _ _ _ _ _ hs V hd]
  cases m with
  | none=>
   have:q=[]:=by
    have:(Builtin.firstCells 1 rs.length (.slice none rs.length c)).run E.P C.w=.ok #[] C.w:=rfl
    rw [this] at I
    have:=(Result.ok.inj I).1
    simpa using this.symm
   subst this
   have G:J=[]:=by simpa using r.symm
   subst G
   have ht:t=[]:=List.eq_nil_of_length_eq_zero (by simpa using Y.symm)
   subst ht
   rfl
  | some m=>
   have X:(loadCells m rs.length).run E.P C.w=.ok (J.map (Value.int .u8)).toArray C.w:=by
    rw [<-r]
    have:(Builtin.firstCells 1 rs.length (.slice (some m) rs.length c))=loadCells m (rs.length*1):=rfl
    rw [this,Nat.mul_one] at I
    exact I
   rw [run_bytesToString _ _ _ _ J X,bytes_eq Y Q]
 ·exact h.elim
theorem zc3 (A:Sim C) (r:Y5 C a e) {s t:TypeId} {d:TypeDesc} {x:Operand} {b:Opd} (B:o.op=.typeAssert x s t true) (G:E.P.underlying t=some d) (hd:∀j,d≠.interface j)
  (I:opd x=some b) (h:xex E (.tas t) [e b] g C.L K):Zy E C a o K:=by
 have q:=r x b I
 generalize p:a.eval x=xv at q
 generalize e b=ex at *
 simp only [xex] at h
 split at h
 ·rename_i t' v l
  obtain rfl:ex=.iface t' v:=by simpa using l
  split at h
  ·rename_i m
   subst m
   cases q with
   | iface _ _ u D=>
    refine zu (s:=Instr.typeAssert (a.eval x) s t' true) (by unfold execOp;rw [B]) (v:=.tuple #[u,.bool true]) (w':=C.w) ?_ (ZH (.tup [v,.bool true] [u,.bool true] rfl fun i y hi=>?_) h)
    ·rw [p]
     unfold Instr.typeAssert
     rw [Sem.run_bind,run_underlying G]
     simp only [Result.andThen_ok]
     cases d with
     | interface j=>exact absurd rfl (hd j)
     | _=>simp
    ·match i,hi with
     | 0,hi=>cases hi;exact D
     | 1,hi=>cases hi;exact .bool true
  ·exact h.elim
 ·exact h.elim
theorem z5n (a b:List UInt8):((⟨a.toArray⟩:ByteArray).toList==(⟨b.toArray⟩:ByteArray).toList)=decide (a=b):=by
 rw [ByteArray.toList_eq,ByteArray.toList_eq]
 show (a.toArray.toList==b.toArray.toList)=_
 rw [List.toList_toArray,List.toList_toArray]
 by_cases h:a=b
 ·subst h;simp
 ·rw [decide_eq_false h];simpa using h
theorem jr {P:Program} {D:Nat} {C C':Ctx} (vs us:List Value) (w:World):∀(I:List Field) (ks:List Nat) (k:Nat) (xs S:List IV) (r:Bool),jF P I k=some ks->
  (∀(i:Nat) (x:IV),xs[i]?=some x->∃v,vs[k+i]?=some v/\VR C x v)->(∀(i:Nat) (x:IV),S[i]?=some x->∃v,us[k+i]?=some v/\VR C' x v)->
  yx ks xs S=some r->(Op.eqFields (D+1) vs.toArray us.toArray I).run P w=.ok r w
 | [],ks,k,xs,S,r,m,hx,hy,h=>by
  simp only [jF,sij] at m;subst m
  unfold yx at h
  split at h<;>first | (cases h;done) | skip
  all_goals first
   | (cases h;rfl)
   | (exfalso;simp_all;done)
 | f::I,ks,k,xs,S,r,m,hx,hy,h=>by
  simp only [jF] at m
  split at m
  ·rename_i hc
   rw [Bool.and_eq_true,bne_iff_ne,beq_iff_eq] at hc
   obtain ⟨hn,M⟩:=hc
   have s:∀{v:Value} {l:List Value},(match P.underlying f.type with | some (.int _) | some .string | some .bool=>true | _=>false)=true->l[k]?=some v->(part f.type l.toArray f.offset).run P w=.ok v w:=fun {v l} T hl=>by
    have h0:l.toArray[f.offset]?=some v:=by rw [M];simpa using hl
    cases q:P.underlying f.type with
    | none=>rw [q] at T;cases T
    | some d=>rw [q] at T;cases d<;>first | (cases T;done) | simp [part,isAgg,run_underlying q,h0]
   have step:∀{x y:IV} {A B:List IV} {p:List Nat} {b G:Bool} {v u:Value},xs=x::A->S=y::B->jF P I (k+1)=some p->yx p A B=some G->r=(b&&G)->
     (match P.underlying f.type with | some (.int _) | some .string | some .bool=>true | _=>false)=true->vs[k]?=some v->us[k]?=some u->(Op.equalIn (D+1) f.type v u).run P w=.ok b w->(Op.eqFields (D+1) vs.toArray us.toArray (f::I)).run P w=.ok r w:=by
    intro x y A B p b G v u e1 e2 e3 e4 X Y Z e8 e9
    subst e1 e2
    simp only [Op.eqFields,if_pos hn,Sem.run_bind,s Y Z,s Y e8,Result.andThen_ok,e9,Sem.run_ite,Sem.run_pure]
    cases b
    ·rw [X];rfl
    ·rw [X]
     exact jr vs us w I p (k+1) A B G e3 (fun i z U=>by
      obtain ⟨v,h1,h2⟩:=hx (i+1) z (by simpa using U)
      exact ⟨v,by rw [<-h1];congr 1;omega,h2⟩) (fun i z U=>by
      obtain ⟨v,h1,h2⟩:=hy (i+1) z (by simpa using U)
      exact ⟨v,by rw [<-h1];congr 1;omega,h2⟩) e4
   split at m
   ·rename_i kk q
    rw [oms] at m
    obtain ⟨p,m,rfl⟩:=m
    unfold yx at h
    split at h<;>first | (cases h;done) | skip
    ·rename_i j;cases j
    ·rename_i J k1 a r1 k2 b r2 j
     cases j
     split at h
     ·rename_i V
      subst V
      rw [oms] at h
      obtain ⟨G,h1,rfl⟩:=h
      obtain ⟨v,h2,R⟩:=hx 0 _ rfl
      obtain ⟨u,O,Q⟩:=hy 0 _ rfl
      cases R;cases Q
      exact step rfl rfl m h1 rfl (by rw [q]) h2 O (by rw [run_equalIn_int w D _ _ _ _ _ q];rfl)
     ·cases h
    ·rename_i j;cases j
    ·rename_i j;cases j
   ·rename_i q
    rw [oms] at m
    obtain ⟨p,m,rfl⟩:=m
    unfold yx at h
    split at h<;>first | (cases h;done) | skip
    ·rename_i j;cases j
    ·rename_i j;cases j
    ·rename_i J a r1 b r2 j
     cases j
     rw [oms] at h
     obtain ⟨G,h1,rfl⟩:=h
     obtain ⟨v,h2,R⟩:=hx 0 _ rfl
     obtain ⟨u,O,Q⟩:=hy 0 _ rfl
     cases R;cases Q
     exact step rfl rfl m h1 rfl (by rw [q]) h2 O (by rw [run_equalIn_string w D _ _ _ q,z5n])
    ·rename_i j;cases j
   ·rename_i q
    rw [oms] at m
    obtain ⟨p,m,rfl⟩:=m
    unfold yx at h
    split at h<;>first | (cases h;done) | skip
    ·rename_i j;cases j
    ·rename_i j;cases j
    ·rename_i j;cases j
    ·rename_i J a r1 b r2 j
     cases j
     rw [oms] at h
     obtain ⟨G,h1,rfl⟩:=h
     obtain ⟨v,h2,R⟩:=hx 0 _ rfl
     obtain ⟨u,O,Q⟩:=hy 0 _ rfl
     cases R;cases Q
     exact step rfl rfl m h1 rfl (by rw [q]) h2 O (by rw [run_equalIn_bool' w D _ _ _ q];cases a<;>cases b<;>rfl)
   ·cases m
  ·cases m
theorem z6s (U:Sim C) (Q:Y5 C a e) {op:BinOp} {t ty:TypeId} {T:Array Field} {x y:Operand} {A u:Opd} {neg:Bool} {ks:List Nat} (Y:o.op=.binOp op t x y ty) (M:op=if neg then .neq else .eql) (S:E.P.underlying t=some (.struct T))
  (B:z6y E.P t=some ks) (hx:opd x=some A) (Z:opd y=some u) (h:xex E (.eqA neg ks) [e A,e u] g C.L K):Zy E C a o K:=by
 have m:=Q x A hx
 have j:=Q y u Z
 subst M
 unfold z6y at B
 split at B
 ·rename_i b
  simp only [xex] at h
  split at h
  ·rename_i as bs q
   have h1:e A=.agg as:=by have:=congrArg List.head? q;simpa using this
   have h2:e u=.agg bs:=by have:=congrArg (fun l=>l[1]?) q;simpa using this
   split at h
   ·rename_i r V
    rw [h1] at m;rw [h2] at j
    generalize O:a.eval x=xv at m
    generalize I:a.eval y=yv at j
    cases m with
    | agg _ vs R X=>
    cases j with
    | agg _ us p G=>
    have J:E.P.fieldsOf t=T:=by unfold Program.fieldsOf;rw [S]
    have d:(Op.equalIn 10000 t (.agg vs.toArray) (.agg us.toArray)).run E.P C.w=.ok r C.w:=by
     rw [show (10000:Nat)=9999+1 from rfl,run_equalIn_struct C.w 9999 t _ _ (by rw [J];exact S) b.1]
     refine jr (D:=9998) (C:=C) (C':=C) vs us C.w _ ks 0 as bs r B (fun i z hi=>?_) (fun i z hi=>?_) V
     ·rw [Nat.zero_add]
      exact ⟨vs.getD i undef,by rw [List.getElem?_eq_getElem (by rw [<-R];exact zx hi)];simp [List.getD,show i<vs.length by rw [<-R];exact zx hi],X i z hi⟩
     ·rw [Nat.zero_add]
      exact ⟨us.getD i undef,by rw [List.getElem?_eq_getElem (by rw [<-p];exact zx hi)];simp [List.getD,show i<us.length by rw [<-p];exact zx hi],G i z hi⟩
    refine zu (s:=do eqGuard (if neg then .neq else .eql) t x y (a.eval x) (a.eval y);binOp (if neg then .neq else .eql) t (a.eval x) (a.eval y)) (v:=.bool (if neg then !r else r)) (w':=C.w) (by unfold execOp;rw [Y]) ?_ (ZH (.bool _) h)
    rw [O,I,Sem.run_bind,run_eqGuard_agg C.w _ _ _ _ _ _ b.2]
    simp only [Result.andThen_ok]
    cases neg
    ·simp only [Bool.false_eq_true,if_false]
     rw [run_eql_struct,d];rfl
    ·simp only [if_true]
     rw [run_neq_struct,d];rfl
   ·exact h.elim
  ·exact h.elim
 ·cases B
theorem zep (c:Array Value) (k:Nat):seg c k []=c:=by
 apply Array.ext'
 simp [seg]
theorem z3G {g:Nat} (hg:Free C.L g) (wf:Wf E.g0 C) (I:Sim C) (he:Y5 C a e) {c:Call} {s x:Operand} {s' x':Opd} {el:TypeId} {m:Nat} {z:List IV} (ho:o.op=.call c) (gm:c.callee=.builtin .append)
  (au:c.args.toList=[s,x]) (h1:(c.argTypes[0]?).bind E.P.underlying=some (.slice el)) (h2:∃d,(c.argTypes[1]?).bind E.P.underlying=some d/\∀k,d≠.int k)
  (hs:opd s=some s') (hx:opd x=some x') (hn:Zx E.P el=some 1) (hm:z1c E.P el=some m) (hz:zeroCells E.P el=some z) (ig:0<m) (gy:z.length=1)
  (h:Yj el m (e s') (e x') g C.L K):Good E C a o K:=by
 obtain ⟨i,zv,hi,iy,lw,ni⟩:=ZG hz
 have G:i.size=1:=by unfold Zx at hn;rw [hi] at hn;exact Option.some.inj hn
 have az:i.bytes=m:=by unfold z1c at hm;rw [hi] at hm;exact Option.some.inj hm
 rw [obs] at h1
 obtain ⟨t1,ed,af⟩:=h1
 obtain ⟨d,h2,hd⟩:=h2
 rw [obs] at h2
 obtain ⟨t2,di,gu⟩:=h2
 have T:∃d,E.P.underlying t2=some d/\∀k,d≠.int k:=⟨d,gu,hd⟩
 have Q:=he s s' hs
 have ku:=he x x' hx
 unfold Yj at h
 split at h
 ·exact h.elim
 ·rename_i rs lh
  obtain ⟨ag,h⟩:=h
  obtain ⟨l,ae,U,A⟩:=VF (E:=E) I ku lh (fun row J=>(ag row J).1)
  have dh:=ae.one (fun row J=>(ag row J).2)
  have aj:l.length=rs.length:=by rw [ae.1,Nat.mul_one]
  have O:∀{v:Value} {w':World},(Builtin.append_ #[t1,t2] o.type #[a.eval s,a.eval x]).run E.P C.w=.ok v w'->Post E C K v w'->Good E C a o K:=by
   intro v w' J hp
   refine .inl ⟨v,w',?_,hp⟩
   rw [YJ ho gm]
   have e1:c.args.map a.eval=#[a.eval s,a.eval x]:=by
    apply Array.ext';simp [au]
   have e2:(Builtin.append_ c.argTypes o.type #[a.eval s,a.eval x])=(Builtin.append_ #[t1,t2] o.type #[a.eval s,a.eval x]):=by
    unfold Builtin.append_
    rw [ed,di]
    rfl
   rw [e1]
   show (do pure (Next.value (<-Builtin.append_ c.argTypes o.type #[a.eval s,a.eval x])):Sem Next).run E.P C.w=_
   rw [e2,Sem.run_bind,J]
   rfl
  have eu:∀{rows':List (List IV)} {olds:List Value},Wv C olds 1 rows'->Wv C (olds++l) 1 (rows'++rs):=by
   intro rows' olds Y
   refine ⟨by simp [Y.1,ae.1],fun i row V=>?_⟩
   rcases Nat.lt_or_ge i rows'.length with h5 | h5
   ·rw [List.getElem?_append_left h5] at V
    obtain ⟨h6,M⟩:=Y.2 i row V
    refine ⟨h6,fun j y Z=>?_⟩
    obtain ⟨u,h8,h9⟩:=M j y Z
    exact ⟨u,by rw [List.getElem?_append_left (zx h8)];exact h8,h9⟩
   ·rw [List.getElem?_append_right h5] at V
    obtain ⟨h6,M⟩:=ae.2 _ row V
    refine ⟨h6,fun j y Z=>?_⟩
    obtain ⟨u,h8,h9⟩:=M j y Z
    refine ⟨u,?_,h9⟩
    rw [List.getElem?_append_right (by rw [Y.1];omega),<-h8]
    congr 1
    rw [Y.1];omega
  have R:∀{base:Option Addr} {sCap:Nat} {t:Nat} {olds:List Value} {C1:Ctx},a.eval s=.slice base t sCap->Ext C C1->C1.X=C.X->C1.w=C.w.drew->Wf E.g0 C1->Sim C1->
    (Builtin.firstCells 1 t (.slice base t sCap)).run E.P C.w.drew=.ok olds.toArray C.w.drew->sCap<t+rs.length->(t+rs.length)*m<=70368744177664->
    ∀{rows':List (List IV)},Wv C olds 1 rows'->rows'.length=t->Free C1.L g->K (.sl g 0 (t+rs.length) (t+rs.length)) (Z4 C1.L g (.tcells el 1 (rows'++rs)))->Good E C a o K:=by
   intro base sCap t olds C1 gp bg hX hw lu dm hold ak hb rows' Y kw ik hK
   obtain ⟨cap,⟨iq,cu⟩,J⟩:=run_append_grow' (P:=E.P) (t1:=t1) (t2:=t2) (ty:=o.type) (w:=C.w) af T hi iy (base:=base) (sLen:=t) (sCap:=sCap) U (by rw [G];exact hold)
    (by rw [G];exact A _ rfl) ak (by rw [az];exact ig) (by rw [az];exact hb)
   rw [<-gp] at J
   refine O J (Post.of_ext bg hX ?_)
   have p:=z19 ((eu Y).mono bg) (Builtin.zeroCells zv.cells (cap - (t+rs.length)))
   have hsz:((olds++l).toArray++Builtin.zeroCells zv.cells (cap - (t+rs.length))).size=cap:=by
    have e1:zv.cells.size=1:=by rw [<-lw,gy]
    rw [Array.size_append,size_zeroCells,e1]
    simp [Y.1,ae.1,kw]
    omega
   have bn:=z4a (E:=E) (C:=C1) (K:=K) (c:=(olds++l).toArray++Builtin.zeroCells zv.cells (cap - (t+rs.length))) (ty:=el) ik lu dm (z3D _ _) p
    (jc (C:=C1) ik (e:=el) (k:=.tcells el 1 (rows'++rs)) (sz:=1) (Nat.le_refl _) iq (by rw [hsz];omega) cu) hK
   rw [hw] at bn
   exact bn
  split at h
  ·rename_i S
   rw [S] at Q
   generalize hb:a.eval s=sv at Q
   cases Q
   by_cases J:rs=[]
   ·subst J
    have M:l=[]:=List.eq_nil_of_length_eq_zero (by rw [aj];rfl)
    subst M
    have q:=ZU (P:=E.P) (t1:=t1) (t2:=t2) (ty:=o.type) (w:=C.w) af T hi (base:=none) (cap:=0) U (by rw [G];exact A _ rfl)
    rw [<-hb] at q
    exact O q (ZW wf I (by rw [hb];exact .nsl) (S▸h.1 rfl))
   ·obtain ⟨M,h8⟩:=h.2 J
    have h9:0<rs.length:=List.length_pos_iff.2 J
    exact R (C1:=yP C) (olds:=[]) (rows':=[]) hb (Ze C) rfl rfl (y9 wf) (ZE I) rfl od (by rw [Nat.zero_add];exact M) ⟨by simp,fun i row hi=>by simp at hi⟩ rfl hg (by simpa [yP] using h8)
  ·rename_i S
   rw [S] at Q
   generalize hb:a.eval s=sv at Q
   cases Q
   by_cases J:rs=[]
   ·subst J
    have M:l=[]:=List.eq_nil_of_length_eq_zero (by rw [aj];rfl)
    subst M
    have q:=ZU (P:=E.P) (t1:=t1) (t2:=t2) (ty:=o.type) (w:=C.w) af T hi (base:=none) (cap:=0) U (by rw [G];exact A _ rfl)
    rw [<-hb] at q
    exact O q (ZW wf I (by rw [hb];exact .raw _ rfl) (S▸h.1 rfl))
   ·obtain ⟨M,h8⟩:=h.2 J
    have h9:0<rs.length:=List.length_pos_iff.2 J
    exact R (C1:=yP C) (olds:=[]) (rows':=[]) hb (Ze C) rfl rfl (y9 wf) (ZE I) rfl od (by rw [Nat.zero_add];exact M) ⟨by simp,fun i row hi=>by simp at hi⟩ rfl hg (by simpa [yP] using h8)
  ·rename_i t off len cap S
   rw [S] at Q
   generalize hb:a.eval s=sv at Q
   obtain ⟨rfl,rfl,h⟩:=h
   cases Q with
   | sl _ _ _ _ av cap' dw mr kz ha iw=>
   split at h
   ·rename_i ng mi rows hL
    obtain ⟨rfl,rfl,lm,h⟩:=h
    obtain ⟨⟨ay,c0,ty,fr0,B,bi,p⟩,ax,c1,l9,gq⟩:=I t _ hL
    rw [B] at gq
    obtain ⟨rfl,rfl,rfl⟩:=by simpa using gq
    subst lm
    by_cases hcap0:cap'=0
    ·subst hcap0
     have l7:rows=[]:=List.eq_nil_of_length_eq_zero od
     subst l7
     by_cases J:rs=[]
     ·subst J
      have M:l=[]:=List.eq_nil_of_length_eq_zero (by rw [aj];rfl)
      subst M
      have q:=ZU (P:=E.P) (t1:=t1) (t2:=t2) (ty:=o.type) (w:=C.w) af T hi (base:=av) (cap:=0) U (by rw [G];exact A _ rfl)
      have ai:a.eval s=.slice av 0 0:=hb
      rw [<-ai] at q
      exact O q (ZW wf I (r:=.sl t 0 0 0) (by rw [ai];exact .sl t 0 0 0 av 0 dw (Nat.le_refl _) (Nat.le_refl _) (.inl rfl) (by decide)) (S▸h.1 rfl))
     ·obtain ⟨M,h8⟩:=h.2 J
      have h9:0<rs.length:=List.length_pos_iff.2 J
      refine R (C1:=VN (yP C) t) (olds:=[]) (rows':=[]) (t:=0) (sCap:=0) (base:=av) hb ((Ze C).trans (Vx _ t)) rfl rfl (z1l (y9 wf)) (jY (ZE I)) ?_ od (by simpa using M) ⟨by simp,fun i row hi=>by simp at hi⟩ rfl (wG hg hL rfl) ?_
      ·cases av with
       | none=>rfl
       | some b=>show (loadCells b (0*_)).run E.P _=_;rw [Nat.zero_mul];rfl
      ·simpa [VN,yP] using h8
    ·obtain ⟨rfl,c1,e1,l9,bu,bf⟩:=ha.resolve_left hcap0
     rw [B] at bu
     obtain ⟨rfl,rfl,rfl⟩:=by simpa using bu
     rw [ay,ax] at bf
     rw [ax] at p
     have ai:a.eval s=.slice (some ⟨(C.φ t).blk,0,none⟩) rows.length cap':=by rw [hb,ay,ax]
     clear hb
     by_cases ak:rows.length+rs.length<=cap'
     ·have D:0+rows.length*i.size+l.length<=c0.size:=by rw [G,aj];omega
      have q:=run_append_room' (P:=E.P) (t1:=t1) (t2:=t2) (ty:=o.type) (w:=C.w) af T hi (b:=(C.φ t).blk) (k:=0) (sLen:=rows.length) (sCap:=cap') U
       (by rw [G];exact A _ rfl) ak B bi D dh
      rw [<-ai] at q
      by_cases J:rs=[]
      ·subst J
       have M:l=[]:=List.eq_nil_of_length_eq_zero (by rw [aj];rfl)
       subst M
       rw [zep] at q
       obtain ⟨_,lq⟩:∃fr,setW C.w (C.φ t).blk (.cells c0 ty fr0)=C.w:=⟨fr0,by
        unfold setW
        have e1:C.w.heap.setIfInBounds (C.φ t).blk (.cells c0 ty fr0)=C.w.heap:=by
         apply Array.ext_getElem?
         intro j
         rw [Array.getElem?_setIfInBounds]
         split
         ·rename_i Z;subst Z;rw [if_pos (Array.getElem?_eq_some_iff.1 B).1];exact B.symm
         ·rfl
        rw [e1]⟩
       rw [lq] at q
       refine O q (ZW wf I (r:=.sl t 0 rows.length rows.length) ?_ (S▸h.1 rfl))
       refine .sl t 0 _ _ _ cap' dw (Nat.le_refl _) kz (.inr ⟨by simp [ay,ax],c0,ty,fr0,B,by rw [ay,ax];exact bf⟩) iw
      ·obtain ⟨M,hK⟩:=h.2 J
       have bz:0+(rows.length+rs.length)*1<=c0.size:=by omega
       have dn:=z3g (base:=0) (sz:=1) p ae bz
       simp only [Nat.zero_add,Nat.mul_one] at dn
       rw [G,Nat.zero_add,Nat.mul_one] at D q
       refine O q ⟨.sl g 0 (rows.length+rs.length) (rows.length+rs.length),Z4 (C.L.set t .dead) g (Blk.tcells ty 1 (rows++rs)),moveφ C t g 0 1,hK,
        z9A hg hL rfl B (Zb D) wf,z5O hg hL rfl B (Zb D) wf I ?_,VD hg hL rfl B (Zb D),?_⟩
       ·have ah:=dn.mono (VD (base:=0) (sz:=1) (k:=.tcells ty 1 (rows++rs)) hg hL rfl B (Zb D))
        have hh:(moveC C t g 0 1 (.cells (seg c0 rows.length l) ty fr0) (.tcells ty 1 (rows++rs))).w.heap[(C.φ t).blk]?=some (.cells (seg c0 rows.length l) ty fr0):=zT (Array.getElem?_eq_some_iff.1 B).1
        refine ⟨⟨by simp [moveC,moveφ],seg c0 rows.length l,ty,fr0,?_,by rw [Zb D];exact bi,?_,?_⟩,by simp [moveC,moveφ],seg c0 rows.length l,fr0,?_⟩
        ·simp only [moveC,moveφ,if_true];exact hh
        ·simpa [moveC,moveφ] using ah.1
        ·intro i row V
         refine ⟨(ah.2 i row V).1,fun j y Z=>?_⟩
         obtain ⟨u,M,h8⟩:=(ah.2 i row V).2 j y Z
         exact ⟨u,by simpa [moveC,moveφ] using M,h8⟩
        ·simp only [moveC,moveφ,if_true];exact hh
       ·refine .sl g 0 _ _ _ cap' ⟨_,WW (wG hg hL rfl),rfl⟩ (Nat.le_refl _) ak (.inr ⟨by simp [moveφ],seg c0 rows.length l,ty,fr0,?_,?_⟩) iw
        ·simp only [moveφ,if_true];exact zT (Array.getElem?_eq_some_iff.1 B).1
        ·rw [Zb D]
         simp only [moveφ,if_true]
         omega
     ·have J:rs≠[]:=fun h0=>by subst h0;simp at ak;omega
      obtain ⟨M,hK⟩:=h.2 J
      refine R (C1:=VN (yP C) t) (t:=rows.length) (olds:=c0.toList.take rows.length) ai ((Ze C).trans (Vx _ t)) rfl rfl (z1l (y9 wf)) (jY (ZE I)) ?_ od M (rows':=rows) ?_ rfl (wG hg hL rfl) (by simpa [VN,yP] using hK)
      ·have mg:=yL (P:=E.P) (w:=C.w.drew) (sz:=1) (n:=rows.length) (b:=(C.φ t).blk) (k:=0) (f:=fun j=>c0.getD j undef) (fun j Z=>by
        have df:j<c0.size:=by have:=p.1;omega
        have:C.w.drew.heap=C.w.heap:=rfl
        simp [World.cell?,this,B,df]) rows.length cap'
       rw [mg]
       congr 1
       apply Array.ext'
       apply List.ext_getElem?
       intro j
       have gz:=p.1
       rcases Nat.lt_or_ge j rows.length with Z | Z
       ·have df:j<c0.size:=by omega
        simp [Z,df]
       ·simp [List.getElem?_take,Nat.not_lt.2 Z]
      ·have gz:=p.1
       refine ⟨by simp;omega,fun i row hi=>?_⟩
       obtain ⟨h5,h6⟩:=p.2 i row hi
       refine ⟨h5,fun j y Z=>?_⟩
       obtain ⟨u,h8,h9⟩:=h6 j y Z
       have mf:j=0:=by have:=zx Z;omega
       subst mf
       refine ⟨u,?_,h9⟩
       have V:=zx hi
       rw [List.getElem?_take,if_pos od]
       simpa using h8
   ·exact V4 hg wf I he ho gm au (by rw [obs];exact ⟨t1,ed,af⟩) ⟨d,by rw [obs];exact ⟨t2,di,gu⟩,hd⟩ hs hx hn hm hz ig (Nat.le_refl 1) gy h
   ·exact h.elim
  ·exact h.elim
theorem zdi {st:Bool} {k:IV} {v:Value} (h:VR C k v) (b:isKey st k=true):z0d k=some v:=by
 cases h<;>first | rfl | (simp [isKey] at b)
def z3b (d:TypeDesc) (st:Bool):Prop:=(d=.string/\st=true)\/((∃k,d=.int k)/\st=false)
theorem JS {P:Program} {t:TypeId} {st:Bool} (h:zcB P t=some st):∃d,P.underlying t=some d/\z3b d st:=by
 unfold zcB at h
 split at h
 ·rename_i k b;cases h;exact ⟨_,b,.inr ⟨⟨k,rfl⟩,rfl⟩⟩
 ·rename_i b;cases h;exact ⟨_,b,.inl ⟨rfl,rfl⟩⟩
 ·cases h
theorem zgv {a b:List UInt8}:((⟨a.toArray⟩:ByteArray)==⟨b.toArray⟩)=decide (a=b):=by
 show (a.toArray==b.toArray)=_
 by_cases h:a=b
 ·subst h;simp
 ·simp [h]
theorem z0P {d:TypeDesc} {st:Bool} (hd:z3b d st) {x y:IV} {u v:Value} (m:isKey st x=true) (l:z0d x=some u) (j:z0d y=some v) {b:Bool} (h:kEq x y=some b):Instr.sameNow d u v=some b:=by
 cases x<;>simp only [z0d,sij] at l<;>first | (cases l;done) | skip
 ·subst l
  cases y<;>simp only [z0d,sij] at j<;>first | (cases j;done) | skip
  ·subst j
   rcases hd with ⟨rfl,rfl⟩ | ⟨⟨k,rfl⟩,rfl⟩
   ·simp [isKey] at m
   ·simp only [kEq] at h
    simp only [Instr.sameNow]
    split at h
    ·rename_i p;rw [if_pos p];cases h;rfl
    ·cases h
  ·simp [kEq] at h
 ·subst l
  cases y<;>simp only [z0d,sij] at j<;>first | (cases j;done) | skip
  ·simp [kEq] at h
  ·subst j
   rcases hd with ⟨rfl,rfl⟩ | ⟨⟨k,rfl⟩,rfl⟩
   ·simp only [kEq,sij] at h
    subst h
    simp only [Instr.sameNow,sij]
    exact zgv
   ·simp [isKey] at m
theorem z0R {d:TypeDesc} {st:Bool} (hd:z3b d st) {x:IV} {u:Value} (w:isKey st x=true) (v:z0d x=some u):∀(l:List (IV × IV × Nat)) (b:List MapEntry) (i:Nat) (r:Option Nat),b.length=l.length->
  (∀(j:Nat) (e:IV × IV × Nat),l[j]?=some e->∃m,b[j]?=some m/\z0d e.1=some m.key)->yR x l i=some r->
  match r with
  | none=>Instr.findNow d u b i=some none
  | some n=>∃j m e,n=i+j/\b[j]?=some m/\Instr.findNow d u b i=some (some (n,m.val))/\l[j]?=some e/\kEq x e.1=some true
 | [],[],i,r,_,_,h=>by simp only [yR,sij] at h;subst h;rfl
 | [],_::_,i,r,hl,_,h=>by simp at hl
 | e::l,[],i,r,hl,_,h=>by simp at hl
 | e::l,m::b,i,r,hl,hk,h=>by
  obtain ⟨s,h1,h2⟩:=hk 0 e rfl
  obtain rfl:m=s:=by simpa using h1
  simp only [yR] at h
  split at h
  ·rename_i q
   cases h
   have:=z0P hd w v h2 q
   exact ⟨0,m,e,rfl,rfl,by simp only [Instr.findNow,this],rfl,q⟩
  ·rename_i q
   have hs:=z0P hd w v h2 q
   have p:=z0R hd w v l b (i+1) r (by simpa using hl) (fun j e A=>by simpa using hk (j+1) e (by simpa using A)) h
   cases r with
   | none=>simp only at p ⊢;simp only [Instr.findNow,hs];exact p
   | some n=>
    simp only at p ⊢
    obtain ⟨j,s,D,M,G,I,B,J⟩:=p
    exact ⟨j+1,s,D,od,by simpa using G,by simp only [Instr.findNow,hs];exact I,by simpa using B,J⟩
  ·cases h
theorem run_checkKey {P:Program} {t:TypeId} {d:TypeDesc} {st:Bool} (h:P.underlying t=some d) (hd:z3b d st) (b:Bool) (v:Value) (w:World):(Instr.checkKey b 10000 t v).run P w=.ok () w:=by
 unfold Instr.checkKey
 rw [Sem.run_bind,Zl h]
 rcases hd with ⟨rfl,rfl⟩ | ⟨⟨k,rfl⟩,rfl⟩<;>rfl
theorem run_findKey {P:Program} {t:TypeId} {d:TypeDesc} (j:P.underlying t=some d) {u:Value} {b:List MapEntry} {r:Option (Nat × Value)} (h:Instr.findNow d u b 0=some r) (w:World):(Instr.findKey t u b).run P w=.ok r w:=by
 unfold Instr.findKey
 rw [Sem.run_bind,Zl j]
 simp only [Result.andThen_ok,h,Sem.run_pure]
theorem z3Q {P:Program} {x y:IV} {u v:Value} (b:z0d x=some u) (j:z0d y=some v) (h:kEq x y=some true) (w:World):u=v/\(Instr.keyThatStays v u).run P w=.ok u w:=by
 have d:u=v:=by
  cases x<;>simp only [z0d,sij] at b<;>first | (cases b;done) | skip
  all_goals
   cases y<;>simp only [z0d,sij] at j<;>first | (cases j;done) | skip
  ·simp only [kEq] at h
   split at h
   ·rename_i m;subst m;simp at h;subst h;rw [<-b,<-j]
   ·cases h
  ·simp [kEq] at h
  ·simp [kEq] at h
  ·simp [kEq] at h;subst h;rw [<-b,<-j]
 refine ⟨d,?_⟩
 subst d
 have l:Instr.sameBits 10000 u u=true:=by
  cases x<;>simp only [z0d,sij] at b<;>first | (cases b;done) | skip
  ·subst b;simp [Instr.sameBits]
  ·subst b;simp [Instr.sameBits,zgv]
 unfold Instr.keyThatStays
 rw [l];rfl
theorem zaz {P:Program} {C:Ctx} {t:TypeId} {z:IV} (h:zci P t=some z):∃v,(zeroValue t).run P C.w=.ok v C.w/\VR C z v:=by
 unfold zci at h
 rw [obs] at h
 obtain ⟨i,hi,h⟩:=h
 rw [obs] at h
 obtain ⟨v,b,h⟩:=h
 split at h
 ·cases h
 ·exact ⟨_,yF hi b _,z1D h⟩
theorem JC (p:Sim C) {s c:Nat} {h:List (IV × IV × Nat)} (M:C.L[s]?=some (.map h c)) {d:TypeDesc} {st:Bool} (hd:z3b d st) {x:IV} {u:Value} (A:isKey st x=true) (J:VR C x u) {r:Option Nat} (I:yR x h 0=some r) :
  ∃b:Array MapEntry,C.w.heap[(C.φ s).blk]?=some (.map b c)/\b.size=h.length/\
   (∀(i:Nat) (e:IV × IV × Nat),h[i]?=some e->∃m,b[i]?=some m/\z0d e.1=some m.key/\VR C e.2.1 m.val/\m.born=e.2.2)/\
   match r with
   | none=>Instr.findNow d u b.toList 0=some none
   | some n=>∃m e,b[n]?=some m/\Instr.findNow d u b.toList 0=some (some (n,m.val))/\h[n]?=some e/\kEq x e.1=some true:=by
 obtain ⟨b,h1,h2,v⟩:=p s _ M
 refine ⟨b,h1,h2,v,?_⟩
 have:=z0R hd A (zdi J A) h b.toList 0 r (by simpa using h2) (fun j e D=>by
  obtain ⟨m,l,q,_⟩:=v j e D
  exact ⟨m,by simpa using l,q⟩) I
 cases r with
 | none=>exact this
 | some n=>
  obtain ⟨j,m,e,l,q,G,O,B⟩:=this
  rw [Nat.zero_add] at l
  subst l
  exact ⟨m,e,by simpa using q,G,O,B⟩
theorem zbO {s:Nat} {v:Value} (h:VR C (.mp s) v):v=.map (some (C.φ s).blk)/\C.born s:=by
 cases h with
 | mp _ hs=>exact ⟨rfl,hs⟩
theorem yM {b:Array MapEntry} {c:Nat}:∀x y z,Obj.map b c≠.cells x y z:=fun _ _ _ h=>by cases h
theorem z7y (wf:Wf E.g0 C) (R:Sim C) (X:Y5 C a e) {t kt Z:TypeId} {x i:Operand} {Q O:Opd} {st ok:Bool} {zero:IV} (ho:o.op=.lookup t x i ok) (ht:E.P.underlying t=some (.map kt Z)) (S:zcB E.P kt=some st)
  (hz:zci E.P Z=some zero) (hx:opd x=some Q) (hi:opd i=some O) (h:xex E (.mlook st zero ok) [e Q,e O] g C.L K):Zy E C a o K:=by
 obtain ⟨d,hd,l⟩:=JS S
 have A:=X x Q hx
 have I:=X i O hi
 generalize U:a.eval x=xv at A
 generalize T:a.eval i=iv at I
 generalize e Q=ex at *
 generalize e O=ei at *
 have u:=zaz (C:=C) hz
 obtain ⟨zv,G,D⟩:=u
 have J:∀{v:Value} {r:IV} {b:Bool},VR C r v->VR C (wK ok r b) (if ok then .tuple #[v,.bool b] else v):=fun {v r b} p=>by
  cases ok
  ·exact p
  ·exact .tup [r,.bool b] [v,.bool b] rfl (fun i x hi=>by
    match i,hi with
    | 0,hi=>simp at hi;subst hi;exact p
    | 1,hi=>simp at hi;subst hi;exact .bool b)
 have key:∀{v:Value} {r:IV} {b:Bool},(Instr.lookup t xv iv ok).run E.P C.w=.ok (if ok then .tuple #[v,.bool b] else v) C.w->VR C r v->K (wK ok r b) C.L->Zy E C a o K:=fun {v r b} j p S=>
  zu (s:=Instr.lookup t (a.eval x) (a.eval i) ok) (by unfold execOp;rw [ho]) (by rw [U,T];exact j) (ZH (J p) S)
 simp only [xex] at h
 split at h
 ·rename_i k B
  obtain ⟨rfl,rfl⟩:ex=.raw (.map none)/\ei=k:=by simpa using B
  cases A
  refine key (b:=false) ?_ D h.2
  unfold Instr.lookup
  rw [Sem.run_bind,Zl ht]
  simp only [Result.andThen_ok]
  rw [Sem.run_bind,Sem.run_pure]
  simp only [Result.andThen_ok]
  rw [Sem.run_bind,run_checkKey hd l]
  simp only [Result.andThen_ok]
  rw [Sem.run_bind,run_findKey (r:=none) hd rfl]
  simp only [Result.andThen_ok]
  rw [Sem.run_bind,G]
  simp only [Result.andThen_ok,Sem.run_pure,Sem.run_bind]
 ·rename_i m k ae B
  obtain ⟨rfl,rfl⟩:ex=m/\ei=k:=by simpa using B
  unfold jB vT at h
  split at h
  ·rename_i s
   obtain ⟨M,h⟩:=h
   split at h
   ·rename_i es c hL
    split at h
    ·rename_i r hr
     obtain ⟨rfl,hs⟩:=zbO A
     obtain ⟨ms,h1,h2,h3,h4⟩:=JC R hL l M I hr
     have j:∀{q:Option (Nat × Value)} {v:Value} {b:Bool},Instr.findNow d iv ms.toList 0=some q->(match q with | some (_,Y)=>v=Y/\b=true | none=>v=zv/\b=false)->
       (Instr.lookup t (.map (some (C.φ s).blk)) iv ok).run E.P C.w=.ok (if ok then .tuple #[v,.bool b] else v) C.w:=fun {q v b} hq p=>by
      unfold Instr.lookup
      rw [Sem.run_bind,Zl ht]
      simp only [Result.andThen_ok]
      rw [Sem.run_bind,yO h1 yM]
      simp only [Result.andThen_ok]
      rw [Sem.run_bind,Sem.run_pure]
      simp only [Result.andThen_ok]
      rw [Sem.run_bind,run_checkKey hd l]
      simp only [Result.andThen_ok]
      rw [Sem.run_bind,run_findKey hd hq]
      simp only [Result.andThen_ok]
      cases q with
      | none=>
       obtain ⟨rfl,rfl⟩:=p
       simp only
       rw [Sem.run_bind,G]
       simp only [Result.andThen_ok,Sem.run_pure,Sem.run_bind]
      | some q=>
       obtain ⟨n,Y⟩:=q
       obtain ⟨rfl,rfl⟩:=p
       simp only [Result.andThen_ok,Sem.run_pure,Sem.run_bind]
     cases r with
     | none=>exact key (j h4 ⟨rfl,rfl⟩) D h
     | some n=>
      obtain ⟨m,e0,h5,h6,h7,h8⟩:=h4
      obtain ⟨m',h9,_,V,_⟩:=h3 n e0 h7
      obtain rfl:m=m':=by rw [h5] at h9;exact Option.some.inj h9
      have hg:es.getD n default=e0:=by rw [List.getD_eq_getElem?_getD,h7];rfl
      simp only [hg] at h
      exact key (j h6 ⟨rfl,rfl⟩) V h
    ·exact h.elim
   ·exact h.elim
  ·exact h.elim
 ·exact h.elim
theorem jZ (wf:Wf E.g0 C) (l:Sim C) {s c c':Nat} {I j:List (IV × IV × Nat)} {A b:Array MapEntry} {r:IV} {v:Value} (p:C.L[s]?=some (.map I c)) (hh:C.w.heap[(C.φ s).blk]?=some (.map A c)) (hsz:b.size=j.length)
  (D:∀(i:Nat) (e:IV × IV × Nat),j[i]?=some e->∃m,b[i]?=some m/\z0d e.1=some m.key/\VR C e.2.1 m.val/\m.born=e.2.2) (u:VR C r v) (h:K r (C.L.set s (.map j c'))) :
  Post E C K v (setW C.w (C.φ s).blk (.map b c')):=by
 have d:Ext C (jM C s (.map b c') (.map j c')):=Vh p rfl hh yM
 refine ⟨r,C.L.set s (.map j c'),C.φ,h,z1f (o:=.map b c') wf p rfl,J7 wf l p rfl hh yM ?_,d,u.mono d⟩
 refine ⟨b,zT (Array.getElem?_eq_some_iff.1 hh).1,hsz,fun i e q=>?_⟩
 obtain ⟨m,h1,h2,G,B⟩:=D i e q
 exact ⟨m,h1,h2,G.mono d,B⟩
theorem zd3:VR C .und undef:=.und
theorem map_set {C:Ctx} {p:List (IV × IV × Nat)} {h:Array MapEntry} {n:Nat} {m:MapEntry} {l:IV × IV × Nat} {x v:IV} {u w:Value} (r:∀(i:Nat) (e:IV × IV × Nat),p[i]?=some e->∃m,h[i]?=some m/\z0d e.1=some m.key/\VR C e.2.1 m.val/\m.born=e.2.2)
  (q:h[n]?=some m) (A:p[n]?=some l) (G:z0d x=some u) (D:VR C v w) :
  ∀(i:Nat) (e:IV × IV × Nat),(p.set n (x,v,l.2.2))[i]?=some e->∃b,(h.modify n fun e=>{ e with key:=u,val:=w })[i]?=some b/\z0d e.1=some b.key/\VR C e.2.1 b.val/\b.born=e.2.2:=by
 intro i e hi
 obtain ⟨J,h1,h2,Q,I⟩:=r n l A
 obtain rfl:m=J:=by rw [q] at h1;exact Option.some.inj h1
 rcases Zc hi with ⟨j,d⟩ | ⟨rfl,rfl,_⟩
 ·obtain ⟨b,B,M,s,O⟩:=r i e d
  exact ⟨b,by rw [Array.getElem?_modify,if_neg (Ne.symm j)];exact B,M,s,O⟩
 ·exact ⟨{ m with key:=u,val:=w },by rw [Array.getElem?_modify,if_pos rfl,q];rfl,G,D,I⟩
theorem zc9 {C:Ctx} {j:List (IV × IV × Nat)} {h:Array MapEntry} {c:Nat} {x v:IV} {u w:Value} (h2:h.size=j.length) (D:∀(i:Nat) (e:IV × IV × Nat),j[i]?=some e->∃m,h[i]?=some m/\z0d e.1=some m.key/\VR C e.2.1 m.val/\m.born=e.2.2)
  (s:z0d x=some u) (q:VR C v w) :
  ∀(i:Nat) (e:IV × IV × Nat),(j++[(x,v,c)])[i]?=some e->∃b,(h.push { key:=u,val:=w,born:=c })[i]?=some b/\z0d e.1=some b.key/\VR C e.2.1 b.val/\b.born=e.2.2:=by
 intro i e hi
 rcases Wn hi with ⟨r,d⟩ | ⟨rfl,rfl⟩
 ·obtain ⟨b,p,A,l,B⟩:=D i e d
  exact ⟨b,by rw [Array.getElem?_push,if_neg od];exact p,A,l,B⟩
 ·exact ⟨_,by rw [Array.getElem?_push,if_pos h2.symm],s,q,rfl⟩
theorem z3S (wf:Wf E.g0 C) (l:Sim C) (O:Y5 C a e) {t kt el:TypeId} {m k v:Operand} {M G I:Opd} {st:Bool} (J:o.op=.mapUpdate t m k v\/o.op=.insert t m k v) (ht:E.P.underlying t=some (.map kt el)) (hk:zcB E.P kt=some st)
  (hm:opd m=some M) (Q:opd k=some G) (S:opd v=some I) (h:xex E (.mset st) [e M,e G,e I] g C.L K):Good E C a o K:=by
 obtain ⟨d,hd,j⟩:=JS hk
 have D:=O m M hm
 have u:=O k G Q
 have q:=O v I S
 generalize R:a.eval m=mv at D
 generalize U:a.eval k=kv at u
 generalize Z:a.eval v=vv at q
 generalize e M=em at *
 generalize e G=ek at *
 generalize e I=ev at *
 have key:∀{w':World},(Instr.mapUpdate t mv kv vv).run E.P C.w=.ok () w'->Post E C K undef w'->Good E C a o K:=fun {w'} B hp=>by
  refine z2w (s:=Instr.mapUpdate t (a.eval m) (a.eval k) (a.eval v)) (by rcases J with J | J<;>(unfold execOp;rw [J])) (by rw [R,U,Z];exact B) hp
 simp only [xex,zcL] at h
 unfold vT at h
 split at h
 ·rename_i s
  obtain ⟨b,h⟩:=h
  split at h
  ·rename_i es c V
   split at h
   ·rename_i r hr
    obtain ⟨rfl,hs⟩:=zbO D
    obtain ⟨ms,h1,h2,Y,h4⟩:=JC l V j b u hr
    have A:=zdi u b
    cases r with
    | none=>
     refine key (w':=setW C.w (C.φ s).blk (.map (ms.push { key:=kv,val:=vv,born:=c }) (c+1))) ?_
      (jZ wf l V h1 (by simp [h2]) (zc9 h2 Y A q) zd3 h)
     unfold Instr.mapUpdate
     rw [Sem.run_bind,Zl ht]
     simp only [Result.andThen_ok]
     rw [Sem.run_bind,yO h1 yM]
     simp only [Result.andThen_ok]
     rw [Sem.run_bind,run_checkKey hd j]
     simp only [Result.andThen_ok]
     rw [Sem.run_bind,run_findKey hd h4]
     simp only [Result.andThen_ok]
     exact wU _ h1 yM
    | some n=>
     obtain ⟨m0,e0,T,h6,X,h8⟩:=h4
     obtain ⟨m1,h9,ae,ah,ag⟩:=Y n e0 X
     obtain rfl:m0=m1:=by rw [T] at h9;exact Option.some.inj h9
     have hg:es.getD n default=e0:=by rw [List.getD_eq_getElem?_getD,X];rfl
     simp only [hg] at h
     obtain ⟨af,p⟩:=z3Q (P:=E.P) A ae h8 C.w
     refine key (w':=setW C.w (C.φ s).blk (.map (ms.modify n fun e=>{ e with key:=kv,val:=vv }) c)) ?_
      (jZ wf l V h1 (by simp [h2]) (map_set Y T X A q) zd3 h)
     unfold Instr.mapUpdate
     rw [Sem.run_bind,Zl ht]
     simp only [Result.andThen_ok]
     rw [Sem.run_bind,yO h1 yM]
     simp only [Result.andThen_ok]
     rw [Sem.run_bind,run_checkKey hd j]
     simp only [Result.andThen_ok]
     rw [Sem.run_bind,run_findKey hd h6]
     simp only [Result.andThen_ok]
     rw [Sem.run_bind]
     simp only [T,Option.map_some,Option.getD_some,p,Result.andThen_ok]
     exact wU _ h1 yM
   ·exact h.elim
  ·exact h.elim
 ·exact h.elim
theorem z8z (wf:Wf E.g0 C) (p:Sim C) (he:Y5 C a e) {c:Call} {t kt el:TypeId} {m k:Operand} {O J:Opd} {st:Bool} (ho:o.op=.call c) (S:c.callee=.builtin .delete) (u:c.args.toList=[m,k]) (Q:c.argTypes[0]?=some t) (ht:E.P.underlying t=some (.map kt el)) (hk:zcB E.P kt=some st)
  (hm:opd m=some O) (T:opd k=some J) (h:xex E (.mdel st) [e O,e J] g C.L K):Good E C a o K:=by
 obtain ⟨d,hd,A⟩:=JS hk
 have I:=he m O hm
 have D:=he k J T
 have e1:c.args.map a.eval=#[a.eval m,a.eval k]:=by apply Array.ext';simp [u]
 generalize U:a.eval m=mv at I
 generalize Y:a.eval k=kv at D
 generalize e O=em at *
 generalize e J=ek at *
 have key:∀{w':World},(Builtin.delete_ c.argTypes o.type #[mv,kv]).run E.P C.w=.ok (.tuple #[]) w'->Post E C K (.tuple #[]) w'->Good E C a o K:=fun {w'} b hp=>by
  refine yU (s:=Builtin.delete_ c.argTypes o.type #[a.eval m,a.eval k]) (by
   unfold execOp;rw [ho];simp only [resolve,S];rw [e1];rfl) (by rw [U,Y];exact b) hp
 have l:VR C (.tup []) (.tuple #[]):=.tup [] [] rfl (fun i x hi=>by simp at hi)
 simp only [xex,zcD] at h
 unfold vT at h
 split at h
 ·rename_i s
  obtain ⟨G,h⟩:=h
  split at h
  ·rename_i es cl Z
   split at h
   ·rename_i r hr
    obtain ⟨rfl,hs⟩:=zbO I
    obtain ⟨v,h1,h2,h3,h4⟩:=JC p Z A G D hr
    have b:∀{q:Option (Nat × Value)} {M:Obj},Instr.findNow d kv v.toList 0=some q->(match q with | some (i,_)=>M=.map (v.eraseIdxIfInBounds i) cl | none=>M=.map v cl)->
      (Builtin.delete_ c.argTypes o.type #[.map (some (C.φ s).blk),kv]).run E.P C.w=.ok (.tuple #[]) (setW C.w (C.φ s).blk M):=fun {q M} hq B=>by
     unfold Builtin.delete_
     simp only [Q,List.getElem?_toArray,List.getElem?_cons_zero,List.getElem?_cons_succ]
     rw [Sem.run_bind,Zl ht]
     simp only [Result.andThen_ok]
     rw [Sem.run_bind,yO h1 yM]
     simp only [Result.andThen_ok]
     rw [Sem.run_bind,run_checkKey hd A]
     simp only [Result.andThen_ok]
     rw [Sem.run_bind,run_findKey hd hq]
     simp only [Result.andThen_ok]
     cases q with
     | none=>subst B;simp only;rw [Sem.run_bind,wU _ h1 yM];rfl
     | some q=>obtain ⟨n,v'⟩:=q;subst B;simp only;rw [Sem.run_bind,wU _ h1 yM];rfl
    cases r with
    | none=>exact key (b h4 rfl) (jZ wf p Z h1 h2 h3 l h)
    | some n=>
     obtain ⟨m0,e0,h5,h6,h7,h8⟩:=h4
     have V:n<es.length:=zf h7
     refine key (b h6 rfl) (jZ wf p Z h1 ?_ (fun i e hi=>?_) l h)
     ·unfold Array.eraseIdxIfInBounds
      rw [dif_pos od,Array.size_eraseIdx,List.length_eraseIdx,if_pos V,h2]
     ·rw [List.getElem?_eraseIdx] at hi
      have R:∀j,(v.eraseIdxIfInBounds n)[j]?=if j<n then v[j]? else v[j+1]?:=fun j=>by
       unfold Array.eraseIdxIfInBounds
       rw [dif_pos od,Array.getElem?_eraseIdx]
      rw [R]
      split at hi
      ·rename_i X;rw [if_pos X];exact h3 i e hi
      ·rename_i X;rw [if_neg X];exact h3 (i+1) e hi
   ·exact h.elim
  ·exact h.elim
 ·exact h.elim
theorem z7x {g:Nat} (hg:Free C.L g) (wf:Wf E.g0 C) (b:Sim C) {t:TypeId} (j:o.op=.makeMap t none) (h:K (.mp g) (Z4 C.L g (.map [] 0))):Good E C a o K:=by
 refine yU (s:=Instr.makeMap t none) (v:=.map (some C.w.heap.size)) (w':=yK C.w (.map #[] 0)) (by unfold execOp;rw [j];rfl) rfl ?_
 refine ⟨.mp g,Z4 C.L g (.map [] 0),newφ C g 0,h,z0u (o:=.map #[] 0) hg wf b,VQ (o:=.map #[] 0) hg b ?_,wV hg (.map #[] 0) (.map [] 0) 0,?_⟩
 ·exact ⟨#[],by simp only [Yf,newφ,if_true];exact ZB,rfl,fun i e hi=>by simp at hi⟩
 ·have d:(Yf C g (.map #[] 0) (.map [] 0) 0).born g:=⟨.map [] 0,WW hg,rfl⟩
  have:=VR.mp (C:=Yf C g (.map #[] 0) (.map [] 0) 0) g d
  simpa [Yf,newφ] using this
theorem zae (q:Sim C) (p:Y5 C a e) {s d:TypeId} {x:Operand} {b:Opd} {f:FloatKind} {k:IntKind} (r:o.op=.convert s d x) (hs:E.P.underlying s=some (.int k)) (hd:E.P.underlying d=some (.float f))
  (u:opd x=some b) (h:xex E (.itof f) [e b] g C.L K):Zy E C a o K:=by
 have m:=p x b u
 generalize l:a.eval x=xv at m
 generalize e b=ex at *
 simp only [xex] at h
 split at h
 ·rename_i k0 n j
  obtain rfl:ex=.int k0 n:=by simpa using j
  cases m
  refine zu (s:=convert s d (a.eval x)) (by unfold execOp;rw [r]) (v:=.float f (floatOfInt f n)) (w':=C.w) ?_ (ZH (.raw _ rfl) h)
  rw [l]
  exact run_convert_int_float _ _ _ _ _ _ (by simp [hs]) hd
 ·exact h.elim
theorem zcm (I:Sim C) (D:Y5 C a e) {c:Call} {x y:Operand} {m l:Opd} (J:o.op=.call c) (r:c.callee=.builtin .complex) (b:c.args.toList=[x,y])
  (O:opd x=some m) (M:opd y=some l) (h:xex E .cpx [e m,e l] g C.L K):Zy E C a o K:=by
 have j:=D x m O
 have d:=D y l M
 have e1:c.args.map a.eval=#[a.eval x,a.eval y]:=by apply Array.ext';simp [b]
 generalize B:a.eval x=xv at j
 generalize u:a.eval y=yv at d
 generalize e m=ex at *
 generalize e l=ey at *
 simp only [xex] at h
 split at h
 ·rename_i k p G q A
  obtain ⟨rfl,rfl⟩:ex=.raw (.float k p)/\ey=.raw (.float G q):=by simpa using A
  obtain ⟨rfl,h⟩:=h
  cases j;cases d
  refine zu (s:=Builtin.complex_ c.argTypes o.type #[a.eval x,a.eval y]) (v:=.complex k p q) (w':=C.w) (by
   unfold execOp;rw [J];simp only [resolve,r];rw [e1];rfl) ?_ (ZH (.raw _ rfl) h)
  rw [B,u]
  show (if k=k then pure (Value.complex k p q) else stuck _:Sem Value).run E.P C.w=_
  rw [if_pos rfl];rfl
 ·exact h.elim
theorem z96 {g:Nat} (hg:Free C.L g) (wf:Wf E.g0 C) (b:Sim C) (u:Y5 C a e) {t D B:TypeId} {x:Operand} {l:Opd} (A:o.op=.range t x) (G:E.P.underlying t=some (.map D B)) (I:opd x=some l)
  (h:xex E .mrng [e l] g C.L K):Good E C a o K:=by
 have j:=u x l I
 generalize r:a.eval x=xv at j
 generalize e l=ex at *
 simp only [xex] at h
 split at h
 ·rename_i s q
  obtain rfl:ex=.mp s:=by simpa using q
  obtain ⟨rfl,hs⟩:=zbO j
  split at h
  ·rename_i O c p
   obtain ⟨J,h1,h2,M⟩:=b s _ p
   refine yU (s:=Instr.range t (a.eval x)) (v:=.pointer (some ⟨C.w.heap.size,0,none⟩)) (w':=yK C.w (.mapIter (some (C.φ s).blk) c #[] c)) (by unfold execOp;rw [A]) ?_ ?_
   ·rw [r]
    unfold Instr.range
    rw [Sem.run_bind,Zl G]
    simp only [Result.andThen_ok]
    rw [Sem.run_bind,yO h1 yM]
    rfl
   ·have m:s≠g:=fun d=>by
     subst d
     rcases hg with d | d
     ·have:=zf p;omega
     ·rw [p] at d;cases d
    refine ⟨.ptr g 0 0,Z4 C.L g (.mit s),newφ C g 0,h,z0u (o:=.mapIter (some (C.φ s).blk) c #[] c) hg wf b,VQ (o:=.mapIter (some (C.φ s).blk) c #[] c) hg b ?_,wV hg (.mapIter (some (C.φ s).blk) c #[] c) (.mit s) 0,jh hg⟩
    refine ⟨by simp [Yf,newφ],z0T hg hs,c,c,?_⟩
    have e1:(Yf C g (.mapIter (some (C.φ s).blk) c #[] c) (.mit s) 0).φ s=C.φ s:=by simp [Yf,newφ,m]
    rw [e1]
    simp only [Yf,newφ,if_true];exact ZB
  ·exact h.elim
 ·exact h.elim
theorem z8W (wf:Wf E.g0 C) (d:Sim C) (G:Y5 C a e) {x:Operand} {p:Opd} (J:o.op=.next x false) (S:opd x=some p)
  (h:xex E .mnxt [e p] g C.L K):Good E C a o K:=by
 have l:=G x p S
 generalize B:a.eval x=xv at l
 generalize e p=ex at *
 simp only [xex] at h
 split at h
 ·rename_i t A
  obtain rfl:ex=.ptr t 0 0:=by simpa using A
  split at h
  ·rename_i s R
   split at h
   ·rename_i c Q
    obtain ⟨O,hs,b,j,D⟩:=d t _ R
    obtain ⟨I,h1,h2,T⟩:=d s _ Q
    have r:I=#[]:=Array.eq_empty_of_size_eq_zero (by simpa using h2)
    subst r
    have m:xv=.pointer (some ⟨(C.φ t).blk,0,none⟩):=by
     cases l with
     | ptr _ _ _ hs=>rw [O];simp
    have q:VR C (.tup [.bool false]) (.tuple #[.bool false]):=.tup [.bool false] [.bool false] rfl (fun i x hi=>by
     cases i with
     | zero=>simp at hi;subst hi;exact .bool false
     | succ i=>simp at hi)
    have u:∀c e M,Obj.mapIter (some (C.φ s).blk) b #[] j≠.cells c e M:=fun _ _ _ h=>by cases h
    refine yU (s:=Instr.next (a.eval x) false o.type) (by unfold execOp;rw [J]) (v:=.tuple #[.bool false]) (w':=C.w) ?_ (ZW wf d q h)
    rw [B,m]
    unfold Instr.next
    simp only
    rw [Sem.run_bind,yO D u]
    simp only [Result.andThen_ok]
    rw [Sem.run_bind,yO h1 yM]
    simp [choose,Sem.run,Question.forced]
   ·exact h.elim
  ·exact h.elim
 ·exact h.elim
end
section
variable {E:Env} {C:Ctx} {a:Act} {e:Opd->IV} {o:Oper} {K:IV->List Blk->Prop} {g:Nat}
theorem z8D {P:Program} {t1 t2 ty D:TypeId} {sz n:Nat} {w:World} (M:P.underlying t1=some (.slice D)) (I:Zx P D=some sz) {b k h l:Nat} {A:Value} {d:List Value} (J:Builtin.lenOf A=pure n) (u:n<=h)
  (q:(Builtin.firstCells sz n A).run P w=.ok d.toArray w) {c:Array Value} {j:TypeId} {s:Nat × Nat} (hc:w.heap[b]?=some (.cells c j s)) {G:Bool} (B:z8b G c.size s) (hfit:k+d.length<=c.size) (p:∀v∈d,v.oneCell'=true) :
  (Builtin.copy_ #[t1,t2] ty #[.slice (some ⟨b,k,none⟩) h l,A]).run P w=.ok (.int .i64 n) (setW w b (.cells (seg c k d) j s)):=by
 have m:=ZC P b k j s d 0 c w hc B (by simpa using hfit) p
 simp only [Nat.add_zero] at m
 have r:Nat.min n h=n:=Nat.min_eq_left u
 rw [<-Vk hc]
 unfold Builtin.copy_
 simp [run_underlying M,J,Zi I,r,q,m,goInt,seg]
theorem zan {P:Program} {t1 t2 ty p:TypeId} {sz:Nat} {w:World} (r:P.underlying t1=some (.slice p)) (s:Zx P p=some sz) {d:Option Addr} {b l:Nat} {m:Value} (q:Builtin.lenOf m=pure 0)
  (h:(Builtin.firstCells sz 0 m).run P w=.ok #[] w):(Builtin.copy_ #[t1,t2] ty #[.slice d b l,m]).run P w=.ok (.int .i64 0) w:=by
 have j:Nat.min 0 b=0:=Nat.zero_min _
 unfold Builtin.copy_
 cases d<;>simp [run_underlying r,q,Zi s,j,h,storeCells,goInt]
theorem z94 (wf:Wf E.g0 C) (b:Sim C) (he:Y5 C a e) {c:Call} {d x:Operand} {Y X:Opd} {el:TypeId} {n:Nat} (ho:o.op=.call c) (aj:c.callee=.builtin .copy)
  (B:c.args.toList=[d,x]) (h1:(c.argTypes[0]?).bind E.P.underlying=some (.slice el)) (hn:Zx E.P el=some n) (hd:opd d=some Y) (hx:opd x=some X) (h:xex E (.copy n) [e Y,e X] g C.L K):Good E C a o K:=by
 rw [obs] at h1
 obtain ⟨t1,ai,U⟩:=h1
 have T:=he d Y hd
 have R:=he x X hx
 generalize ak:a.eval d=dv at T
 generalize ag:a.eval x=xv at R
 generalize e Y=ed at *
 generalize e X=ex at *
 have q:∀{v:Value} {w':World},(Builtin.copy_ #[t1,t1] o.type #[dv,xv]).run E.P C.w=.ok v w'->Post E C K v w'->Good E C a o K:=by
  intro v w' S hp
  refine .inl ⟨v,w',?_,hp⟩
  rw [YJ ho aj]
  have e1:c.args.map a.eval=#[dv,xv]:=by
   apply Array.ext';simp [B,ak,ag]
  have e2:(Builtin.copy_ c.argTypes o.type #[dv,xv])=(Builtin.copy_ #[t1,t1] o.type #[dv,xv]):=by
   unfold Builtin.copy_
   rw [ai]
   rfl
  rw [e1]
  show (do pure (Next.value (<-Builtin.copy_ c.argTypes o.type #[dv,xv])):Sem Next).run E.P C.w=_
  rw [e2,Sem.run_bind,S]
  rfl
 simp only [xex] at h
 unfold z3y at h
 split at h
 ·rename_i t off len cap
  split at h
  ·rename_i rs ah
   obtain ⟨Z,p,h0,I⟩:=h
   obtain ⟨M,A,s,j⟩:=VF (E:=E) b R ah (fun row S=>(p row S).1)
   have Q:=A.one (fun row S=>(p row S).2)
   cases T with
   | sl _ _ _ _ ad cap' hs hl hc ha=>
    by_cases hnil:rs=[]
    ·subst hnil
     have u:M=[]:=List.eq_nil_of_length_eq_zero (by rw [A.1];simp)
     subst u
     exact q (zan U hn s (j _ rfl)) (ZW wf b (.int _ _) (h0 rfl))
    ·have ax:0<rs.length:=List.length_pos_iff.2 hnil
     obtain ⟨rfl, -⟩:=ha.resolve_left od
     have I:=I hnil
     have V:∀{tc:Bool} {l:Nat} {rows:List (List IV)},yS tc C t l rows->l=n->off+rs.length<=rows.length->
       (∀(c0 c':Array Value) (ty:TypeId) (D:Nat × Nat),C.w.heap[(C.φ t).blk]?=some (.cells c0 ty D)->z8b tc c0.size D->c'.size=c0.size->Flat C c' (C.φ t).base l (splice rows off rs)->
        Post E C K (.int .i64 rs.length) (setW C.w (C.φ t).blk (.cells c' ty D)))->Good E C a o K:=by
      intro tc l rows af hsz hfit hp
      subst hsz
      obtain ⟨hsz,c0,ty,D,G,m,O⟩:=af
      obtain ⟨r,ae⟩:=JL O A hfit
      rw [hsz] at q
      exact q (z8D U hn s Z (j _ rfl) G m r Q) (hp c0 _ ty D G m (Zb r) ae)
     split at I
     ·rename_i l rows J
      obtain ⟨rfl,hfit,hK⟩:=I
      exact V (b t _ J) rfl hfit fun c0 c' ty D G m hsz O=>vC wf b J G m hsz O (.int _ _) hK
     ·rename_i au l rows J
      obtain ⟨rfl,hfit,hK⟩:=I
      refine V (b t _ J).1 rfl hfit fun c0 c' ty D G m hsz O=>?_
      obtain ⟨_,_,c1,ay,h4⟩:=b t _ J
      have:ty=au:=by rw [G] at h4;cases h4;rfl
      subst this
      exact z2U wf b J G m hsz O (.int _ _) hK
     ·exact I.elim
  ·exact h.elim
 ·exact h.elim
theorem z7Z {P:Program} {w:World} {t s:TypeId} {n l d m len cap:Nat} {b:Option Addr} {lo:Option Value} {k r h:IntKind} (u:P.underlying t=some (.slice s)) (v:Zx P s=some n)
  (p:(lo=none/\l=0)\/lo=some (.int k l)) (h1:l<=d) (h2:d<=m) (A:m<=cap) :
  (Instr.sliceAt t (.slice b len cap) lo (some (.int r d)) (some (.int h m))).run P w=.ok (.slice (if m=l then b else b.map (·.add (l*n))) (d - l) (m - l)) w:=by
 have q:∀(n y:Nat) (k:IntKind) (c:BoundsCode),n<=y->(Instr.sliceBound (.int k n) y c).run P w=.ok n w:=fun n y k c B=>by
  unfold Instr.sliceBound
  simp only [asIntOf,Sem.run_bind,Sem.run_pure,Result.andThen_ok]
  rw [if_pos ⟨od,od⟩]
  simp
 have j:(Instr.sliceBounds true len cap lo (some (.int r d)) (some (.int h m))).run P w=.ok (l,d,m) w:=by
  unfold Instr.sliceBounds
  rcases p with ⟨rfl,rfl⟩ | rfl<;>simp [q,h1,h2,A]
 unfold Instr.sliceAt
 rw [Sem.run_bind,Zl u]
 simp only [Result.andThen_ok]
 unfold Instr.slice
 rw [Sem.run_bind,Zl u]
 simp only [Result.andThen_ok]
 rw [Sem.run_bind,j]
 simp only [Result.andThen_ok]
 rw [Sem.run_bind,Zi v]
 rfl
theorem zcf (D:Sim C) (I:Y5 C a e) {t el:TypeId} {x h m:Operand} {lo:Option Operand} {O M R:Opd} {q:Option Opd} {n:Nat} (ho:o.op=.slice t x lo (some h) (some m)) (ht:E.P.underlying t=some (.slice el))
  (hn:Zx E.P el=some n) (hx:opd x=some O) (J:z0K lo=some q) (hh:opd h=some M) (hm:opd m=some R) (Q:xex E (.sl3 n) [e O,e (q.getD (.c (.int .i64 0))),e M,e R] g C.L K):Zy E C a o K:=by
 have u:=I x O hx
 have G:=I h M hh
 have A:=I m R hm
 generalize X:a.eval x=xv at u
 generalize ag:a.eval h=hv at G
 generalize Z:a.eval m=mv at A
 generalize e O=ex at *
 generalize e M=eh at *
 generalize e R=em at *
 simp only [xex] at Q
 split at Q
 ·rename_i s off len cap T l k2 V k3 S af
  obtain ⟨rfl,j,rfl,rfl⟩:ex=.sl s off len cap/\e (q.getD (.c (.int .i64 0)))=.int T l/\eh=.int k2 V/\em=.int k3 S:=by simpa using af
  obtain ⟨hsz,h0,h1,h2,h3,hK⟩:=Q
  have hz:q=none->l=0:=fun h9=>by
   subst h9
   have:=I (.const (.int .i64 0)) (.c (.int .i64 0)) rfl
   simp only [Option.getD_none] at j
   rw [j] at this
   change VR C (.int T l) (.int .i64 0) at this
   cases this
   rfl
  cases G;cases A
  cases u with
  | sl _ _ _ _ ad cap' hs ah hc ha=>
   obtain ⟨b,rfl⟩:∃b:Nat,l=b:=⟨l.toNat,od⟩
   obtain ⟨r,rfl⟩:∃b:Nat,V=b:=⟨V.toNat,od⟩
   obtain ⟨d,rfl⟩:∃b:Nat,S=b:=⟨S.toNat,od⟩
   have U:(lo.map a.eval=none/\b=0)\/lo.map a.eval=some (.int T b):=by
    cases lo with
    | none=>
     simp only [z0K,sij] at J
     have:=hz J.symm
     exact .inl ⟨rfl,od⟩
    | some p=>
     simp only [z0K,oms] at J
     obtain ⟨p',hp,rfl⟩:=J
     have:=I p p' hp
     simp only [Option.getD_some] at j
     rw [j] at this
     right
     generalize Y:a.eval p=pv at this
     cases this
     simp [Y]
   refine zu (s:=Instr.sliceAt t (a.eval x) (lo.map a.eval) (some (a.eval h)) (some (a.eval m))) (v:=.slice (if d=b then ad else ad.map (·.add (b*n))) (r - b) (d - b)) (by unfold execOp;rw [ho];rfl) (w':=C.w) ?_ (ZH ?_ hK)
   ·rw [X,ag,Z]
    exact z7Z ht hn U od od od
   ·simp only [Int.toNat_natCast]
    have e1:((r:Int) - b).toNat=r - b:=by omega
    have e2:((d:Int) - b).toNat=d - b:=by omega
    rw [e1,e2]
    refine .sl _ _ _ _ _ _ hs od (Nat.le_refl _) ?_ od
    by_cases hml:d=b
    ·exact .inl od
    ·refine .inr ?_
     obtain ⟨rfl,c,ae,fr,h5,h6⟩:=ha.resolve_left od
     have B:(C.φ s).sz=n:=by
      unfold Yk at hsz
      split at hsz
      ·rename_i sz rows hL;cases hsz;exact (D s _ hL).1
      ·rename_i ty sz rows hL;cases hsz;exact (D s _ hL).1.1
      ·cases hsz
     rw [if_neg hml,B]
     rw [B] at h6
     refine ⟨?_,c,ae,fr,h5,?_⟩
     ·show some (Addr.add _ _)=_
      unfold Addr.add
      congr 1
      split
      ·rename_i h7;simp [Nat.add_mul,h7]
      ·simp;rw [Nat.add_mul];omega
     ·have:(off+b+(d - b))*n<=(off+cap')*n:=Nat.mul_le_mul_right n od
      omega
 ·exact Q.elim
end
section
variable {E:Env}
def WT (t:Nat):Ren:=fun s=>if s=t then some none else some (some s)
theorem z1h {g0:Nat} {C:Ctx} {t:Nat} {k:Blk} (wf:Wf g0 C) (D:Sim C) (M:C.L[t]?=some k) (ha:k.alive=true) :
  Wf g0 ⟨C.w,C.φ,C.L.set t .dead,C.X⟩/\Sim ⟨C.w,C.φ,C.L.set t .dead,C.X⟩/\Ext C ⟨C.w,C.φ,C.L.set t .dead,C.X⟩/\(∀b,Ctx.own ⟨C.w,C.φ,C.L.set t .dead,C.X⟩ b->C.own b)/\z5x C ⟨C.w,C.φ,C.L.set t .dead,C.X⟩ (WT t):=by
 have A:=zf M
 have q:∀{s:Nat} {j:Blk},(C.L.set t .dead)[s]?=some j->(s=t/\j=.dead)\/(s≠t/\C.L[s]?=some j):=fun {s j} h=>by
  by_cases l:t=s
  ·subst l;rw [List.getElem?_set_self A] at h;exact .inl ⟨rfl,(Option.some.inj h).symm⟩
  ·rw [List.getElem?_set_ne l] at h;exact .inr ⟨Ne.symm l,h⟩
 have m:∀{s:Nat} {j:Blk},(C.L.set t .dead)[s]?=some j->j.alive=true->s≠t/\C.L[s]?=some j:=fun {s j} h J=>by
  rcases q h with ⟨_,rfl⟩ | h
  ·cases J
  ·exact h
 have d:∀b,Ctx.mine ⟨C.w,C.φ,C.L.set t .dead,C.X⟩ b->C.mine b:=fun b ⟨s,j,h,h1,h2⟩=>⟨s,j,(m h h1).2,h1,h2⟩
 have v:∀b,Ctx.own ⟨C.w,C.φ,C.L.set t .dead,C.X⟩ b->C.own b:=fun b h=>h.imp (fun h=>h) (d b)
 have B:∀s,C.born s->Ctx.born ⟨C.w,C.φ,C.L.set t .dead,C.X⟩ s:=fun s ⟨j,h,h1⟩=>by
  by_cases l:t=s
  ·subst l;exact ⟨.dead,List.getElem?_set_self A,rfl⟩
  ·exact ⟨j,by show (C.L.set t .dead)[s]?=_;rw [List.getElem?_set_ne l];exact h,h1⟩
 have p:Ext C ⟨C.w,C.φ,C.L.set t .dead,C.X⟩:=⟨Nat.le_refl _,fun _ _ _=>rfl,fun b h=>.inl (d b h),fun _ _=>rfl,B,by show _<=(C.L.set t .dead).length;rw [lls];exact Nat.le_refl _,fun _ c e U h=>⟨c,e,U,h,rfl⟩,rfl,rfl,rfl,rfl⟩
 refine ⟨⟨fun s u S Q hs r h1 h2 O=>wf.inj s u S Q (m hs h1).2 (m r h2).2 h1 h2 O,fun b h=>wf.lo b (d b h),fun b R h=>wf.apart b R (d b h),wf.exlo,wf.g⟩,fun s j h=>?_,p,v,fun s j h=>⟨fun I _=>?_,fun u r=>?_⟩⟩
 ·rcases q h with ⟨_,rfl⟩ | ⟨_,h1⟩
  ·trivial
  ·exact Ws.mono p h1 (D s j h1) rfl
 ·have l:s=t:=by
   unfold WT at I
   split at I
   ·assumption
   ·cases I
  subst l
  rintro (R | ⟨u,Q,h1,h2,O⟩)
  ·exact wf.apart _ R ⟨s,k,M,ha,rfl⟩
  ·obtain ⟨T,V⟩:=m h1 h2
   exact T (wf.inj u s Q k V M h2 ha O)
 ·have G:s=u:=by
   unfold WT at r
   split at r
   ·cases r
   ·simpa using r
  subst G
  exact ⟨fun Y=>B s ⟨j,h,Y⟩,rfl⟩
end
section
variable {E:Env} {C:Ctx} {a:Act} {o:Oper} {e:Opd->IV} {g:Nat} {K:IV->List Blk->Prop}
theorem ze8 {P:Program} {w:World} {t m:TypeId} {n l b k:Nat} {lo:Option Value} {q:IntKind} (r:P.underlying t=some (.array n m)) (p:Zx P m=some 1)
  (h:(lo=none/\l=0)\/lo=some (.int q l)) (h1:l<=n) :
  (Instr.sliceAt t (.pointer (some ⟨b,k,none⟩)) lo none none).run P w=.ok (.slice (some (if n=l then ⟨b,k,none⟩ else Addr.add ⟨b,k,none⟩ (l*1))) (n - l) (n - l)) w:=by
 have j:∀(n y:Nat) (k:IntKind) (c:BoundsCode),n<=y->(Instr.sliceBound (.int k n) y c).run P w=.ok n w:=fun n y k c s=>by
  unfold Instr.sliceBound
  simp only [asIntOf,Sem.run_bind,Sem.run_pure,Result.andThen_ok]
  rw [if_pos ⟨od,od⟩]
  simp
 have d:(Instr.sliceBounds false n n lo none none).run P w=.ok (l,n,n) w:=by
  unfold Instr.sliceBounds
  rcases h with ⟨rfl,rfl⟩ | rfl<;>simp [j,h1]
 unfold Instr.sliceAt
 rw [Sem.run_bind,Zl r]
 simp only [Result.andThen_ok,Instr.sureAddr]
 rw [Sem.run_bind,Sem.run_pure]
 simp only [Result.andThen_ok]
 rw [Sem.run_bind,d]
 simp only [Result.andThen_ok]
 rw [Sem.run_bind,Zi p]
 rfl
theorem zbM (wf:Wf E.g0 C) (M:Sim C) (Z:Y5 C a e) {t el:TypeId} {n:Nat} {x:Operand} {lo:Option Operand} {Y:Opd} {B:Option Opd} (ho:o.op=.slice t x lo none none) (ht:E.P.underlying t=some (.array n el))
  (hn:Zx E.P el=some 1) (U:opd x=some Y) (V:z0K lo=some B) (h:xex E (.sla n) [e Y,e (B.getD (.c (.int .i64 0)))] g C.L K):Good E C a o K:=by
 have S:=Z x Y U
 generalize ak:a.eval x=xv at S
 generalize e Y=ex at *
 simp only [xex] at h
 split at h
 ·rename_i s k1 l aj
  obtain ⟨rfl,A⟩:ex=.ptr s 0 0/\e (B.getD (.c (.int .i64 0)))=.int k1 l:=by simpa using aj
  split at h
  ·rename_i m row hL
   obtain ⟨rfl,G,R,h0,h1,hK⟩:=h
   have hz:B=none->l=0:=fun q=>by
    subst q
    have:=Z (.const (.int .i64 0)) (.c (.int .i64 0)) rfl
    simp only [Option.getD_none] at A
    rw [A] at this
    change VR C (.int k1 l) (.int .i64 0) at this
    cases this
    rfl
   obtain ⟨b,rfl⟩:∃b:Nat,l=b:=⟨l.toNat,od⟩
   have af:(lo.map a.eval=none/\b=0)\/lo.map a.eval=some (.int k1 b):=by
    cases lo with
    | none=>
     simp only [z0K,sij] at V
     have:=hz V.symm
     exact .inl ⟨rfl,od⟩
    | some p=>
     simp only [z0K,oms] at V
     obtain ⟨p',hp,rfl⟩:=V
     have:=Z p p' hp
     simp only [Option.getD_some] at A
     rw [A] at this
     right
     generalize au:a.eval p=pv at this
     cases this
     simp [au]
   cases S with
   | ptr _ _ _ hs=>
    obtain ⟨hsz,c,ay,fr,h3,az,h4,h5⟩:=M s _ hL
    obtain ⟨ah,O,Q,ax,T⟩:=z1h wf M hL rfl
    have ag:=(T s _ hL).1 (by simp [WT]) rfl
    have I:=(h5 0 row rfl).2
    refine .inl ⟨.slice (some (if m=b then ⟨(C.φ s).blk,(C.φ s).base+0*(C.φ s).sz+0,none⟩ else Addr.add ⟨(C.φ s).blk,(C.φ s).base+0*(C.φ s).sz+0,none⟩ (b*1))) (m - b) (m - b),C.w,?_,_,C.L.set s .dead,C.φ,hK,ah,O,Q,?_⟩
    ·unfold execOp
     rw [ho]
     show (do pure (Next.value (<-Instr.sliceAt t (a.eval x) (lo.map a.eval) none none)):Sem Next).run E.P C.w=_
     rw [ak,Sem.run_bind,ze8 ht hn af od]
     rfl
    ·have ae:((row.drop ((b:Int)).toNat).map fun c=>[c]).length=m - b:=by simp [R]
     have D:∀(i:Nat) (r:List IV),((row.drop ((b:Int)).toNat).map fun c=>[c])[i]?=some r->∃c',r=[c']/\row[b+i]?=some c':=fun i r hi=>by
      rw [List.getElem?_map,oms] at hi
      obtain ⟨c',q,rfl⟩:=hi
      rw [List.getElem?_drop] at q
      exact ⟨c',rfl,q⟩
     have J:∀(c' x:IV) (j:Nat),[c'][j]?=some x->j=0/\x=c':=fun c' x j J=>by
      cases j with
      | zero=>simp at J;exact ⟨rfl,J.symm⟩
      | succ j=>simp at J
     have d:=VR.isl (C:=⟨C.w,C.φ,C.L.set s .dead,C.X⟩) ((row.drop ((b:Int)).toNat).map fun c=>[c]) (some (if m=b then ⟨(C.φ s).blk,(C.φ s).base+0*(C.φ s).sz+0,none⟩ else Addr.add ⟨(C.φ s).blk,(C.φ s).base+0*(C.φ s).sz+0,none⟩ (b*1))) (m - b) 1
      (fun i _=>c.getD ((C.φ s).base+0*(C.φ s).sz+(b+i)) undef) od (fun i r hi=>by obtain ⟨c',rfl,_⟩:=D i r hi;rfl)
      (fun i r hi=>by
       obtain ⟨c',rfl,q⟩:=D i r hi
       obtain ⟨k,v,rfl⟩:=G c' (List.mem_of_getElem? q)
       rfl) ?_ ?_
     ·rw [ae] at d;exact d
     ·by_cases hml:m=b
      ·exact .inl (List.eq_nil_of_length_eq_zero od)
      ·rw [if_neg hml]
       refine .inr ⟨(C.φ s).blk,(C.φ s).base+0*(C.φ s).sz+0+b*1,by simp [Addr.add],(Array.getElem?_eq_some_iff.1 h3).1,ag,fun i r hi j x U=>?_⟩
       obtain ⟨c',rfl,q⟩:=D i r hi
       obtain ⟨rfl,rfl⟩:=J _ _ _ U
       obtain ⟨v,u,_⟩:=I _ _ q
       have e1:(C.φ s).base+0*(C.φ s).sz+0+b*1+i*1+0=(C.φ s).base+0*(C.φ s).sz+(b+i):=by omega
       have e0:(C.φ s).base+0*m+(b+i)=(C.φ s).base+0*(C.φ s).sz+(b+i):=by omega
       rw [e1]
       rw [e0] at u
       simp only [World.cell?,h3,u,Array.getD_eq_getD_getElem?,Option.getD_some]
       rfl
     ·intro i r hi j x U
      obtain ⟨c',rfl,q⟩:=D i r hi
      obtain ⟨rfl,rfl⟩:=J _ _ _ U
      obtain ⟨v,u,ai⟩:=I _ _ q
      obtain ⟨k,v',rfl⟩:=G _ (List.mem_of_getElem? q)
      have e0:(C.φ s).base+0*m+(b+i)=(C.φ s).base+0*(C.φ s).sz+(b+i):=by omega
      rw [e0] at u
      simp only [Array.getD_eq_getD_getElem?,u,Option.getD_some]
      cases ai
      exact .int _ _
  ·exact h.elim
 ·exact h.elim
end
section
variable {E:Env} {C:Ctx} {a:Act} {e:Opd->IV} {o:Oper} {K:IV->List Blk->Prop} {g:Nat}
theorem z7R {P:Program} {t ty s:TypeId} {i:TypeInfo} {z:Value} {w:World} (B:P.underlying t=some (.slice s)) (h1:P.info? s=some i) (h2:i.zero=some z) {b k len cap:Nat} {d:List Value} (A:len≠0)
  (p:(Builtin.zeroCells z.cells len).toList=d) {c:Array Value} {h:TypeId} {q:Nat × Nat} (hc:w.heap[b]?=some (.cells c h q)) {u:Bool} (r:z8b u c.size q) (hfit:k+d.length<=c.size) (l:∀v∈d,v.oneCell'=true) :
  (Builtin.clear_ #[t] ty #[.slice (some ⟨b,k,none⟩) len cap]).run P w=.ok (.tuple #[]) (setW w b (.cells (seg c k d) h q)):=by
 have j:=ZC P b k h q d 0 c w hc r (by simpa using hfit) l
 simp only [Nat.add_zero] at j
 rw [<-Vk hc]
 obtain ⟨m,rfl⟩:∃m,len=m+1:=⟨len - 1,od⟩
 unfold Builtin.clear_
 simp [run_underlying B,yF h1 h2,p,j,seg]
theorem z8a {P:Program} {t ty h:TypeId} {w:World} (b:P.underlying t=some (.slice h)) {d:Option Addr} {cap:Nat}:(Builtin.clear_ #[t] ty #[.slice d 0 cap]).run P w=.ok (.tuple #[]) w:=by
 unfold Builtin.clear_
 cases d<;>simp [run_underlying b]
theorem zce (wf:Wf E.g0 C) (p:Sim C) (he:Y5 C a e) {c:Call} {d:Operand} {O:Opd} {el:TypeId} {z:List IV} (ho:o.op=.call c) (Z:c.callee=.builtin .clear)
  (r:c.args.toList=[d]) (h1:(c.argTypes[0]?).bind E.P.underlying=some (.slice el)) (hz:zeroCells E.P el=some z) (hd:opd d=some O) (h:xex E (.clr z) [e O] g C.L K):Good E C a o K:=by
 rw [obs] at h1
 obtain ⟨t1,Y,J⟩:=h1
 obtain ⟨i,M,hi,Q,I,V⟩:=ZG hz
 have G:=he d O hd
 generalize ae:a.eval d=dv at G
 generalize e O=ed at *
 have b:∀{v:Value} {w':World},(Builtin.clear_ #[t1] o.type #[dv]).run E.P C.w=.ok v w'->Post E C K v w'->Good E C a o K:=by
  intro v w' U hp
  refine .inl ⟨v,w',?_,hp⟩
  rw [YJ ho Z]
  have e1:c.args.map a.eval=#[dv]:=by
   apply Array.ext';simp [r,ae]
  have e2:(Builtin.clear_ c.argTypes o.type #[dv])=(Builtin.clear_ #[t1] o.type #[dv]):=by
   unfold Builtin.clear_
   rw [Y]
   rfl
  rw [e1]
  show (do pure (Next.value (<-Builtin.clear_ c.argTypes o.type #[dv])):Sem Next).run E.P C.w=_
  rw [e2,Sem.run_bind,U]
  rfl
 simp only [xex] at h
 unfold zh3 at h
 split at h
 ·rename_i t off len cap
  obtain ⟨h0,B⟩:=h
  cases G with
  | sl _ _ _ _ ad cap' hs hl hc ha=>
   by_cases hnil:len=0
   ·subst hnil
    exact b (z8a J) (ZW wf p (.tup _ _ rfl (by simp)) (h0 rfl))
   ·obtain ⟨rfl, -⟩:=ha.resolve_left od
    have B:=B hnil
    split at B
    ·rename_i af rows hL
     obtain ⟨rfl,R,hfit,hK⟩:=B
     obtain ⟨hsz,c0,ty,fr,h3,D,hf⟩:=p t _ hL
     obtain ⟨S,X⟩:=vM (C:=C) (m:=len) I (V C) M.cells (.inr rfl)
     have A:(Builtin.zeroCells M.cells len).toList=((Array.range (len*z.length)).map (M.cells[·%M.cells.size]!)).toList:=by
      unfold Builtin.zeroCells
      rw [I]
     have hF:Wv C (Builtin.zeroCells M.cells len).toList z.length (List.replicate len z):=by
      rw [A]
      refine ⟨by rw [Array.length_toList,S,List.length_replicate],fun j row hj=>?_⟩
      obtain ⟨j1,j2⟩:=X.2 j row hj
      refine ⟨j1,fun q x hq=>?_⟩
      obtain ⟨u,j3,j4⟩:=j2 q x hq
      refine ⟨u,?_,j4⟩
      rw [Array.getElem?_toList,<-j3]
      congr 1
      omega
     have s:=hF.one fun row U=>by rw [List.eq_of_mem_replicate U];exact R
     obtain ⟨l,T⟩:=JL hf hF (k:=off) (by rw [List.length_replicate];exact hfit)
     rw [hsz] at b
     exact b (z7R J hi Q hnil rfl h3 D l s) (vC wf p hL h3 D (Zb l) T (.tup _ _ rfl (by simp)) hK)
    ·exact B.elim
 ·exact h.elim
end
end Go.X
end
