/- Parts of the proof: XEx, XMap, XCopy, XSla, XClr. -/
import Derived.Test.YtjliemjcailckaaGreatDoorXP1
import Derived.Lib.Builder
import Derived.Lib.UnsafeStr
import Derived.Lib.ConvBytes
import Derived.Laws.BytesString
import Derived.Laws.Cover4
import Derived.Laws.StructEq
import Derived.LaidEql
set_option linter.unusedVariables false
set_option linter.unusedSimpArgs false
set_option linter.unusedSectionVars false
section
namespace Go.X
open Go
section
variable {E:Env} {C:Ctx} {a:Act} {o:Oper} {e:Opd->IV} {K:IV->List Blk->Prop} {g:Nat}
theorem VP {g:Nat} (hg:Free C.L g) {c:Array Value} {ty:TypeId} {fr:Nat × Nat} {sz:Nat} {rows:List (List IV)} {r:IV} {v:Value} (wf:Wf E.g0 C) (d:Sim C) (m:z01 true c.size fr)
  (B:Flat C c 0 sz rows) (s:VR (y8 C g (.cells c ty fr) (.tcells ty sz rows) sz) r v) (h:K r (zy C.L g (.tcells ty sz rows))) :
  Post E C K v (Zm C.w (.cells c ty fr)):=by
 refine ⟨r,zy C.L g (Blk.tcells ty sz rows),newφ C g sz,h,jH (o:=.cells c ty fr) hg wf d,wB (o:=.cells c ty fr) hg d ?_,yN hg (.cells c ty fr) (.tcells ty sz rows) sz,s⟩
 have b:=B.mono (yN hg (.cells c ty fr) (.tcells ty sz rows) sz)
 refine ⟨⟨by simp [y8,newφ],c,ty,fr,by simp only [y8,newφ,if_true];exact zX,m,?_,?_⟩,by simp [y8,newφ],c,fr,by simp only [y8,newφ,if_true];exact zX⟩
 ·simpa [y8,newφ] using b.1
 ·intro i l hi
  refine ⟨(b.2 i l hi).1,fun j x A=>?_⟩
  obtain ⟨u,D,q⟩:=(b.2 i l hi).2 j x A
  exact ⟨u,by simpa [y8,newφ] using D,q⟩
theorem z2r {g:Nat} (hg:Free C.L g) (wf:Wf E.g0 C) (b:Sim C) {t:TypeId} {z:List IV} (D:o.op=.alloc t) (r:zeroCells E.P t=some z)
  (h:K (.ptr g 0 0) (zy C.L g (.tcells t (z.map z0K).length [z.map z0K]))):Good E C a o K:=by
 obtain ⟨i,v,G,A,B,m⟩:=zJ r
 have I:∀(j:Nat) (x:IV),(z.map z0K)[j]?=some x->∃u,v.cells[j]?=some u/\VR C x u:=fun j x l=>by
  rw [List.getElem?_map,oms] at l
  obtain ⟨y,J,rfl⟩:=l
  obtain ⟨u,q,d⟩:=m C j y J
  refine ⟨u,q,?_⟩
  unfold z0K
  split
  ·cases d;exact .raw _ rfl
  ·exact d
 refine zT (s:=Instr.alloc t true (.tuple #[])) (v:=.pointer (some ⟨C.w.heap.size,0,none⟩)) (w':=Zm C.w (.cells v.cells t)) (by unfold execOp;rw [D]) ?_
  (VP hg wf b (WL _ _) (jd (by rw [List.length_map];exact B) I) (yY hg) h)
 unfold Instr.alloc
 rw [Sem.run_bind,Z5 G A]
 rfl
theorem z6n (m:Sim C) (d:Zr C a e) {t:TypeId} {x:Operand} {b:Opd} (j:o.op=.makeInterface t x) (hc:E.P.concrete t=true) (l:opd x=some b) (h:K (.iface t (e b)) C.L):zN E C a o K:=
 zh (s:=Instr.makeInterface t (a.eval x)) (by unfold execOp;rw [j]) (run_makeInterface _ t _ hc) (zZ (.iface _ _ _ (d x b l)) h)
theorem z3E (wf:Wf E.g0 C) (l:Sim C) (q:Zr C a e) {x:Operand} {d:Opd} (r:o.op=.panic x) (A:opd x=some d) {t:TypeId} {y:IV} (j:e d=.iface t y) (h:E.pan (.iface t y) C.L):Good E C a o K:=by
 have m:=q x d A
 rw [j] at m
 generalize b:a.eval x=xv at m
 cases m with
 | iface _ _ u B=>
 refine .inr (.inr (.inr (.inr ⟨.iface t u,C.w,?_,Zf wf l (.iface _ _ _ B) h⟩)))
 have s:execOp a.eval o=(do pure (Next.value (<-Instr.panic (a.eval x)))):=by unfold execOp;rw [r]
 rw [s,b,Sem.run_bind]
 rfl
theorem z3W (D:Sim C) (A:Zr C a e) {c:Call} {x:Operand} {l:Opd} (I:o.op=.call c) (q:c.callee=.builtin .unsafeSliceData) (d:c.args.toList=[x])
  (B:opd x=some l) (h:xex E .sdata [e l] g C.L K):zN E C a o K:=by
 have j:=A x l B
 generalize m:a.eval x=xv at j
 generalize e l=ex at *
 have J:c.args.map a.eval=#[xv]:=by apply Array.ext';simp [d,m]
 have key:∀{u:Value} {r:IV},(Builtin.unsafeSliceData_ c.argTypes o.type #[xv]).run E.P C.w=.ok u C.w->VR C r u->K r C.L->zN E C a o K:=fun {u r} M G O=>
  JL ⟨u,C.w,by
   rw [ZQ I q,J]
   show (do pure (Next.value (<-Builtin.unsafeSliceData_ c.argTypes o.type #[xv])):Sem Next).run E.P C.w=_
   rw [Sem.run_bind,M];rfl,zZ G O⟩
 simp only [xex] at h
 split at h
 ·rename_i b
  obtain rfl:ex=.nsl:=by simpa using b
  cases j
  exact key (Lib.run_unsafeSliceData_nil _ _ _ _ _) (.raw _ rfl) h
 ·rename_i b
  obtain rfl:ex=.raw (.slice none 0 0):=by simpa using b
  cases j
  exact key (Lib.run_unsafeSliceData_nil _ _ _ _ _) (.raw _ rfl) h
 ·rename_i s off len cap b
  obtain rfl:ex=.sl s off len cap:=by simpa using b
  cases j with
  | sl _ _ _ _ S cap' hs Q hc ha=>
  obtain ⟨rfl,_⟩:=ha.resolve_left od
  refine key (Lib.run_unsafeSliceData_row _ _ _ _ _ _ od) ?_ h.2
  have:=VR.ptr (C:=C) s off 0 hs
  simpa using this
 ·exact h.elim
theorem z5Y {P:Program} {t u:TypeId} {n:Nat} (r:P.underlying t=some (.pointer u)) (s:zI P u=some n) (G:n≠0) (w:World) (neg:Bool) (x y:Operand) {m l:Value} {b:Bool}
  (h:(∃q,m=.pointer q/\l=.pointer q/\b=true)\/(∃q,m=.pointer (some q)/\l=.pointer none/\b=false)\/∃q,m=.pointer none/\l=.pointer (some q)/\b=false) :
  (do eqGuard (if neg then .neq else .eql) t x y m l;binOp (if neg then .neq else .eql) t m l:Sem Value).run P w=.ok (.bool (if neg then !b else b)) w:=by
 obtain ⟨j,B,D⟩:∃j,P.info? u=some j/\j.size=n:=by
  unfold zI at s;rw [oms] at s;exact s
 have key:∀d,(Op.equalIn (d+1) t m l).run P w=.ok b w:=fun d=>by
  rcases h with ⟨q,rfl,rfl,rfl⟩ | ⟨q,rfl,rfl,rfl⟩ | ⟨q,rfl,rfl,rfl⟩
  ·cases q with
   | none=>simp [Op.equalIn,run_underlying r]
   | some q=>simp [Op.equalIn,run_underlying r,sizeOf,typeInfo,B,run_sameAddr_same]
  ·simp [Op.equalIn,run_underlying r]
  ·simp [Op.equalIn,run_underlying r]
 have A:∃p q,m=.pointer p/\l=.pointer q:=by
  rcases h with ⟨q,rfl,rfl,_⟩ | ⟨q,rfl,rfl,_⟩ | ⟨q,rfl,rfl,_⟩<;>exact ⟨_,_,rfl,rfl⟩
 obtain ⟨p,q,rfl,rfl⟩:=A
 exact jo neg x y (by cases neg<;>rfl) (by cases neg<;>simp [binOp]) (key 9999)
theorem z3w (G:Sim C) (A:Zr C a e) {op:BinOp} {t ty B:TypeId} {n:Nat} {x y:Operand} {m q:Opd} {neg:Bool} (I:o.op=.binOp op t x y ty) (u:op=if neg then .neq else .eql) (M:E.P.underlying t=some (.pointer B))
  (J:zI E.P B=some n) (r:n≠0) (D:opd x=some m) (O:opd y=some q) (h:xex E (.eqP neg) [e m,e q] g C.L K):zN E C a o K:=by
 have d:=A x m D
 have j:=A y q O
 subst u
 simp only [xex] at h
 split at h
 ·rename_i b l
  refine zh (s:=do eqGuard (if neg then .neq else .eql) t x y (a.eval x) (a.eval y);binOp (if neg then .neq else .eql) t (a.eval x) (a.eval y)) (v:=.bool (if neg then !b else b)) (w':=C.w) (by unfold execOp;rw [I]) ?_ (zZ (.bool _) h)
  refine z5Y M J r C.w neg x y ?_
  generalize a.eval x=xv at *
  generalize a.eval y=yv at *
  generalize e m=ex at *
  generalize e q=ey at *
  unfold jW at l
  split at l
  ·split at l
   ·rename_i hs
    obtain ⟨rfl,rfl,rfl⟩:=hs
    cases l
    cases d;cases j
    exact .inl ⟨_,rfl,rfl,rfl⟩
   ·cases l
  ·cases l;cases d;cases j
   exact .inr (.inl ⟨_,rfl,rfl,rfl⟩)
  ·cases l;cases d;cases j
   exact .inr (.inr ⟨_,rfl,rfl,rfl⟩)
  ·cases l;cases d;cases j
   exact .inr (.inl ⟨_,rfl,rfl,rfl⟩)
  ·cases l;cases d;cases j
   exact .inl ⟨_,rfl,rfl,rfl⟩
  ·cases l
 ·exact h.elim
theorem z2s {P:Program} {e:TypeId} (hc:P.cellsOf e≠0) {b:Nat} (d:1<=b):liesAt P P.depth e b 0 e 1=true:=by
 have hd:P.depth=(2*(P.types.size+Made.depth)+1)+1:=rfl
 rw [hd]
 simp only [liesAt,Bool.or_eq_true]
 left
 rw [hd]
 simp [rowAt,hc,d,sameLayout]
theorem z0B (q:Sim C) (M:Zr C a e) {s d:TypeId} {x:Operand} {I:Opd} (T:o.op=.convert s d x) (Q:opd x=some I) {ty n sl r of:Nat} (A:e I=.ptr sl r of) (h:z4l ty n sl r of C.L K)
  (X:∀(b cells:Nat),C.w.shape? b=some (ty,cells)->n<=cells->0<cells->(convert s d (.pointer (some ⟨b,0,none⟩))).run E.P C.w=.ok (.pointer (some ⟨b,0,none⟩)) C.w):zN E C a o K:=by
 have B:=M x I Q
 rw [A] at B
 obtain ⟨rfl,rfl,h⟩:=h
 split at h
 ·rename_i O sz V Y
  obtain ⟨rfl,h1,Z,S⟩:=h
  obtain ⟨⟨hsz,c,U,fr,hc,_,u,_⟩,m,c',fr',l⟩:=q sl _ Y
  rw [hc] at l
  obtain ⟨rfl,rfl,rfl⟩:=by simpa using l
  generalize j:a.eval x=xv at B
  cases B with
  | ptr _ _ _ hs=>
  have D:C.w.shape? (C.φ sl).blk=some (U,c.size):=by simp [World.shape?,hc]
  have J:sz<=c.size:=by simpa [m] using u
  have G:=X _ _ D od od
  have ev:(Value.pointer (some ⟨(C.φ sl).blk,(C.φ sl).base+0*(C.φ sl).sz+0,none⟩))=.pointer (some ⟨(C.φ sl).blk,0,none⟩):=by rw [m];simp
  rw [ev] at j
  refine zh (s:=convert s d (a.eval x)) (by unfold execOp;rw [T]) (by rw [j];exact G) (zZ (r:=.ptr sl 0 0) ?_ S)
  have:=VR.ptr (C:=C) sl 0 0 hs
  rw [ev] at this
  exact this
 ·exact h.elim
theorem z8e (q:Sim C) (A:Zr C a e) {s d t:TypeId} {x:Operand} {w:Opd} {n m:Nat} (D:o.op=.convert s d x) (hs:E.P.underlying s=some (.pointer t)) (hd:E.P.underlying d=some .unsafePointer) (u:zI E.P t=some n) (M:n≠0)
  (B:opd x=some w) (h:xex E (.toU t m) [e w] g C.L K):zN E C a o K:=by
 obtain ⟨j,G,J⟩:∃j,E.P.info? t=some j/\j.size=n:=by unfold zI at u;rw [oms] at u;exact u
 simp only [xex] at h
 split at h
 ·rename_i s0 r0 I l
  obtain l:e w=.ptr s0 r0 I:=by simpa using l
  exact z0B q A D B l h fun b cells r _ hc=>Lib.run_to_unsafe _ ⟨b,0,none⟩ hs hd G od r hc
 ·exact h.elim
theorem z6V (m:Sim C) (A:Zr C a e) {s d t:TypeId} {x:Operand} {w:Opd} {n:Nat} (D:o.op=.convert s d x) (hs:E.P.underlying s=some .unsafePointer) (hd:E.P.underlying d=some (.pointer t)) (u:zI E.P t=some n) (M:n≠0) (q:E.P.cellsOf t=n)
  (B:opd x=some w) (h:xex E (.ofU t n) [e w] g C.L K):zN E C a o K:=by
 obtain ⟨j,G,J⟩:∃j,E.P.info? t=some j/\j.size=n:=by unfold zI at u;rw [oms] at u;exact u
 simp only [xex] at h
 split at h
 ·rename_i s0 r0 I l
  obtain l:e w=.ptr s0 r0 I:=by simpa using l
  exact z0B m A D B l h fun b cells r O hc=>Lib.run_from_unsafe _ ⟨b,0,none⟩ hs hd G r (z2s od (by rw [q];exact (Nat.le_div_iff_mul_le od).2 od))
 ·exact h.elim
theorem z5T {g:Nat} (hg:Free C.L g) (wf:Wf E.g0 C) (D:Sim C) (O:Zr C a e) {s d l:TypeId} {x:Operand} {u:Opd} (T:o.op=.convert s d x) (hs:E.P.underlying s=some .string) (hd:E.P.underlying d=some (.slice l)) (B:E.P.underlying l=some (.int .u8))
  (Q:opd x=some u) (h:xex E (.strB l) [e u] g C.L K):Good E C a o K:=by
 have G:=O x u Q
 simp only [xex] at h
 split at h
 ·rename_i t m
  obtain m:e u=.str t:=by simpa using m
  obtain ⟨J,h⟩:=h
  rw [m] at G
  generalize A:a.eval x=xv at G
  cases G
  have S:Lib.bytesWorld C.w l ⟨t.toArray⟩=Zm (ZZ C).w (.cells (Lib.bytesCells C.w l ⟨t.toArray⟩) l ((Lib.bytesCells C.w l ⟨t.toArray⟩).size,(Lib.bytesCells C.w l ⟨t.toArray⟩).size+1)):=by
   have hh:(Lib.bytesWorld C.w l ⟨t.toArray⟩).heap=C.w.heap.push (.cells (Lib.bytesCells C.w l ⟨t.toArray⟩) l ((Lib.bytesCells C.w l ⟨t.toArray⟩).size,(Lib.bytesCells C.w l ⟨t.toArray⟩).size+1)):=by
    apply Array.ext_getElem?
    intro j
    rw [Array.getElem?_push]
    rcases Nat.lt_trichotomy j C.w.heap.size with r | r | r
    ·rw [if_neg od];exact Lib.bytesWorld_at_old _ _ _ _ r
    ·rw [if_pos r,r];exact Lib.bytesWorld_at_new _ _ _
    ·rw [if_neg od,Array.getElem?_eq_none (by rw [Lib.bytesWorld_size];omega),Array.getElem?_eq_none od]
   have U:Lib.bytesWorld C.w l ⟨t.toArray⟩={ (ZZ C).w with heap:=(Lib.bytesWorld C.w l ⟨t.toArray⟩).heap }:=by
    unfold Lib.bytesWorld World.freeze
    simp only [Nat.one_ne_zero,if_false]
    rfl
   rw [U,hh];rfl
  have hsz:(Lib.bytesCells C.w l ⟨t.toArray⟩).size=t.length+(grownCap C.w t.length 0 l - t.length):=by
   simp [Lib.bytesCells,ByteArray.size]
  have q:t.length<=grownCap C.w t.length 0 l:=by
   exact grownCap_ge _ _ _ _
  refine zT (s:=convert s d (a.eval x)) (v:=.slice (some ⟨C.w.heap.size,0,none⟩) t.length (grownCap C.w t.length 0 l)) (w':=Lib.bytesWorld C.w l ⟨t.toArray⟩) (by unfold execOp;rw [T]) ?_ ?_
  ·rw [A]
   have:=Lib.run_convert_string_bytes (P:=E.P) C.w s d l ⟨t.toArray⟩ hs hd B
   simpa [ByteArray.size] using this
  ·rw [S]
   refine Post.of_ext (zA C) rfl ?_
   refine VP (C:=ZZ C) (sz:=1) (rows:=Zq t) hg (Zu wf) (Zc D) (.inr ⟨rfl,Nat.le_refl _⟩) ?_ (vw (C:=ZZ C) (cap':=grownCap C.w t.length 0 l) hg (Nat.le_refl _) q (by rw [hsz,Nat.mul_one];omega) (grownCap_le_maxLen _ _ _ _ J)) h
   refine ⟨by rw [hsz];simp [Zq],fun i V hi=>?_⟩
   unfold Zq at hi
   rw [List.getElem?_map,oms] at hi
   obtain ⟨b,M,rfl⟩:=hi
   refine ⟨rfl,fun j y I=>?_⟩
   cases j with
   | zero=>
    simp at I;subst I
    refine ⟨.int .u8 b.toNat,?_,.int _ _⟩
    have hi:=zl M
    simp only [Lib.bytesCells,Nat.zero_add,Nat.mul_one,Nat.add_zero]
    rw [Array.getElem?_append_left (by simpa using hi)]
    simp [M]
   | succ j=>simp at I
 ·exact h.elim
theorem Ya {d:List IV} {b:UInt8} (h:byteOf d=some b):d=[.int .u8 b.toNat]:=by
 unfold byteOf at h
 split at h
 ·rename_i n
  split at h
  ·rename_i j;cases h;rw [<-j]
  ·cases h
 ·cases h
theorem z1y {rs:List (List IV)} {s:List UInt8} (h:zF byteOf rs=some s) {d:List Value} (r:Y8 C d 1 rs):∃D:List Int,d=D.map (Value.int .u8)/\D.length=s.length/\∀(i:Nat) (n:Int) (b:UInt8),D[i]?=some n->s[i]?=some b->UInt8.ofNat n.toNat=b:=by
 refine ⟨(List.range d.length).map fun i=>match d.getD i undef with | .int _ n=>n | _=>0,?_,?_,?_⟩
 ·apply List.ext_getElem?
  intro i
  simp only [List.map_map,List.getElem?_map]
  rcases Nat.lt_or_ge i d.length with hi | hi
  ·have q:i<rs.length:=by rw [r.1] at hi;omega
   obtain ⟨b,J,A⟩:=Zd h i _ (List.getElem?_eq_getElem q)
   have m:=Ya A
   obtain ⟨_,w⟩:=r.2 i _ (List.getElem?_eq_getElem q)
   obtain ⟨u,l,j⟩:=w 0 (.int .u8 b.toNat) (by rw [m];rfl)
   cases j
   rw [Nat.mul_one,Nat.add_zero] at l
   rw [l,List.getElem?_range hi]
   simp [List.getD,l]
  ·rw [List.getElem?_eq_none hi,List.getElem?_eq_none (by simpa using hi)];rfl
 ·rw [List.length_map,List.length_range,r.1,zu h,Nat.mul_one]
 ·intro i n b G M
  obtain ⟨B,O,w⟩:=zq h i b M
  obtain ⟨_,l⟩:=r.2 i B O
  obtain ⟨u,j,Q⟩:=l 0 (.int .u8 b.toNat) (by rw [Ya w];rfl)
  cases Q
  rw [Nat.mul_one,Nat.add_zero] at j
  rw [List.getElem?_map,oms] at G
  obtain ⟨k,I,rfl⟩:=G
  have hi:=zl j
  rw [List.getElem?_range hi] at I
  cases I
  simp [List.getD,j]
theorem bytes_eq {d:List Int} {s:List UInt8} (q:d.length=s.length) (h:∀(i:Nat) (n:Int) (b:UInt8),d[i]?=some n->s[i]?=some b->UInt8.ofNat n.toNat=b) :
  d.foldl (fun r n=>r.push (UInt8.ofNat n.toNat)) ByteArray.empty=⟨s.toArray⟩:=by
 have key:∀(d:List Int) (r:ByteArray),d.foldl (fun r n=>r.push (UInt8.ofNat n.toNat)) r=⟨r.data++(d.map fun n=>UInt8.ofNat n.toNat).toArray⟩:=by
  intro d
  induction d with
  | nil=>intro r;simp
  | cons n d m=>
   intro r
   rw [List.foldl_cons,m]
   apply ByteArray.ext
   simp [ByteArray.push]
 rw [key]
 have l:d.map (fun n=>UInt8.ofNat n.toNat)=s:=by
  apply List.ext_getElem?
  intro i
  rw [List.getElem?_map]
  rcases Nat.lt_or_ge i s.length with hi | hi
  ·have j:i<d.length:=by omega
   rw [List.getElem?_eq_getElem j,List.getElem?_eq_getElem hi]
   exact congrArg some (h i _ _ (List.getElem?_eq_getElem j) (List.getElem?_eq_getElem hi))
  ·rw [List.getElem?_eq_none od,List.getElem?_eq_none hi];rfl
 rw [l]
 apply ByteArray.ext
 show #[]++s.toArray=s.toArray
 simp
theorem z4H (S:Sim C) (he:Zr C a e) {s d el:TypeId} {x:Operand} {I:Opd} (ho:o.op=.convert s d x) (hs:E.P.underlying s=some (.slice el)) (Q:E.P.underlying el=some (.int .u8)) (hd:E.P.underlying d=some .string)
  (hx:opd x=some I) (h:xex E .bStr [e I] g C.L K):zN E C a o K:=by
 have V:=he x I hx
 simp only [xex] at h
 split at h
 ·rename_i t X
  obtain ⟨rs,u,h2⟩:=Option.bind_eq_some_iff.1 X
  have r:rowsOf C.L (e I)=some rs:=by
   unfold yu at u;split at u
   ·cases u
   ·exact u
  have ae:∃m l c,a.eval x=.slice m l c:=by
   generalize e I=ex at *
   generalize a.eval x=xv at *
   cases V<;>first
    | exact ⟨_,_,_,rfl⟩
    | (simp only [yu] at u;cases u;done)
    | (simp only [rowsOf] at r;cases r;done)
  obtain ⟨m,l,c,A⟩:=ae
  rw [A] at V
  have B:∀q∈rs,q.length=1:=fun q hr=>by
   obtain ⟨i,hi⟩:=List.getElem?_of_mem hr
   obtain ⟨b,_,Y⟩:=Zd h2 i q hi
   rw [Ya Y];rfl
  obtain ⟨M,af,J,j⟩:=Yz (E:=E) S V r B
  obtain ⟨Z,D,hl,Y⟩:=z1y h2 af
  have U:l=rs.length:=by
   have:(Builtin.lenOf (.slice m l c)).run E.P C.w=(pure rs.length:Sem Nat).run E.P C.w:=by rw [J]
   simpa [Builtin.lenOf,Sem.run_pure] using this
  subst U
  have O:=j C.w rfl
  refine zh (s:=convert s d (a.eval x)) (by unfold execOp;rw [ho]) (v:=.string ⟨t.toArray⟩) (w':=C.w) ?_ (zZ (.str _) h)
  rw [A,run_convert_bytes_string _ _ _ _ _ _ _ hs Q hd]
  cases m with
  | none=>
   have:M=[]:=by
    have:(Builtin.firstCells 1 rs.length (.slice none rs.length c)).run E.P C.w=.ok #[] C.w:=rfl
    rw [this] at O
    have:=(Result.ok.inj O).1
    simpa using this.symm
   subst this
   have G:Z=[]:=by simpa using D.symm
   subst G
   have ht:t=[]:=List.eq_nil_of_length_eq_zero (by simpa using hl.symm)
   subst ht
   rfl
  | some m=>
   have T:(loadCells m rs.length).run E.P C.w=.ok (Z.map (Value.int .u8)).toArray C.w:=by
    rw [<-D]
    have:(Builtin.firstCells 1 rs.length (.slice (some m) rs.length c))=loadCells m (rs.length*1):=rfl
    rw [this,Nat.mul_one] at O
    exact O
   rw [run_bytesToString _ _ _ _ Z T,bytes_eq hl Y]
 ·exact h.elim
theorem z7f {P:Program} {t:TypeId} (h:z9I P t=true):P.underlying t=some (.int .i32):=by
 unfold z9I at h
 split at h
 ·assumption
 ·cases h
theorem jg {b:List IV} {n:Int} (h:runeOf b=some n):b=[.int .i32 n]:=by
 unfold runeOf at h
 split at h
 ·cases h;rfl
 ·cases h
theorem z1v {rs:List (List IV)} {s:List Int} (h:zF runeOf rs=some s) {d:List Value} (q:Y8 C d 1 rs):d=s.map (Value.int .i32):=by
 apply List.ext_getElem?
 intro i
 rw [List.getElem?_map]
 rcases Nat.lt_or_ge i d.length with hi | hi
 ·have l:i<rs.length:=by rw [q.1] at hi;omega
  obtain ⟨b,m,r⟩:=Zd h i _ (List.getElem?_eq_getElem l)
  have j:=jg r
  obtain ⟨_,A⟩:=q.2 i _ (List.getElem?_eq_getElem l)
  obtain ⟨u,w,B⟩:=A 0 (.int .i32 b) (by rw [j];rfl)
  cases B
  rw [Nat.mul_one,Nat.add_zero] at w
  rw [w,m];rfl
 ·rw [List.getElem?_eq_none hi,List.getElem?_eq_none (by rw [zu h];rw [q.1] at hi;omega)];rfl
theorem z7M (b:List Int):runesBytes b=⟨(runesL b).toArray⟩:=by
 have key:∀(b:List Int) (r:ByteArray),b.foldl (fun r n=>r++Utf8.encode n) r=⟨(r.data.toList++runesL b).toArray⟩:=by
  intro b
  induction b with
  | nil=>intro r;simp [runesL]
  | cons n b d=>
   intro r
   rw [List.foldl_cons,d]
   apply ByteArray.ext
   simp [runesL,ByteArray.data_append]
 unfold runesBytes
 rw [key]
 simp
theorem z6k (S:Sim C) (he:Zr C a e) {s d el:TypeId} {x:Operand} {I:Opd} (ho:o.op=.convert s d x) (hs:E.P.underlying s=some (.slice el)) (Q:E.P.underlying el=some (.int .i32)) (hd:E.P.underlying d=some .string)
  (hx:opd x=some I) (h:xex E .rStr [e I] g C.L K):zN E C a o K:=by
 have V:=he x I hx
 simp only [xex] at h
 split at h
 ·rename_i t X
  obtain ⟨rs,u,h2⟩:=Option.bind_eq_some_iff.1 X
  have r:rowsOf C.L (e I)=some rs:=by
   unfold yu at u;split at u
   ·cases u
   ·exact u
  have Y:∃m l c,a.eval x=.slice m l c:=by
   generalize e I=ex at *
   generalize a.eval x=xv at *
   cases V<;>first
    | exact ⟨_,_,_,rfl⟩
    | (simp only [yu] at u;cases u;done)
    | (simp only [rowsOf] at r;cases r;done)
  obtain ⟨m,l,c,A⟩:=Y
  rw [A] at V
  have B:∀q∈rs,q.length=1:=fun q hr=>by
   obtain ⟨i,hi⟩:=List.getElem?_of_mem hr
   obtain ⟨b,_,hb⟩:=Zd h2 i q hi
   rw [jg hb];rfl
  obtain ⟨M,Z,J,j⟩:=Yz (E:=E) S V r B
  have D:=z1v h2 Z
  have U:l=rs.length:=by
   have:(Builtin.lenOf (.slice m l c)).run E.P C.w=(pure rs.length:Sem Nat).run E.P C.w:=by rw [J]
   simpa [Builtin.lenOf,Sem.run_pure] using this
  subst U
  have O:=j C.w rfl
  refine zh (s:=convert s d (a.eval x)) (by unfold execOp;rw [ho]) (v:=.string ⟨(runesL t).toArray⟩) (w':=C.w) ?_ (zZ (.str _) h)
  rw [A,run_convert_runes_string _ _ _ _ _ _ _ hs Q hd]
  cases m with
  | none=>
   have:M=[]:=by
    have:(Builtin.firstCells 1 rs.length (.slice none rs.length c)).run E.P C.w=.ok #[] C.w:=rfl
    rw [this] at O
    have:=(Result.ok.inj O).1
    simpa using this.symm
   subst this
   have G:t=[]:=by simpa using D.symm
   subst G
   rfl
  | some m=>
   have T:(loadCells m rs.length).run E.P C.w=.ok (t.map (Value.int .i32)).toArray C.w:=by
    rw [<-D]
    have:(Builtin.firstCells 1 rs.length (.slice (some m) rs.length c))=loadCells m (rs.length*1):=rfl
    rw [this,Nat.mul_one] at O
    exact O
   rw [run_runesToString _ _ _ _ t T,z7M]
 ·exact h.elim
theorem z7w (D:Sim C) (A:Zr C a e) {s t:TypeId} {d:TypeDesc} {x:Operand} {b:Opd} (I:o.op=.typeAssert x s t true) (J:E.P.underlying t=some d) (hd:∀j,d≠.interface j)
  (B:opd x=some b) (h:xex E (.tas t) [e b] g C.L K):zN E C a o K:=by
 have r:=A x b B
 generalize m:a.eval x=xv at r
 generalize e b=ex at *
 simp only [xex] at h
 split at h
 ·rename_i t' v q
  obtain rfl:ex=.iface t' v:=by simpa using q
  split at h
  ·rename_i l
   subst l
   cases r with
   | iface _ _ u G=>
    refine zh (s:=Instr.typeAssert (a.eval x) s t' true) (by unfold execOp;rw [I]) (v:=.tuple #[u,.bool true]) (w':=C.w) ?_ (zZ (.tup [v,.bool true] [u,.bool true] rfl fun i y hi=>?_) h)
    ·rw [m]
     unfold Instr.typeAssert
     rw [Sem.run_bind,run_underlying J]
     simp only [Result.andThen_ok]
     cases d with
     | interface j=>exact absurd rfl (hd j)
     | _=>simp
    ·match i,hi with
     | 0,hi=>cases hi;exact G
     | 1,hi=>cases hi;exact .bool true
  ·exact h.elim
 ·exact h.elim
theorem jO (a b:List UInt8):((⟨a.toArray⟩:ByteArray).toList==(⟨b.toArray⟩:ByteArray).toList)=decide (a=b):=by
 rw [ByteArray.toList_eq,ByteArray.toList_eq]
 show (a.toArray.toList==b.toArray.toList)=_
 rw [List.toList_toArray,List.toList_toArray]
 by_cases h:a=b
 ·subst h;simp
 ·rw [decide_eq_false h];simpa using h
theorem vW {P:Program} {D:Nat} {C C':Ctx} (vs us:List Value) (w:World):∀(fs:List Field) (Y:List Nat) (k:Nat) (xs V:List IV) (r:Bool),V7 P fs k=some Y->
  (∀(i:Nat) (x:IV),xs[i]?=some x->∃v,vs[k+i]?=some v/\VR C x v)->(∀(i:Nat) (x:IV),V[i]?=some x->∃v,us[k+i]?=some v/\VR C' x v)->
  zM Y xs V=some r->(Op.eqFields (D+1) vs.toArray us.toArray fs).run P w=.ok r w
 | [],Y,k,xs,V,r,m,hx,hy,h=>by
  simp only [V7,sij] at m;subst m
  unfold zM at h
  split at h<;>first | (cases h;done) | skip
  all_goals first
   | (cases h;rfl)
   | (exfalso;simp_all;done)
 | f::fs,Y,k,xs,V,r,m,hx,hy,h=>by
  simp only [V7] at m
  split at m
  ·rename_i hc
   rw [Bool.and_eq_true,bne_iff_ne,beq_iff_eq] at hc
   obtain ⟨hn,S⟩:=hc
   have A:∀{v:Value} {l:List Value},(match P.underlying f.type with | some (.int _) | some .string | some .bool=>true | _=>false)=true->l[k]?=some v->(part f.type l.toArray f.offset).run P w=.ok v w:=fun {v l} Z hl=>by
    have h0:l.toArray[f.offset]?=some v:=by rw [S];simpa using hl
    cases s:P.underlying f.type with
    | none=>rw [s] at Z;cases Z
    | some d=>rw [s] at Z;cases d<;>first | (cases Z;done) | simp [part,isAgg,run_underlying s,h0]
   have B:∀{x y:IV} {I J:List IV} {q:List Nat} {b O:Bool} {v u:Value},xs=x::I->V=y::J->V7 P fs (k+1)=some q->zM q I J=some O->r=(b&&O)->
     (match P.underlying f.type with | some (.int _) | some .string | some .bool=>true | _=>false)=true->vs[k]?=some v->us[k]?=some u->(Op.equalIn (D+1) f.type v u).run P w=.ok b w->(Op.eqFields (D+1) vs.toArray us.toArray (f::fs)).run P w=.ok r w:=by
    intro x y I J q b O v u e1 e2 e3 e4 e5 e6 e7 e8 e9
    subst e1 e2
    simp only [Op.eqFields,if_pos hn,Sem.run_bind,A e6 e7,A e6 e8,Result.andThen_ok,e9,Sem.run_ite,Sem.run_pure]
    cases b
    ·rw [e5];rfl
    ·rw [e5]
     exact vW vs us w fs q (k+1) I J O e3 (fun i z hz=>by
      obtain ⟨v,M,G⟩:=hx (i+1) z (by simpa using hz)
      exact ⟨v,by rw [<-M];congr 1;omega,G⟩) (fun i z hz=>by
      obtain ⟨v,M,G⟩:=hy (i+1) z (by simpa using hz)
      exact ⟨v,by rw [<-M];congr 1;omega,G⟩) e4
   split at m
   ·rename_i kk s
    rw [oms] at m
    obtain ⟨q,m,rfl⟩:=m
    unfold zM at h
    split at h<;>first | (cases h;done) | skip
    ·rename_i j;cases j
    ·rename_i U k1 a r1 k2 b r2 j
     cases j
     split at h
     ·rename_i ae
      subst ae
      rw [oms] at h
      obtain ⟨O,M,rfl⟩:=h
      obtain ⟨v,G,T⟩:=hx 0 _ rfl
      obtain ⟨u,Q,X⟩:=hy 0 _ rfl
      cases T;cases X
      exact B rfl rfl m M rfl (by rw [s]) G Q (by rw [run_equalIn_int w D _ _ _ _ _ s];rfl)
     ·cases h
    ·rename_i j;cases j
    ·rename_i j;cases j
   ·rename_i s
    rw [oms] at m
    obtain ⟨q,m,rfl⟩:=m
    unfold zM at h
    split at h<;>first | (cases h;done) | skip
    ·rename_i j;cases j
    ·rename_i j;cases j
    ·rename_i U a r1 b r2 j
     cases j
     rw [oms] at h
     obtain ⟨O,M,rfl⟩:=h
     obtain ⟨v,G,T⟩:=hx 0 _ rfl
     obtain ⟨u,Q,X⟩:=hy 0 _ rfl
     cases T;cases X
     exact B rfl rfl m M rfl (by rw [s]) G Q (by rw [run_equalIn_string w D _ _ _ s,jO])
    ·rename_i j;cases j
   ·rename_i s
    rw [oms] at m
    obtain ⟨q,m,rfl⟩:=m
    unfold zM at h
    split at h<;>first | (cases h;done) | skip
    ·rename_i j;cases j
    ·rename_i j;cases j
    ·rename_i j;cases j
    ·rename_i U a r1 b r2 j
     cases j
     rw [oms] at h
     obtain ⟨O,M,rfl⟩:=h
     obtain ⟨v,G,T⟩:=hx 0 _ rfl
     obtain ⟨u,Q,X⟩:=hy 0 _ rfl
     cases T;cases X
     exact B rfl rfl m M rfl (by rw [s]) G Q (by rw [run_equalIn_bool' w D _ _ _ s];cases a<;>cases b<;>rfl)
   ·cases m
  ·cases m
theorem Yo:∀(j kb:List Nat) (xs l:List IV) (r:Bool),zM (j++kb) xs l=some r->∃r1 r2,zM j (xs.take j.length) (l.take j.length)=some r1/\zM kb (xs.drop j.length) (l.drop j.length)=some r2/\r=(r1&&r2)/\j.length<=xs.length/\j.length<=l.length
 | [],kb,xs,l,r,h=>⟨true,r,rfl,h,by simp,Nat.zero_le _,Nat.zero_le _⟩
 | k::j,kb,xs,l,r,h=>by
  rw [List.cons_append] at h
  unfold zM at h
  split at h<;>first | (cases h;done) | skip
  ·rename_i d;cases d
  ·rename_i G k1 a r1 k2 b r2 d
   cases d
   split at h
   ·rename_i J
    rw [oms] at h
    obtain ⟨B,A,rfl⟩:=h
    obtain ⟨u,s,q,w,m,I,D⟩:=Yo j kb _ _ B A
    refine ⟨decide (a=b)&&u,s,?_,w,by rw [m,Bool.and_assoc],by simp only [llc];omega,by simp only [llc];omega⟩
    simp only [llc,List.take_succ_cons,zM,if_pos J,q,Option.map_some]
   ·cases h
  ·rename_i G a r1 b r2 d
   cases d
   rw [oms] at h
   obtain ⟨B,A,rfl⟩:=h
   obtain ⟨u,s,q,w,m,I,D⟩:=Yo j kb _ _ B A
   refine ⟨decide (a=b)&&u,s,?_,w,by rw [m,Bool.and_assoc],by simp only [llc];omega,by simp only [llc];omega⟩
   simp only [llc,List.take_succ_cons,zM,q,Option.map_some]
  ·rename_i G a r1 b r2 d
   cases d
   rw [oms] at h
   obtain ⟨B,A,rfl⟩:=h
   obtain ⟨u,s,q,w,m,I,D⟩:=Yo j kb _ _ B A
   refine ⟨decide (a=b)&&u,s,?_,w,by rw [m,Bool.and_assoc],by simp only [llc];omega,by simp only [llc];omega⟩
   simp only [llc,List.take_succ_cons,zM,q,Option.map_some]
theorem z8B {P:Program} {t:TypeId} {b:Array Field} {n off:Nat} (h:P.underlying t=some (.struct b)) (hs:zI P t=some n) (l:Array Value) (w:World):(part t l off).run P w=.ok (.agg (l.extract off (off+n))) w:=by
 have d:(sizeOf t).run P w=.ok n w:=zx hs w
 simp [part,isAgg,run_underlying h,d]
theorem V3 (vs:List Value) (k n:Nat):vs.toArray.extract k (k+n)=((vs.drop k).take n).toArray:=by
 simp [List.extract_toArray]
theorem Ym {P:Program} {D:Nat} {C C':Ctx} (vs us:List Value) (w:World):∀(fs:List Field) (ks:List Nat) (k:Nat) (xs ys:List IV) (r:Bool),Yb P fs k=some ks->
  (∀(i:Nat) (x:IV),xs[i]?=some x->∃v,vs[k+i]?=some v/\VR C x v)->(∀(i:Nat) (x:IV),ys[i]?=some x->∃v,us[k+i]?=some v/\VR C' x v)->
  zM ks xs ys=some r->(Op.eqFields (D+2) vs.toArray us.toArray fs).run P w=.ok r w
 | [],ks,k,xs,ys,r,m,hx,hy,h=>by
  simp only [Yb,sij] at m;subst m
  unfold zM at h
  split at h<;>first | (cases h;done) | skip
  all_goals first
   | (cases h;rfl)
   | (exfalso;simp_all;done)
 | f::fs,ks,k,xs,ys,r,m,hx,hy,h=>by
  simp only [Yb] at m
  split at m
  ·rename_i hc
   rw [Bool.and_eq_true,bne_iff_ne,beq_iff_eq] at hc
   obtain ⟨hn,S⟩:=hc
   have I:∀{v:Value} {l:List Value},(match P.underlying f.type with | some (.int _) | some .string | some .bool=>true | _=>false)=true->l[k]?=some v->(part f.type l.toArray f.offset).run P w=.ok v w:=fun {v l} ht hl=>by
    have h0:l.toArray[f.offset]?=some v:=by rw [S];simpa using hl
    cases q:P.underlying f.type with
    | none=>rw [q] at ht;cases ht
    | some d=>rw [q] at ht;cases d<;>first | (cases ht;done) | simp [part,isAgg,run_underlying q,h0]
   have B:∀{x y:IV} {Q M:List IV} {s:List Nat} {b Z:Bool} {v u:Value},xs=x::Q->ys=y::M->Yb P fs (k+1)=some s->zM s Q M=some Z->r=(b&&Z)->
     (match P.underlying f.type with | some (.int _) | some .string | some .bool=>true | _=>false)=true->vs[k]?=some v->us[k]?=some u->(Op.equalIn (D+2) f.type v u).run P w=.ok b w->(Op.eqFields (D+2) vs.toArray us.toArray (f::fs)).run P w=.ok r w:=by
    intro x y Q M s b Z v u e1 e2 e3 e4 e5 e6 e7 e8 e9
    subst e1 e2
    simp only [Op.eqFields,if_pos hn,Sem.run_bind,I e6 e7,I e6 e8,Result.andThen_ok,e9,Sem.run_ite,Sem.run_pure]
    cases b
    ·rw [e5];rfl
    ·rw [e5]
     exact Ym vs us w fs s (k+1) Q M Z e3 (fun i z O=>by
      obtain ⟨v,J,A⟩:=hx (i+1) z (by simpa using O)
      exact ⟨v,by rw [<-J];congr 1;omega,A⟩) (fun i z O=>by
      obtain ⟨v,J,A⟩:=hy (i+1) z (by simpa using O)
      exact ⟨v,by rw [<-J];congr 1;omega,A⟩) e4
   split at m
   ·rename_i kk q
    rw [oms] at m
    obtain ⟨s,m,rfl⟩:=m
    unfold zM at h
    split at h<;>first | (cases h;done) | skip
    ·rename_i j;cases j
    ·rename_i ae k1 a r1 k2 b r2 j
     cases j
     split at h
     ·rename_i ak
      subst ak
      rw [oms] at h
      obtain ⟨Z,J,rfl⟩:=h
      obtain ⟨v,A,T⟩:=hx 0 _ rfl
      obtain ⟨u,h4,h5⟩:=hy 0 _ rfl
      cases T;cases h5
      exact B rfl rfl m J rfl (by rw [q]) A h4 (by rw [run_equalIn_int w (D+1) _ _ _ _ _ q];rfl)
     ·cases h
    ·rename_i j;cases j
    ·rename_i j;cases j
   ·rename_i q
    rw [oms] at m
    obtain ⟨s,m,rfl⟩:=m
    unfold zM at h
    split at h<;>first | (cases h;done) | skip
    ·rename_i j;cases j
    ·rename_i j;cases j
    ·rename_i ae a r1 b r2 j
     cases j
     rw [oms] at h
     obtain ⟨Z,J,rfl⟩:=h
     obtain ⟨v,A,T⟩:=hx 0 _ rfl
     obtain ⟨u,h4,h5⟩:=hy 0 _ rfl
     cases T;cases h5
     exact B rfl rfl m J rfl (by rw [q]) A h4 (by rw [run_equalIn_string w (D+1) _ _ _ q,jO])
    ·rename_i j;cases j
   ·rename_i q
    rw [oms] at m
    obtain ⟨s,m,rfl⟩:=m
    unfold zM at h
    split at h<;>first | (cases h;done) | skip
    ·rename_i j;cases j
    ·rename_i j;cases j
    ·rename_i j;cases j
    ·rename_i ae a r1 b r2 j
     cases j
     rw [oms] at h
     obtain ⟨Z,J,rfl⟩:=h
     obtain ⟨v,A,T⟩:=hx 0 _ rfl
     obtain ⟨u,h4,h5⟩:=hy 0 _ rfl
     cases T;cases h5
     exact B rfl rfl m J rfl (by rw [q]) A h4 (by rw [run_equalIn_bool' w (D+1) _ _ _ q];cases a<;>cases b<;>rfl)
   ·rename_i gs q
    split at m
    ·rename_i aj
     rw [obs] at m
     obtain ⟨Y,ah,m⟩:=m
     split at m
     ·rename_i hsz
      rw [oms] at m
      obtain ⟨kb,ag,rfl⟩:=m
      obtain ⟨r1,r2,J,A,T,h4,h5⟩:=Yo Y kb xs ys r h
      have ai:P.fieldsOf f.type=gs:=by unfold Program.fieldsOf;rw [q]
      have af:(Op.equalIn (D+2) f.type (.agg (vs.toArray.extract k (k+Y.length))) (.agg (us.toArray.extract k (k+Y.length)))).run P w=.ok r1 w:=by
       rw [show D+2=(D+1)+1 from rfl,run_equalIn_struct w (D+1) f.type _ _ (by rw [ai];exact q) aj,V3,V3]
       refine vW (D:=D) (C:=C) (C':=C') _ _ w _ Y 0 _ _ r1 ah (fun i z hi=>?_) (fun i z hi=>?_) J
       ·have G:i<Y.length:=by have:=zl hi;simp at this;omega
        rw [List.getElem?_take_of_lt G] at hi
        obtain ⟨v,U,V⟩:=hx i z hi
        exact ⟨v,by rw [Nat.zero_add,List.getElem?_take_of_lt G,List.getElem?_drop];exact U,V⟩
       ·have G:i<Y.length:=by have:=zl hi;simp at this;omega
        rw [List.getElem?_take_of_lt G] at hi
        obtain ⟨v,U,V⟩:=hy i z hi
        exact ⟨v,by rw [Nat.zero_add,List.getElem?_take_of_lt G,List.getElem?_drop];exact U,V⟩
      have X:r1=true->(Op.eqFields (D+2) vs.toArray us.toArray fs).run P w=.ok r2 w:=fun _=>Ym vs us w fs kb (k+Y.length) _ _ r2 ag (fun i z O=>by
       rw [List.getElem?_drop] at O
       obtain ⟨v,U,V⟩:=hx _ z O
       exact ⟨v,by rw [<-U];congr 1;omega,V⟩) (fun i z O=>by
       rw [List.getElem?_drop] at O
       obtain ⟨v,U,V⟩:=hy _ z O
       exact ⟨v,by rw [<-U];congr 1;omega,V⟩) A
      rw [T]
      simp only [Op.eqFields,if_pos hn,Sem.run_bind,S,z8B q hsz,Result.andThen_ok,af,Sem.run_ite,Sem.run_pure]
      cases r1
      ·rfl
      ·exact X rfl
     ·cases m
    ·cases m
   ·cases m
  ·cases m
theorem z2G (Z:Sim C) (T:Zr C a e) {op:BinOp} {t ty:TypeId} {fs:Array Field} {x y:Operand} {B G:Opd} {neg:Bool} {O:List Nat} (ho:o.op=.binOp op t x y ty) (Q:op=if neg then .neq else .eql) (X:E.P.underlying t=some (.struct fs))
  (A:z2O E.P t=some O) (Y:opd x=some B) (hy:opd y=some G) (h:xex E (.eqA neg O) [e B,e G] g C.L K):zN E C a o K:=by
 have j:=T x B Y
 have m:=T y G hy
 subst Q
 unfold z2O at A
 split at A
 ·rename_i b
  simp only [xex] at h
  split at h
  ·rename_i as V u
   have h1:e B=.agg as:=by have:=congrArg List.head? u;simpa using this
   have h2:e G=.agg V:=by have:=congrArg (fun l=>l[1]?) u;simpa using this
   split at h
   ·rename_i r hr
    rw [h1] at j;rw [h2] at m
    generalize J:a.eval x=xv at j
    generalize S:a.eval y=yv at m
    cases j with
    | agg _ vs U hv=>
    cases m with
    | agg _ us q I=>
    have M:E.P.fieldsOf t=fs:=by unfold Program.fieldsOf;rw [X]
    have d:(Op.equalIn 10000 t (.agg vs.toArray) (.agg us.toArray)).run E.P C.w=.ok r C.w:=by
     rw [show (10000:Nat)=9999+1 from rfl,run_equalIn_struct C.w 9999 t _ _ (by rw [M];exact X) b.1]
     refine Ym (D:=9997) (C:=C) (C':=C) vs us C.w _ O 0 as V r A (fun i z hi=>?_) (fun i z hi=>?_) hr
     ·rw [Nat.zero_add]
      exact ⟨vs.getD i undef,by rw [List.getElem?_eq_getElem (by rw [<-U];exact zl hi)];simp [List.getD,show i<vs.length by rw [<-U];exact zl hi],hv i z hi⟩
     ·rw [Nat.zero_add]
      exact ⟨us.getD i undef,by rw [List.getElem?_eq_getElem (by rw [<-q];exact zl hi)];simp [List.getD,show i<us.length by rw [<-q];exact zl hi],I i z hi⟩
    refine zh (s:=do eqGuard (if neg then .neq else .eql) t x y (a.eval x) (a.eval y);binOp (if neg then .neq else .eql) t (a.eval x) (a.eval y)) (v:=.bool (if neg then !r else r)) (w':=C.w) (by unfold execOp;rw [ho]) ?_ (zZ (.bool _) h)
    rw [J,S,Sem.run_bind,run_eqGuard_agg C.w _ _ _ _ _ _ b.2]
    simp only [Result.andThen_ok]
    cases neg
    ·simp only [Bool.false_eq_true,if_false]
     rw [run_eql_struct,d];rfl
    ·simp only [if_true]
     rw [run_neq_struct,d];rfl
   ·exact h.elim
  ·exact h.elim
 ·cases A
theorem z0H {w:World} {b n:Nat} {c:Array Value} {ty:TypeId} {fr:Nat × Nat} (h:w.heap[b]?=some (.cells c ty fr)):∃fr',w.freeze ⟨b,0,none⟩ n=setW w b (.cells c ty fr'):=by
 unfold World.freeze
 split
 ·refine ⟨fr,?_⟩
  unfold setW
  have m:w.heap.setIfInBounds b (.cells c ty fr)=w.heap:=by
   apply Array.ext_getElem?
   intro j
   rw [Array.getElem?_setIfInBounds]
   split
   ·rename_i l;subst l;split
    ·exact h.symm
    ·rename_i d;rw [Array.getElem?_eq_none od] at h;cases h
   ·rfl
  rw [m]
 ·obtain ⟨lo,hi⟩:=fr
  refine ⟨if lo==hi then (0,0+n) else (min lo 0,max hi (0+n)),?_⟩
  unfold setW
  congr 1
  apply Array.ext_getElem?
  intro j
  rw [Array.getElem?_modify,Array.getElem?_setIfInBounds]
  split
  ·rename_i l;subst l
   have d:=(Array.getElem?_eq_some_iff.1 h).1
   rw [if_pos d,h];rfl
  ·rfl
theorem z4T {s:Nat} {c c':Array Value} {ty d:TypeId} {fr fr':Nat × Nat} {k:Blk} {r:IV} {v:Value} (wf:Wf E.g0 C) (A:Sim C) (hs:C.L[s]?=some k) (ha:k.alive=true) (hc:C.w.heap[(C.φ s).blk]?=some (.cells c ty fr)) (hsz:c'.size=c.size)
  (T:∀C':Ctx,VR C' r v) (h:K r (C.L.set s .dead)):Post E C K v (setW C.w (C.φ s).blk (.cells c' d fr')):=by
 have V:C.mine (C.φ s).blk:=⟨s,k,hs,ha,rfl⟩
 have I:=(Array.getElem?_eq_some_iff.1 hc).1
 have D:(setW C.w (C.φ s).blk (.cells c' d fr')).heap.size=C.w.heap.size:=by simp [setW]
 have u:∀b,b≠(C.φ s).blk->(setW C.w (C.φ s).blk (.cells c' d fr')).heap[b]?=C.w.heap[b]?:=fun b I=>zS I
 have M:=YX C s
 have m:=jy (s:=s) wf
 have ext:Ext C ⟨setW C.w (C.φ s).blk (.cells c' d fr'),C.φ,C.L.set s .dead,C.X⟩:=by
  refine ⟨by rw [D];exact Nat.le_refl _,fun b _ B=>u b (fun h=>B (h▸V)),M.sub,fun _ _=>rfl,M.bo,M.len,fun b Q O fr0 q=>?_,rfl,rfl,rfl,rfl⟩
  by_cases hbb:b=(C.φ s).blk
  ·subst hbb
   rw [hc] at q
   cases q
   exact ⟨c',d,fr',zo I,hsz⟩
  ·exact ⟨Q,O,fr0,by show (setW _ _ _).heap[b]?=_;rw [u b hbb];exact q,rfl⟩
 refine ⟨r,C.L.set s .dead,C.φ,h,⟨m.inj,m.lo,m.apart,fun b S=>by show b<(setW _ _ _).heap.size;rw [D];exact wf.exlo b S,by show E.g0<=(setW _ _ _).heap.size;rw [D];exact wf.g⟩,?_,ext,T _⟩
 intro t l j
 rw [List.getElem?_set] at j
 split at j
 ·split at j
  ·cases j;trivial
  ·cases j
 ·rename_i J
  have U:=A t l j
  by_cases hla:l.alive=true
  ·exact U.mono ext j (u _ (fun G=>J (wf.inj s t k l hs j ha hla G.symm)))
  ·cases l<;>first | trivial | (exfalso;exact hla rfl)
theorem z5X (wf:Wf E.g0 C) (A:Sim C) (he:Zr C a e) {c:Call} {x y:Operand} {S T:Opd} {I t2 el:TypeId} (ho:o.op=.call c) (ah:c.callee=.builtin .unsafeString) (G:c.args.toList=[x,y]) (ag:c.argTypes.toList=[I,t2])
  (U:E.P.underlying I=some (.pointer el)) (Y:E.P.cellsOf el=1) (hx:opd x=some S) (hy:opd y=some T) (h:xex E (.ustr el) [e S,e T] g C.L K):Good E C a o K:=by
 have m:=he x S hx
 have q:=he y T hy
 generalize X:a.eval x=xv at m
 generalize Z:a.eval y=yv at q
 have e1:c.args.map a.eval=#[xv,yv]:=by apply Array.ext';simp [G,X,Z]
 have e2:c.argTypes=#[I,t2]:=by apply Array.ext';simp [ag]
 have key:∀{u:Value} {w':World},(Builtin.unsafeString_ #[I,t2] o.type #[xv,yv]).run E.P C.w=.ok u w'->Post E C K u w'->Good E C a o K:=fun {u w'} O hp=>
  .inl ⟨u,w',by
   rw [ZQ ho ah,e1,e2]
   show (do pure (Next.value (<-Builtin.unsafeString_ #[I,t2] o.type #[xv,yv])):Sem Next).run E.P C.w=_
   rw [Sem.run_bind,O];rfl,hp⟩
 generalize e S=ex at *
 generalize e T=ey at *
 simp only [xex] at h
 split at h
 ·rename_i n B
  obtain ⟨rfl,rfl⟩:ex=.raw (.pointer none)/\ey=.int .i64 n:=by simpa using B
  obtain ⟨rfl,h⟩:=h
  cases m;cases q
  exact key (Lib.run_unsafeString_none _ _ _ _ _) (Zf wf A (.str []) h)
 ·rename_i s r off n B
  obtain ⟨rfl,rfl⟩:ex=.ptr s r off/\ey=.int .i64 n:=by simpa using B
  obtain ⟨rfl,rfl,h⟩:=h
  split at h
  ·rename_i aj sz rows hL
   obtain ⟨rfl,rfl,rfl,au,ai,h⟩:=h
   split at h
   ·rename_i bs Q
    obtain ⟨⟨hsz,c0,e0,fr,hc,_,V,d⟩,D,c1,ak,M⟩:=A s _ hL
    rw [hc] at M
    obtain ⟨rfl,rfl,rfl⟩:=by simpa using M
    cases m with
    | ptr _ _ _ hs=>
    cases q
    have l:=zu Q
    have ev:(Value.pointer (some ⟨(C.φ s).blk,(C.φ s).base+0*(C.φ s).sz+0,none⟩))=.pointer (some ⟨(C.φ s).blk,0,none⟩):=by rw [D];simp
    rw [ev] at key
    rw [D] at V
    have af:C.w.shape? (C.φ s).blk=some (e0,c0.size):=by simp [World.shape?,hc]
    have O:=Lib.run_unsafeString_row (P:=E.P) (w:=C.w) I t2 o.type e0 U Y (C.φ s).blk c0.size af bs (fun h0=>by subst h0;simp at l;omega) od od (fun j b hj=>by
     obtain ⟨ae,h5,h6⟩:=zq Q j b hj
     obtain ⟨_,h7⟩:=d j ae h5
     obtain ⟨u,h8,h9⟩:=h7 0 (.int .u8 b.toNat) (by rw [Ya h6];rfl)
     cases h9
     rw [D,Nat.zero_add,Nat.mul_one,Nat.add_zero] at h8
     have:(⟨(C.φ s).blk,0,none⟩:Addr).add j=⟨(C.φ s).blk,j,none⟩:=by unfold Addr.add;split<;>simp_all
     rw [this]
     simp only [World.cell?,hc]
     exact h8)
    rw [l] at O
    obtain ⟨fr',J⟩:=z0H (n:=rows.length) hc
    rw [J] at O
    exact key O (z4T wf A hL rfl hc rfl (fun _=>.str bs) h)
   ·exact h.elim
  ·exact h.elim
 ·exact h.elim
theorem za6 (c:Array Value) (k:Nat):seg c k []=c:=by
 apply Array.ext'
 simp [seg]
theorem z0R {g:Nat} (hg:Free C.L g) (wf:Wf E.g0 C) (M:Sim C) (he:Zr C a e) {c:Call} {s x:Operand} {s' x':Opd} {el:TypeId} {m:Nat} {z:List IV} (ho:o.op=.call c) (ig:c.callee=.builtin .append)
  (ak:c.args.toList=[s,x]) (h1:(c.argTypes[0]?).bind E.P.underlying=some (.slice el)) (h2:∃d,(c.argTypes[1]?).bind E.P.underlying=some d/\∀k,d≠.int k)
  (hs:opd s=some s') (hx:opd x=some x') (hn:zI E.P el=some 1) (hm:Ws E.P el=some m) (hz:zeroCells E.P el=some z) (ku:0<m) (gm:z.length=1)
  (h:YG el m (e s') (e x') g C.L K):Good E C a o K:=by
 obtain ⟨i,zv,hi,lu,mi,ny⟩:=zJ hz
 have I:i.size=1:=by unfold zI at hn;rw [hi] at hn;exact Option.some.inj hn
 have bz:i.bytes=m:=by unfold Ws at hm;rw [hi] at hm;exact Option.some.inj hm
 rw [obs] at h1
 obtain ⟨t1,gy,ag⟩:=h1
 obtain ⟨d,h2,hd⟩:=h2
 rw [obs] at h2
 obtain ⟨t2,dn,eu⟩:=h2
 have Z:∃d,E.P.underlying t2=some d/\∀k,d≠.int k:=⟨d,eu,hd⟩
 have T:=he s s' hs
 have lq:=he x x' hx
 unfold YG at h
 split at h
 ·exact h.elim
 ·rename_i rs mf
  obtain ⟨ai,h⟩:=h
  obtain ⟨l,ah,ae,D⟩:=Yz (E:=E) M lq mf (fun B O=>(ai B O).1)
  have gq:=ah.one (fun B O=>(ai B O).2)
  have aj:l.length=rs.length:=by rw [ah.1,Nat.mul_one]
  have S:∀{v:Value} {w':World},(Builtin.append_ #[t1,t2] o.type #[a.eval s,a.eval x]).run E.P C.w=.ok v w'->Post E C K v w'->Good E C a o K:=by
   intro v w' O hp
   refine .inl ⟨v,w',?_,hp⟩
   rw [ZQ ho ig]
   have e1:c.args.map a.eval=#[a.eval s,a.eval x]:=by
    apply Array.ext';simp [ak]
   have e2:(Builtin.append_ c.argTypes o.type #[a.eval s,a.eval x])=(Builtin.append_ #[t1,t2] o.type #[a.eval s,a.eval x]):=by
    unfold Builtin.append_
    rw [gy,dn]
    rfl
   rw [e1]
   show (do pure (Next.value (<-Builtin.append_ c.argTypes o.type #[a.eval s,a.eval x])):Sem Next).run E.P C.w=_
   rw [e2,Sem.run_bind,O]
   rfl
  have ed:∀{rows':List (List IV)} {olds:List Value},Y8 C olds 1 rows'->Y8 C (olds++l) 1 (rows'++rs):=by
   intro rows' olds af
   refine ⟨by simp [af.1,ah.1],fun i B Y=>?_⟩
   rcases Nat.lt_or_ge i rows'.length with h5 | h5
   ·rw [List.getElem?_append_left h5] at Y
    obtain ⟨h6,Q⟩:=af.2 i B Y
    refine ⟨h6,fun j y hj=>?_⟩
    obtain ⟨u,h8,h9⟩:=Q j y hj
    exact ⟨u,by rw [List.getElem?_append_left (zl h8)];exact h8,h9⟩
   ·rw [List.getElem?_append_right h5] at Y
    obtain ⟨h6,Q⟩:=ah.2 _ B Y
    refine ⟨h6,fun j y hj=>?_⟩
    obtain ⟨u,h8,h9⟩:=Q j y hj
    refine ⟨u,?_,h9⟩
    rw [List.getElem?_append_right (by rw [af.1];omega),<-h8]
    congr 1
    rw [af.1];omega
  have U:∀{base:Option Addr} {sCap:Nat} {t:Nat} {olds:List Value} {C1:Ctx},a.eval s=.slice base t sCap->Ext C C1->C1.X=C.X->C1.w=C.w.drew->Wf E.g0 C1->Sim C1->
    (Builtin.firstCells 1 t (.slice base t sCap)).run E.P C.w.drew=.ok olds.toArray C.w.drew->sCap<t+rs.length->(t+rs.length)*m<=70368744177664->
    ∀{rows':List (List IV)},Y8 C olds 1 rows'->rows'.length=t->Free C1.L g->K (.sl g 0 (t+rs.length) (t+rs.length)) (zy C1.L g (.tcells el 1 (rows'++rs)))->Good E C a o K:=by
   intro base sCap t olds C1 gz bg hX hw lh kz gu ax hb rows' af l7 iw hK
   obtain ⟨cap,⟨ik,dh⟩,O⟩:=run_append_grow' (P:=E.P) (t1:=t1) (t2:=t2) (ty:=o.type) (w:=C.w) ag Z hi lu (base:=base) (sLen:=t) (sCap:=sCap) ae (by rw [I];exact gu)
    (by rw [I];exact D _ rfl) ax (by rw [bz];exact ku) (by rw [bz];exact hb)
   rw [<-gz] at O
   refine S O (Post.of_ext bg hX ?_)
   have q:=Ji ((ed af).mono bg) (Builtin.zeroCells zv.cells (cap - (t+rs.length)))
   have hsz:((olds++l).toArray++Builtin.zeroCells zv.cells (cap - (t+rs.length))).size=cap:=by
    have e1:zv.cells.size=1:=by rw [<-mi,gm]
    rw [Array.size_append,size_zeroCells,e1]
    simp [af.1,ah.1,l7]
    omega
   have bn:=VP (E:=E) (C:=C1) (K:=K) (c:=(olds++l).toArray++Builtin.zeroCells zv.cells (cap - (t+rs.length))) (ty:=el) iw lh kz (WL _ _) q
    (vw (C:=C1) iw (e:=el) (k:=.tcells el 1 (rows'++rs)) (sz:=1) (Nat.le_refl _) ik (by rw [hsz];omega) dh) hK
   rw [hw] at bn
   exact bn
  split at h
  ·rename_i V
   rw [V] at T
   generalize hb:a.eval s=sv at T
   cases T
   by_cases O:rs=[]
   ·subst O
    have Q:l=[]:=List.eq_nil_of_length_eq_zero (by rw [aj];rfl)
    subst Q
    have A:=Zn (P:=E.P) (t1:=t1) (t2:=t2) (ty:=o.type) (w:=C.w) ag Z hi (base:=none) (cap:=0) ae (by rw [I];exact D _ rfl)
    rw [<-hb] at A
    exact S A (Zf wf M (by rw [hb];exact .nsl) (V▸h.1 rfl))
   ·obtain ⟨Q,h8⟩:=h.2 O
    have h9:0<rs.length:=List.length_pos_iff.2 O
    exact U (C1:=ZZ C) (olds:=[]) (rows':=[]) hb (zA C) rfl rfl (Zu wf) (Zc M) rfl od (by rw [Nat.zero_add];exact Q) ⟨by simp,fun i B hi=>by simp at hi⟩ rfl hg (by simpa [ZZ] using h8)
  ·rename_i V
   rw [V] at T
   generalize hb:a.eval s=sv at T
   cases T
   by_cases O:rs=[]
   ·subst O
    have Q:l=[]:=List.eq_nil_of_length_eq_zero (by rw [aj];rfl)
    subst Q
    have A:=Zn (P:=E.P) (t1:=t1) (t2:=t2) (ty:=o.type) (w:=C.w) ag Z hi (base:=none) (cap:=0) ae (by rw [I];exact D _ rfl)
    rw [<-hb] at A
    exact S A (Zf wf M (by rw [hb];exact .raw _ rfl) (V▸h.1 rfl))
   ·obtain ⟨Q,h8⟩:=h.2 O
    have h9:0<rs.length:=List.length_pos_iff.2 O
    exact U (C1:=ZZ C) (olds:=[]) (rows':=[]) hb (zA C) rfl rfl (Zu wf) (Zc M) rfl od (by rw [Nat.zero_add];exact Q) ⟨by simp,fun i B hi=>by simp at hi⟩ rfl hg (by simpa [ZZ] using h8)
  ·rename_i t off len cap V
   rw [V] at T
   generalize hb:a.eval s=sv at T
   obtain ⟨rfl,rfl,h⟩:=h
   cases T with
   | sl _ _ _ _ av cap' iy pq ng ha gp=>
   split at h
   ·rename_i nz pg rows hL
    obtain ⟨rfl,rfl,l9,h⟩:=h
    obtain ⟨⟨bf,c0,ty,fr0,G,bu,q⟩,az,c1,lw,kw⟩:=M t _ hL
    rw [G] at kw
    obtain ⟨rfl,rfl,rfl⟩:=by simpa using kw
    subst l9
    by_cases hcap0:cap'=0
    ·subst hcap0
     have mg:rows=[]:=List.eq_nil_of_length_eq_zero od
     subst mg
     by_cases O:rs=[]
     ·subst O
      have Q:l=[]:=List.eq_nil_of_length_eq_zero (by rw [aj];rfl)
      subst Q
      have A:=Zn (P:=E.P) (t1:=t1) (t2:=t2) (ty:=o.type) (w:=C.w) ag Z hi (base:=av) (cap:=0) ae (by rw [I];exact D _ rfl)
      have ay:a.eval s=.slice av 0 0:=hb
      rw [<-ay] at A
      exact S A (Zf wf M (r:=.sl t 0 0 0) (by rw [ay];exact .sl t 0 0 0 av 0 iy (Nat.le_refl _) (Nat.le_refl _) (.inl rfl) (by decide)) (V▸h.1 rfl))
     ·obtain ⟨Q,h8⟩:=h.2 O
      have h9:0<rs.length:=List.length_pos_iff.2 O
      refine U (C1:=WS (ZZ C) t) (olds:=[]) (rows':=[]) (t:=0) (sCap:=0) (base:=av) hb ((zA C).trans (YX _ t)) rfl rfl (jy (Zu wf)) (Vf (Zc M)) ?_ od (by simpa using Q) ⟨by simp,fun i B hi=>by simp at hi⟩ rfl (Yp hg hL rfl) ?_
      ·cases av with
       | none=>rfl
       | some b=>show (loadCells b (0*_)).run E.P _=_;rw [Nat.zero_mul];rfl
      ·simpa [WS,ZZ] using h8
    ·obtain ⟨rfl,c1,e1,lw,cu,bi⟩:=ha.resolve_left hcap0
     rw [G] at cu
     obtain ⟨rfl,rfl,rfl⟩:=by simpa using cu
     rw [bf,az] at bi
     rw [az] at q
     have ay:a.eval s=.slice (some ⟨(C.φ t).blk,0,none⟩) rows.length cap':=by rw [hb,bf,az]
     clear hb
     by_cases ax:rows.length+rs.length<=cap'
     ·have J:0+rows.length*i.size+l.length<=c0.size:=by rw [I,aj];omega
      have A:=run_append_room' (P:=E.P) (t1:=t1) (t2:=t2) (ty:=o.type) (w:=C.w) ag Z hi (b:=(C.φ t).blk) (k:=0) (sLen:=rows.length) (sCap:=cap') ae
       (by rw [I];exact D _ rfl) ax G bu J gq
      rw [<-ay] at A
      by_cases O:rs=[]
      ·subst O
       have Q:l=[]:=List.eq_nil_of_length_eq_zero (by rw [aj];rfl)
       subst Q
       rw [za6] at A
       obtain ⟨_,lm⟩:∃fr,setW C.w (C.φ t).blk (.cells c0 ty fr0)=C.w:=⟨fr0,by
        unfold setW
        have e1:C.w.heap.setIfInBounds (C.φ t).blk (.cells c0 ty fr0)=C.w.heap:=by
         apply Array.ext_getElem?
         intro j
         rw [Array.getElem?_setIfInBounds]
         split
         ·rename_i hj;subst hj;rw [if_pos (Array.getElem?_eq_some_iff.1 G).1];exact G.symm
         ·rfl
        rw [e1]⟩
       rw [lm] at A
       refine S A (Zf wf M (r:=.sl t 0 rows.length rows.length) ?_ (V▸h.1 rfl))
       refine .sl t 0 _ _ _ cap' iy (Nat.le_refl _) ng (.inr ⟨by simp [bf,az],c0,ty,fr0,G,by rw [bf,az];exact bi⟩) gp
      ·obtain ⟨Q,hK⟩:=h.2 O
       have di:0+(rows.length+rs.length)*1<=c0.size:=by omega
       have dw:=z0s (base:=0) (sz:=1) q ah di
       simp only [Nat.zero_add,Nat.mul_one] at dw
       rw [I,Nat.zero_add,Nat.mul_one] at J A
       refine S A ⟨.sl g 0 (rows.length+rs.length) (rows.length+rs.length),zy (C.L.set t .dead) g (Blk.tcells ty 1 (rows++rs)),moveφ C t g 0 1,hK,
        z4R hg hL rfl G (zK J) wf,z3d hg hL rfl G (zK J) wf M ?_,WP hg hL rfl G (zK J),?_⟩
       ·have au:=dw.mono (WP (base:=0) (sz:=1) (k:=.tcells ty 1 (rows++rs)) hg hL rfl G (zK J))
        have hh:(moveC C t g 0 1 (.cells (seg c0 rows.length l) ty fr0) (.tcells ty 1 (rows++rs))).w.heap[(C.φ t).blk]?=some (.cells (seg c0 rows.length l) ty fr0):=zo (Array.getElem?_eq_some_iff.1 G).1
        refine ⟨⟨by simp [moveC,moveφ],seg c0 rows.length l,ty,fr0,?_,by rw [zK J];exact bu,?_,?_⟩,by simp [moveC,moveφ],seg c0 rows.length l,fr0,?_⟩
        ·simp only [moveC,moveφ,if_true];exact hh
        ·simpa [moveC,moveφ] using au.1
        ·intro i B Y
         refine ⟨(au.2 i B Y).1,fun j y hj=>?_⟩
         obtain ⟨u,Q,h8⟩:=(au.2 i B Y).2 j y hj
         exact ⟨u,by simpa [moveC,moveφ] using Q,h8⟩
        ·simp only [moveC,moveφ,if_true];exact hh
       ·refine .sl g 0 _ _ _ cap' ⟨_,YE (Yp hg hL rfl),rfl⟩ (Nat.le_refl _) ax (.inr ⟨by simp [moveφ],seg c0 rows.length l,ty,fr0,?_,?_⟩) gp
        ·simp only [moveφ,if_true];exact zo (Array.getElem?_eq_some_iff.1 G).1
        ·rw [zK J]
         simp only [moveφ,if_true]
         omega
     ·have O:rs≠[]:=fun h0=>by subst h0;simp at ax;omega
      obtain ⟨Q,hK⟩:=h.2 O
      refine U (C1:=WS (ZZ C) t) (t:=rows.length) (olds:=c0.toList.take rows.length) ay ((zA C).trans (YX _ t)) rfl rfl (jy (Zu wf)) (Vf (Zc M)) ?_ od Q (rows':=rows) ?_ rfl (Yp hg hL rfl) (by simpa [WS,ZZ] using hK)
      ·have ni:=ZJ (P:=E.P) (w:=C.w.drew) (sz:=1) (n:=rows.length) (b:=(C.φ t).blk) (k:=0) (f:=fun j=>c0.getD j undef) (fun j hj=>by
        have dm:j<c0.size:=by have:=q.1;omega
        have:C.w.drew.heap=C.w.heap:=rfl
        simp [World.cell?,this,G,dm]) rows.length cap'
       rw [ni]
       congr 1
       apply Array.ext'
       apply List.ext_getElem?
       intro j
       have iq:=q.1
       rcases Nat.lt_or_ge j rows.length with hj | hj
       ·have dm:j<c0.size:=by omega
        simp [hj,dm]
       ·simp [List.getElem?_take,Nat.not_lt.2 hj]
      ·have iq:=q.1
       refine ⟨by simp;omega,fun i B hi=>?_⟩
       obtain ⟨h5,h6⟩:=q.2 i B hi
       refine ⟨h5,fun j y hj=>?_⟩
       obtain ⟨u,h8,h9⟩:=h6 j y hj
       have mr:j=0:=by have:=zl hj;omega
       subst mr
       refine ⟨u,?_,h9⟩
       have Y:=zl hi
       rw [List.getElem?_take,if_pos od]
       simpa using h8
   ·exact wE hg wf M he ho ig ak (by rw [obs];exact ⟨t1,gy,ag⟩) ⟨d,by rw [obs];exact ⟨t2,dn,eu⟩,hd⟩ hs hx hn hm hz ku (Nat.le_refl 1) gm h
   ·exact h.elim
  ·exact h.elim
def VM (n:Nat) (fr:Nat × Nat):Nat × Nat:=if fr.1==fr.2 then (n,n+1) else (min fr.1 n,max fr.2 (n+1))
theorem z6O {n:Nat} {fr:Nat × Nat} (h:z01 true n fr):z01 true n (VM n fr):=by
 unfold VM
 split
 ·exact .inr ⟨rfl,Nat.le_refl _⟩
 ·rename_i b
  rcases h with rfl | ⟨_,h⟩
  ·exact absurd rfl b
  ·exact .inr ⟨rfl,by simp only;omega⟩
theorem z7V {P:Program} {w:World} {b n:Nat} {c:Array Value} {d:TypeId} {fr:Nat × Nat} (h:w.heap[b]?=some (.cells c d fr)) (off:Nat):(markStringish ⟨b,off,none⟩).run P w=.ok () (setW w b (.cells c d (VM c.size fr))):=by
 have m:w.shape? b=some (d,c.size):=by unfold World.shape?;rw [h]
 have l:w.freeze ⟨b,c.size,none⟩ 1=setW w b (.cells c d (VM c.size fr)):=by
  unfold World.freeze setW
  rw [if_neg (by decide)]
  congr 1
  apply Array.ext_getElem?
  intro j
  rw [Array.getElem?_modify,Array.getElem?_setIfInBounds]
  by_cases hj:b=j
  ·subst hj
   have q:=(Array.getElem?_eq_some_iff.1 h).1
   rw [if_pos rfl,if_pos rfl,if_pos q,h]
   obtain ⟨lo,hi⟩:=fr
   simp only [Option.map_some,VM]
  ·rw [if_neg hj,if_neg hj]
 simp [markStringish,m]
 exact l
theorem zgZ {s:Nat} {k:Blk} {c:Array Value} {j:TypeId} {fr fr':Nat × Nat} (hs:C.L[s]?=some k) (ha:k.alive=true) (hc:C.w.heap[(C.φ s).blk]?=some (.cells c j fr)) :
  Ext C ⟨setW C.w (C.φ s).blk (.cells c j fr'),C.φ,C.L,C.X⟩ where
 size:=by simp [setW]
 frame:=fun b _ m=>zS (fun h=>m ⟨s,k,hs,ha,h.symm⟩)
 sub:=fun b h=>.inl h
 slot:=fun _ _=>rfl
 bo:=fun t q=>q
 len:=Nat.le_refl _
 cap:=fun b d l fr0 h=>by
  by_cases hb:b=(C.φ s).blk
  ·subst hb
   rw [hc] at h
   obtain ⟨rfl,rfl,rfl⟩:=by simpa using h
   exact ⟨c,j,fr',zo (Array.getElem?_eq_some_iff.1 hc).1,rfl⟩
  ·exact ⟨d,l,fr0,(zS hb).trans h,rfl⟩
 ex:=rfl
 os:=rfl
 tape:=rfl
 output:=rfl
theorem z4s (wf:Wf E.g0 C) (B:Sim C) (he:Zr C a e) {s el:TypeId} {x:Operand} {Z:Opd} (ho:o.op=.convert s s x) (hs:E.P.underlying s=some (.slice el)) (O:E.P.underlying el=some (.int .u8))
  (hx:opd x=some Z) {t off len cap:Nat} (T:e Z=.sl t off len cap) (h:zaK t off len cap C.L K):Good E C a o K:=by
 have J:=he x Z hx
 rw [T] at J
 obtain ⟨ah,h⟩:=h
 generalize Q:a.eval x=xv at J
 have V:=J
 cases J with
 | sl _ _ _ _ av cap' hb A hc ha=>
 obtain ⟨rfl,c,M,fr,hh,af⟩:=ha.resolve_left od
 have key:∀k,C.L[t]?=some k->k.alive=true->(∀(fr':Nat × Nat),z01 true c.size fr'->Zp ⟨setW C.w (C.φ t).blk (.cells c M fr'),C.φ,C.L,C.X⟩ t k)->z01 true c.size fr->K (.sl t off len cap) C.L->Good E C a o K:=by
  intro k I q S r hK
  have d:=zgZ (C:=C) (fr':=VM c.size fr) I q hh
  refine zT (s:=convert s s (a.eval x)) (v:=.slice (some ⟨(C.φ t).blk,(C.φ t).base+off*(C.φ t).sz,none⟩) len cap') (w':=setW C.w (C.φ t).blk (.cells c M (VM c.size fr))) (by unfold execOp;rw [ho]) ?_ ?_
  ·rw [Q]
   have hm:=z7V (P:=E.P) (n:=0) hh ((C.φ t).base+off*(C.φ t).sz)
   simp only [convert,run_underlying hs,run_underlying O,Sem.run_bind,Result.andThen,beq_self_eq_true,hm]
   rfl
  ·refine ⟨.sl t off len cap,C.L,C.φ,hK,?_,?_,d,V.mono d⟩
   ·exact { inj:=wf.inj,lo:=wf.lo,apart:=wf.apart,exlo:=fun b hx=>by have:=wf.exlo b hx;simpa [setW] using this,g:=by have:=wf.g;simpa [setW] using this }
   ·intro u l A
    by_cases hut:u=t
    ·subst hut
     rw [I] at A;cases A
     exact S _ (z6O r)
    ·by_cases hla:l.alive=true
     ·exact (B u l A).mono d A (zS fun hq=>hut (wf.inj u t l k A I hla q hq))
     ·cases l<;>first | trivial | (exfalso;exact hla rfl)
 have cells:∀sz rows,Z9 true C t sz rows->z01 true c.size fr/\∀fr':Nat × Nat,z01 true c.size fr'->∀k,C.L[t]?=some k->k.alive=true->Z9 true ⟨setW C.w (C.φ t).blk (.cells c M fr'),C.φ,C.L,C.X⟩ t sz rows:=by
  rintro sz rows ⟨h1,c',e',fr0,h2,r,h3,h4⟩
  rw [hh] at h2
  obtain ⟨rfl,rfl,rfl⟩:=by simpa using h2
  refine ⟨r,fun fr' m k I q=>⟨h1,c,M,fr',zo (Array.getElem?_eq_some_iff.1 hh).1,m,h3,fun i G hi=>⟨(h4 i G hi).1,fun j y hj=>?_⟩⟩⟩
  obtain ⟨v,h7,h8⟩:=(h4 i G hi).2 j y hj
  exact ⟨v,h7,h8.mono (zgZ (C:=C) I q hh)⟩
 split at h
 ·rename_i ty sz rows U
  obtain ⟨Y,ae,c1,ag,D⟩:=B t _ U
  obtain ⟨g1,g2⟩:=cells sz rows Y
  rw [hh] at D
  obtain ⟨rfl,rfl,rfl⟩:=by simpa using D
  exact key _ U rfl (fun fr' m=>⟨g2 fr' m _ U rfl,ae,c,fr',zo (Array.getElem?_eq_some_iff.1 hh).1⟩) g1 h
 ·exact h.elim
theorem z4j {g:Nat} (wf:Wf E.g0 C) (l:Sim C) (q:Zr C a e) {s m:TypeId} {x:Operand} {j:Opd} (r:o.op=.convert s s x) (hs:E.P.underlying s=some (.slice m)) (d:E.P.underlying m=some (.int .u8))
  (u:opd x=some j) (h:xex E .slId [e j] g C.L K):Good E C a o K:=by
 simp only [xex] at h
 split at h
 ·rename_i t off len cap b
  obtain b:e j=.sl t off len cap:=by simpa using b
  exact z4s wf l q r hs d u b h
 ·exact h.elim
theorem z4w {st:Bool} {k:IV} {v:Value} (h:VR C k v) (b:isKey st k=true):jU k=some v:=by
 cases h<;>first | rfl | (simp [isKey] at b)
def z0D (d:TypeDesc) (st:Bool):Prop:=(d=.string/\st=true)\/((∃k,d=.int k)/\st=false)
theorem Wy {P:Program} {t:TypeId} {st:Bool} (h:z6Q P t=some st):∃d,P.underlying t=some d/\z0D d st:=by
 unfold z6Q at h
 split at h
 ·rename_i k b;cases h;exact ⟨_,b,.inr ⟨⟨k,rfl⟩,rfl⟩⟩
 ·rename_i b;cases h;exact ⟨_,b,.inl ⟨rfl,rfl⟩⟩
 ·cases h
theorem zbQ {a b:List UInt8}:((⟨a.toArray⟩:ByteArray)==⟨b.toArray⟩)=decide (a=b):=by
 show (a.toArray==b.toArray)=_
 by_cases h:a=b
 ·subst h;simp
 ·simp [h]
theorem Je {d:TypeDesc} {st:Bool} (hd:z0D d st) {x y:IV} {u v:Value} (m:isKey st x=true) (l:jU x=some u) (j:jU y=some v) {b:Bool} (h:kEq x y=some b):Instr.sameNow d u v=some b:=by
 cases x<;>simp only [jU,sij] at l<;>first | (cases l;done) | skip
 ·subst l
  cases y<;>simp only [jU,sij] at j<;>first | (cases j;done) | skip
  ·subst j
   rcases hd with ⟨rfl,rfl⟩ | ⟨⟨k,rfl⟩,rfl⟩
   ·simp [isKey] at m
   ·simp only [kEq] at h
    simp only [Instr.sameNow]
    split at h
    ·rename_i q;rw [if_pos q];cases h;rfl
    ·cases h
  ·simp [kEq] at h
 ·subst l
  cases y<;>simp only [jU,sij] at j<;>first | (cases j;done) | skip
  ·simp [kEq] at h
  ·subst j
   rcases hd with ⟨rfl,rfl⟩ | ⟨⟨k,rfl⟩,rfl⟩
   ·simp only [kEq,sij] at h
    subst h
    simp only [Instr.sameNow,sij]
    exact zbQ
   ·simp [isKey] at m
theorem J5 {d:TypeDesc} {st:Bool} (hd:z0D d st) {x:IV} {u:Value} (w:isKey st x=true) (A:jU x=some u):∀(l:List (IV × IV × Nat)) (b:List MapEntry) (i:Nat) (r:Option Nat),b.length=l.length->
  (∀(j:Nat) (e:IV × IV × Nat),l[j]?=some e->∃m,b[j]?=some m/\jU e.1=some m.key)->Yc x l i=some r->
  match r with
  | none=>Instr.findNow d u b i=some none
  | some n=>∃j m e,n=i+j/\b[j]?=some m/\Instr.findNow d u b i=some (some (n,m.val))/\l[j]?=some e/\kEq x e.1=some true
 | [],[],i,r,_,_,h=>by simp only [Yc,sij] at h;subst h;rfl
 | [],_::_,i,r,hl,_,h=>by simp at hl
 | e::l,[],i,r,hl,_,h=>by simp at hl
 | e::l,m::b,i,r,hl,hk,h=>by
  obtain ⟨B,Q,D⟩:=hk 0 e rfl
  obtain rfl:m=B:=by simpa using Q
  simp only [Yc] at h
  split at h
  ·rename_i s
   cases h
   have:=Je hd w A D s
   exact ⟨0,m,e,rfl,rfl,by simp only [Instr.findNow,this],rfl,s⟩
  ·rename_i s
   have hs:=Je hd w A D s
   have q:=J5 hd w A l b (i+1) r (by simpa using hl) (fun j e G=>by simpa using hk (j+1) e (by simpa using G)) h
   cases r with
   | none=>simp only at q ⊢;simp only [Instr.findNow,hs];exact q
   | some n=>
    simp only at q ⊢
    obtain ⟨j,B,M,T,I,S,J,O⟩:=q
    exact ⟨j+1,B,M,od,by simpa using I,by simp only [Instr.findNow,hs];exact S,by simpa using J,O⟩
  ·cases h
theorem run_checkKey {P:Program} {t:TypeId} {d:TypeDesc} {st:Bool} (h:P.underlying t=some d) (hd:z0D d st) (b:Bool) (v:Value) (w:World):(Instr.checkKey b 10000 t v).run P w=.ok () w:=by
 unfold Instr.checkKey
 rw [Sem.run_bind,zC h]
 rcases hd with ⟨rfl,rfl⟩ | ⟨⟨k,rfl⟩,rfl⟩<;>rfl
theorem run_findKey {P:Program} {t:TypeId} {d:TypeDesc} (j:P.underlying t=some d) {u:Value} {b:List MapEntry} {r:Option (Nat × Value)} (h:Instr.findNow d u b 0=some r) (w:World):(Instr.findKey t u b).run P w=.ok r w:=by
 unfold Instr.findKey
 rw [Sem.run_bind,zC j]
 simp only [Result.andThen_ok,h,Sem.run_pure]
theorem vO {P:Program} {x y:IV} {u v:Value} (b:jU x=some u) (j:jU y=some v) (h:kEq x y=some true) (w:World):u=v/\(Instr.keyThatStays v u).run P w=.ok u w:=by
 have d:u=v:=by
  cases x<;>simp only [jU,sij] at b<;>first | (cases b;done) | skip
  all_goals
   cases y<;>simp only [jU,sij] at j<;>first | (cases j;done) | skip
  ·simp only [kEq] at h
   split at h
   ·rename_i m;subst m;simp at h;subst h;rw [<-b,<-j]
   ·cases h
  ·simp [kEq] at h
  ·simp [kEq] at h
  ·simp [kEq] at h;subst h;rw [<-b,<-j]
 refine ⟨d,?_⟩
 subst d
 have l:Instr.sameBits 10000 u u=true:=by
  cases x<;>simp only [jU,sij] at b<;>first | (cases b;done) | skip
  ·subst b;simp [Instr.sameBits]
  ·subst b;simp [Instr.sameBits,zbQ]
 unfold Instr.keyThatStays
 rw [l];rfl
theorem z0X {P:Program} {C:Ctx} {t:TypeId} {z:IV} (h:z3C P t=some z):∃v,(zeroValue t).run P C.w=.ok v C.w/\VR C z v:=by
 unfold z3C at h
 rw [obs] at h
 obtain ⟨i,hi,h⟩:=h
 rw [obs] at h
 obtain ⟨v,b,h⟩:=h
 split at h
 ·cases h
 ·exact ⟨_,Z5 hi b _,JM h⟩
theorem wP (q:Sim C) {s c:Nat} {h:List (IV × IV × Nat)} (U:C.L[s]?=some (.map h c)) {d:TypeDesc} {st:Bool} (hd:z0D d st) {x:IV} {u:Value} (B:isKey st x=true) (O:VR C x u) {r:Option Nat} (S:Yc x h 0=some r) :
  ∃b:Array MapEntry,C.w.heap[(C.φ s).blk]?=some (.map b c)/\b.size=h.length/\
   (∀(i:Nat) (e:IV × IV × Nat),h[i]?=some e->∃m,b[i]?=some m/\jU e.1=some m.key/\VR C e.2.1 m.val/\m.born=e.2.2)/\
   match r with
   | none=>Instr.findNow d u b.toList 0=some none
   | some n=>∃m e,b[n]?=some m/\Instr.findNow d u b.toList 0=some (some (n,m.val))/\h[n]?=some e/\kEq x e.1=some true:=by
 obtain ⟨b,T,D,G⟩:=q s _ U
 refine ⟨b,T,D,G,?_⟩
 have:=J5 hd B (z4w O B) h b.toList 0 r (by simpa using D) (fun j e I=>by
  obtain ⟨m,l,A,_⟩:=G j e I
  exact ⟨m,by simpa using l,A⟩) S
 cases r with
 | none=>exact this
 | some n=>
  obtain ⟨j,m,e,l,A,J,Q,M⟩:=this
  rw [Nat.zero_add] at l
  subst l
  exact ⟨m,e,by simpa using A,J,Q,M⟩
theorem z3U {s:Nat} {v:Value} (h:VR C (.mp s) v):v=.map (some (C.φ s).blk)/\C.born s:=by
 cases h with
 | mp _ hs=>exact ⟨rfl,hs⟩
theorem Zb {b:Array MapEntry} {c:Nat}:∀x y z,Obj.map b c≠.cells x y z:=fun _ _ _ h=>by cases h
theorem z4m (wf:Wf E.g0 C) (U:Sim C) (Z:Zr C a e) {t kt el:TypeId} {x i:Operand} {S Q:Opd} {st ok:Bool} {zero:IV} (ho:o.op=.lookup t x i ok) (ht:E.P.underlying t=some (.map kt el)) (Y:z6Q E.P kt=some st)
  (hz:z3C E.P el=some zero) (hx:opd x=some S) (hi:opd i=some Q) (h:xex E (.mlook st zero ok) [e S,e Q] g C.L K):zN E C a o K:=by
 obtain ⟨d,hd,A⟩:=Wy Y
 have l:=Z x S hx
 have M:=Z i Q hi
 generalize V:a.eval x=xv at l
 generalize T:a.eval i=iv at M
 generalize e S=ex at *
 generalize e Q=ei at *
 have u:=z0X (C:=C) hz
 obtain ⟨zv,I,G⟩:=u
 have O:∀{v:Value} {r:IV} {b:Bool},VR C r v->VR C (Yy ok r b) (if ok then .tuple #[v,.bool b] else v):=fun {v r b} B=>by
  cases ok
  ·exact B
  ·exact .tup [r,.bool b] [v,.bool b] rfl (fun i x hi=>by
    match i,hi with
    | 0,hi=>simp at hi;subst hi;exact B
    | 1,hi=>simp at hi;subst hi;exact .bool b)
 have key:∀{v:Value} {r:IV} {b:Bool},(Instr.lookup t xv iv ok).run E.P C.w=.ok (if ok then .tuple #[v,.bool b] else v) C.w->VR C r v->K (Yy ok r b) C.L->zN E C a o K:=fun {v r b} j B Y=>
  zh (s:=Instr.lookup t (a.eval x) (a.eval i) ok) (by unfold execOp;rw [ho]) (by rw [V,T];exact j) (zZ (O B) Y)
 simp only [xex] at h
 split at h
 ·rename_i k D
  obtain ⟨rfl,rfl⟩:ex=.raw (.map none)/\ei=k:=by simpa using D
  cases l
  refine key (b:=false) ?_ G h.2
  unfold Instr.lookup
  rw [Sem.run_bind,zC ht]
  simp only [Result.andThen_ok]
  rw [Sem.run_bind,Sem.run_pure]
  simp only [Result.andThen_ok]
  rw [Sem.run_bind,run_checkKey hd A]
  simp only [Result.andThen_ok]
  rw [Sem.run_bind,run_findKey (r:=none) hd rfl]
  simp only [Result.andThen_ok]
  rw [Sem.run_bind,I]
  simp only [Result.andThen_ok,Sem.run_pure,Sem.run_bind]
 ·rename_i m k ae D
  obtain ⟨rfl,rfl⟩:ex=m/\ei=k:=by simpa using D
  unfold V4 Y9 at h
  split at h
  ·rename_i s
   obtain ⟨J,h⟩:=h
   split at h
   ·rename_i es c hL
    split at h
    ·rename_i r hr
     obtain ⟨rfl,hs⟩:=z3U l
     obtain ⟨ms,h1,h2,h3,h4⟩:=wP U hL A J M hr
     have j:∀{q:Option (Nat × Value)} {v:Value} {b:Bool},Instr.findNow d iv ms.toList 0=some q->(match q with | some (_,v')=>v=v'/\b=true | none=>v=zv/\b=false)->
       (Instr.lookup t (.map (some (C.φ s).blk)) iv ok).run E.P C.w=.ok (if ok then .tuple #[v,.bool b] else v) C.w:=fun {q v b} hq B=>by
      unfold Instr.lookup
      rw [Sem.run_bind,zC ht]
      simp only [Result.andThen_ok]
      rw [Sem.run_bind,Z7 h1 Zb]
      simp only [Result.andThen_ok]
      rw [Sem.run_bind,Sem.run_pure]
      simp only [Result.andThen_ok]
      rw [Sem.run_bind,run_checkKey hd A]
      simp only [Result.andThen_ok]
      rw [Sem.run_bind,run_findKey hd hq]
      simp only [Result.andThen_ok]
      cases q with
      | none=>
       obtain ⟨rfl,rfl⟩:=B
       simp only
       rw [Sem.run_bind,I]
       simp only [Result.andThen_ok,Sem.run_pure,Sem.run_bind]
      | some q=>
       obtain ⟨n,v'⟩:=q
       obtain ⟨rfl,rfl⟩:=B
       simp only [Result.andThen_ok,Sem.run_pure,Sem.run_bind]
     cases r with
     | none=>exact key (j h4 ⟨rfl,rfl⟩) G h
     | some n=>
      obtain ⟨m,e0,h5,h6,h7,h8⟩:=h4
      obtain ⟨m',h9,_,X,_⟩:=h3 n e0 h7
      obtain rfl:m=m':=by rw [h5] at h9;exact Option.some.inj h9
      have hg:es.getD n default=e0:=by rw [List.getD_eq_getElem?_getD,h7];rfl
      simp only [hg] at h
      exact key (j h6 ⟨rfl,rfl⟩) X h
    ·exact h.elim
   ·exact h.elim
  ·exact h.elim
 ·exact h.elim
theorem Yh (wf:Wf E.g0 C) (l:Sim C) {s c c':Nat} {O d:List (IV × IV × Nat)} {A b:Array MapEntry} {r:IV} {v:Value} (q:C.L[s]?=some (.map O c)) (hh:C.w.heap[(C.φ s).blk]?=some (.map A c)) (hsz:b.size=d.length)
  (M:∀(i:Nat) (e:IV × IV × Nat),d[i]?=some e->∃m,b[i]?=some m/\jU e.1=some m.key/\VR C e.2.1 m.val/\m.born=e.2.2) (I:VR C r v) (h:K r (C.L.set s (.map d c'))) :
  Post E C K v (setW C.w (C.φ s).blk (.map b c')):=by
 have j:Ext C (Vb C s (.map b c') (.map d c')):=YY q rfl hh Zb
 refine ⟨r,C.L.set s (.map d c'),C.φ,h,jG (o:=.map b c') wf q rfl,Wv wf l q rfl hh Zb ?_,j,I.mono j⟩
 refine ⟨b,zo (Array.getElem?_eq_some_iff.1 hh).1,hsz,fun i e u=>?_⟩
 obtain ⟨m,J,D,G,B⟩:=M i e u
 exact ⟨m,J,D,G.mono j,B⟩
theorem z5F:VR C .und undef:=.und
theorem map_set {C:Ctx} {q:List (IV × IV × Nat)} {d:Array MapEntry} {n:Nat} {m:MapEntry} {h:IV × IV × Nat} {x v:IV} {u w:Value} (r:∀(i:Nat) (e:IV × IV × Nat),q[i]?=some e->∃m,d[i]?=some m/\jU e.1=some m.key/\VR C e.2.1 m.val/\m.born=e.2.2)
  (A:d[n]?=some m) (B:q[n]?=some h) (I:jU x=some u) (M:VR C v w) :
  ∀(i:Nat) (e:IV × IV × Nat),(q.set n (x,v,h.2.2))[i]?=some e->∃b,(d.modify n fun e=>{ e with key:=u,val:=w })[i]?=some b/\jU e.1=some b.key/\VR C e.2.1 b.val/\b.born=e.2.2:=by
 intro i e hi
 obtain ⟨O,s,U,T,S⟩:=r n h B
 obtain rfl:m=O:=by rw [A] at s;exact Option.some.inj s
 rcases zL hi with ⟨j,l⟩ | ⟨rfl,rfl,_⟩
 ·obtain ⟨b,D,J,G,Q⟩:=r i e l
  exact ⟨b,by rw [Array.getElem?_modify,if_neg (Ne.symm j)];exact D,J,G,Q⟩
 ·exact ⟨{ m with key:=u,val:=w },by rw [Array.getElem?_modify,if_pos rfl,A];rfl,I,M,S⟩
theorem z2z {C:Ctx} {j:List (IV × IV × Nat)} {d:Array MapEntry} {c:Nat} {x v:IV} {u w:Value} (A:d.size=j.length) (D:∀(i:Nat) (e:IV × IV × Nat),j[i]?=some e->∃m,d[i]?=some m/\jU e.1=some m.key/\VR C e.2.1 m.val/\m.born=e.2.2)
  (s:jU x=some u) (G:VR C v w) :
  ∀(i:Nat) (e:IV × IV × Nat),(j++[(x,v,c)])[i]?=some e->∃b,(d.push { key:=u,val:=w,born:=c })[i]?=some b/\jU e.1=some b.key/\VR C e.2.1 b.val/\b.born=e.2.2:=by
 intro i e hi
 rcases Yu hi with ⟨r,h⟩ | ⟨rfl,rfl⟩
 ·obtain ⟨b,l,B,q,I⟩:=D i e h
  exact ⟨b,by rw [Array.getElem?_push,if_neg od];exact l,B,q,I⟩
 ·exact ⟨_,by rw [Array.getElem?_push,if_pos A.symm],s,G,rfl⟩
theorem z0q (wf:Wf E.g0 C) (j:Sim C) (S:Zr C a e) {t kt el:TypeId} {m k v:Operand} {J Q O:Opd} {st:Bool} (M:o.op=.mapUpdate t m k v\/o.op=.insert t m k v) (ht:E.P.underlying t=some (.map kt el)) (hk:z6Q E.P kt=some st)
  (hm:opd m=some J) (Z:opd k=some Q) (T:opd v=some O) (h:xex E (.mset st) [e J,e Q,e O] g C.L K):Good E C a o K:=by
 obtain ⟨d,hd,l⟩:=Wy hk
 have G:=S m J hm
 have A:=S k Q Z
 have B:=S v O T
 generalize U:a.eval m=mv at G
 generalize ae:a.eval k=kv at A
 generalize af:a.eval v=vv at B
 generalize e J=em at *
 generalize e Q=ek at *
 generalize e O=ev at *
 have key:∀{w':World},(Instr.mapUpdate t mv kv vv).run E.P C.w=.ok () w'->Post E C K undef w'->Good E C a o K:=fun {w'} I hp=>by
  refine jB (s:=Instr.mapUpdate t (a.eval m) (a.eval k) (a.eval v)) (by rcases M with M | M<;>(unfold execOp;rw [M])) (by rw [U,ae,af];exact I) hp
 simp only [xex,z3H] at h
 unfold Y9 at h
 split at h
 ·rename_i s
  obtain ⟨b,h⟩:=h
  split at h
  ·rename_i es c hL
   split at h
   ·rename_i r hr
    obtain ⟨rfl,hs⟩:=z3U G
    obtain ⟨ms,D,V,h3,h4⟩:=wP j hL l b A hr
    have u:=z4w A b
    cases r with
    | none=>
     refine key (w':=setW C.w (C.φ s).blk (.map (ms.push { key:=kv,val:=vv,born:=c }) (c+1))) ?_
      (Yh wf j hL D (by simp [V]) (z2z V h3 u B) z5F h)
     unfold Instr.mapUpdate
     rw [Sem.run_bind,zC ht]
     simp only [Result.andThen_ok]
     rw [Sem.run_bind,Z7 D Zb]
     simp only [Result.andThen_ok]
     rw [Sem.run_bind,run_checkKey hd l]
     simp only [Result.andThen_ok]
     rw [Sem.run_bind,run_findKey hd h4]
     simp only [Result.andThen_ok]
     exact Zx _ D Zb
    | some n=>
     obtain ⟨m0,e0,h5,h6,X,h8⟩:=h4
     obtain ⟨m1,h9,Y,ai,ah⟩:=h3 n e0 X
     obtain rfl:m0=m1:=by rw [h5] at h9;exact Option.some.inj h9
     have hg:es.getD n default=e0:=by rw [List.getD_eq_getElem?_getD,X];rfl
     simp only [hg] at h
     obtain ⟨ag,q⟩:=vO (P:=E.P) u Y h8 C.w
     refine key (w':=setW C.w (C.φ s).blk (.map (ms.modify n fun e=>{ e with key:=kv,val:=vv }) c)) ?_
      (Yh wf j hL D (by simp [V]) (map_set h3 h5 X u B) z5F h)
     unfold Instr.mapUpdate
     rw [Sem.run_bind,zC ht]
     simp only [Result.andThen_ok]
     rw [Sem.run_bind,Z7 D Zb]
     simp only [Result.andThen_ok]
     rw [Sem.run_bind,run_checkKey hd l]
     simp only [Result.andThen_ok]
     rw [Sem.run_bind,run_findKey hd h6]
     simp only [Result.andThen_ok]
     rw [Sem.run_bind]
     simp only [h5,Option.map_some,Option.getD_some,q,Result.andThen_ok]
     exact Zx _ D Zb
   ·exact h.elim
  ·exact h.elim
 ·exact h.elim
theorem z5c (wf:Wf E.g0 C) (u:Sim C) (he:Zr C a e) {c:Call} {t kt el:TypeId} {m k:Operand} {S T:Opd} {st:Bool} (ho:o.op=.call c) (ag:c.callee=.builtin .delete) (A:c.args.toList=[m,k]) (ae:c.argTypes[0]?=some t) (ht:E.P.underlying t=some (.map kt el)) (hk:z6Q E.P kt=some st)
  (hm:opd m=some S) (X:opd k=some T) (h:xex E (.mdel st) [e S,e T] g C.L K):Good E C a o K:=by
 obtain ⟨d,hd,I⟩:=Wy hk
 have J:=he m S hm
 have M:=he k T X
 have e1:c.args.map a.eval=#[a.eval m,a.eval k]:=by apply Array.ext';simp [A]
 generalize U:a.eval m=mv at J
 generalize af:a.eval k=kv at M
 generalize e S=em at *
 generalize e T=ek at *
 have key:∀{w':World},(Builtin.delete_ c.argTypes o.type #[mv,kv]).run E.P C.w=.ok (.tuple #[]) w'->Post E C K (.tuple #[]) w'->Good E C a o K:=fun {w'} b hp=>by
  refine zT (s:=Builtin.delete_ c.argTypes o.type #[a.eval m,a.eval k]) (by
   unfold execOp;rw [ho];simp only [resolve,ag];rw [e1];rfl) (by rw [U,af];exact b) hp
 have l:VR C (.tup []) (.tuple #[]):=.tup [] [] rfl (fun i x hi=>by simp at hi)
 simp only [xex,z8A] at h
 unfold Y9 at h
 split at h
 ·rename_i s
  obtain ⟨G,h⟩:=h
  split at h
  ·rename_i es cl hL
   split at h
   ·rename_i r hr
    obtain ⟨rfl,hs⟩:=z3U J
    obtain ⟨B,O,h2,Z,h4⟩:=wP u hL I G M hr
    have b:∀{q:Option (Nat × Value)} {Q:Obj},Instr.findNow d kv B.toList 0=some q->(match q with | some (i,_)=>Q=.map (B.eraseIdxIfInBounds i) cl | none=>Q=.map B cl)->
      (Builtin.delete_ c.argTypes o.type #[.map (some (C.φ s).blk),kv]).run E.P C.w=.ok (.tuple #[]) (setW C.w (C.φ s).blk Q):=fun {q Q} hq D=>by
     unfold Builtin.delete_
     simp only [ae,List.getElem?_toArray,List.getElem?_cons_zero,List.getElem?_cons_succ]
     rw [Sem.run_bind,zC ht]
     simp only [Result.andThen_ok]
     rw [Sem.run_bind,Z7 O Zb]
     simp only [Result.andThen_ok]
     rw [Sem.run_bind,run_checkKey hd I]
     simp only [Result.andThen_ok]
     rw [Sem.run_bind,run_findKey hd hq]
     simp only [Result.andThen_ok]
     cases q with
     | none=>subst D;simp only;rw [Sem.run_bind,Zx _ O Zb];rfl
     | some q=>obtain ⟨n,v'⟩:=q;subst D;simp only;rw [Sem.run_bind,Zx _ O Zb];rfl
    cases r with
    | none=>exact key (b h4 rfl) (Yh wf u hL O h2 Z l h)
    | some n=>
     obtain ⟨m0,e0,h5,h6,h7,h8⟩:=h4
     have V:n<es.length:=zk h7
     refine key (b h6 rfl) (Yh wf u hL O ?_ (fun i e hi=>?_) l h)
     ·unfold Array.eraseIdxIfInBounds
      rw [dif_pos od,Array.size_eraseIdx,List.length_eraseIdx,if_pos V,h2]
     ·rw [List.getElem?_eraseIdx] at hi
      have Y:∀j,(B.eraseIdxIfInBounds n)[j]?=if j<n then B[j]? else B[j+1]?:=fun j=>by
       unfold Array.eraseIdxIfInBounds
       rw [dif_pos od,Array.getElem?_eraseIdx]
      rw [Y]
      split at hi
      ·rename_i hj;rw [if_pos hj];exact Z i e hi
      ·rename_i hj;rw [if_neg hj];exact Z (i+1) e hi
   ·exact h.elim
  ·exact h.elim
 ·exact h.elim
theorem z6b (wf:Wf E.g0 C) (q:Sim C) (he:Zr C a e) {t kt el:TypeId} {m k:Operand} {V X:Opd} {st:Bool} {zero:IV} (ho:o.op=.mapEntry t m k) (ht:E.P.underlying t=some (.map kt el)) (hk:z6Q E.P kt=some st)
  (hz:z3C E.P el=some zero) (hm:opd m=some V) (ah:opd k=some X) (h:xex E (.ment st zero) [e V,e X] g C.L K):Good E C a o K:=by
 obtain ⟨d,hd,u⟩:=Wy hk
 obtain ⟨zv,Z,I⟩:=z0X (C:=C) hz
 have O:=he m V hm
 have D:=he k X ah
 generalize ae:a.eval m=mv at O
 generalize ai:a.eval k=kv at D
 generalize e V=em at *
 generalize e X=ek at *
 have key:∀{v:Value} {w':World},(Instr.mapEntry t mv kv).run E.P C.w=.ok v w'->Post E C K v w'->Good E C a o K:=fun {v w'} Q hp=>
  zT (s:=Instr.mapEntry t (a.eval m) (a.eval k)) (by unfold execOp;rw [ho]) (by rw [ae,ai];exact Q) hp
 have l:∀{r:IV} {v:Value} (n:Nat),VR C r v->VR C (.tup [r,.int .i64 n]) (.tuple #[v,goInt n]):=fun {r v} n hv=>.tup [r,.int .i64 n] [v,goInt n] rfl (fun i x hi=>by
  match i,hi with
  | 0,hi=>simp at hi;subst hi;exact hv
  | 1,hi=>simp at hi;subst hi;exact .int _ _)
 simp only [xex,z7h] at h
 unfold Y9 at h
 split at h
 ·rename_i s
  obtain ⟨b,h⟩:=h
  split at h
  ·rename_i es c hL
   split at h
   ·rename_i r hr
    obtain ⟨rfl,hs⟩:=z3U O
    obtain ⟨S,G,h2,h3,h4⟩:=wP q hL u b D hr
    have B:=z4w D b
    cases r with
    | none=>
     refine key (v:=.tuple #[zv,goInt c]) (w':=setW C.w (C.φ s).blk (.map (S.push { key:=kv,val:=zv,born:=c }) (c+1))) ?_
      (Yh wf q hL G (by simp [h2]) (z2z h2 h3 B I) (l c I) h)
     unfold Instr.mapEntry
     rw [Sem.run_bind,zC ht]
     simp only [Result.andThen_ok]
     rw [Sem.run_bind,Z7 G Zb]
     simp only [Result.andThen_ok]
     rw [Sem.run_bind,run_checkKey hd u]
     simp only [Result.andThen_ok]
     rw [Sem.run_bind,run_findKey hd h4]
     simp only [Result.andThen_ok]
     rw [Sem.run_bind,Z]
     simp only [Result.andThen_ok]
     rw [Sem.run_bind,Zx _ G Zb]
     rfl
    | some n=>
     obtain ⟨U,T,Y,h6,h7,h8⟩:=h4
     obtain ⟨m1,h9,ag,M,af⟩:=h3 n T h7
     obtain rfl:U=m1:=by rw [Y] at h9;exact Option.some.inj h9
     have hg:es.getD n default=T:=by rw [List.getD_eq_getElem?_getD,h7];rfl
     simp only [hg] at h
     obtain ⟨aj,A⟩:=vO (P:=E.P) B ag h8 C.w
     have J:(S.modify n fun e=>{ e with key:=kv })=S.modify n fun e=>{ e with key:=kv,val:=U.val }:=by
      apply Array.ext_getElem?
      intro j
      rw [Array.getElem?_modify,Array.getElem?_modify]
      by_cases hj:n=j
      ·subst hj;simp [Y]
      ·simp [hj]
     refine key (v:=.tuple #[U.val,goInt T.2.2]) (w':=setW C.w (C.φ s).blk (.map (S.modify n fun e=>{ e with key:=kv,val:=U.val }) c)) ?_
      (Yh wf q hL G (by simp [h2]) (map_set h3 Y h7 B M) (l T.2.2 M) h)
     unfold Instr.mapEntry
     rw [Sem.run_bind,zC ht]
     simp only [Result.andThen_ok]
     rw [Sem.run_bind,Z7 G Zb]
     simp only [Result.andThen_ok]
     rw [Sem.run_bind,run_checkKey hd u]
     simp only [Result.andThen_ok]
     rw [Sem.run_bind,run_findKey hd h6]
     simp only [Result.andThen_ok]
     rw [Sem.run_bind]
     simp only [Y,Option.map_some,Option.getD_some,A,Result.andThen_ok,af]
     rw [Sem.run_bind,Zx _ G Zb,J]
     rfl
   ·exact h.elim
  ·exact h.elim
 ·exact h.elim
theorem z0P {l:List (IV × IV × Nat)} {d:Array MapEntry} {b:Int} (s:d.size=l.length) (u:∀(i:Nat) (e:IV × IV × Nat),l[i]?=some e->∃m,d[i]?=some m/\m.born=e.2.2) {n:Nat} (h:l.findIdx? (fun e=>(e.2.2:Int)==b)=some n) :
  d.findIdx? (fun e=>(e.born:Int)==b)=some n:=by
 rw [show d=d.toList.toArray from rfl,List.findIdx?_toArray]
 have q:d.toList.map (fun m:MapEntry=>m.born)=l.map (fun e:IV × IV × Nat=>e.2.2):=by
  apply List.ext_getElem?
  intro j
  rw [List.getElem?_map,List.getElem?_map]
  cases he:l[j]? with
  | none=>
   have:d.toList[j]?=none:=by rw [List.getElem?_eq_none_iff] at he ⊢;simpa [s] using he
   rw [this];rfl
  | some e=>
   obtain ⟨m,r,B⟩:=u j e he
   have:d.toList[j]?=some m:=by simpa using r
   rw [this];simp [B]
 have w:d.toList.findIdx? (fun e=>(e.born:Int)==b)=(d.toList.map (fun m:MapEntry=>m.born)).findIdx? (fun e:Nat=>(e:Int)==b):=by rw [List.findIdx?_map];rfl
 have A:l.findIdx? (fun e=>(e.2.2:Int)==b)=(l.map (fun e:IV × IV × Nat=>e.2.2)).findIdx? (fun e:Nat=>(e:Int)==b):=by rw [List.findIdx?_map];rfl
 rw [w,q,<-A];exact h
theorem z4v (wf:Wf E.g0 C) (q:Sim C) (J:Zr C a e) {t:TypeId} {m k v:Operand} {D I G:Opd} (ho:o.op=.entryStore t m k v)
  (hm:opd m=some D) (T:opd k=some I) (M:opd v=some G) (h:xex E .msto [e D,e I,e G] g C.L K):Good E C a o K:=by
 have u:=J m D hm
 have A:=J k I T
 have B:=J v G M
 generalize O:a.eval m=mv at u
 generalize X:a.eval k=kv at A
 generalize Y:a.eval v=vv at B
 generalize e D=em at *
 generalize e I=ek at *
 generalize e G=ev at *
 simp only [xex] at h
 split at h
 ·rename_i s ik b v0 V
  obtain ⟨rfl,rfl,rfl⟩:em=.mp s∧ek=.int ik b∧ev=v0:=by simpa using V
  unfold z6Z at h
  split at h
  ·rename_i es c hL
   split at h
   ·rename_i n hn
    obtain ⟨rfl,hs⟩:=z3U u
    cases A
    obtain ⟨l,Z,h2,U⟩:=q s _ hL
    have hf:=z0P h2 (fun i e hi=>by obtain ⟨m,h4,_,_,h5⟩:=U i e hi;exact ⟨m,h4,h5⟩) hn
    have Q:n<es.length:=by
     have:=List.findIdx?_eq_some_iff_findIdx_eq.1 hn
     exact this.1
    have d:es[n]?=some (es.getD n default):=by rw [List.getD_eq_getElem?_getD,List.getElem?_eq_getElem Q];rfl
    obtain ⟨m0,h9,S,af,ae⟩:=U n _ d
    have r:(l.modify n fun e=>{ e with val:=vv })=l.modify n fun e=>{ e with key:=m0.key,val:=vv }:=by
     apply Array.ext_getElem?
     intro j
     rw [Array.getElem?_modify,Array.getElem?_modify]
     by_cases hj:n=j
     ·subst hj;simp [h9]
     ·simp [hj]
    refine jB (s:=Instr.entryStore t (a.eval m) (a.eval k) (a.eval v)) (w':=setW C.w (C.φ s).blk (.map (l.modify n fun e=>{ e with key:=m0.key,val:=vv }) c)) (by unfold execOp;rw [ho]) ?_
     (Yh wf q hL Z (by simp [h2]) (map_set U h9 d S B) z5F h)
    rw [O,X,Y]
    unfold Instr.entryStore
    rw [Sem.run_bind,Z7 Z Zb]
    show (match l.findIdx? (fun e => (e.born : Int) == b) with | some i => setObj (C.φ s).blk (.map (l.modify i fun e => { e with val := vv }) c) | none => unsupported (.noEntry "instr/MapEntry.the entry is gone") : Sem Unit).run E.P C.w = _
    rw [hf]
    simp only
    rw [Zx _ Z Zb,r]
   ·exact h.elim
  ·exact h.elim
 ·exact h.elim
theorem z4o {g:Nat} (hg:Free C.L g) (wf:Wf E.g0 C) (b:Sim C) {t:TypeId} (d:o.op=.makeMap t none) (h:K (.mp g) (zy C.L g (.map [] 0))):Good E C a o K:=by
 refine zT (s:=Instr.makeMap t none) (v:=.map (some C.w.heap.size)) (w':=Zm C.w (.map #[] 0)) (by unfold execOp;rw [d];rfl) rfl ?_
 refine ⟨.mp g,zy C.L g (.map [] 0),newφ C g 0,h,jH (o:=.map #[] 0) hg wf b,wB (o:=.map #[] 0) hg b ?_,yN hg (.map #[] 0) (.map [] 0) 0,?_⟩
 ·exact ⟨#[],by simp only [y8,newφ,if_true];exact zX,rfl,fun i e hi=>by simp at hi⟩
 ·have j:(y8 C g (.map #[] 0) (.map [] 0) 0).born g:=⟨.map [] 0,YE hg,rfl⟩
  have:=VR.mp (C:=y8 C g (.map #[] 0) (.map [] 0) 0) g j
  simpa [y8,newφ] using this
theorem z6j (u:Sim C) (q:Zr C a e) {s d:TypeId} {x:Operand} {b:Opd} {f:FloatKind} {k:IntKind} (A:o.op=.convert s d x) (hs:E.P.underlying s=some (.int k)) (hd:E.P.underlying d=some (.float f))
  (r:opd x=some b) (h:xex E (.itof f) [e b] g C.L K):zN E C a o K:=by
 have m:=q x b r
 generalize j:a.eval x=xv at m
 generalize e b=ex at *
 simp only [xex] at h
 split at h
 ·rename_i k0 n l
  obtain rfl:ex=.int k0 n:=by simpa using l
  cases m
  refine zh (s:=convert s d (a.eval x)) (by unfold execOp;rw [A]) (v:=.float f (floatOfInt f n)) (w':=C.w) ?_ (zZ (.raw _ rfl) h)
  rw [j]
  exact run_convert_int_float _ _ _ _ _ _ (by simp [hs]) hd
 ·exact h.elim
theorem z8D (I:Sim C) (D:Zr C a e) {c:Call} {x y:Operand} {l m:Opd} (J:o.op=.call c) (B:c.callee=.builtin .complex) (b:c.args.toList=[x,y])
  (G:opd x=some l) (Q:opd y=some m) (h:xex E .cpx [e l,e m] g C.L K):zN E C a o K:=by
 have d:=D x l G
 have j:=D y m Q
 have M:c.args.map a.eval=#[a.eval x,a.eval y]:=by apply Array.ext';simp [b]
 generalize r:a.eval x=xv at d
 generalize u:a.eval y=yv at j
 generalize e l=ex at *
 generalize e m=ey at *
 simp only [xex] at h
 split at h
 ·rename_i k p O q A
  obtain ⟨rfl,rfl⟩:ex=.raw (.float k p)/\ey=.raw (.float O q):=by simpa using A
  obtain ⟨rfl,h⟩:=h
  cases d;cases j
  refine zh (s:=Builtin.complex_ c.argTypes o.type #[a.eval x,a.eval y]) (v:=.complex k p q) (w':=C.w) (by
   unfold execOp;rw [J];simp only [resolve,B];rw [M];rfl) ?_ (zZ (.raw _ rfl) h)
  rw [r,u]
  show (if k=k then pure (Value.complex k p q) else stuck _:Sem Value).run E.P C.w=_
  rw [if_pos rfl];rfl
 ·exact h.elim
theorem z5s {g:Nat} (hg:Free C.L g) (wf:Wf E.g0 C) (b:Sim C) (A:Zr C a e) {t D J:TypeId} {x:Operand} {l:Opd} (G:o.op=.range t x) (O:E.P.underlying t=some (.map D J)) (B:opd x=some l)
  (h:xex E .mrng [e l] g C.L K):Good E C a o K:=by
 have d:=A x l B
 generalize m:a.eval x=xv at d
 generalize e l=ex at *
 simp only [xex] at h
 split at h
 ·rename_i s r
  obtain rfl:ex=.mp s:=by simpa using r
  obtain ⟨rfl,hs⟩:=z3U d
  split at h
  ·rename_i U c u
   obtain ⟨Q,M,S,T⟩:=b s _ u
   refine zT (s:=Instr.range t (a.eval x)) (v:=.pointer (some ⟨C.w.heap.size,0,none⟩)) (w':=Zm C.w (.mapIter (some (C.φ s).blk) c #[] c)) (by unfold execOp;rw [G]) ?_ ?_
   ·rw [m]
    unfold Instr.range
    rw [Sem.run_bind,zC O]
    simp only [Result.andThen_ok]
    rw [Sem.run_bind,Z7 M Zb]
    rfl
   ·have q:s≠g:=fun j=>by
     subst j
     rcases hg with j | j
     ·have:=zk u;omega
     ·rw [u] at j;cases j
    refine ⟨.ptr g 0 0,zy C.L g (.mit s),newφ C g 0,h,jH (o:=.mapIter (some (C.φ s).blk) c #[] c) hg wf b,wB (o:=.mapIter (some (C.φ s).blk) c #[] c) hg b ?_,yN hg (.mapIter (some (C.φ s).blk) c #[] c) (.mit s) 0,yY hg⟩
    refine ⟨by simp [y8,newφ],JC hg hs,c,c,?_⟩
    have I:(y8 C g (.mapIter (some (C.φ s).blk) c #[] c) (.mit s) 0).φ s=C.φ s:=by simp [y8,newφ,q]
    rw [I]
    simp only [y8,newφ,if_true];exact zX
  ·exact h.elim
 ·exact h.elim
theorem z5e (wf:Wf E.g0 C) (b:Sim C) (J:Zr C a e) {x:Operand} {q:Opd} (S:o.op=.next x false) (M:opd x=some q)
  (h:xex E .mnxt [e q] g C.L K):Good E C a o K:=by
 have j:=J x q M
 generalize u:a.eval x=xv at j
 generalize e q=ex at *
 simp only [xex] at h
 split at h
 ·rename_i t A
  obtain rfl:ex=.ptr t 0 0:=by simpa using A
  split at h
  ·rename_i s Q
   split at h
   ·rename_i c V
    obtain ⟨T,hs,d,m,G⟩:=b t _ Q
    obtain ⟨I,U,O,X⟩:=b s _ V
    have B:I=#[]:=Array.eq_empty_of_size_eq_zero (by simpa using O)
    subst B
    have l:xv=.pointer (some ⟨(C.φ t).blk,0,none⟩):=by
     cases j with
     | ptr _ _ _ hs=>rw [T];simp
    have r:VR C (.tup [.bool false]) (.tuple #[.bool false]):=.tup [.bool false] [.bool false] rfl (fun i x hi=>by
     cases i with
     | zero=>simp at hi;subst hi;exact .bool false
     | succ i=>simp at hi)
    have D:∀c e fr,Obj.mapIter (some (C.φ s).blk) d #[] m≠.cells c e fr:=fun _ _ _ h=>by cases h
    refine zT (s:=Instr.next (a.eval x) false o.type) (by unfold execOp;rw [S]) (v:=.tuple #[.bool false]) (w':=C.w) ?_ (Zf wf b r h)
    rw [u,l]
    unfold Instr.next
    simp only
    rw [Sem.run_bind,Z7 G D]
    simp only [Result.andThen_ok]
    rw [Sem.run_bind,Z7 U Zb]
    simp [choose,Sem.run,Question.forced]
   ·exact h.elim
  ·exact h.elim
 ·exact h.elim
end
section
variable {E:Env} {C:Ctx} {a:Act} {e:Opd->IV} {o:Oper} {K:IV->List Blk->Prop} {g:Nat}
theorem z4B {P:Program} {t1 t2 ty D:TypeId} {sz n:Nat} {w:World} (M:P.underlying t1=some (.slice D)) (I:zI P D=some sz) {b k h q:Nat} {B:Value} {d:List Value} (J:Builtin.lenOf B=pure n) (A:n<=h)
  (r:(Builtin.firstCells sz n B).run P w=.ok d.toArray w) {c:Array Value} {j:TypeId} {fr:Nat × Nat} (hc:w.heap[b]?=some (.cells c j fr)) {G:Bool} (u:z01 G c.size fr) (hfit:k+d.length<=c.size) (l:∀v∈d,v.oneCell'=true) :
  (Builtin.copy_ #[t1,t2] ty #[.slice (some ⟨b,k,none⟩) h q,B]).run P w=.ok (.int .i64 n) (setW w b (.cells (seg c k d) j fr)):=by
 have s:=Ze P b k j fr d 0 c w hc u (by simpa using hfit) l
 simp only [Nat.add_zero] at s
 have m:Nat.min n h=n:=Nat.min_eq_left A
 rw [<-WB hc]
 unfold Builtin.copy_
 simp [run_underlying M,J,zx I,m,r,s,goInt,seg]
theorem z5y {P:Program} {t1 t2 ty q:TypeId} {sz:Nat} {w:World} (u:P.underlying t1=some (.slice q)) (r:zI P q=some sz) {d:Option Addr} {b l:Nat} {m:Value} (s:Builtin.lenOf m=pure 0)
  (h:(Builtin.firstCells sz 0 m).run P w=.ok #[] w):(Builtin.copy_ #[t1,t2] ty #[.slice d b l,m]).run P w=.ok (.int .i64 0) w:=by
 have j:Nat.min 0 b=0:=Nat.zero_min _
 unfold Builtin.copy_
 cases d<;>simp [run_underlying u,s,zx r,j,h,storeCells,goInt]
theorem z5K (wf:Wf E.g0 C) (b:Sim C) (he:Zr C a e) {c:Call} {d x:Operand} {d' x':Opd} {el:TypeId} {n:Nat} (ho:o.op=.call c) (aj:c.callee=.builtin .copy)
  (G:c.args.toList=[d,x]) (h1:(c.argTypes[0]?).bind E.P.underlying=some (.slice el)) (hn:zI E.P el=some n) (hd:opd d=some d') (hx:opd x=some x') (h:xex E (.copy n) [e d',e x'] g C.L K):Good E C a o K:=by
 rw [obs] at h1
 obtain ⟨t1,af,Y⟩:=h1
 have X:=he d d' hd
 have Q:=he x x' hx
 generalize ai:a.eval d=dv at X
 generalize ah:a.eval x=xv at Q
 generalize e d'=ed at *
 generalize e x'=ex at *
 have r:∀{v:Value} {w':World},(Builtin.copy_ #[t1,t1] o.type #[dv,xv]).run E.P C.w=.ok v w'->Post E C K v w'->Good E C a o K:=by
  intro v w' Z hp
  refine .inl ⟨v,w',?_,hp⟩
  rw [ZQ ho aj]
  have e1:c.args.map a.eval=#[dv,xv]:=by
   apply Array.ext';simp [G,ai,ah]
  have e2:(Builtin.copy_ c.argTypes o.type #[dv,xv])=(Builtin.copy_ #[t1,t1] o.type #[dv,xv]):=by
   unfold Builtin.copy_
   rw [af]
   rfl
  rw [e1]
  show (do pure (Next.value (<-Builtin.copy_ c.argTypes o.type #[dv,xv])):Sem Next).run E.P C.w=_
  rw [e2,Sem.run_bind,Z]
  rfl
 simp only [xex] at h
 unfold JH at h
 split at h
 ·rename_i t off len cap
  split at h
  ·rename_i rs au
   obtain ⟨ak,q,h0,M⟩:=h
   obtain ⟨V,J,u,j⟩:=Yz (E:=E) b Q au (fun D Z=>(q D Z).1)
   have S:=J.one (fun D Z=>(q D Z).2)
   cases X with
   | sl _ _ _ _ ad cap' hs hl hc ha=>
    by_cases hnil:rs=[]
    ·subst hnil
     have B:V=[]:=List.eq_nil_of_length_eq_zero (by rw [J.1];simp)
     subst B
     exact r (z5y Y hn u (j _ rfl)) (Zf wf b (.int _ _) (h0 rfl))
    ·have ay:0<rs.length:=List.length_pos_iff.2 hnil
     obtain ⟨rfl, -⟩:=ha.resolve_left od
     have M:=M hnil
     have T:∀{tc:Bool} {l:Nat} {rows:List (List IV)},Z9 tc C t l rows->l=n->off+rs.length<=rows.length->
       (∀(I c':Array Value) (ty:TypeId) (fr:Nat × Nat),C.w.heap[(C.φ t).blk]?=some (.cells I ty fr)->z01 tc I.size fr->c'.size=I.size->Flat C c' (C.φ t).base l (splice rows off rs)->
        Post E C K (.int .i64 rs.length) (setW C.w (C.φ t).blk (.cells c' ty fr)))->Good E C a o K:=by
      intro tc l rows ae hsz hfit hp
      subst hsz
      obtain ⟨hsz,I,ty,fr,A,m,U⟩:=ae
      obtain ⟨s,ax⟩:=VJ U J hfit
      rw [hsz] at r
      exact r (z4B Y hn u ak (j _ rfl) A m s S) (hp I _ ty fr A m (zK s) ax)
     split at M
     ·rename_i l rows O
      obtain ⟨rfl,hfit,hK⟩:=M
      exact T (b t _ O) rfl hfit fun I c' ty fr A m hsz U=>Wu wf b O A m hsz U (.int _ _) hK
     ·rename_i ag l rows O
      obtain ⟨rfl,hfit,hK⟩:=M
      refine T (b t _ O).1 rfl hfit fun I c' ty fr A m hsz U=>?_
      obtain ⟨_,_,c1,az,h4⟩:=b t _ O
      have:ty=ag:=by rw [A] at h4;cases h4;rfl
      subst this
      exact z0F wf b O A m hsz U (.int _ _) hK
     ·exact M.elim
  ·exact h.elim
 ·exact h.elim
theorem z3Y {P:Program} {w:World} {t u:TypeId} {n l d m len cap:Nat} {b:Option Addr} {lo:Option Value} {k s h:IntKind} (A:P.underlying t=some (.slice u)) (G:zI P u=some n)
  (r:(lo=none/\l=0)\/lo=some (.int k l)) (I:l<=d) (B:d<=m) (D:m<=cap) :
  (Instr.sliceAt t (.slice b len cap) lo (some (.int s d)) (some (.int h m))).run P w=.ok (.slice (if m=l then b else b.map (·.add (l*n))) (d - l) (m - l)) w:=by
 have q:∀(n y:Nat) (k:IntKind) (c:BoundsCode),n<=y->(Instr.sliceBound (.int k n) y c).run P w=.ok n w:=fun n y k c J=>by
  unfold Instr.sliceBound
  simp only [asIntOf,Sem.run_bind,Sem.run_pure,Result.andThen_ok]
  rw [if_pos ⟨od,od⟩]
  simp
 have j:(Instr.sliceBounds true len cap lo (some (.int s d)) (some (.int h m))).run P w=.ok (l,d,m) w:=by
  unfold Instr.sliceBounds
  rcases r with ⟨rfl,rfl⟩ | rfl<;>simp [q,I,B,D]
 unfold Instr.sliceAt
 rw [Sem.run_bind,zC A]
 simp only [Result.andThen_ok]
 unfold Instr.slice
 rw [Sem.run_bind,zC A]
 simp only [Result.andThen_ok]
 rw [Sem.run_bind,j]
 simp only [Result.andThen_ok]
 rw [Sem.run_bind,zx G]
 rfl
theorem z3A (u:Sim C) (A:Zr C a e) {t el:TypeId} {x h m:Operand} {lo:Option Operand} {O Q J:Opd} {q:Option Opd} {n:Nat} (ho:o.op=.slice t x lo (some h) (some m)) (ht:E.P.underlying t=some (.slice el))
  (hn:zI E.P el=some n) (hx:opd x=some O) (S:Jk lo=some q) (hh:opd h=some Q) (hm:opd m=some J) (M:xex E (.sl3 n) [e O,e (q.getD (.c (.int .i64 0))),e Q,e J] g C.L K):zN E C a o K:=by
 have B:=A x O hx
 have G:=A h Q hh
 have D:=A m J hm
 generalize Z:a.eval x=xv at B
 generalize ae:a.eval h=hv at G
 generalize T:a.eval m=mv at D
 generalize e O=ex at *
 generalize e Q=eh at *
 generalize e J=em at *
 simp only [xex] at M
 split at M
 ·rename_i s off len cap k1 l k2 U k3 V ag
  obtain ⟨rfl,j,rfl,rfl⟩:ex=.sl s off len cap/\e (q.getD (.c (.int .i64 0)))=.int k1 l/\eh=.int k2 U/\em=.int k3 V:=by simpa using ag
  obtain ⟨hsz,h0,h1,h2,h3,hK⟩:=M
  have hz:q=none->l=0:=fun h9=>by
   subst h9
   have:=A (.const (.int .i64 0)) (.c (.int .i64 0)) rfl
   simp only [Option.getD_none] at j
   rw [j] at this
   change VR C (.int k1 l) (.int .i64 0) at this
   cases this
   rfl
  cases G;cases D
  cases B with
  | sl _ _ _ _ ad cap' hs ah hc ha=>
   obtain ⟨b,rfl⟩:∃b:Nat,l=b:=⟨l.toNat,od⟩
   obtain ⟨r,rfl⟩:∃b:Nat,U=b:=⟨U.toNat,od⟩
   obtain ⟨d,rfl⟩:∃b:Nat,V=b:=⟨V.toNat,od⟩
   have af:(lo.map a.eval=none/\b=0)\/lo.map a.eval=some (.int k1 b):=by
    cases lo with
    | none=>
     simp only [Jk,sij] at S
     have:=hz S.symm
     exact .inl ⟨rfl,od⟩
    | some p=>
     simp only [Jk,oms] at S
     obtain ⟨p',hp,rfl⟩:=S
     have:=A p p' hp
     simp only [Option.getD_some] at j
     rw [j] at this
     right
     generalize Y:a.eval p=pv at this
     cases this
     simp [Y]
   refine zh (s:=Instr.sliceAt t (a.eval x) (lo.map a.eval) (some (a.eval h)) (some (a.eval m))) (v:=.slice (if d=b then ad else ad.map (·.add (b*n))) (r - b) (d - b)) (by unfold execOp;rw [ho];rfl) (w':=C.w) ?_ (zZ ?_ hK)
   ·rw [Z,ae,T]
    exact z3Y ht hn af od od od
   ·simp only [Int.toNat_natCast]
    have e1:((r:Int) - b).toNat=r - b:=by omega
    have e2:((d:Int) - b).toNat=d - b:=by omega
    rw [e1,e2]
    refine .sl _ _ _ _ _ _ hs od (Nat.le_refl _) ?_ od
    by_cases hml:d=b
    ·exact .inl od
    ·refine .inr ?_
     obtain ⟨rfl,c,X,fr,h5,h6⟩:=ha.resolve_left od
     have I:(C.φ s).sz=n:=by
      unfold vJ at hsz
      split at hsz
      ·rename_i sz rows hL;cases hsz;exact (u s _ hL).1
      ·rename_i ty sz rows hL;cases hsz;exact (u s _ hL).1.1
      ·cases hsz
     rw [if_neg hml,I]
     rw [I] at h6
     refine ⟨?_,c,X,fr,h5,?_⟩
     ·show some (Addr.add _ _)=_
      unfold Addr.add
      congr 1
      split
      ·rename_i h7;simp [Nat.add_mul,h7]
      ·simp;rw [Nat.add_mul];omega
     ·have:(off+b+(d - b))*n<=(off+cap')*n:=Nat.mul_le_mul_right n od
      omega
 ·exact M.elim
end
section
variable {E:Env}
def JU (t:Nat):Ren:=fun s=>if s=t then some none else some (some s)
theorem z3D {g0:Nat} {C:Ctx} {t:Nat} {k:Blk} (wf:Wf g0 C) (O:Sim C) (U:C.L[t]?=some k) (ha:k.alive=true) :
  Wf g0 ⟨C.w,C.φ,C.L.set t .dead,C.X⟩/\Sim ⟨C.w,C.φ,C.L.set t .dead,C.X⟩/\Ext C ⟨C.w,C.φ,C.L.set t .dead,C.X⟩/\(∀b,Ctx.own ⟨C.w,C.φ,C.L.set t .dead,C.X⟩ b->C.own b)/\z1I C ⟨C.w,C.φ,C.L.set t .dead,C.X⟩ (JU t):=by
 have I:=zk U
 have r:∀{s:Nat} {j:Blk},(C.L.set t .dead)[s]?=some j->(s=t/\j=.dead)\/(s≠t/\C.L[s]?=some j):=fun {s j} h=>by
  by_cases l:t=s
  ·subst l;rw [List.getElem?_set_self I] at h;exact .inl ⟨rfl,(Option.some.inj h).symm⟩
  ·rw [List.getElem?_set_ne l] at h;exact .inr ⟨Ne.symm l,h⟩
 have q:∀{s:Nat} {j:Blk},(C.L.set t .dead)[s]?=some j->j.alive=true->s≠t/\C.L[s]?=some j:=fun {s j} h V=>by
  rcases r h with ⟨_,rfl⟩ | h
  ·cases V
  ·exact h
 have d:∀b,Ctx.mine ⟨C.w,C.φ,C.L.set t .dead,C.X⟩ b->C.mine b:=fun b ⟨s,j,h,m,B⟩=>⟨s,j,(q h m).2,m,B⟩
 have J:∀b,Ctx.own ⟨C.w,C.φ,C.L.set t .dead,C.X⟩ b->C.own b:=fun b h=>h.imp (fun h=>h) (d b)
 have G:∀s,C.born s->Ctx.born ⟨C.w,C.φ,C.L.set t .dead,C.X⟩ s:=fun s ⟨j,h,m⟩=>by
  by_cases l:t=s
  ·subst l;exact ⟨.dead,List.getElem?_set_self I,rfl⟩
  ·exact ⟨j,by show (C.L.set t .dead)[s]?=_;rw [List.getElem?_set_ne l];exact h,m⟩
 have A:Ext C ⟨C.w,C.φ,C.L.set t .dead,C.X⟩:=⟨Nat.le_refl _,fun _ _ _=>rfl,fun b h=>.inl (d b h),fun _ _=>rfl,G,by show _<=(C.L.set t .dead).length;rw [lls];exact Nat.le_refl _,fun _ c e fr h=>⟨c,e,fr,h,rfl⟩,rfl,rfl,rfl,rfl⟩
 refine ⟨⟨fun s u k1 k2 hs D m B S=>wf.inj s u k1 k2 (q hs m).2 (q D B).2 m B S,fun b h=>wf.lo b (d b h),fun b M h=>wf.apart b M (d b h),wf.exlo,wf.g⟩,fun s j h=>?_,A,J,fun s j h=>⟨fun T _=>?_,fun u D=>?_⟩⟩
 ·rcases r h with ⟨_,rfl⟩ | ⟨_,m⟩
  ·trivial
  ·exact Zp.mono A m (O s j m) rfl
 ·have l:s=t:=by
   unfold JU at T
   split at T
   ·assumption
   ·cases T
  subst l
  rintro (M | ⟨u,k2,m,B,S⟩)
  ·exact wf.apart _ M ⟨s,k,U,ha,rfl⟩
  ·obtain ⟨Y,h5⟩:=q m B
   exact Y (wf.inj u s k2 k h5 U B ha S)
 ·have Q:s=u:=by
   unfold JU at D
   split at D
   ·cases D
   ·simpa using D
  subst Q
  exact ⟨fun Z=>G s ⟨j,h,Z⟩,rfl⟩
end
section
variable {E:Env} {C:Ctx} {a:Act} {o:Oper} {e:Opd->IV} {g:Nat} {K:IV->List Blk->Prop}
theorem zar {P:Program} {w:World} {t m:TypeId} {n l b k:Nat} {lo:Option Value} {q:IntKind} (u:P.underlying t=some (.array n m)) (r:zI P m=some 1)
  (j:(lo=none/\l=0)\/lo=some (.int q l)) (s:l<=n) :
  (Instr.sliceAt t (.pointer (some ⟨b,k,none⟩)) lo none none).run P w=.ok (.slice (some (if n=l then ⟨b,k,none⟩ else Addr.add ⟨b,k,none⟩ (l*1))) (n - l) (n - l)) w:=by
 have h:∀(n y:Nat) (k:IntKind) (c:BoundsCode),n<=y->(Instr.sliceBound (.int k n) y c).run P w=.ok n w:=fun n y k c A=>by
  unfold Instr.sliceBound
  simp only [asIntOf,Sem.run_bind,Sem.run_pure,Result.andThen_ok]
  rw [if_pos ⟨od,od⟩]
  simp
 have d:(Instr.sliceBounds false n n lo none none).run P w=.ok (l,n,n) w:=by
  unfold Instr.sliceBounds
  rcases j with ⟨rfl,rfl⟩ | rfl<;>simp [h,s]
 unfold Instr.sliceAt
 rw [Sem.run_bind,zC u]
 simp only [Result.andThen_ok,Instr.sureAddr]
 rw [Sem.run_bind,Sem.run_pure]
 simp only [Result.andThen_ok]
 rw [Sem.run_bind,d]
 simp only [Result.andThen_ok]
 rw [Sem.run_bind,zx r]
 rfl
theorem z88 (wf:Wf E.g0 C) (T:Sim C) (he:Zr C a e) {t el:TypeId} {n:Nat} {x:Operand} {lo:Option Operand} {x':Opd} {D:Option Opd} (ho:o.op=.slice t x lo none none) (ht:E.P.underlying t=some (.array n el))
  (hn:zI E.P el=some 1) (Q:opd x=some x') (Z:Jk lo=some D) (h:xex E (.sla n) [e x',e (D.getD (.c (.int .i64 0)))] g C.L K):Good E C a o K:=by
 have O:=he x x' Q
 generalize ag:a.eval x=xv at O
 generalize e x'=ex at *
 simp only [xex] at h
 split at h
 ·rename_i s k1 l ak
  obtain ⟨rfl,B⟩:ex=.ptr s 0 0/\e (D.getD (.c (.int .i64 0)))=.int k1 l:=by simpa using ak
  split at h
  ·rename_i m q hL
   obtain ⟨rfl,I,Y,h0,h1,hK⟩:=h
   have hz:D=none->l=0:=fun A=>by
    subst A
    have:=he (.const (.int .i64 0)) (.c (.int .i64 0)) rfl
    simp only [Option.getD_none] at B
    rw [B] at this
    change VR C (.int k1 l) (.int .i64 0) at this
    cases this
    rfl
   obtain ⟨b,rfl⟩:∃b:Nat,l=b:=⟨l.toNat,od⟩
   have ai:(lo.map a.eval=none/\b=0)\/lo.map a.eval=some (.int k1 b):=by
    cases lo with
    | none=>
     simp only [Jk,sij] at Z
     have:=hz Z.symm
     exact .inl ⟨rfl,od⟩
    | some p=>
     simp only [Jk,oms] at Z
     obtain ⟨p',hp,rfl⟩:=Z
     have:=he p p' hp
     simp only [Option.getD_some] at B
     rw [B] at this
     right
     generalize af:a.eval p=pv at this
     cases this
     simp [af]
   cases O with
   | ptr _ _ _ hs=>
    obtain ⟨hsz,c,ay,fr,h3,az,h4,h5⟩:=T s _ hL
    obtain ⟨ae,V,U,ax,S⟩:=z3D wf T hL rfl
    have ah:=(S s _ hL).1 (by simp [JU]) rfl
    have J:=(h5 0 q rfl).2
    refine .inl ⟨.slice (some (if m=b then ⟨(C.φ s).blk,(C.φ s).base+0*(C.φ s).sz+0,none⟩ else Addr.add ⟨(C.φ s).blk,(C.φ s).base+0*(C.φ s).sz+0,none⟩ (b*1))) (m - b) (m - b),C.w,?_,_,C.L.set s .dead,C.φ,hK,ae,V,U,?_⟩
    ·unfold execOp
     rw [ho]
     show (do pure (Next.value (<-Instr.sliceAt t (a.eval x) (lo.map a.eval) none none)):Sem Next).run E.P C.w=_
     rw [ag,Sem.run_bind,zar ht hn ai od]
     rfl
    ·have au:((q.drop ((b:Int)).toNat).map fun c=>[c]).length=m - b:=by simp [Y]
     have G:∀(i:Nat) (r:List IV),((q.drop ((b:Int)).toNat).map fun c=>[c])[i]?=some r->∃c',r=[c']/\q[b+i]?=some c':=fun i r hi=>by
      rw [List.getElem?_map,oms] at hi
      obtain ⟨c',A,rfl⟩:=hi
      rw [List.getElem?_drop] at A
      exact ⟨c',rfl,A⟩
     have M:∀(c' x:IV) (j:Nat),[c'][j]?=some x->j=0/\x=c':=fun c' x j M=>by
      cases j with
      | zero=>simp at M;exact ⟨rfl,M.symm⟩
      | succ j=>simp at M
     have u:=VR.isl (C:=⟨C.w,C.φ,C.L.set s .dead,C.X⟩) ((q.drop ((b:Int)).toNat).map fun c=>[c]) (some (if m=b then ⟨(C.φ s).blk,(C.φ s).base+0*(C.φ s).sz+0,none⟩ else Addr.add ⟨(C.φ s).blk,(C.φ s).base+0*(C.φ s).sz+0,none⟩ (b*1))) (m - b) 1
      (fun i _=>c.getD ((C.φ s).base+0*(C.φ s).sz+(b+i)) undef) od (fun i r hi=>by obtain ⟨c',rfl,_⟩:=G i r hi;rfl)
      (fun i r hi=>by
       obtain ⟨c',rfl,A⟩:=G i r hi
       obtain ⟨k,v,rfl⟩:=I c' (List.mem_of_getElem? A)
       rfl) ?_ ?_
     ·rw [au] at u;exact u
     ·by_cases hml:m=b
      ·exact .inl (List.eq_nil_of_length_eq_zero od)
      ·rw [if_neg hml]
       refine .inr ⟨(C.φ s).blk,(C.φ s).base+0*(C.φ s).sz+0+b*1,by simp [Addr.add],(Array.getElem?_eq_some_iff.1 h3).1,ah,fun i r hi j x Q=>?_⟩
       obtain ⟨c',rfl,A⟩:=G i r hi
       obtain ⟨rfl,rfl⟩:=M _ _ _ Q
       obtain ⟨v,d,_⟩:=J _ _ A
       have e1:(C.φ s).base+0*(C.φ s).sz+0+b*1+i*1+0=(C.φ s).base+0*(C.φ s).sz+(b+i):=by omega
       have e0:(C.φ s).base+0*m+(b+i)=(C.φ s).base+0*(C.φ s).sz+(b+i):=by omega
       rw [e1]
       rw [e0] at d
       simp only [World.cell?,h3,d,Array.getD_eq_getD_getElem?,Option.getD_some]
       rfl
     ·intro i r hi j x Q
      obtain ⟨c',rfl,A⟩:=G i r hi
      obtain ⟨rfl,rfl⟩:=M _ _ _ Q
      obtain ⟨v,d,aj⟩:=J _ _ A
      obtain ⟨k,v',rfl⟩:=I _ (List.mem_of_getElem? A)
      have e0:(C.φ s).base+0*m+(b+i)=(C.φ s).base+0*(C.φ s).sz+(b+i):=by omega
      rw [e0] at d
      simp only [Array.getD_eq_getD_getElem?,d,Option.getD_some]
      cases aj
      exact .int _ _
  ·exact h.elim
 ·exact h.elim
end
section
variable {E:Env} {C:Ctx} {a:Act} {e:Opd->IV} {o:Oper} {K:IV->List Blk->Prop} {g:Nat}
theorem z3J {P:Program} {t ty s:TypeId} {i:TypeInfo} {z:Value} {w:World} (G:P.underlying t=some (.slice s)) (D:P.info? s=some i) (u:i.zero=some z) {b k len cap:Nat} {d:List Value} (B:len≠0)
  (l:(Builtin.zeroCells z.cells len).toList=d) {c:Array Value} {h:TypeId} {fr:Nat × Nat} (hc:w.heap[b]?=some (.cells c h fr)) {A:Bool} (r:z01 A c.size fr) (hfit:k+d.length<=c.size) (j:∀v∈d,v.oneCell'=true) :
  (Builtin.clear_ #[t] ty #[.slice (some ⟨b,k,none⟩) len cap]).run P w=.ok (.tuple #[]) (setW w b (.cells (seg c k d) h fr)):=by
 have q:=Ze P b k h fr d 0 c w hc r (by simpa using hfit) j
 simp only [Nat.add_zero] at q
 rw [<-WB hc]
 obtain ⟨m,rfl⟩:∃m,len=m+1:=⟨len - 1,od⟩
 unfold Builtin.clear_
 simp [run_underlying G,Z5 D u,l,q,seg]
theorem z3L {P:Program} {t ty h:TypeId} {w:World} (b:P.underlying t=some (.slice h)) {d:Option Addr} {cap:Nat}:(Builtin.clear_ #[t] ty #[.slice d 0 cap]).run P w=.ok (.tuple #[]) w:=by
 unfold Builtin.clear_
 cases d<;>simp [run_underlying b]
theorem z7p (wf:Wf E.g0 C) (r:Sim C) (he:Zr C a e) {c:Call} {d:Operand} {d':Opd} {el:TypeId} {z:List IV} (ho:o.op=.call c) (X:c.callee=.builtin .clear)
  (s:c.args.toList=[d]) (h1:(c.argTypes[0]?).bind E.P.underlying=some (.slice el)) (hz:zeroCells E.P el=some z) (hd:opd d=some d') (h:xex E (.clr z) [e d'] g C.L K):Good E C a o K:=by
 rw [obs] at h1
 obtain ⟨t1,S,O⟩:=h1
 obtain ⟨i,D,hi,V,A,Y⟩:=zJ hz
 have M:=he d d' hd
 generalize U:a.eval d=dv at M
 generalize e d'=ed at *
 have b:∀{v:Value} {w':World},(Builtin.clear_ #[t1] o.type #[dv]).run E.P C.w=.ok v w'->Post E C K v w'->Good E C a o K:=by
  intro v w' hr hp
  refine .inl ⟨v,w',?_,hp⟩
  rw [ZQ ho X]
  have e1:c.args.map a.eval=#[dv]:=by
   apply Array.ext';simp [s,U]
  have e2:(Builtin.clear_ c.argTypes o.type #[dv])=(Builtin.clear_ #[t1] o.type #[dv]):=by
   unfold Builtin.clear_
   rw [S]
   rfl
  rw [e1]
  show (do pure (Next.value (<-Builtin.clear_ c.argTypes o.type #[dv])):Sem Next).run E.P C.w=_
  rw [e2,Sem.run_bind,hr]
  rfl
 simp only [xex] at h
 unfold zfG at h
 split at h
 ·rename_i t off len cap
  obtain ⟨h0,J⟩:=h
  cases M with
  | sl _ _ _ _ ad cap' hs hl hc ha=>
   by_cases hnil:len=0
   ·subst hnil
    exact b (z3L O) (Zf wf r (.tup _ _ rfl (by simp)) (h0 rfl))
   ·obtain ⟨rfl, -⟩:=ha.resolve_left od
    have J:=J hnil
    split at J
    ·rename_i ag rows hL
     obtain ⟨rfl,T,hfit,hK⟩:=J
     obtain ⟨hsz,c0,ty,fr,h3,Q,hf⟩:=r t _ hL
     obtain ⟨ae,Z⟩:=yS (C:=C) (m:=len) A (Y C) D.cells (.inr rfl)
     have B:(Builtin.zeroCells D.cells len).toList=((Array.range (len*z.length)).map (D.cells[·%D.cells.size]!)).toList:=by
      unfold Builtin.zeroCells
      rw [A]
     have hF:Y8 C (Builtin.zeroCells D.cells len).toList z.length (List.replicate len z):=by
      rw [B]
      refine ⟨by rw [Array.length_toList,ae,List.length_replicate],fun j I hj=>?_⟩
      obtain ⟨j1,j2⟩:=Z.2 j I hj
      refine ⟨j1,fun q x hq=>?_⟩
      obtain ⟨u,j3,j4⟩:=j2 q x hq
      refine ⟨u,?_,j4⟩
      rw [Array.getElem?_toList,<-j3]
      congr 1
      omega
     have G:=hF.one fun I hr=>by rw [List.eq_of_mem_replicate hr];exact T
     obtain ⟨l,af⟩:=VJ hf hF (k:=off) (by rw [List.length_replicate];exact hfit)
     rw [hsz] at b
     exact b (z3J O hi V hnil rfl h3 Q l G) (Wu wf r hL h3 Q (zK l) af (.tup _ _ rfl (by simp)) hK)
    ·exact J.elim
 ·exact h.elim
end
end Go.X
end
