/- Parts of the proof: XEx, XMap, XCopy, XSla. -/
import Derived.Test.YtnmhhmbeljlndaaGreatDoorXP2
import Derived.Lib.Builder
import Derived.Lib.UnsafeStr
import Derived.Lib.ConvBytes
import Derived.Laws.BytesString
import Derived.Laws.Cover4
import Derived.Laws.StructEq
import Derived.LaidEql
set_option linter.unusedVariables false
set_option linter.unusedSimpArgs false
set_option linter.unusedSectionVars false
section
namespace Go.X
open Go
section
variable {E:Env} {C:Ctx} {a:Act} {o:Oper} {e:Opd->IV} {K:IV->List Blk->Prop} {g:Nat}
theorem z00 {g:Nat} (hg:Free C.L g) {c:Array Value} {ty:TypeId} {fr:Nat × Nat} {sz:Nat} {rows:List (List IV)} {r:IV} {v:Value} (wf:Wf E.g0 C) (sim:Sim C) (hfr:frOk true c.size fr)
  (hf:Flat C c 0 sz rows) (hv:VR (newC C g (.cells c ty fr) (.tcells ty sz rows) sz) r v) (h:K r (zK C.L g (.tcells ty sz rows))) :
  Post E C K v (ZT C.w (.cells c ty fr)):=by
 refine ⟨r,zK C.L g (Blk.tcells ty sz rows),newφ C g sz,h,z0i (o:=.cells c ty fr) hg wf sim,WX (o:=.cells c ty fr) hg sim ?_,Yu hg (.cells c ty fr) (.tcells ty sz rows) sz,hv⟩
 have hf':=hf.mono (Yu hg (.cells c ty fr) (.tcells ty sz rows) sz)
 refine ⟨⟨by simp [newC,newφ],c,ty,fr,by simp only [newC,newφ,if_true];exact Zm,hfr,?_,?_⟩,by simp [newC,newφ],c,fr,by simp only [newC,newφ,if_true];exact Zm⟩
 ·simpa [newC,newφ] using hf'.1
 ·intro i row hi
  refine ⟨(hf'.2 i row hi).1,fun j x hj=>?_⟩
  obtain ⟨u,h1,h2⟩:=(hf'.2 i row hi).2 j x hj
  exact ⟨u,by simpa [newC,newφ] using h1,h2⟩
theorem z4x {g:Nat} (hg:Free C.L g) (wf:Wf E.g0 C) (sim:Sim C) {t:TypeId} {z:List IV} (ho:o.op=.alloc t) (hz:zeroCells E.P t=some z)
  (h:K (.ptr g 0 0) (zK C.L g (.tcells t (z.map z2y).length [z.map z2y]))):Good E C a o K:=by
 obtain ⟨i,v,h1,h2,h3,h4⟩:=Zn hz
 have h5:∀(j:Nat) (x:IV),(z.map z2y)[j]?=some x->∃u,v.cells[j]?=some u/\VR C x u:=fun j x hj=>by
  rw [List.getElem?_map,oms] at hj
  obtain ⟨y,hy,rfl⟩:=hj
  obtain ⟨u,h6,h7⟩:=h4 C j y hy
  refine ⟨u,h6,?_⟩
  unfold z2y
  split
  ·cases h7;exact .raw _ rfl
  ·exact h7
 refine Zd (s:=Instr.alloc t true (.tuple #[])) (v:=.pointer (some ⟨C.w.heap.size,0,none⟩)) (w':=ZT C.w (.cells v.cells t)) (by unfold execOp;rw [ho]) ?_
  (z00 hg wf sim (z0f _ _) (z3x (by rw [List.length_map];exact h3) h5) (YI hg) h)
 unfold Instr.alloc
 rw [Sem.run_bind,ZI h1 h2]
 rfl
theorem z9i (sim:Sim C) (he:Opds C a e) {t:TypeId} {x:Operand} {x':Opd} (ho:o.op=.makeInterface t x) (hc:E.P.concrete t=true) (hx:opd x=some x') (h:K (.iface t (e x')) C.L):Z5 E C a o K:=
 zn (s:=Instr.makeInterface t (a.eval x)) (by unfold execOp;rw [ho]) (run_makeInterface _ t _ hc) (Zk (.iface _ _ _ (he x x' hx)) h)
theorem z6Y (wf:Wf E.g0 C) (sim:Sim C) (he:Opds C a e) {x:Operand} {x':Opd} (ho:o.op=.panic x) (hx:opd x=some x') {t:TypeId} {y:IV} (hxy:e x'=.iface t y) (h:E.pan (.iface t y) C.L):Good E C a o K:=by
 have hv:=he x x' hx
 rw [hxy] at hv
 generalize hxe:a.eval x=xv at hv
 cases hv with
 | iface _ _ u hu=>
 refine .inr (.inr (.inr (.inr ⟨.iface t u,C.w,?_,ZF wf sim (.iface _ _ _ hu) h⟩)))
 have e1:execOp a.eval o=(do pure (Next.value (<-Instr.panic (a.eval x)))):=by unfold execOp;rw [ho]
 rw [e1,hxe,Sem.run_bind]
 rfl
theorem z7d (sim:Sim C) (he:Opds C a e) {c:Call} {x:Operand} {x':Opd} (ho:o.op=.call c) (hcb:c.callee=.builtin .unsafeSliceData) (hargs:c.args.toList=[x])
  (hx:opd x=some x') (h:xex E .sdata [e x'] g C.L K):Z5 E C a o K:=by
 have hv:=he x x' hx
 generalize hxe:a.eval x=xv at hv
 generalize e x'=ex at *
 have e1:c.args.map a.eval=#[xv]:=by apply Array.ext';simp [hargs,hxe]
 have key:∀{u:Value} {r:IV},(Builtin.unsafeSliceData_ c.argTypes o.type #[xv]).run E.P C.w=.ok u C.w->VR C r u->K r C.L->Z5 E C a o K:=fun {u r} hr hu hk=>
  z1I ⟨u,C.w,by
   rw [yT ho hcb,e1]
   show (do pure (Next.value (<-Builtin.unsafeSliceData_ c.argTypes o.type #[xv])):Sem Next).run E.P C.w=_
   rw [Sem.run_bind,hr];rfl,Zk hu hk⟩
 simp only [xex] at h
 split at h
 ·rename_i heq
  obtain rfl:ex=.nsl:=by simpa using heq
  cases hv
  exact key (Lib.run_unsafeSliceData_nil _ _ _ _ _) (.raw _ rfl) h
 ·rename_i heq
  obtain rfl:ex=.raw (.slice none 0 0):=by simpa using heq
  cases hv
  exact key (Lib.run_unsafeSliceData_nil _ _ _ _ _) (.raw _ rfl) h
 ·rename_i s off len cap heq
  obtain rfl:ex=.sl s off len cap:=by simpa using heq
  cases hv with
  | sl _ _ _ _ av cap' hs hl hc ha=>
  obtain ⟨rfl,_⟩:=ha.resolve_left (by omega)
  refine key (Lib.run_unsafeSliceData_row _ _ _ _ _ _ (by omega)) ?_ h.2
  have:=VR.ptr (C:=C) s off 0 hs
  simpa using this
 ·exact h.elim
theorem z7t {P:Program} {t el:TypeId} {n:Nat} (ht:P.underlying t=some (.pointer el)) (hn:Z4 P el=some n) (hn0:n≠0) (w:World) (neg:Bool) (x y:Operand) {xv yv:Value} {b:Bool}
  (h:(∃q,xv=.pointer q/\yv=.pointer q/\b=true)\/(∃q,xv=.pointer (some q)/\yv=.pointer none/\b=false)\/∃q,xv=.pointer none/\yv=.pointer (some q)/\b=false) :
  (do eqGuard (if neg then .neq else .eql) t x y xv yv;binOp (if neg then .neq else .eql) t xv yv:Sem Value).run P w=.ok (.bool (if neg then !b else b)) w:=by
 obtain ⟨j,hj,hjs⟩:∃j,P.info? el=some j/\j.size=n:=by
  unfold Z4 at hn;rw [oms] at hn;exact hn
 have key:∀d,(Op.equalIn (d+1) t xv yv).run P w=.ok b w:=fun d=>by
  rcases h with ⟨q,rfl,rfl,rfl⟩ | ⟨q,rfl,rfl,rfl⟩ | ⟨q,rfl,rfl,rfl⟩
  ·cases q with
   | none=>simp [Op.equalIn,run_underlying ht]
   | some q=>simp [Op.equalIn,run_underlying ht,sizeOf,typeInfo,hj,run_sameAddr_same]
  ·simp [Op.equalIn,run_underlying ht]
  ·simp [Op.equalIn,run_underlying ht]
 have hp:∃p q,xv=.pointer p/\yv=.pointer q:=by
  rcases h with ⟨q,rfl,rfl,_⟩ | ⟨q,rfl,rfl,_⟩ | ⟨q,rfl,rfl,_⟩<;>exact ⟨_,_,rfl,rfl⟩
 obtain ⟨p,q,rfl,rfl⟩:=hp
 exact JZ neg x y (by cases neg<;>rfl) (by cases neg<;>simp [binOp]) (key 9999)
theorem z5W (sim:Sim C) (he:Opds C a e) {op:BinOp} {t ty el:TypeId} {n:Nat} {x y:Operand} {x' y':Opd} {neg:Bool} (ho:o.op=.binOp op t x y ty) (hop:op=if neg then .neq else .eql) (ht:E.P.underlying t=some (.pointer el))
  (hn:Z4 E.P el=some n) (hn0:n≠0) (hx:opd x=some x') (hy:opd y=some y') (h:xex E (.eqP neg) [e x',e y'] g C.L K):Z5 E C a o K:=by
 have hxv:=he x x' hx
 have hyv:=he y y' hy
 subst hop
 simp only [xex] at h
 split at h
 ·rename_i b hb
  refine zn (s:=do eqGuard (if neg then .neq else .eql) t x y (a.eval x) (a.eval y);binOp (if neg then .neq else .eql) t (a.eval x) (a.eval y)) (v:=.bool (if neg then !b else b)) (w':=C.w) (by unfold execOp;rw [ho]) ?_ (Zk (.bool _) h)
  refine z7t ht hn hn0 C.w neg x y ?_
  generalize a.eval x=xv at *
  generalize a.eval y=yv at *
  generalize e x'=ex at *
  generalize e y'=ey at *
  unfold WG at hb
  split at hb
  ·split at hb
   ·rename_i hs
    obtain ⟨rfl,rfl,rfl⟩:=hs
    cases hb
    cases hxv;cases hyv
    exact .inl ⟨_,rfl,rfl,rfl⟩
   ·cases hb
  ·cases hb;cases hxv;cases hyv
   exact .inr (.inl ⟨_,rfl,rfl,rfl⟩)
  ·cases hb;cases hxv;cases hyv
   exact .inr (.inr ⟨_,rfl,rfl,rfl⟩)
  ·cases hb;cases hxv;cases hyv
   exact .inr (.inl ⟨_,rfl,rfl,rfl⟩)
  ·cases hb;cases hxv;cases hyv
   exact .inl ⟨_,rfl,rfl,rfl⟩
  ·cases hb
 ·exact h.elim
theorem z4J {P:Program} {e:TypeId} (hc:P.cellsOf e≠0) {count:Nat} (hn:1<=count):liesAt P P.depth e count 0 e 1=true:=by
 have hd:P.depth=(2*(P.types.size+Made.depth)+1)+1:=rfl
 rw [hd]
 simp only [liesAt,Bool.or_eq_true]
 left
 rw [hd]
 simp [rowAt,hc,hn,sameLayout]
theorem z3e (sim:Sim C) (he:Opds C a e) {s d:TypeId} {x:Operand} {x':Opd} (ho:o.op=.convert s d x) (hx:opd x=some x') {ty n sl r of:Nat} (hxe:e x'=.ptr sl r of) (h:z4C ty n sl r of C.L K)
  (hr:∀(b cells:Nat),C.w.shape? b=some (ty,cells)->n<=cells->0<cells->(convert s d (.pointer (some ⟨b,0,none⟩))).run E.P C.w=.ok (.pointer (some ⟨b,0,none⟩)) C.w):Z5 E C a o K:=by
 have hv:=he x x' hx
 rw [hxe] at hv
 obtain ⟨rfl,rfl,h⟩:=h
 split at h
 ·rename_i ty' sz row hL
  obtain ⟨rfl,h1,h2,h3⟩:=h
  obtain ⟨⟨hsz,c,e1,fr,hc,_,hle,_⟩,hb0,c',fr',hc'⟩:=sim sl _ hL
  rw [hc] at hc'
  obtain ⟨rfl,rfl,rfl⟩:=by simpa using hc'
  generalize hxv:a.eval x=xv at hv
  cases hv with
  | ptr _ _ _ hs=>
  have hsh:C.w.shape? (C.φ sl).blk=some (e1,c.size):=by simp [World.shape?,hc]
  have hle':sz<=c.size:=by simpa [hb0] using hle
  have hrr:=hr _ _ hsh (by omega) (by omega)
  have ev:(Value.pointer (some ⟨(C.φ sl).blk,(C.φ sl).base+0*(C.φ sl).sz+0,none⟩))=.pointer (some ⟨(C.φ sl).blk,0,none⟩):=by rw [hb0];simp
  rw [ev] at hxv
  refine zn (s:=convert s d (a.eval x)) (by unfold execOp;rw [ho]) (by rw [hxv];exact hrr) (Zk (r:=.ptr sl 0 0) ?_ h3)
  have:=VR.ptr (C:=C) sl 0 0 hs
  rw [ev] at this
  exact this
 ·exact h.elim
theorem zaJ (sim:Sim C) (he:Opds C a e) {s d t:TypeId} {x:Operand} {x':Opd} {n m:Nat} (ho:o.op=.convert s d x) (hs:E.P.underlying s=some (.pointer t)) (hd:E.P.underlying d=some .unsafePointer) (hn:Z4 E.P t=some n) (hn0:n≠0)
  (hx:opd x=some x') (h:xex E (.toU t m) [e x'] g C.L K):Z5 E C a o K:=by
 obtain ⟨j,hj,hjs⟩:∃j,E.P.info? t=some j/\j.size=n:=by unfold Z4 at hn;rw [oms] at hn;exact hn
 simp only [xex] at h
 split at h
 ·rename_i s0 r0 o0 heq
  obtain heq:e x'=.ptr s0 r0 o0:=by simpa using heq
  exact z3e sim he ho hx heq h fun b cells hsh _ hc=>Lib.run_to_unsafe _ ⟨b,0,none⟩ hs hd hj (by omega) hsh hc
 ·exact h.elim
theorem zan (sim:Sim C) (he:Opds C a e) {s d t:TypeId} {x:Operand} {x':Opd} {n:Nat} (ho:o.op=.convert s d x) (hs:E.P.underlying s=some .unsafePointer) (hd:E.P.underlying d=some (.pointer t)) (hn:Z4 E.P t=some n) (hn0:n≠0) (hcs:E.P.cellsOf t=n)
  (hx:opd x=some x') (h:xex E (.ofU t n) [e x'] g C.L K):Z5 E C a o K:=by
 obtain ⟨j,hj,hjs⟩:∃j,E.P.info? t=some j/\j.size=n:=by unfold Z4 at hn;rw [oms] at hn;exact hn
 simp only [xex] at h
 split at h
 ·rename_i s0 r0 o0 heq
  obtain heq:e x'=.ptr s0 r0 o0:=by simpa using heq
  exact z3e sim he ho hx heq h fun b cells hsh h1 hc=>Lib.run_from_unsafe _ ⟨b,0,none⟩ hs hd hj hsh (z4J (by omega) (by rw [hcs];exact (Nat.le_div_iff_mul_le (by omega)).2 (by omega)))
 ·exact h.elim
theorem z7N {g:Nat} (hg:Free C.L g) (wf:Wf E.g0 C) (sim:Sim C) (he:Opds C a e) {s d el:TypeId} {x:Operand} {x':Opd} (ho:o.op=.convert s d x) (hs:E.P.underlying s=some .string) (hd:E.P.underlying d=some (.slice el)) (hel:E.P.underlying el=some (.int .u8))
  (hx:opd x=some x') (h:xex E (.strB el) [e x'] g C.L K):Good E C a o K:=by
 have hv:=he x x' hx
 simp only [xex] at h
 split at h
 ·rename_i t heq
  obtain heq:e x'=.str t:=by simpa using heq
  obtain ⟨htl,h⟩:=h
  rw [heq] at hv
  generalize hxv:a.eval x=xv at hv
  cases hv
  have hw:Lib.bytesWorld C.w el ⟨t.toArray⟩=ZT (yA C).w (.cells (Lib.bytesCells C.w el ⟨t.toArray⟩) el ((Lib.bytesCells C.w el ⟨t.toArray⟩).size,(Lib.bytesCells C.w el ⟨t.toArray⟩).size+1)):=by
   have hh:(Lib.bytesWorld C.w el ⟨t.toArray⟩).heap=C.w.heap.push (.cells (Lib.bytesCells C.w el ⟨t.toArray⟩) el ((Lib.bytesCells C.w el ⟨t.toArray⟩).size,(Lib.bytesCells C.w el ⟨t.toArray⟩).size+1)):=by
    apply Array.ext_getElem?
    intro j
    rw [Array.getElem?_push]
    rcases Nat.lt_trichotomy j C.w.heap.size with h1 | h1 | h1
    ·rw [if_neg (by omega)];exact Lib.bytesWorld_at_old _ _ _ _ h1
    ·rw [if_pos h1,h1];exact Lib.bytesWorld_at_new _ _ _
    ·rw [if_neg (by omega),Array.getElem?_eq_none (by rw [Lib.bytesWorld_size];omega),Array.getElem?_eq_none (by omega)]
   have e1:Lib.bytesWorld C.w el ⟨t.toArray⟩={ (yA C).w with heap:=(Lib.bytesWorld C.w el ⟨t.toArray⟩).heap }:=by
    unfold Lib.bytesWorld World.freeze
    simp only [Nat.one_ne_zero,if_false]
    rfl
   rw [e1,hh];rfl
  have hsz:(Lib.bytesCells C.w el ⟨t.toArray⟩).size=t.length+(grownCap C.w t.length 0 el - t.length):=by
   simp [Lib.bytesCells,ByteArray.size]
  have hcap:t.length<=grownCap C.w t.length 0 el:=by
   exact grownCap_ge _ _ _ _
  refine Zd (s:=convert s d (a.eval x)) (v:=.slice (some ⟨C.w.heap.size,0,none⟩) t.length (grownCap C.w t.length 0 el)) (w':=Lib.bytesWorld C.w el ⟨t.toArray⟩) (by unfold execOp;rw [ho]) ?_ ?_
  ·rw [hxv]
   have:=Lib.run_convert_string_bytes (P:=E.P) C.w s d el ⟨t.toArray⟩ hs hd hel
   simpa [ByteArray.size] using this
  ·rw [hw]
   refine Post.of_ext (Z8 C) rfl ?_
   refine z00 (C:=yA C) (sz:=1) (rows:=zi t) hg (y8 wf) (Zv sim) (.inr ⟨rfl,Nat.le_refl _⟩) ?_ (jD (C:=yA C) (cap':=grownCap C.w t.length 0 el) hg (Nat.le_refl _) hcap (by rw [hsz,Nat.mul_one];omega) (grownCap_le_maxLen _ _ _ _ htl)) h
   refine ⟨by rw [hsz];simp [zi],fun i row hi=>?_⟩
   unfold zi at hi
   rw [List.getElem?_map,oms] at hi
   obtain ⟨b,hb,rfl⟩:=hi
   refine ⟨rfl,fun j y hj=>?_⟩
   cases j with
   | zero=>
    simp at hj;subst hj
    refine ⟨.int .u8 b.toNat,?_,.int _ _⟩
    have hi:=zu hb
    simp only [Lib.bytesCells,Nat.zero_add,Nat.mul_one,Nat.add_zero]
    rw [Array.getElem?_append_left (by simpa using hi)]
    simp [hb]
   | succ j=>simp at hj
 ·exact h.elim
theorem Yc {row:List IV} {b:UInt8} (h:byteOf row=some b):row=[.int .u8 b.toNat]:=by
 unfold byteOf at h
 split at h
 ·rename_i n
  split at h
  ·rename_i hn;cases h;rw [<-hn]
  ·cases h
 ·cases h
theorem z2W (b:UInt8):byteOf [.int .u8 b.toNat]=some b:=by
 unfold byteOf
 simp
theorem z3P {rs:List (List IV)} {s:List UInt8} (h:mapO byteOf rs=some s) {news:List Value} (hf:wG C news 1 rs):∃ns:List Int,news=ns.map (Value.int .u8)/\ns.length=s.length/\∀(i:Nat) (n:Int) (b:UInt8),ns[i]?=some n->s[i]?=some b->UInt8.ofNat n.toNat=b:=by
 refine ⟨(List.range news.length).map fun i=>match news.getD i undef with | .int _ n=>n | _=>0,?_,?_,?_⟩
 ·apply List.ext_getElem?
  intro i
  simp only [List.map_map,List.getElem?_map]
  rcases Nat.lt_or_ge i news.length with hi | hi
  ·have hi':i<rs.length:=by rw [hf.1] at hi;omega
   obtain ⟨b,hb1,hb2⟩:=Zx h i _ (List.getElem?_eq_getElem hi')
   have hrow:=Yc hb2
   obtain ⟨_,h2⟩:=hf.2 i _ (List.getElem?_eq_getElem hi')
   obtain ⟨u,h3,h4⟩:=h2 0 (.int .u8 b.toNat) (by rw [hrow];rfl)
   cases h4
   rw [Nat.mul_one,Nat.add_zero] at h3
   rw [h3,List.getElem?_range hi]
   simp [List.getD,h3]
  ·rw [List.getElem?_eq_none hi,List.getElem?_eq_none (by simpa using hi)];rfl
 ·rw [List.length_map,List.length_range,hf.1,zG h,Nat.mul_one]
 ·intro i n b hn hb
  obtain ⟨row,h1,h2⟩:=zM h i b hb
  obtain ⟨_,h3⟩:=hf.2 i row h1
  obtain ⟨u,h4,h5⟩:=h3 0 (.int .u8 b.toNat) (by rw [Yc h2];rfl)
  cases h5
  rw [Nat.mul_one,Nat.add_zero] at h4
  rw [List.getElem?_map,oms] at hn
  obtain ⟨k,hk,rfl⟩:=hn
  have hi:=zu h4
  rw [List.getElem?_range hi] at hk
  cases hk
  simp [List.getD,h4]
theorem bytes_eq {ns:List Int} {s:List UInt8} (hl:ns.length=s.length) (h:∀(i:Nat) (n:Int) (b:UInt8),ns[i]?=some n->s[i]?=some b->UInt8.ofNat n.toNat=b) :
  ns.foldl (fun r n=>r.push (UInt8.ofNat n.toNat)) ByteArray.empty=⟨s.toArray⟩:=by
 have key:∀(ns:List Int) (r:ByteArray),ns.foldl (fun r n=>r.push (UInt8.ofNat n.toNat)) r=⟨r.data++(ns.map fun n=>UInt8.ofNat n.toNat).toArray⟩:=by
  intro ns
  induction ns with
  | nil=>intro r;simp
  | cons n ns ih=>
   intro r
   rw [List.foldl_cons,ih]
   apply ByteArray.ext
   simp [ByteArray.push]
 rw [key]
 have e1:ns.map (fun n=>UInt8.ofNat n.toNat)=s:=by
  apply List.ext_getElem?
  intro i
  rw [List.getElem?_map]
  rcases Nat.lt_or_ge i s.length with hi | hi
  ·have hi':i<ns.length:=by omega
   rw [List.getElem?_eq_getElem hi',List.getElem?_eq_getElem hi]
   exact congrArg some (h i _ _ (List.getElem?_eq_getElem hi') (List.getElem?_eq_getElem hi))
  ·rw [List.getElem?_eq_none (by omega),List.getElem?_eq_none hi];rfl
 rw [e1]
 apply ByteArray.ext
 show #[]++s.toArray=s.toArray
 simp
theorem z7F (sim:Sim C) (he:Opds C a e) {s d el:TypeId} {x:Operand} {x':Opd} (ho:o.op=.convert s d x) (hs:E.P.underlying s=some (.slice el)) (hel:E.P.underlying el=some (.int .u8)) (hd:E.P.underlying d=some .string)
  (hx:opd x=some x') (h:xex E .bStr [e x'] g C.L K):Z5 E C a o K:=by
 have hv:=he x x' hx
 simp only [xex] at h
 split at h
 ·rename_i t heq
  obtain ⟨rs,h1,h2⟩:=Option.bind_eq_some_iff.1 heq
  have hrs:rowsOf C.L (e x')=some rs:=by
   unfold yx at h1;split at h1
   ·cases h1
   ·exact h1
  have hsl:∃av l c,a.eval x=.slice av l c:=by
   generalize e x'=ex at *
   generalize a.eval x=xv at *
   cases hv<;>first
    | exact ⟨_,_,_,rfl⟩
    | (simp only [yx] at h1;cases h1;done)
    | (simp only [rowsOf] at hrs;cases hrs;done)
  obtain ⟨av,l,c,hxv⟩:=hsl
  rw [hxv] at hv
  have hone:∀row∈rs,row.length=1:=fun row hr=>by
   obtain ⟨i,hi⟩:=List.getElem?_of_mem hr
   obtain ⟨b,_,hb⟩:=Zx h2 i row hi
   rw [Yc hb];rfl
  obtain ⟨news,hfl,hlen,hfirst⟩:=Wl (E:=E) sim hv hrs hone
  obtain ⟨ns,hns,hl,hb⟩:=z3P h2 hfl
  have hl':l=rs.length:=by
   have:(Builtin.lenOf (.slice av l c)).run E.P C.w=(pure rs.length:Sem Nat).run E.P C.w:=by rw [hlen]
   simpa [Builtin.lenOf,Sem.run_pure] using this
  subst hl'
  have hf:=hfirst C.w rfl
  refine zn (s:=convert s d (a.eval x)) (by unfold execOp;rw [ho]) (v:=.string ⟨t.toArray⟩) (w':=C.w) ?_ (Zk (.str _) h)
  rw [hxv,run_convert_bytes_string _ _ _ _ _ _ _ hs hel hd]
  cases av with
  | none=>
   have:news=[]:=by
    have:(Builtin.firstCells 1 rs.length (.slice none rs.length c)).run E.P C.w=.ok #[] C.w:=rfl
    rw [this] at hf
    have:=(Result.ok.inj hf).1
    simpa using this.symm
   subst this
   have hns0:ns=[]:=by simpa using hns.symm
   subst hns0
   have ht:t=[]:=List.eq_nil_of_length_eq_zero (by simpa using hl.symm)
   subst ht
   rfl
  | some av=>
   have hf':(loadCells av rs.length).run E.P C.w=.ok (ns.map (Value.int .u8)).toArray C.w:=by
    rw [<-hns]
    have:(Builtin.firstCells 1 rs.length (.slice (some av) rs.length c))=loadCells av (rs.length*1):=rfl
    rw [this,Nat.mul_one] at hf
    exact hf
   rw [run_bytesToString _ _ _ _ ns hf',bytes_eq hl hb]
 ·exact h.elim
theorem z9L {P:Program} {t:TypeId} (h:zbY P t=true):P.underlying t=some (.int .i32):=by
 unfold zbY at h
 split at h
 ·assumption
 ·cases h
theorem z0b {row:List IV} {n:Int} (h:runeOf row=some n):row=[.int .i32 n]:=by
 unfold runeOf at h
 split at h
 ·cases h;rfl
 ·cases h
theorem z4k {rs:List (List IV)} {ns:List Int} (h:mapO runeOf rs=some ns) {news:List Value} (hf:wG C news 1 rs):news=ns.map (Value.int .i32):=by
 apply List.ext_getElem?
 intro i
 rw [List.getElem?_map]
 rcases Nat.lt_or_ge i news.length with hi | hi
 ·have hi':i<rs.length:=by rw [hf.1] at hi;omega
  obtain ⟨b,hb1,hb2⟩:=Zx h i _ (List.getElem?_eq_getElem hi')
  have hrow:=z0b hb2
  obtain ⟨_,h2⟩:=hf.2 i _ (List.getElem?_eq_getElem hi')
  obtain ⟨u,h3,h4⟩:=h2 0 (.int .i32 b) (by rw [hrow];rfl)
  cases h4
  rw [Nat.mul_one,Nat.add_zero] at h3
  rw [h3,hb1];rfl
 ·rw [List.getElem?_eq_none hi,List.getElem?_eq_none (by rw [zG h];rw [hf.1] at hi;omega)];rfl
theorem z9Y (ns:List Int):runesBytes ns=⟨(runesL ns).toArray⟩:=by
 have key:∀(ns:List Int) (r:ByteArray),ns.foldl (fun r n=>r++Utf8.encode n) r=⟨(r.data.toList++runesL ns).toArray⟩:=by
  intro ns
  induction ns with
  | nil=>intro r;simp [runesL]
  | cons n ns ih=>
   intro r
   rw [List.foldl_cons,ih]
   apply ByteArray.ext
   simp [runesL,ByteArray.data_append]
 unfold runesBytes
 rw [key]
 simp
theorem z7K (sim:Sim C) (he:Opds C a e) {s d el:TypeId} {x:Operand} {x':Opd} (ho:o.op=.convert s d x) (hs:E.P.underlying s=some (.slice el)) (hel:E.P.underlying el=some (.int .i32)) (hd:E.P.underlying d=some .string)
  (hx:opd x=some x') (h:xex E .rStr [e x'] g C.L K):Z5 E C a o K:=by
 have hv:=he x x' hx
 simp only [xex] at h
 split at h
 ·rename_i t heq
  obtain ⟨rs,h1,h2⟩:=Option.bind_eq_some_iff.1 heq
  have hrs:rowsOf C.L (e x')=some rs:=by
   unfold yx at h1;split at h1
   ·cases h1
   ·exact h1
  have hsl:∃av l c,a.eval x=.slice av l c:=by
   generalize e x'=ex at *
   generalize a.eval x=xv at *
   cases hv<;>first
    | exact ⟨_,_,_,rfl⟩
    | (simp only [yx] at h1;cases h1;done)
    | (simp only [rowsOf] at hrs;cases hrs;done)
  obtain ⟨av,l,c,hxv⟩:=hsl
  rw [hxv] at hv
  have hone:∀row∈rs,row.length=1:=fun row hr=>by
   obtain ⟨i,hi⟩:=List.getElem?_of_mem hr
   obtain ⟨b,_,hb⟩:=Zx h2 i row hi
   rw [z0b hb];rfl
  obtain ⟨news,hfl,hlen,hfirst⟩:=Wl (E:=E) sim hv hrs hone
  have hns:=z4k h2 hfl
  have hl':l=rs.length:=by
   have:(Builtin.lenOf (.slice av l c)).run E.P C.w=(pure rs.length:Sem Nat).run E.P C.w:=by rw [hlen]
   simpa [Builtin.lenOf,Sem.run_pure] using this
  subst hl'
  have hf:=hfirst C.w rfl
  refine zn (s:=convert s d (a.eval x)) (by unfold execOp;rw [ho]) (v:=.string ⟨(runesL t).toArray⟩) (w':=C.w) ?_ (Zk (.str _) h)
  rw [hxv,run_convert_runes_string _ _ _ _ _ _ _ hs hel hd]
  cases av with
  | none=>
   have:news=[]:=by
    have:(Builtin.firstCells 1 rs.length (.slice none rs.length c)).run E.P C.w=.ok #[] C.w:=rfl
    rw [this] at hf
    have:=(Result.ok.inj hf).1
    simpa using this.symm
   subst this
   have hns0:t=[]:=by simpa using hns.symm
   subst hns0
   rfl
  | some av=>
   have hf':(loadCells av rs.length).run E.P C.w=.ok (t.map (Value.int .i32)).toArray C.w:=by
    rw [<-hns]
    have:(Builtin.firstCells 1 rs.length (.slice (some av) rs.length c))=loadCells av (rs.length*1):=rfl
    rw [this,Nat.mul_one] at hf
    exact hf
   rw [run_runesToString _ _ _ _ t hf',z9Y]
 ·exact h.elim
theorem z9S (sim:Sim C) (he:Opds C a e) {s t:TypeId} {d:TypeDesc} {x:Operand} {x':Opd} (ho:o.op=.typeAssert x s t true) (ht:E.P.underlying t=some d) (hd:∀ms,d≠.interface ms)
  (hx:opd x=some x') (h:xex E (.tas t) [e x'] g C.L K):Z5 E C a o K:=by
 have hv:=he x x' hx
 generalize hxe:a.eval x=xv at hv
 generalize e x'=ex at *
 simp only [xex] at h
 split at h
 ·rename_i t' v heq
  obtain rfl:ex=.iface t' v:=by simpa using heq
  split at h
  ·rename_i htt
   subst htt
   cases hv with
   | iface _ _ u hu=>
    refine zn (s:=Instr.typeAssert (a.eval x) s t' true) (by unfold execOp;rw [ho]) (v:=.tuple #[u,.bool true]) (w':=C.w) ?_ (Zk (.tup [v,.bool true] [u,.bool true] rfl fun i y hi=>?_) h)
    ·rw [hxe]
     unfold Instr.typeAssert
     rw [Sem.run_bind,run_underlying ht]
     simp only [Result.andThen_ok]
     cases d with
     | interface ms=>exact absurd rfl (hd ms)
     | _=>simp
    ·match i,hi with
     | 0,hi=>cases hi;exact hu
     | 1,hi=>cases hi;exact .bool true
  ·exact h.elim
 ·exact h.elim
theorem z4d (a b:List UInt8):((⟨a.toArray⟩:ByteArray).toList==(⟨b.toArray⟩:ByteArray).toList)=decide (a=b):=by
 rw [ByteArray.toList_eq,ByteArray.toList_eq]
 show (a.toArray.toList==b.toArray.toList)=_
 rw [List.toList_toArray,List.toList_toArray]
 by_cases h:a=b
 ·subst h;simp
 ·rw [decide_eq_false h];simpa using h
theorem jP {P:Program} {D:Nat} {C C':Ctx} (vs us:List Value) (w:World):∀(fs:List Field) (ks:List Nat) (k:Nat) (xs ys:List IV) (r:Bool),jO P fs k=some ks->
  (∀(i:Nat) (x:IV),xs[i]?=some x->∃v,vs[k+i]?=some v/\VR C x v)->(∀(i:Nat) (x:IV),ys[i]?=some x->∃v,us[k+i]?=some v/\VR C' x v)->
  ZW ks xs ys=some r->(Op.eqFields (D+1) vs.toArray us.toArray fs).run P w=.ok r w
 | [],ks,k,xs,ys,r,hp,hx,hy,h=>by
  simp only [jO,sij] at hp;subst hp
  unfold ZW at h
  split at h<;>first | (cases h;done) | skip
  all_goals first
   | (cases h;rfl)
   | (exfalso;simp_all;done)
 | f::fs,ks,k,xs,ys,r,hp,hx,hy,h=>by
  simp only [jO] at hp
  split at hp
  ·rename_i hc
   rw [Bool.and_eq_true,bne_iff_ne,beq_iff_eq] at hc
   obtain ⟨hn,hoff⟩:=hc
   have hpart:∀{v:Value} {l:List Value},(match P.underlying f.type with | some (.int _) | some .string | some .bool=>true | _=>false)=true->l[k]?=some v->(part f.type l.toArray f.offset).run P w=.ok v w:=fun {v l} ht hl=>by
    have h0:l.toArray[f.offset]?=some v:=by rw [hoff];simpa using hl
    cases hu:P.underlying f.type with
    | none=>rw [hu] at ht;cases ht
    | some d=>rw [hu] at ht;cases d<;>first | (cases ht;done) | simp [part,isAgg,run_underlying hu,h0]
   have step:∀{x y:IV} {xs' ys':List IV} {ks':List Nat} {b r':Bool} {v u:Value},xs=x::xs'->ys=y::ys'->jO P fs (k+1)=some ks'->ZW ks' xs' ys'=some r'->r=(b&&r')->
     (match P.underlying f.type with | some (.int _) | some .string | some .bool=>true | _=>false)=true->vs[k]?=some v->us[k]?=some u->(Op.equalIn (D+1) f.type v u).run P w=.ok b w->(Op.eqFields (D+1) vs.toArray us.toArray (f::fs)).run P w=.ok r w:=by
    intro x y xs' ys' ks' b r' v u e1 e2 e3 e4 e5 e6 e7 e8 e9
    subst e1 e2
    simp only [Op.eqFields,if_pos hn,Sem.run_bind,hpart e6 e7,hpart e6 e8,Result.andThen_ok,e9,Sem.run_ite,Sem.run_pure]
    cases b
    ·rw [e5];rfl
    ·rw [e5]
     exact jP vs us w fs ks' (k+1) xs' ys' r' e3 (fun i z hz=>by
      obtain ⟨v,h1,h2⟩:=hx (i+1) z (by simpa using hz)
      exact ⟨v,by rw [<-h1];congr 1;omega,h2⟩) (fun i z hz=>by
      obtain ⟨v,h1,h2⟩:=hy (i+1) z (by simpa using hz)
      exact ⟨v,by rw [<-h1];congr 1;omega,h2⟩) e4
   split at hp
   ·rename_i kk hu
    rw [oms] at hp
    obtain ⟨ks',hp,rfl⟩:=hp
    unfold ZW at h
    split at h<;>first | (cases h;done) | skip
    ·rename_i heq;cases heq
    ·rename_i ks2 k1 a r1 k2 b r2 heq
     cases heq
     split at h
     ·rename_i hkk
      subst hkk
      rw [oms] at h
      obtain ⟨r',h1,rfl⟩:=h
      obtain ⟨v,h2,h3⟩:=hx 0 _ rfl
      obtain ⟨u,h4,h5⟩:=hy 0 _ rfl
      cases h3;cases h5
      exact step rfl rfl hp h1 rfl (by rw [hu]) h2 h4 (by rw [run_equalIn_int w D _ _ _ _ _ hu];rfl)
     ·cases h
    ·rename_i heq;cases heq
    ·rename_i heq;cases heq
   ·rename_i hu
    rw [oms] at hp
    obtain ⟨ks',hp,rfl⟩:=hp
    unfold ZW at h
    split at h<;>first | (cases h;done) | skip
    ·rename_i heq;cases heq
    ·rename_i heq;cases heq
    ·rename_i ks2 a r1 b r2 heq
     cases heq
     rw [oms] at h
     obtain ⟨r',h1,rfl⟩:=h
     obtain ⟨v,h2,h3⟩:=hx 0 _ rfl
     obtain ⟨u,h4,h5⟩:=hy 0 _ rfl
     cases h3;cases h5
     exact step rfl rfl hp h1 rfl (by rw [hu]) h2 h4 (by rw [run_equalIn_string w D _ _ _ hu,z4d])
    ·rename_i heq;cases heq
   ·rename_i hu
    rw [oms] at hp
    obtain ⟨ks',hp,rfl⟩:=hp
    unfold ZW at h
    split at h<;>first | (cases h;done) | skip
    ·rename_i heq;cases heq
    ·rename_i heq;cases heq
    ·rename_i heq;cases heq
    ·rename_i ks2 a r1 b r2 heq
     cases heq
     rw [oms] at h
     obtain ⟨r',h1,rfl⟩:=h
     obtain ⟨v,h2,h3⟩:=hx 0 _ rfl
     obtain ⟨u,h4,h5⟩:=hy 0 _ rfl
     cases h3;cases h5
     exact step rfl rfl hp h1 rfl (by rw [hu]) h2 h4 (by rw [run_equalIn_bool' w D _ _ _ hu];cases a<;>cases b<;>rfl)
   ·cases hp
  ·cases hp
theorem z5g (sim:Sim C) (he:Opds C a e) {op:BinOp} {t ty:TypeId} {fs:Array Field} {x y:Operand} {x' y':Opd} {neg:Bool} {ks:List Nat} (ho:o.op=.binOp op t x y ty) (hop:op=if neg then .neq else .eql) (ht:E.P.underlying t=some (.struct fs))
  (hp:z5K E.P t=some ks) (hx:opd x=some x') (hy:opd y=some y') (h:xex E (.eqA neg ks) [e x',e y'] g C.L K):Z5 E C a o K:=by
 have hxv:=he x x' hx
 have hyv:=he y y' hy
 subst hop
 unfold z5K at hp
 split at hp
 ·rename_i hcond
  simp only [xex] at h
  split at h
  ·rename_i as bs heq
   have h1:e x'=.agg as:=by have:=congrArg List.head? heq;simpa using this
   have h2:e y'=.agg bs:=by have:=congrArg (fun l=>l[1]?) heq;simpa using this
   split at h
   ·rename_i r hr
    rw [h1] at hxv;rw [h2] at hyv
    generalize hxe:a.eval x=xv at hxv
    generalize hye:a.eval y=yv at hyv
    cases hxv with
    | agg _ vs hl hv=>
    cases hyv with
    | agg _ us hl' hv'=>
    have hfo:E.P.fieldsOf t=fs:=by unfold Program.fieldsOf;rw [ht]
    have hrun:(Op.equalIn 10000 t (.agg vs.toArray) (.agg us.toArray)).run E.P C.w=.ok r C.w:=by
     rw [show (10000:Nat)=9999+1 from rfl,run_equalIn_struct C.w 9999 t _ _ (by rw [hfo];exact ht) hcond.1]
     refine jP (D:=9998) (C:=C) (C':=C) vs us C.w _ ks 0 as bs r hp (fun i z hi=>?_) (fun i z hi=>?_) hr
     ·rw [Nat.zero_add]
      exact ⟨vs.getD i undef,by rw [List.getElem?_eq_getElem (by rw [<-hl];exact zu hi)];simp [List.getD,show i<vs.length by rw [<-hl];exact zu hi],hv i z hi⟩
     ·rw [Nat.zero_add]
      exact ⟨us.getD i undef,by rw [List.getElem?_eq_getElem (by rw [<-hl'];exact zu hi)];simp [List.getD,show i<us.length by rw [<-hl'];exact zu hi],hv' i z hi⟩
    refine zn (s:=do eqGuard (if neg then .neq else .eql) t x y (a.eval x) (a.eval y);binOp (if neg then .neq else .eql) t (a.eval x) (a.eval y)) (v:=.bool (if neg then !r else r)) (w':=C.w) (by unfold execOp;rw [ho]) ?_ (Zk (.bool _) h)
    rw [hxe,hye,Sem.run_bind,run_eqGuard_agg C.w _ _ _ _ _ _ hcond.2]
    simp only [Result.andThen_ok]
    cases neg
    ·simp only [Bool.false_eq_true,if_false]
     rw [run_eql_struct,hrun];rfl
    ·simp only [if_true]
     rw [run_neq_struct,hrun];rfl
   ·exact h.elim
  ·exact h.elim
 ·cases hp
theorem z2J {w:World} {b n:Nat} {c:Array Value} {ty:TypeId} {fr:Nat × Nat} (h:w.heap[b]?=some (.cells c ty fr)):∃fr',w.freeze ⟨b,0,none⟩ n=setW w b (.cells c ty fr'):=by
 unfold World.freeze
 split
 ·refine ⟨fr,?_⟩
  unfold setW
  have e1:w.heap.setIfInBounds b (.cells c ty fr)=w.heap:=by
   apply Array.ext_getElem?
   intro j
   rw [Array.getElem?_setIfInBounds]
   split
   ·rename_i hj;subst hj;split
    ·exact h.symm
    ·rename_i hlt;rw [Array.getElem?_eq_none (by omega)] at h;cases h
   ·rfl
  rw [e1]
 ·obtain ⟨lo,hi⟩:=fr
  refine ⟨if lo==hi then (0,0+n) else (min lo 0,max hi (0+n)),?_⟩
  unfold setW
  congr 1
  apply Array.ext_getElem?
  intro j
  rw [Array.getElem?_modify,Array.getElem?_setIfInBounds]
  split
  ·rename_i hj;subst hj
   have hlt:=(Array.getElem?_eq_some_iff.1 h).1
   rw [if_pos hlt,h];rfl
  ·rfl
theorem z8R {s:Nat} {c c':Array Value} {ty ty':TypeId} {fr fr':Nat × Nat} {k:Blk} {r:IV} {v:Value} (wf:Wf E.g0 C) (sim:Sim C) (hs:C.L[s]?=some k) (ha:k.alive=true) (hc:C.w.heap[(C.φ s).blk]?=some (.cells c ty fr)) (hsz:c'.size=c.size)
  (hv:∀C':Ctx,VR C' r v) (h:K r (C.L.set s .dead)):Post E C K v (setW C.w (C.φ s).blk (.cells c' ty' fr')):=by
 have hm:C.mine (C.φ s).blk:=⟨s,k,hs,ha,rfl⟩
 have hb:=(Array.getElem?_eq_some_iff.1 hc).1
 have hw:(setW C.w (C.φ s).blk (.cells c' ty' fr')).heap.size=C.w.heap.size:=by simp [setW]
 have hne:∀b,b≠(C.φ s).blk->(setW C.w (C.φ s).blk (.cells c' ty' fr')).heap[b]?=C.w.heap[b]?:=fun b hb=>Ze hb
 have hk:=WB C s
 have kwf:=Jv (s:=s) wf
 have ext:Ext C ⟨setW C.w (C.φ s).blk (.cells c' ty' fr'),C.φ,C.L.set s .dead,C.X⟩:=by
  refine ⟨by rw [hw];exact Nat.le_refl _,fun b _ hnm=>hne b (fun h=>hnm (h▸hm)),hk.sub,fun _ _=>rfl,hk.bo,hk.len,fun b c0 e0 fr0 hb0=>?_,rfl,rfl,rfl,rfl⟩
  by_cases hbb:b=(C.φ s).blk
  ·subst hbb
   rw [hc] at hb0
   cases hb0
   exact ⟨c',ty',fr',zD hb,hsz⟩
  ·exact ⟨c0,e0,fr0,by show (setW _ _ _).heap[b]?=_;rw [hne b hbb];exact hb0,rfl⟩
 refine ⟨r,C.L.set s .dead,C.φ,h,⟨kwf.inj,kwf.lo,kwf.apart,fun b hx=>by show b<(setW _ _ _).heap.size;rw [hw];exact wf.exlo b hx,by show E.g0<=(setW _ _ _).heap.size;rw [hw];exact wf.g⟩,?_,ext,hv _⟩
 intro t l hl
 rw [List.getElem?_set] at hl
 split at hl
 ·split at hl
  ·cases hl;trivial
  ·cases hl
 ·rename_i hst
  have h1:=sim t l hl
  by_cases hla:l.alive=true
  ·exact h1.mono ext hl (hne _ (fun heq=>hst (wf.inj s t k l hs hl ha hla heq.symm)))
  ·cases l<;>first | trivial | (exfalso;exact hla rfl)
theorem z9o (wf:Wf E.g0 C) (sim:Sim C) (he:Opds C a e) {c:Call} {x y:Operand} {x' y':Opd} {pt t2 el:TypeId} (ho:o.op=.call c) (hcb:c.callee=.builtin .unsafeString) (hargs:c.args.toList=[x,y]) (hat:c.argTypes.toList=[pt,t2])
  (hpt:E.P.underlying pt=some (.pointer el)) (hce:E.P.cellsOf el=1) (hx:opd x=some x') (hy:opd y=some y') (h:xex E (.ustr el) [e x',e y'] g C.L K):Good E C a o K:=by
 have hxv:=he x x' hx
 have hyv:=he y y' hy
 generalize hxe:a.eval x=xv at hxv
 generalize hye:a.eval y=yv at hyv
 have e1:c.args.map a.eval=#[xv,yv]:=by apply Array.ext';simp [hargs,hxe,hye]
 have e2:c.argTypes=#[pt,t2]:=by apply Array.ext';simp [hat]
 have key:∀{u:Value} {w':World},(Builtin.unsafeString_ #[pt,t2] o.type #[xv,yv]).run E.P C.w=.ok u w'->Post E C K u w'->Good E C a o K:=fun {u w'} hr hp=>
  .inl ⟨u,w',by
   rw [yT ho hcb,e1,e2]
   show (do pure (Next.value (<-Builtin.unsafeString_ #[pt,t2] o.type #[xv,yv])):Sem Next).run E.P C.w=_
   rw [Sem.run_bind,hr];rfl,hp⟩
 generalize e x'=ex at *
 generalize e y'=ey at *
 simp only [xex] at h
 split at h
 ·rename_i n heq
  obtain ⟨rfl,rfl⟩:ex=.raw (.pointer none)/\ey=.int .i64 n:=by simpa using heq
  obtain ⟨rfl,h⟩:=h
  cases hxv;cases hyv
  exact key (Lib.run_unsafeString_none _ _ _ _ _) (ZF wf sim (.str []) h)
 ·rename_i s r off n heq
  obtain ⟨rfl,rfl⟩:ex=.ptr s r off/\ey=.int .i64 n:=by simpa using heq
  obtain ⟨rfl,rfl,h⟩:=h
  split at h
  ·rename_i ty' sz rows hL
   obtain ⟨rfl,rfl,rfl,hn0,hmax,h⟩:=h
   split at h
   ·rename_i bs hbs
    obtain ⟨⟨hsz,c0,e0,fr,hc,_,hle,hcells⟩,hb0,c1,fr1,hc1⟩:=sim s _ hL
    rw [hc] at hc1
    obtain ⟨rfl,rfl,rfl⟩:=by simpa using hc1
    cases hxv with
    | ptr _ _ _ hs=>
    cases hyv
    have hlen:=zG hbs
    have ev:(Value.pointer (some ⟨(C.φ s).blk,(C.φ s).base+0*(C.φ s).sz+0,none⟩))=.pointer (some ⟨(C.φ s).blk,0,none⟩):=by rw [hb0];simp
    rw [ev] at key
    rw [hb0] at hle
    have hsh:C.w.shape? (C.φ s).blk=some (e0,c0.size):=by simp [World.shape?,hc]
    have hr:=Lib.run_unsafeString_row (P:=E.P) (w:=C.w) pt t2 o.type e0 hpt hce (C.φ s).blk c0.size hsh bs (fun h0=>by subst h0;simp at hlen;omega) (by omega) (by omega) (fun j b hj=>by
     obtain ⟨row,h5,h6⟩:=zM hbs j b hj
     obtain ⟨_,h7⟩:=hcells j row h5
     obtain ⟨u,h8,h9⟩:=h7 0 (.int .u8 b.toNat) (by rw [Yc h6];rfl)
     cases h9
     rw [hb0,Nat.zero_add,Nat.mul_one,Nat.add_zero] at h8
     have:(⟨(C.φ s).blk,0,none⟩:Addr).add j=⟨(C.φ s).blk,j,none⟩:=by unfold Addr.add;split<;>simp_all
     rw [this]
     simp only [World.cell?,hc]
     exact h8)
    rw [hlen] at hr
    obtain ⟨fr',hfr'⟩:=z2J (n:=rows.length) hc
    rw [hfr'] at hr
    exact key hr (z8R wf sim hL rfl hc rfl (fun _=>.str bs) h)
   ·exact h.elim
  ·exact h.elim
 ·exact h.elim
theorem zbX (c:Array Value) (k:Nat):seg c k []=c:=by
 apply Array.ext'
 simp [seg]
theorem z2A {g:Nat} (hg:Free C.L g) (wf:Wf E.g0 C) (sim:Sim C) (he:Opds C a e) {c:Call} {s x:Operand} {s' x':Opd} {el:TypeId} {m:Nat} {z:List IV} (ho:o.op=.call c) (hcb:c.callee=.builtin .append)
  (hargs:c.args.toList=[s,x]) (h1:(c.argTypes[0]?).bind E.P.underlying=some (.slice el)) (h2:∃d,(c.argTypes[1]?).bind E.P.underlying=some d/\∀k,d≠.int k)
  (hs:opd s=some s') (hx:opd x=some x') (hn:Z4 E.P el=some 1) (hm:vY E.P el=some m) (hz:zeroCells E.P el=some z) (hm0:0<m) (hzn:z.length=1)
  (h:Y1 el m (e s') (e x') g C.L K):Good E C a o K:=by
 obtain ⟨i,zv,hi,hzv,hz3,hz4⟩:=Zn hz
 have hisz:i.size=1:=by unfold Z4 at hn;rw [hi] at hn;exact Option.some.inj hn
 have hiby:i.bytes=m:=by unfold vY at hm;rw [hi] at hm;exact Option.some.inj hm
 rw [obs] at h1
 obtain ⟨t1,ht1,hu1⟩:=h1
 obtain ⟨d,h2,hd⟩:=h2
 rw [obs] at h2
 obtain ⟨t2,ht2,hu2⟩:=h2
 have hu2':∃d,E.P.underlying t2=some d/\∀k,d≠.int k:=⟨d,hu2,hd⟩
 have hsv:=he s s' hs
 have hxv:=he x x' hx
 unfold Y1 at h
 split at h
 ·exact h.elim
 ·rename_i rs hrs
  obtain ⟨hrows,h⟩:=h
  obtain ⟨news,hfl,hlen,hfirst⟩:=Wl (E:=E) sim hxv hrs (fun row hr=>(hrows row hr).1)
  have hone:=hfl.one (fun row hr=>(hrows row hr).2)
  have hnl:news.length=rs.length:=by rw [hfl.1,Nat.mul_one]
  have hrun:∀{v:Value} {w':World},(Builtin.append_ #[t1,t2] o.type #[a.eval s,a.eval x]).run E.P C.w=.ok v w'->Post E C K v w'->Good E C a o K:=by
   intro v w' hr hp
   refine .inl ⟨v,w',?_,hp⟩
   rw [yT ho hcb]
   have e1:c.args.map a.eval=#[a.eval s,a.eval x]:=by
    apply Array.ext';simp [hargs]
   have e2:(Builtin.append_ c.argTypes o.type #[a.eval s,a.eval x])=(Builtin.append_ #[t1,t2] o.type #[a.eval s,a.eval x]):=by
    unfold Builtin.append_
    rw [ht1,ht2]
    rfl
   rw [e1]
   show (do pure (Next.value (<-Builtin.append_ c.argTypes o.type #[a.eval s,a.eval x])):Sem Next).run E.P C.w=_
   rw [e2,Sem.run_bind,hr]
   rfl
  have hcat:∀{rows':List (List IV)} {olds:List Value},wG C olds 1 rows'->wG C (olds++news) 1 (rows'++rs):=by
   intro rows' olds hfo
   refine ⟨by simp [hfo.1,hfl.1],fun i row hi'=>?_⟩
   rcases Nat.lt_or_ge i rows'.length with h5 | h5
   ·rw [List.getElem?_append_left h5] at hi'
    obtain ⟨h6,h7⟩:=hfo.2 i row hi'
    refine ⟨h6,fun j y hj=>?_⟩
    obtain ⟨u,h8,h9⟩:=h7 j y hj
    exact ⟨u,by rw [List.getElem?_append_left (zu h8)];exact h8,h9⟩
   ·rw [List.getElem?_append_right h5] at hi'
    obtain ⟨h6,h7⟩:=hfl.2 _ row hi'
    refine ⟨h6,fun j y hj=>?_⟩
    obtain ⟨u,h8,h9⟩:=h7 j y hj
    refine ⟨u,?_,h9⟩
    rw [List.getElem?_append_right (by rw [hfo.1];omega),<-h8]
    congr 1
    rw [hfo.1];omega
  have hgrow:∀{base:Option Addr} {sCap:Nat} {t:Nat} {olds:List Value} {C1:Ctx},a.eval s=.slice base t sCap->Ext C C1->C1.X=C.X->C1.w=C.w.drew->Wf E.g0 C1->Sim C1->
    (Builtin.firstCells 1 t (.slice base t sCap)).run E.P C.w.drew=.ok olds.toArray C.w.drew->sCap<t+rs.length->(t+rs.length)*m<=70368744177664->
    ∀{rows':List (List IV)},wG C olds 1 rows'->rows'.length=t->Free C1.L g->K (.sl g 0 (t+rs.length) (t+rs.length)) (zK C1.L g (.tcells el 1 (rows'++rs)))->Good E C a o K:=by
   intro base sCap t olds C1 hsv' hext hX hw wf1 sim1 hold hgr hb rows' hfo hlr hlL hK
   obtain ⟨cap,⟨hcap,hcapm⟩,hr⟩:=run_append_grow' (P:=E.P) (t1:=t1) (t2:=t2) (ty:=o.type) (w:=C.w) hu1 hu2' hi hzv (base:=base) (sLen:=t) (sCap:=sCap) hlen (by rw [hisz];exact hold)
    (by rw [hisz];exact hfirst _ rfl) hgr (by rw [hiby];exact hm0) (by rw [hiby];exact hb)
   rw [<-hsv'] at hr
   refine hrun hr (Post.of_ext hext hX ?_)
   have hflat:=z0D ((hcat hfo).mono hext) (Builtin.zeroCells zv.cells (cap - (t+rs.length)))
   have hsz:((olds++news).toArray++Builtin.zeroCells zv.cells (cap - (t+rs.length))).size=cap:=by
    have e1:zv.cells.size=1:=by rw [<-hz3,hzn]
    rw [Array.size_append,size_zeroCells,e1]
    simp [hfo.1,hfl.1,hlr]
    omega
   have hnew:=z00 (E:=E) (C:=C1) (K:=K) (c:=(olds++news).toArray++Builtin.zeroCells zv.cells (cap - (t+rs.length))) (ty:=el) hlL wf1 sim1 (z0f _ _) hflat
    (jD (C:=C1) hlL (e:=el) (k:=.tcells el 1 (rows'++rs)) (sz:=1) (Nat.le_refl _) hcap (by rw [hsz];omega) hcapm) hK
   rw [hw] at hnew
   exact hnew
  split at h
  ·rename_i heq
   rw [heq] at hsv
   generalize hb:a.eval s=sv at hsv
   cases hsv
   by_cases hr:rs=[]
   ·subst hr
    have h7:news=[]:=List.eq_nil_of_length_eq_zero (by rw [hnl];rfl)
    subst h7
    have hr':=ZK (P:=E.P) (t1:=t1) (t2:=t2) (ty:=o.type) (w:=C.w) hu1 hu2' hi (base:=none) (cap:=0) hlen (by rw [hisz];exact hfirst _ rfl)
    rw [<-hb] at hr'
    exact hrun hr' (ZF wf sim (by rw [hb];exact .nsl) (heq▸h.1 rfl))
   ·obtain ⟨h7,h8⟩:=h.2 hr
    have h9:0<rs.length:=List.length_pos_iff.2 hr
    exact hgrow (C1:=yA C) (olds:=[]) (rows':=[]) hb (Z8 C) rfl rfl (y8 wf) (Zv sim) rfl (by omega) (by rw [Nat.zero_add];exact h7) ⟨by simp,fun i row hi=>by simp at hi⟩ rfl hg (by simpa [yA] using h8)
  ·rename_i heq
   rw [heq] at hsv
   generalize hb:a.eval s=sv at hsv
   cases hsv
   by_cases hr:rs=[]
   ·subst hr
    have h7:news=[]:=List.eq_nil_of_length_eq_zero (by rw [hnl];rfl)
    subst h7
    have hr':=ZK (P:=E.P) (t1:=t1) (t2:=t2) (ty:=o.type) (w:=C.w) hu1 hu2' hi (base:=none) (cap:=0) hlen (by rw [hisz];exact hfirst _ rfl)
    rw [<-hb] at hr'
    exact hrun hr' (ZF wf sim (by rw [hb];exact .raw _ rfl) (heq▸h.1 rfl))
   ·obtain ⟨h7,h8⟩:=h.2 hr
    have h9:0<rs.length:=List.length_pos_iff.2 hr
    exact hgrow (C1:=yA C) (olds:=[]) (rows':=[]) hb (Z8 C) rfl rfl (y8 wf) (Zv sim) rfl (by omega) (by rw [Nat.zero_add];exact h7) ⟨by simp,fun i row hi=>by simp at hi⟩ rfl hg (by simpa [yA] using h8)
  ·rename_i t off len cap heq
   rw [heq] at hsv
   generalize hb:a.eval s=sv at hsv
   obtain ⟨rfl,rfl,h⟩:=h
   cases hsv with
   | sl _ _ _ _ av cap' hts hlc hcc ha hmx=>
   split at h
   ·rename_i ty' sz' rows hL
    obtain ⟨rfl,rfl,hrl,h⟩:=h
    obtain ⟨⟨hφ,c0,ty,fr0,hc0,hfr0,hflat⟩,hb0,c1,fr1,hc1⟩:=sim t _ hL
    rw [hc0] at hc1
    obtain ⟨rfl,rfl,rfl⟩:=by simpa using hc1
    subst hrl
    by_cases hcap0:cap'=0
    ·subst hcap0
     have hl0:rows=[]:=List.eq_nil_of_length_eq_zero (by omega)
     subst hl0
     by_cases hr:rs=[]
     ·subst hr
      have h7:news=[]:=List.eq_nil_of_length_eq_zero (by rw [hnl];rfl)
      subst h7
      have hr':=ZK (P:=E.P) (t1:=t1) (t2:=t2) (ty:=o.type) (w:=C.w) hu1 hu2' hi (base:=av) (cap:=0) hlen (by rw [hisz];exact hfirst _ rfl)
      have hb':a.eval s=.slice av 0 0:=hb
      rw [<-hb'] at hr'
      exact hrun hr' (ZF wf sim (r:=.sl t 0 0 0) (by rw [hb'];exact .sl t 0 0 0 av 0 hts (Nat.le_refl _) (Nat.le_refl _) (.inl rfl) (by decide)) (heq▸h.1 rfl))
     ·obtain ⟨h7,h8⟩:=h.2 hr
      have h9:0<rs.length:=List.length_pos_iff.2 hr
      refine hgrow (C1:=jq (yA C) t) (olds:=[]) (rows':=[]) (t:=0) (sCap:=0) (base:=av) hb ((Z8 C).trans (WB _ t)) rfl rfl (Jv (y8 wf)) (Ja (Zv sim)) ?_ (by omega) (by simpa using h7) ⟨by simp,fun i row hi=>by simp at hi⟩ rfl (YQ hg hL rfl) ?_
      ·cases av with
       | none=>rfl
       | some b=>show (loadCells b (0*_)).run E.P _=_;rw [Nat.zero_mul];rfl
      ·simpa [jq,yA] using h8
    ·obtain ⟨rfl,c1,e1,fr1,hc1',hbig⟩:=ha.resolve_left hcap0
     rw [hc0] at hc1'
     obtain ⟨rfl,rfl,rfl⟩:=by simpa using hc1'
     rw [hφ,hb0] at hbig
     rw [hb0] at hflat
     have hb':a.eval s=.slice (some ⟨(C.φ t).blk,0,none⟩) rows.length cap':=by rw [hb,hφ,hb0]
     clear hb
     by_cases hgr:rows.length+rs.length<=cap'
     ·have hle2:0+rows.length*i.size+news.length<=c0.size:=by rw [hisz,hnl];omega
      have hr':=run_append_room' (P:=E.P) (t1:=t1) (t2:=t2) (ty:=o.type) (w:=C.w) hu1 hu2' hi (b:=(C.φ t).blk) (k:=0) (sLen:=rows.length) (sCap:=cap') hlen
       (by rw [hisz];exact hfirst _ rfl) hgr hc0 hfr0 hle2 hone
      rw [<-hb'] at hr'
      by_cases hr:rs=[]
      ·subst hr
       have h7:news=[]:=List.eq_nil_of_length_eq_zero (by rw [hnl];rfl)
       subst h7
       rw [zbX] at hr'
       obtain ⟨_,hf0⟩:∃fr,setW C.w (C.φ t).blk (.cells c0 ty fr0)=C.w:=⟨fr0,by
        unfold setW
        have e1:C.w.heap.setIfInBounds (C.φ t).blk (.cells c0 ty fr0)=C.w.heap:=by
         apply Array.ext_getElem?
         intro j
         rw [Array.getElem?_setIfInBounds]
         split
         ·rename_i hj;subst hj;rw [if_pos (Array.getElem?_eq_some_iff.1 hc0).1];exact hc0.symm
         ·rfl
        rw [e1]⟩
       rw [hf0] at hr'
       refine hrun hr' (ZF wf sim (r:=.sl t 0 rows.length rows.length) ?_ (heq▸h.1 rfl))
       refine .sl t 0 _ _ _ cap' hts (Nat.le_refl _) hcc (.inr ⟨by simp [hφ,hb0],c0,ty,fr0,hc0,by rw [hφ,hb0];exact hbig⟩) hmx
      ·obtain ⟨h7,hK⟩:=h.2 hr
       have hbig2:0+(rows.length+rs.length)*1<=c0.size:=by omega
       have hfg:=z2v (base:=0) (sz:=1) hflat hfl hbig2
       simp only [Nat.zero_add,Nat.mul_one] at hfg
       rw [hisz,Nat.zero_add,Nat.mul_one] at hle2 hr'
       refine hrun hr' ⟨.sl g 0 (rows.length+rs.length) (rows.length+rs.length),zK (C.L.set t .dead) g (Blk.tcells ty 1 (rows++rs)),moveφ C t g 0 1,hK,
        z7E hg hL rfl hc0 (Z9 hle2) wf,z5Z hg hL rfl hc0 (Z9 hle2) wf sim ?_,vS hg hL rfl hc0 (Z9 hle2),?_⟩
       ·have hfg':=hfg.mono (vS (base:=0) (sz:=1) (k:=.tcells ty 1 (rows++rs)) hg hL rfl hc0 (Z9 hle2))
        have hh:(moveC C t g 0 1 (.cells (seg c0 rows.length news) ty fr0) (.tcells ty 1 (rows++rs))).w.heap[(C.φ t).blk]?=some (.cells (seg c0 rows.length news) ty fr0):=zD (Array.getElem?_eq_some_iff.1 hc0).1
        refine ⟨⟨by simp [moveC,moveφ],seg c0 rows.length news,ty,fr0,?_,by rw [Z9 hle2];exact hfr0,?_,?_⟩,by simp [moveC,moveφ],seg c0 rows.length news,fr0,?_⟩
        ·simp only [moveC,moveφ,if_true];exact hh
        ·simpa [moveC,moveφ] using hfg'.1
        ·intro i row hi'
         refine ⟨(hfg'.2 i row hi').1,fun j y hj=>?_⟩
         obtain ⟨u,h7,h8⟩:=(hfg'.2 i row hi').2 j y hj
         exact ⟨u,by simpa [moveC,moveφ] using h7,h8⟩
        ·simp only [moveC,moveφ,if_true];exact hh
       ·refine .sl g 0 _ _ _ cap' ⟨_,Wj (YQ hg hL rfl),rfl⟩ (Nat.le_refl _) hgr (.inr ⟨by simp [moveφ],seg c0 rows.length news,ty,fr0,?_,?_⟩) hmx
        ·simp only [moveφ,if_true];exact zD (Array.getElem?_eq_some_iff.1 hc0).1
        ·rw [Z9 hle2]
         simp only [moveφ,if_true]
         omega
     ·have hr:rs≠[]:=fun h0=>by subst h0;simp at hgr;omega
      obtain ⟨h7,hK⟩:=h.2 hr
      refine hgrow (C1:=jq (yA C) t) (t:=rows.length) (olds:=c0.toList.take rows.length) hb' ((Z8 C).trans (WB _ t)) rfl rfl (Jv (y8 wf)) (Ja (Zv sim)) ?_ (by omega) h7 (rows':=rows) ?_ rfl (YQ hg hL rfl) (by simpa [jq,yA] using hK)
      ·have hfs:=yw (P:=E.P) (w:=C.w.drew) (sz:=1) (n:=rows.length) (b:=(C.φ t).blk) (k:=0) (f:=fun j=>c0.getD j undef) (fun j hj=>by
        have hj':j<c0.size:=by have:=hflat.1;omega
        have:C.w.drew.heap=C.w.heap:=rfl
        simp [World.cell?,this,hc0,hj']) rows.length cap'
       rw [hfs]
       congr 1
       apply Array.ext'
       apply List.ext_getElem?
       intro j
       have hsz0:=hflat.1
       rcases Nat.lt_or_ge j rows.length with hj | hj
       ·have hj':j<c0.size:=by omega
        simp [hj,hj']
       ·simp [List.getElem?_take,Nat.not_lt.2 hj]
      ·have hsz0:=hflat.1
       refine ⟨by simp;omega,fun i row hi=>?_⟩
       obtain ⟨h5,h6⟩:=hflat.2 i row hi
       refine ⟨h5,fun j y hj=>?_⟩
       obtain ⟨u,h8,h9⟩:=h6 j y hj
       have hj1:j=0:=by have:=zu hj;omega
       subst hj1
       refine ⟨u,?_,h9⟩
       have hi':=zu hi
       rw [List.getElem?_take,if_pos (by omega)]
       simpa using h8
   ·exact ve hg wf sim he ho hcb hargs (by rw [obs];exact ⟨t1,ht1,hu1⟩) ⟨d,by rw [obs];exact ⟨t2,ht2,hu2⟩,hd⟩ hs hx hn hm hz hm0 (Nat.le_refl 1) hzn h
   ·exact h.elim
  ·exact h.elim
def Jq (n:Nat) (fr:Nat × Nat):Nat × Nat:=if fr.1==fr.2 then (n,n+1) else (min fr.1 n,max fr.2 (n+1))
theorem z8Y {n:Nat} {fr:Nat × Nat} (h:frOk true n fr):frOk true n (Jq n fr):=by
 unfold Jq
 split
 ·exact .inr ⟨rfl,Nat.le_refl _⟩
 ·rename_i hne
  rcases h with rfl | ⟨_,h⟩
  ·exact absurd rfl hne
  ·exact .inr ⟨rfl,by simp only;omega⟩
theorem zaE {P:Program} {w:World} {b n:Nat} {c:Array Value} {el:TypeId} {fr:Nat × Nat} (h:w.heap[b]?=some (.cells c el fr)) (off:Nat):(markStringish ⟨b,off,none⟩).run P w=.ok () (setW w b (.cells c el (Jq c.size fr))):=by
 have hsh:w.shape? b=some (el,c.size):=by unfold World.shape?;rw [h]
 have hfr:w.freeze ⟨b,c.size,none⟩ 1=setW w b (.cells c el (Jq c.size fr)):=by
  unfold World.freeze setW
  rw [if_neg (by decide)]
  congr 1
  apply Array.ext_getElem?
  intro j
  rw [Array.getElem?_modify,Array.getElem?_setIfInBounds]
  by_cases hj:b=j
  ·subst hj
   have hlt:=(Array.getElem?_eq_some_iff.1 h).1
   rw [if_pos rfl,if_pos rfl,if_pos hlt,h]
   obtain ⟨lo,hi⟩:=fr
   simp only [Option.map_some,Jq]
  ·rw [if_neg hj,if_neg hj]
 simp [markStringish,hsh]
 exact hfr
theorem extF {s:Nat} {k:Blk} {c:Array Value} {el:TypeId} {fr fr':Nat × Nat} (hs:C.L[s]?=some k) (ha:k.alive=true) (hc:C.w.heap[(C.φ s).blk]?=some (.cells c el fr)) :
  Ext C ⟨setW C.w (C.φ s).blk (.cells c el fr'),C.φ,C.L,C.X⟩ where
 size:=by simp [setW]
 frame:=fun b _ hm=>Ze (fun h=>hm ⟨s,k,hs,ha,h.symm⟩)
 sub:=fun b h=>.inl h
 slot:=fun _ _=>rfl
 bo:=fun t ht=>ht
 len:=Nat.le_refl _
 cap:=fun b d e' fr0 h=>by
  by_cases hb:b=(C.φ s).blk
  ·subst hb
   rw [hc] at h
   obtain ⟨rfl,rfl,rfl⟩:=by simpa using h
   exact ⟨c,el,fr',zD (Array.getElem?_eq_some_iff.1 hc).1,rfl⟩
  ·exact ⟨d,e',fr0,(Ze hb).trans h,rfl⟩
 ex:=rfl
 os:=rfl
 tape:=rfl
 output:=rfl
theorem z8q (wf:Wf E.g0 C) (sim:Sim C) (he:Opds C a e) {s el:TypeId} {x:Operand} {x':Opd} (ho:o.op=.convert s s x) (hs:E.P.underlying s=some (.slice el)) (hel:E.P.underlying el=some (.int .u8))
  (hx:opd x=some x') {t off len cap:Nat} (hex:e x'=.sl t off len cap) (h:zc0 t off len cap C.L K):Good E C a o K:=by
 have hv:=he x x' hx
 rw [hex] at hv
 obtain ⟨hc0,h⟩:=h
 generalize hxv:a.eval x=xv at hv
 have hv':=hv
 cases hv with
 | sl _ _ _ _ av cap' hb hl hc ha=>
 obtain ⟨rfl,c,e0,fr,hh,hle⟩:=ha.resolve_left (by omega)
 have key:∀k,C.L[t]?=some k->k.alive=true->(∀(fr':Nat × Nat),frOk true c.size fr'->wH ⟨setW C.w (C.φ t).blk (.cells c e0 fr'),C.φ,C.L,C.X⟩ t k)->frOk true c.size fr->K (.sl t off len cap) C.L->Good E C a o K:=by
  intro k hk hka hbk hfr hK
  have hext:=extF (C:=C) (fr':=Jq c.size fr) hk hka hh
  refine Zd (s:=convert s s (a.eval x)) (v:=.slice (some ⟨(C.φ t).blk,(C.φ t).base+off*(C.φ t).sz,none⟩) len cap') (w':=setW C.w (C.φ t).blk (.cells c e0 (Jq c.size fr))) (by unfold execOp;rw [ho]) ?_ ?_
  ·rw [hxv]
   have hm:=zaE (P:=E.P) (n:=0) hh ((C.φ t).base+off*(C.φ t).sz)
   simp only [convert,run_underlying hs,run_underlying hel,Sem.run_bind,Result.andThen,beq_self_eq_true,hm]
   rfl
  ·refine ⟨.sl t off len cap,C.L,C.φ,hK,?_,?_,hext,hv'.mono hext⟩
   ·exact { inj:=wf.inj,lo:=wf.lo,apart:=wf.apart,exlo:=fun b hx=>by have:=wf.exlo b hx;simpa [setW] using this,g:=by have:=wf.g;simpa [setW] using this }
   ·intro u l hl
    by_cases hut:u=t
    ·subst hut
     rw [hk] at hl;cases hl
     exact hbk _ (z8Y hfr)
    ·by_cases hla:l.alive=true
     ·exact (sim u l hl).mono hext hl (Ze fun hq=>hut (wf.inj u t l k hl hk hla hka hq))
     ·cases l<;>first | trivial | (exfalso;exact hla rfl)
 have cells:∀sz rows,ZX true C t sz rows->frOk true c.size fr/\∀fr':Nat × Nat,frOk true c.size fr'->∀k,C.L[t]?=some k->k.alive=true->ZX true ⟨setW C.w (C.φ t).blk (.cells c e0 fr'),C.φ,C.L,C.X⟩ t sz rows:=by
  rintro sz rows ⟨h1,c',e',fr0,h2,hfr,h3,h4⟩
  rw [hh] at h2
  obtain ⟨rfl,rfl,rfl⟩:=by simpa using h2
  refine ⟨hfr,fun fr' hfr' k hk hka=>⟨h1,c,e0,fr',zD (Array.getElem?_eq_some_iff.1 hh).1,hfr',h3,fun i row hi=>⟨(h4 i row hi).1,fun j y hj=>?_⟩⟩⟩
  obtain ⟨v,h7,h8⟩:=(h4 i row hi).2 j y hj
  exact ⟨v,h7,h8.mono (extF (C:=C) hk hka hh)⟩
 split at h
 ·rename_i ty sz rows hL
  obtain ⟨hk1,hb0,c1,fr1,hk2⟩:=sim t _ hL
  obtain ⟨g1,g2⟩:=cells sz rows hk1
  rw [hh] at hk2
  obtain ⟨rfl,rfl,rfl⟩:=by simpa using hk2
  exact key _ hL rfl (fun fr' hfr'=>⟨g2 fr' hfr' _ hL rfl,hb0,c,fr',zD (Array.getElem?_eq_some_iff.1 hh).1⟩) g1 h
 ·exact h.elim
theorem z6W {g:Nat} (wf:Wf E.g0 C) (sim:Sim C) (he:Opds C a e) {s el:TypeId} {x:Operand} {x':Opd} (ho:o.op=.convert s s x) (hs:E.P.underlying s=some (.slice el)) (hel:E.P.underlying el=some (.int .u8))
  (hx:opd x=some x') (h:xex E .slId [e x'] g C.L K):Good E C a o K:=by
 simp only [xex] at h
 split at h
 ·rename_i t off len cap heq
  obtain heq:e x'=.sl t off len cap:=by simpa using heq
  exact z8q wf sim he ho hs hel hx heq h
 ·exact h.elim
end
end Go.X
end
section
namespace Go.X
open Go
section
variable {E:Env} {C:Ctx} {a:Act} {o:Oper} {e:Opd->IV} {K:IV->List Blk->Prop} {g:Nat}
theorem z8h {st:Bool} {k:IV} {v:Value} (h:VR C k v) (hk:isKey st k=true):keyV k=some v:=by
 cases h<;>first | rfl | (simp [isKey] at hk)
def z3L (d:TypeDesc) (st:Bool):Prop:=(d=.string/\st=true)\/((∃k,d=.int k)/\st=false)
theorem vP {P:Program} {t:TypeId} {st:Bool} (h:keyT P t=some st):∃d,P.underlying t=some d/\z3L d st:=by
 unfold keyT at h
 split at h
 ·rename_i k hk;cases h;exact ⟨_,hk,.inr ⟨⟨k,rfl⟩,rfl⟩⟩
 ·rename_i hk;cases h;exact ⟨_,hk,.inl ⟨rfl,rfl⟩⟩
 ·cases h
theorem zez {a b:List UInt8}:((⟨a.toArray⟩:ByteArray)==⟨b.toArray⟩)=decide (a=b):=by
 show (a.toArray==b.toArray)=_
 by_cases h:a=b
 ·subst h;simp
 ·simp [h]
theorem z0P {d:TypeDesc} {st:Bool} (hd:z3L d st) {x y:IV} {u v:Value} (hx:isKey st x=true) (hu:keyV x=some u) (hv:keyV y=some v) {b:Bool} (h:kEq x y=some b):Instr.sameNow d u v=some b:=by
 cases x<;>simp only [keyV,sij] at hu<;>first | (cases hu;done) | skip
 ·subst hu
  cases y<;>simp only [keyV,sij] at hv<;>first | (cases hv;done) | skip
  ·subst hv
   rcases hd with ⟨rfl,rfl⟩ | ⟨⟨k,rfl⟩,rfl⟩
   ·simp [isKey] at hx
   ·simp only [kEq] at h
    simp only [Instr.sameNow]
    split at h
    ·rename_i hk;rw [if_pos hk];cases h;rfl
    ·cases h
  ·simp [kEq] at h
 ·subst hu
  cases y<;>simp only [keyV,sij] at hv<;>first | (cases hv;done) | skip
  ·simp [kEq] at h
  ·subst hv
   rcases hd with ⟨rfl,rfl⟩ | ⟨⟨k,rfl⟩,rfl⟩
   ·simp only [kEq,sij] at h
    subst h
    simp only [Instr.sameNow,sij]
    exact zez
   ·simp [isKey] at hx
theorem z0Z {d:TypeDesc} {st:Bool} (hd:z3L d st) {x:IV} {u:Value} (hx:isKey st x=true) (hu:keyV x=some u):∀(es:List (IV × IV × Nat)) (ms:List MapEntry) (i:Nat) (r:Option Nat),ms.length=es.length->
  (∀(j:Nat) (e:IV × IV × Nat),es[j]?=some e->∃m,ms[j]?=some m/\keyV e.1=some m.key)->yc x es i=some r->
  match r with
  | none=>Instr.findNow d u ms i=some none
  | some n=>∃j m e,n=i+j/\ms[j]?=some m/\Instr.findNow d u ms i=some (some (n,m.val))/\es[j]?=some e/\kEq x e.1=some true
 | [],[],i,r,_,_,h=>by simp only [yc,sij] at h;subst h;rfl
 | [],_::_,i,r,hl,_,h=>by simp at hl
 | e::es,[],i,r,hl,_,h=>by simp at hl
 | e::es,m::ms,i,r,hl,hk,h=>by
  obtain ⟨m',h1,h2⟩:=hk 0 e rfl
  obtain rfl:m=m':=by simpa using h1
  simp only [yc] at h
  split at h
  ·rename_i hb
   cases h
   have:=z0P hd hx hu h2 hb
   exact ⟨0,m,e,rfl,rfl,by simp only [Instr.findNow,this],rfl,hb⟩
  ·rename_i hb
   have hs:=z0P hd hx hu h2 hb
   have ih:=z0Z hd hx hu es ms (i+1) r (by simpa using hl) (fun j e he=>by simpa using hk (j+1) e (by simpa using he)) h
   cases r with
   | none=>simp only at ih ⊢;simp only [Instr.findNow,hs];exact ih
   | some n=>
    simp only at ih ⊢
    obtain ⟨j,m',e',h3,h4,h5,h6,h7⟩:=ih
    exact ⟨j+1,m',e',by omega,by simpa using h4,by simp only [Instr.findNow,hs];exact h5,by simpa using h6,h7⟩
  ·cases h
theorem run_checkKey {P:Program} {t:TypeId} {d:TypeDesc} {st:Bool} (ht:P.underlying t=some d) (hd:z3L d st) (b:Bool) (v:Value) (w:World):(Instr.checkKey b 10000 t v).run P w=.ok () w:=by
 unfold Instr.checkKey
 rw [Sem.run_bind,zN ht]
 rcases hd with ⟨rfl,rfl⟩ | ⟨⟨k,rfl⟩,rfl⟩<;>rfl
theorem run_findKey {P:Program} {t:TypeId} {d:TypeDesc} (ht:P.underlying t=some d) {u:Value} {es:List MapEntry} {r:Option (Nat × Value)} (h:Instr.findNow d u es 0=some r) (w:World):(Instr.findKey t u es).run P w=.ok r w:=by
 unfold Instr.findKey
 rw [Sem.run_bind,zN ht]
 simp only [Result.andThen_ok,h,Sem.run_pure]
theorem jS {P:Program} {x y:IV} {u v:Value} (hu:keyV x=some u) (hv:keyV y=some v) (h:kEq x y=some true) (w:World):u=v/\(Instr.keyThatStays v u).run P w=.ok u w:=by
 have huv:u=v:=by
  cases x<;>simp only [keyV,sij] at hu<;>first | (cases hu;done) | skip
  all_goals
   cases y<;>simp only [keyV,sij] at hv<;>first | (cases hv;done) | skip
  ·simp only [kEq] at h
   split at h
   ·rename_i hk;subst hk;simp at h;subst h;rw [<-hu,<-hv]
   ·cases h
  ·simp [kEq] at h
  ·simp [kEq] at h
  ·simp [kEq] at h;subst h;rw [<-hu,<-hv]
 refine ⟨huv,?_⟩
 subst huv
 have hb:Instr.sameBits 10000 u u=true:=by
  cases x<;>simp only [keyV,sij] at hu<;>first | (cases hu;done) | skip
  ·subst hu;simp [Instr.sameBits]
  ·subst hu;simp [Instr.sameBits,zez]
 unfold Instr.keyThatStays
 rw [hb];rfl
theorem z2V {P:Program} {C:Ctx} {t:TypeId} {z:IV} (h:z6v P t=some z):∃v,(zeroValue t).run P C.w=.ok v C.w/\VR C z v:=by
 unfold z6v at h
 rw [obs] at h
 obtain ⟨i,hi,h⟩:=h
 rw [obs] at h
 obtain ⟨v,hv,h⟩:=h
 split at h
 ·cases h
 ·exact ⟨_,ZI hi hv _,z1Q h⟩
theorem jk (sim:Sim C) {s c:Nat} {es:List (IV × IV × Nat)} (hL:C.L[s]?=some (.map es c)) {d:TypeDesc} {st:Bool} (hd:z3L d st) {x:IV} {u:Value} (hx:isKey st x=true) (hu:VR C x u) {r:Option Nat} (hr:yc x es 0=some r) :
  ∃ms:Array MapEntry,C.w.heap[(C.φ s).blk]?=some (.map ms c)/\ms.size=es.length/\
   (∀(i:Nat) (e:IV × IV × Nat),es[i]?=some e->∃m,ms[i]?=some m/\keyV e.1=some m.key/\VR C e.2.1 m.val/\m.born=e.2.2)/\
   match r with
   | none=>Instr.findNow d u ms.toList 0=some none
   | some n=>∃m e,ms[n]?=some m/\Instr.findNow d u ms.toList 0=some (some (n,m.val))/\es[n]?=some e/\kEq x e.1=some true:=by
 obtain ⟨ms,h1,h2,h3⟩:=sim s _ hL
 refine ⟨ms,h1,h2,h3,?_⟩
 have:=z0Z hd hx (z8h hu hx) es ms.toList 0 r (by simpa using h2) (fun j e he=>by
  obtain ⟨m,h4,h5,_⟩:=h3 j e he
  exact ⟨m,by simpa using h4,h5⟩) hr
 cases r with
 | none=>exact this
 | some n=>
  obtain ⟨j,m,e,h4,h5,h6,h7,h8⟩:=this
  rw [Nat.zero_add] at h4
  subst h4
  exact ⟨m,e,by simpa using h5,h6,h7,h8⟩
theorem z6y {s:Nat} {v:Value} (h:VR C (.mp s) v):v=.map (some (C.φ s).blk)/\C.born s:=by
 cases h with
 | mp _ hs=>exact ⟨rfl,hs⟩
theorem Zr {ms:Array MapEntry} {c:Nat}:∀x y z,Obj.map ms c≠.cells x y z:=fun _ _ _ h=>by cases h
theorem z6p (wf:Wf E.g0 C) (sim:Sim C) (he:Opds C a e) {t kt el:TypeId} {x i:Operand} {x' i':Opd} {st ok:Bool} {zero:IV} (ho:o.op=.lookup t x i ok) (ht:E.P.underlying t=some (.map kt el)) (hk:keyT E.P kt=some st)
  (hz:z6v E.P el=some zero) (hx:opd x=some x') (hi:opd i=some i') (h:xex E (.mlook st zero ok) [e x',e i'] g C.L K):Z5 E C a o K:=by
 obtain ⟨d,hd,hkd⟩:=vP hk
 have hxv:=he x x' hx
 have hiv:=he i i' hi
 generalize hxe:a.eval x=xv at hxv
 generalize hie:a.eval i=iv at hiv
 generalize e x'=ex at *
 generalize e i'=ei at *
 have hzero:=z2V (C:=C) hz
 obtain ⟨zv,hz1,hz2⟩:=hzero
 have hres:∀{v:Value} {r:IV} {b:Bool},VR C r v->VR C (YT ok r b) (if ok then .tuple #[v,.bool b] else v):=fun {v r b} hv=>by
  cases ok
  ·exact hv
  ·exact .tup [r,.bool b] [v,.bool b] rfl (fun i x hi=>by
    match i,hi with
    | 0,hi=>simp at hi;subst hi;exact hv
    | 1,hi=>simp at hi;subst hi;exact .bool b)
 have key:∀{v:Value} {r:IV} {b:Bool},(Instr.lookup t xv iv ok).run E.P C.w=.ok (if ok then .tuple #[v,.bool b] else v) C.w->VR C r v->K (YT ok r b) C.L->Z5 E C a o K:=fun {v r b} hrun hv hk=>
  zn (s:=Instr.lookup t (a.eval x) (a.eval i) ok) (by unfold execOp;rw [ho]) (by rw [hxe,hie];exact hrun) (Zk (hres hv) hk)
 simp only [xex] at h
 split at h
 ·rename_i k heq
  obtain ⟨rfl,rfl⟩:ex=.raw (.map none)/\ei=k:=by simpa using heq
  cases hxv
  refine key (b:=false) ?_ hz2 h.2
  unfold Instr.lookup
  rw [Sem.run_bind,zN ht]
  simp only [Result.andThen_ok]
  rw [Sem.run_bind,Sem.run_pure]
  simp only [Result.andThen_ok]
  rw [Sem.run_bind,run_checkKey hd hkd]
  simp only [Result.andThen_ok]
  rw [Sem.run_bind,run_findKey (r:=none) hd rfl]
  simp only [Result.andThen_ok]
  rw [Sem.run_bind,hz1]
  simp only [Result.andThen_ok,Sem.run_pure,Sem.run_bind]
 ·rename_i m k hne heq
  obtain ⟨rfl,rfl⟩:ex=m/\ei=k:=by simpa using heq
  unfold wz Yx at h
  split at h
  ·rename_i s
   obtain ⟨hkey,h⟩:=h
   split at h
   ·rename_i es c hL
    split at h
    ·rename_i r hr
     obtain ⟨rfl,hs⟩:=z6y hxv
     obtain ⟨ms,h1,h2,h3,h4⟩:=jk sim hL hkd hkey hiv hr
     have hrun:∀{q:Option (Nat × Value)} {v:Value} {b:Bool},Instr.findNow d iv ms.toList 0=some q->(match q with | some (_,v')=>v=v'/\b=true | none=>v=zv/\b=false)->
       (Instr.lookup t (.map (some (C.φ s).blk)) iv ok).run E.P C.w=.ok (if ok then .tuple #[v,.bool b] else v) C.w:=fun {q v b} hq hv=>by
      unfold Instr.lookup
      rw [Sem.run_bind,zN ht]
      simp only [Result.andThen_ok]
      rw [Sem.run_bind,Zq h1 Zr]
      simp only [Result.andThen_ok]
      rw [Sem.run_bind,Sem.run_pure]
      simp only [Result.andThen_ok]
      rw [Sem.run_bind,run_checkKey hd hkd]
      simp only [Result.andThen_ok]
      rw [Sem.run_bind,run_findKey hd hq]
      simp only [Result.andThen_ok]
      cases q with
      | none=>
       obtain ⟨rfl,rfl⟩:=hv
       simp only
       rw [Sem.run_bind,hz1]
       simp only [Result.andThen_ok,Sem.run_pure,Sem.run_bind]
      | some q=>
       obtain ⟨n,v'⟩:=q
       obtain ⟨rfl,rfl⟩:=hv
       simp only [Result.andThen_ok,Sem.run_pure,Sem.run_bind]
     cases r with
     | none=>exact key (hrun h4 ⟨rfl,rfl⟩) hz2 h
     | some n=>
      obtain ⟨m,e0,h5,h6,h7,h8⟩:=h4
      obtain ⟨m',h9,_,h10,_⟩:=h3 n e0 h7
      obtain rfl:m=m':=by rw [h5] at h9;exact Option.some.inj h9
      have hg:es.getD n default=e0:=by rw [List.getD_eq_getElem?_getD,h7];rfl
      simp only [hg] at h
      exact key (hrun h6 ⟨rfl,rfl⟩) h10 h
    ·exact h.elim
   ·exact h.elim
  ·exact h.elim
 ·exact h.elim
theorem YZ (wf:Wf E.g0 C) (sim:Sim C) {s c c':Nat} {es es':List (IV × IV × Nat)} {ms ms':Array MapEntry} {r:IV} {v:Value} (hL:C.L[s]?=some (.map es c)) (hh:C.w.heap[(C.φ s).blk]?=some (.map ms c)) (hsz:ms'.size=es'.length)
  (hm:∀(i:Nat) (e:IV × IV × Nat),es'[i]?=some e->∃m,ms'[i]?=some m/\keyV e.1=some m.key/\VR C e.2.1 m.val/\m.born=e.2.2) (hv:VR C r v) (h:K r (C.L.set s (.map es' c'))) :
  Post E C K v (setW C.w (C.φ s).blk (.map ms' c')):=by
 have hext:Ext C (setC C s (.map ms' c') (.map es' c')):=Wv hL rfl hh Zr
 refine ⟨r,C.L.set s (.map es' c'),C.φ,h,Jy (o:=.map ms' c') wf hL rfl,vw wf sim hL rfl hh Zr ?_,hext,hv.mono hext⟩
 refine ⟨ms',zD (Array.getElem?_eq_some_iff.1 hh).1,hsz,fun i e he=>?_⟩
 obtain ⟨m,h1,h2,h3,h4⟩:=hm i e he
 exact ⟨m,h1,h2,h3.mono hext,h4⟩
theorem z8S:VR C .und undef:=.und
theorem map_set {C:Ctx} {es:List (IV × IV × Nat)} {ms:Array MapEntry} {n:Nat} {m:MapEntry} {e0:IV × IV × Nat} {x v:IV} {u w:Value} (h3:∀(i:Nat) (e:IV × IV × Nat),es[i]?=some e->∃m,ms[i]?=some m/\keyV e.1=some m.key/\VR C e.2.1 m.val/\m.born=e.2.2)
  (hm:ms[n]?=some m) (he:es[n]?=some e0) (hu:keyV x=some u) (hv:VR C v w) :
  ∀(i:Nat) (e:IV × IV × Nat),(es.set n (x,v,e0.2.2))[i]?=some e->∃m',(ms.modify n fun e=>{ e with key:=u,val:=w })[i]?=some m'/\keyV e.1=some m'.key/\VR C e.2.1 m'.val/\m'.born=e.2.2:=by
 intro i e hi
 obtain ⟨m1,h1,h2,h4,h5⟩:=h3 n e0 he
 obtain rfl:m=m1:=by rw [hm] at h1;exact Option.some.inj h1
 rcases zY hi with ⟨hne,hi'⟩ | ⟨rfl,rfl,_⟩
 ·obtain ⟨m',h6,h7,h8,h9⟩:=h3 i e hi'
  exact ⟨m',by rw [Array.getElem?_modify,if_neg (Ne.symm hne)];exact h6,h7,h8,h9⟩
 ·exact ⟨{ m with key:=u,val:=w },by rw [Array.getElem?_modify,if_pos rfl,hm];rfl,hu,hv,h5⟩
theorem z5o {C:Ctx} {es:List (IV × IV × Nat)} {ms:Array MapEntry} {c:Nat} {x v:IV} {u w:Value} (h2:ms.size=es.length) (h3:∀(i:Nat) (e:IV × IV × Nat),es[i]?=some e->∃m,ms[i]?=some m/\keyV e.1=some m.key/\VR C e.2.1 m.val/\m.born=e.2.2)
  (hu:keyV x=some u) (hv:VR C v w) :
  ∀(i:Nat) (e:IV × IV × Nat),(es++[(x,v,c)])[i]?=some e->∃m',(ms.push { key:=u,val:=w,born:=c })[i]?=some m'/\keyV e.1=some m'.key/\VR C e.2.1 m'.val/\m'.born=e.2.2:=by
 intro i e hi
 rcases wC hi with ⟨hlt,hi'⟩ | ⟨rfl,rfl⟩
 ·obtain ⟨m',h6,h7,h8,h9⟩:=h3 i e hi'
  exact ⟨m',by rw [Array.getElem?_push,if_neg (by omega)];exact h6,h7,h8,h9⟩
 ·exact ⟨_,by rw [Array.getElem?_push,if_pos h2.symm],hu,hv,rfl⟩
theorem z3J (wf:Wf E.g0 C) (sim:Sim C) (he:Opds C a e) {t kt el:TypeId} {m k v:Operand} {m' k' v':Opd} {st:Bool} (ho:o.op=.mapUpdate t m k v\/o.op=.insert t m k v) (ht:E.P.underlying t=some (.map kt el)) (hk:keyT E.P kt=some st)
  (hm:opd m=some m') (hk':opd k=some k') (hv':opd v=some v') (h:xex E (.mset st) [e m',e k',e v'] g C.L K):Good E C a o K:=by
 obtain ⟨d,hd,hkd⟩:=vP hk
 have hmv:=he m m' hm
 have hkv:=he k k' hk'
 have hvv:=he v v' hv'
 generalize hme:a.eval m=mv at hmv
 generalize hke:a.eval k=kv at hkv
 generalize hve:a.eval v=vv at hvv
 generalize e m'=em at *
 generalize e k'=ek at *
 generalize e v'=ev at *
 have key:∀{w':World},(Instr.mapUpdate t mv kv vv).run E.P C.w=.ok () w'->Post E C K undef w'->Good E C a o K:=fun {w'} hrun hp=>by
  refine JV (s:=Instr.mapUpdate t (a.eval m) (a.eval k) (a.eval v)) (by rcases ho with ho | ho<;>(unfold execOp;rw [ho])) (by rw [hme,hke,hve];exact hrun) hp
 simp only [xex,z3l] at h
 unfold Yx at h
 split at h
 ·rename_i s
  obtain ⟨hkey,h⟩:=h
  split at h
  ·rename_i es c hL
   split at h
   ·rename_i r hr
    obtain ⟨rfl,hs⟩:=z6y hmv
    obtain ⟨ms,h1,h2,h3,h4⟩:=jk sim hL hkd hkey hkv hr
    have hku:=z8h hkv hkey
    cases r with
    | none=>
     refine key (w':=setW C.w (C.φ s).blk (.map (ms.push { key:=kv,val:=vv,born:=c }) (c+1))) ?_
      (YZ wf sim hL h1 (by simp [h2]) (z5o h2 h3 hku hvv) z8S h)
     unfold Instr.mapUpdate
     rw [Sem.run_bind,zN ht]
     simp only [Result.andThen_ok]
     rw [Sem.run_bind,Zq h1 Zr]
     simp only [Result.andThen_ok]
     rw [Sem.run_bind,run_checkKey hd hkd]
     simp only [Result.andThen_ok]
     rw [Sem.run_bind,run_findKey hd h4]
     simp only [Result.andThen_ok]
     exact ZR _ h1 Zr
    | some n=>
     obtain ⟨m0,e0,h5,h6,h7,h8⟩:=h4
     obtain ⟨m1,h9,h10,h11,h12⟩:=h3 n e0 h7
     obtain rfl:m0=m1:=by rw [h5] at h9;exact Option.some.inj h9
     have hg:es.getD n default=e0:=by rw [List.getD_eq_getElem?_getD,h7];rfl
     simp only [hg] at h
     obtain ⟨huv,hstay⟩:=jS (P:=E.P) hku h10 h8 C.w
     refine key (w':=setW C.w (C.φ s).blk (.map (ms.modify n fun e=>{ e with key:=kv,val:=vv }) c)) ?_
      (YZ wf sim hL h1 (by simp [h2]) (map_set h3 h5 h7 hku hvv) z8S h)
     unfold Instr.mapUpdate
     rw [Sem.run_bind,zN ht]
     simp only [Result.andThen_ok]
     rw [Sem.run_bind,Zq h1 Zr]
     simp only [Result.andThen_ok]
     rw [Sem.run_bind,run_checkKey hd hkd]
     simp only [Result.andThen_ok]
     rw [Sem.run_bind,run_findKey hd h6]
     simp only [Result.andThen_ok]
     rw [Sem.run_bind]
     simp only [h5,Option.map_some,Option.getD_some,hstay,Result.andThen_ok]
     exact ZR _ h1 Zr
   ·exact h.elim
  ·exact h.elim
 ·exact h.elim
theorem z8m (wf:Wf E.g0 C) (sim:Sim C) (he:Opds C a e) {c:Call} {t kt el:TypeId} {m k:Operand} {m' k':Opd} {st:Bool} (ho:o.op=.call c) (hcb:c.callee=.builtin .delete) (hargs:c.args.toList=[m,k]) (hty:c.argTypes[0]?=some t) (ht:E.P.underlying t=some (.map kt el)) (hk:keyT E.P kt=some st)
  (hm:opd m=some m') (hk':opd k=some k') (h:xex E (.mdel st) [e m',e k'] g C.L K):Good E C a o K:=by
 obtain ⟨d,hd,hkd⟩:=vP hk
 have hmv:=he m m' hm
 have hkv:=he k k' hk'
 have e1:c.args.map a.eval=#[a.eval m,a.eval k]:=by apply Array.ext';simp [hargs]
 generalize hme:a.eval m=mv at hmv
 generalize hke:a.eval k=kv at hkv
 generalize e m'=em at *
 generalize e k'=ek at *
 have key:∀{w':World},(Builtin.delete_ c.argTypes o.type #[mv,kv]).run E.P C.w=.ok (.tuple #[]) w'->Post E C K (.tuple #[]) w'->Good E C a o K:=fun {w'} hrun hp=>by
  refine Zd (s:=Builtin.delete_ c.argTypes o.type #[a.eval m,a.eval k]) (by
   unfold execOp;rw [ho];simp only [resolve,hcb];rw [e1];rfl) (by rw [hme,hke];exact hrun) hp
 have htup:VR C (.tup []) (.tuple #[]):=.tup [] [] rfl (fun i x hi=>by simp at hi)
 simp only [xex,zed] at h
 unfold Yx at h
 split at h
 ·rename_i s
  obtain ⟨hkey,h⟩:=h
  split at h
  ·rename_i es cl hL
   split at h
   ·rename_i r hr
    obtain ⟨rfl,hs⟩:=z6y hmv
    obtain ⟨ms,h1,h2,h3,h4⟩:=jk sim hL hkd hkey hkv hr
    have hrun:∀{q:Option (Nat × Value)} {o':Obj},Instr.findNow d kv ms.toList 0=some q->(match q with | some (i,_)=>o'=.map (ms.eraseIdxIfInBounds i) cl | none=>o'=.map ms cl)->
      (Builtin.delete_ c.argTypes o.type #[.map (some (C.φ s).blk),kv]).run E.P C.w=.ok (.tuple #[]) (setW C.w (C.φ s).blk o'):=fun {q o'} hq ho'=>by
     unfold Builtin.delete_
     simp only [hty,List.getElem?_toArray,List.getElem?_cons_zero,List.getElem?_cons_succ]
     rw [Sem.run_bind,zN ht]
     simp only [Result.andThen_ok]
     rw [Sem.run_bind,Zq h1 Zr]
     simp only [Result.andThen_ok]
     rw [Sem.run_bind,run_checkKey hd hkd]
     simp only [Result.andThen_ok]
     rw [Sem.run_bind,run_findKey hd hq]
     simp only [Result.andThen_ok]
     cases q with
     | none=>subst ho';simp only;rw [Sem.run_bind,ZR _ h1 Zr];rfl
     | some q=>obtain ⟨n,v'⟩:=q;subst ho';simp only;rw [Sem.run_bind,ZR _ h1 Zr];rfl
    cases r with
    | none=>exact key (hrun h4 rfl) (YZ wf sim hL h1 h2 h3 htup h)
    | some n=>
     obtain ⟨m0,e0,h5,h6,h7,h8⟩:=h4
     have hlt:n<es.length:=zf h7
     refine key (hrun h6 rfl) (YZ wf sim hL h1 ?_ (fun i e hi=>?_) htup h)
     ·unfold Array.eraseIdxIfInBounds
      rw [dif_pos (by omega),Array.size_eraseIdx,List.length_eraseIdx,if_pos hlt,h2]
     ·rw [List.getElem?_eraseIdx] at hi
      have hge:∀j,(ms.eraseIdxIfInBounds n)[j]?=if j<n then ms[j]? else ms[j+1]?:=fun j=>by
       unfold Array.eraseIdxIfInBounds
       rw [dif_pos (by omega),Array.getElem?_eraseIdx]
      rw [hge]
      split at hi
      ·rename_i hj;rw [if_pos hj];exact h3 i e hi
      ·rename_i hj;rw [if_neg hj];exact h3 (i+1) e hi
   ·exact h.elim
  ·exact h.elim
 ·exact h.elim
theorem z7M (wf:Wf E.g0 C) (sim:Sim C) (he:Opds C a e) {t kt el:TypeId} {m k:Operand} {m' k':Opd} {st:Bool} {zero:IV} (ho:o.op=.mapEntry t m k) (ht:E.P.underlying t=some (.map kt el)) (hk:keyT E.P kt=some st)
  (hz:z6v E.P el=some zero) (hm:opd m=some m') (hk':opd k=some k') (h:xex E (.ment st zero) [e m',e k'] g C.L K):Good E C a o K:=by
 obtain ⟨d,hd,hkd⟩:=vP hk
 obtain ⟨zv,hz1,hz2⟩:=z2V (C:=C) hz
 have hmv:=he m m' hm
 have hkv:=he k k' hk'
 generalize hme:a.eval m=mv at hmv
 generalize hke:a.eval k=kv at hkv
 generalize e m'=em at *
 generalize e k'=ek at *
 have key:∀{v:Value} {w':World},(Instr.mapEntry t mv kv).run E.P C.w=.ok v w'->Post E C K v w'->Good E C a o K:=fun {v w'} hrun hp=>
  Zd (s:=Instr.mapEntry t (a.eval m) (a.eval k)) (by unfold execOp;rw [ho]) (by rw [hme,hke];exact hrun) hp
 have htup:∀{r:IV} {v:Value} (n:Nat),VR C r v->VR C (.tup [r,.int .i64 n]) (.tuple #[v,goInt n]):=fun {r v} n hv=>.tup [r,.int .i64 n] [v,goInt n] rfl (fun i x hi=>by
  match i,hi with
  | 0,hi=>simp at hi;subst hi;exact hv
  | 1,hi=>simp at hi;subst hi;exact .int _ _)
 simp only [xex,zdt] at h
 unfold Yx at h
 split at h
 ·rename_i s
  obtain ⟨hkey,h⟩:=h
  split at h
  ·rename_i es c hL
   split at h
   ·rename_i r hr
    obtain ⟨rfl,hs⟩:=z6y hmv
    obtain ⟨ms,h1,h2,h3,h4⟩:=jk sim hL hkd hkey hkv hr
    have hku:=z8h hkv hkey
    cases r with
    | none=>
     refine key (v:=.tuple #[zv,goInt c]) (w':=setW C.w (C.φ s).blk (.map (ms.push { key:=kv,val:=zv,born:=c }) (c+1))) ?_
      (YZ wf sim hL h1 (by simp [h2]) (z5o h2 h3 hku hz2) (htup c hz2) h)
     unfold Instr.mapEntry
     rw [Sem.run_bind,zN ht]
     simp only [Result.andThen_ok]
     rw [Sem.run_bind,Zq h1 Zr]
     simp only [Result.andThen_ok]
     rw [Sem.run_bind,run_checkKey hd hkd]
     simp only [Result.andThen_ok]
     rw [Sem.run_bind,run_findKey hd h4]
     simp only [Result.andThen_ok]
     rw [Sem.run_bind,hz1]
     simp only [Result.andThen_ok]
     rw [Sem.run_bind,ZR _ h1 Zr]
     rfl
    | some n=>
     obtain ⟨m0,e0,h5,h6,h7,h8⟩:=h4
     obtain ⟨m1,h9,h10,h11,h12⟩:=h3 n e0 h7
     obtain rfl:m0=m1:=by rw [h5] at h9;exact Option.some.inj h9
     have hg:es.getD n default=e0:=by rw [List.getD_eq_getElem?_getD,h7];rfl
     simp only [hg] at h
     obtain ⟨huv,hstay⟩:=jS (P:=E.P) hku h10 h8 C.w
     have hmod:(ms.modify n fun e=>{ e with key:=kv })=ms.modify n fun e=>{ e with key:=kv,val:=m0.val }:=by
      apply Array.ext_getElem?
      intro j
      rw [Array.getElem?_modify,Array.getElem?_modify]
      by_cases hj:n=j
      ·subst hj;simp [h5]
      ·simp [hj]
     refine key (v:=.tuple #[m0.val,goInt e0.2.2]) (w':=setW C.w (C.φ s).blk (.map (ms.modify n fun e=>{ e with key:=kv,val:=m0.val }) c)) ?_
      (YZ wf sim hL h1 (by simp [h2]) (map_set h3 h5 h7 hku h11) (htup e0.2.2 h11) h)
     unfold Instr.mapEntry
     rw [Sem.run_bind,zN ht]
     simp only [Result.andThen_ok]
     rw [Sem.run_bind,Zq h1 Zr]
     simp only [Result.andThen_ok]
     rw [Sem.run_bind,run_checkKey hd hkd]
     simp only [Result.andThen_ok]
     rw [Sem.run_bind,run_findKey hd h6]
     simp only [Result.andThen_ok]
     rw [Sem.run_bind]
     simp only [h5,Option.map_some,Option.getD_some,hstay,Result.andThen_ok,h12]
     rw [Sem.run_bind,ZR _ h1 Zr,hmod]
     rfl
   ·exact h.elim
  ·exact h.elim
 ·exact h.elim
theorem z2u {es:List (IV × IV × Nat)} {ms:Array MapEntry} {b:Int} (h2:ms.size=es.length) (h3:∀(i:Nat) (e:IV × IV × Nat),es[i]?=some e->∃m,ms[i]?=some m/\m.born=e.2.2) {n:Nat} (h:es.findIdx? (fun e=>(e.2.2:Int)==b)=some n) :
  ms.findIdx? (fun e=>(e.born:Int)==b)=some n:=by
 rw [show ms=ms.toList.toArray from rfl,List.findIdx?_toArray]
 have hmap:ms.toList.map (fun m:MapEntry=>m.born)=es.map (fun e:IV × IV × Nat=>e.2.2):=by
  apply List.ext_getElem?
  intro j
  rw [List.getElem?_map,List.getElem?_map]
  cases he:es[j]? with
  | none=>
   have:ms.toList[j]?=none:=by rw [List.getElem?_eq_none_iff] at he ⊢;simpa [h2] using he
   rw [this];rfl
  | some e=>
   obtain ⟨m,h4,h5⟩:=h3 j e he
   have:ms.toList[j]?=some m:=by simpa using h4
   rw [this];simp [h5]
 have e1:ms.toList.findIdx? (fun e=>(e.born:Int)==b)=(ms.toList.map (fun m:MapEntry=>m.born)).findIdx? (fun e:Nat=>(e:Int)==b):=by rw [List.findIdx?_map];rfl
 have e2:es.findIdx? (fun e=>(e.2.2:Int)==b)=(es.map (fun e:IV × IV × Nat=>e.2.2)).findIdx? (fun e:Nat=>(e:Int)==b):=by rw [List.findIdx?_map];rfl
 rw [e1,hmap,<-e2];exact h
theorem z7p (wf:Wf E.g0 C) (sim:Sim C) (he:Opds C a e) {t:TypeId} {m k v:Operand} {m' k' v':Opd} (ho:o.op=.entryStore t m k v)
  (hm:opd m=some m') (hk':opd k=some k') (hv':opd v=some v') (h:xex E .msto [e m',e k',e v'] g C.L K):Good E C a o K:=by
 have hmv:=he m m' hm
 have hkv:=he k k' hk'
 have hvv:=he v v' hv'
 generalize hme:a.eval m=mv at hmv
 generalize hke:a.eval k=kv at hkv
 generalize hve:a.eval v=vv at hvv
 generalize e m'=em at *
 generalize e k'=ek at *
 generalize e v'=ev at *
 simp only [xex] at h
 split at h
 ·rename_i s ik b v0 heq
  obtain ⟨rfl,rfl,rfl⟩:em=.mp s∧ek=.int ik b∧ev=v0:=by simpa using heq
  unfold zc7 at h
  split at h
  ·rename_i es c hL
   split at h
   ·rename_i n hn
    obtain ⟨rfl,hs⟩:=z6y hmv
    cases hkv
    obtain ⟨ms,h1,h2,h3⟩:=sim s _ hL
    have hf:=z2u h2 (fun i e hi=>by obtain ⟨m,h4,_,_,h5⟩:=h3 i e hi;exact ⟨m,h4,h5⟩) hn
    have hlt:n<es.length:=by
     have:=List.findIdx?_eq_some_iff_findIdx_eq.1 hn
     exact this.1
    have hget:es[n]?=some (es.getD n default):=by rw [List.getD_eq_getElem?_getD,List.getElem?_eq_getElem hlt];rfl
    obtain ⟨m0,h9,h10,h11,h12⟩:=h3 n _ hget
    have hmod:(ms.modify n fun e=>{ e with val:=vv })=ms.modify n fun e=>{ e with key:=m0.key,val:=vv }:=by
     apply Array.ext_getElem?
     intro j
     rw [Array.getElem?_modify,Array.getElem?_modify]
     by_cases hj:n=j
     ·subst hj;simp [h9]
     ·simp [hj]
    refine JV (s:=Instr.entryStore t (a.eval m) (a.eval k) (a.eval v)) (w':=setW C.w (C.φ s).blk (.map (ms.modify n fun e=>{ e with key:=m0.key,val:=vv }) c)) (by unfold execOp;rw [ho]) ?_
     (YZ wf sim hL h1 (by simp [h2]) (map_set h3 h9 hget h10 hvv) z8S h)
    rw [hme,hke,hve]
    unfold Instr.entryStore
    rw [Sem.run_bind,Zq h1 Zr]
    show (match ms.findIdx? (fun e => (e.born : Int) == b) with | some i => setObj (C.φ s).blk (.map (ms.modify i fun e => { e with val := vv }) c) | none => unsupported (.noEntry "instr/MapEntry.the entry is gone") : Sem Unit).run E.P C.w = _
    rw [hf]
    simp only
    rw [ZR _ h1 Zr,hmod]
   ·exact h.elim
  ·exact h.elim
 ·exact h.elim
theorem z6A {g:Nat} (hg:Free C.L g) (wf:Wf E.g0 C) (sim:Sim C) {t:TypeId} (ho:o.op=.makeMap t none) (h:K (.mp g) (zK C.L g (.map [] 0))):Good E C a o K:=by
 refine Zd (s:=Instr.makeMap t none) (v:=.map (some C.w.heap.size)) (w':=ZT C.w (.map #[] 0)) (by unfold execOp;rw [ho];rfl) rfl ?_
 refine ⟨.mp g,zK C.L g (.map [] 0),newφ C g 0,h,z0i (o:=.map #[] 0) hg wf sim,WX (o:=.map #[] 0) hg sim ?_,Yu hg (.map #[] 0) (.map [] 0) 0,?_⟩
 ·exact ⟨#[],by simp only [newC,newφ,if_true];exact Zm,rfl,fun i e hi=>by simp at hi⟩
 ·have hb:(newC C g (.map #[] 0) (.map [] 0) 0).born g:=⟨.map [] 0,Wj hg,rfl⟩
  have:=VR.mp (C:=newC C g (.map #[] 0) (.map [] 0) 0) g hb
  simpa [newC,newφ] using this
theorem z99 (sim:Sim C) (he:Opds C a e) {s d:TypeId} {x:Operand} {x':Opd} {f:FloatKind} {k:IntKind} (ho:o.op=.convert s d x) (hs:E.P.underlying s=some (.int k)) (hd:E.P.underlying d=some (.float f))
  (hx:opd x=some x') (h:xex E (.itof f) [e x'] g C.L K):Z5 E C a o K:=by
 have hv:=he x x' hx
 generalize hxe:a.eval x=xv at hv
 generalize e x'=ex at *
 simp only [xex] at h
 split at h
 ·rename_i k0 n heq
  obtain rfl:ex=.int k0 n:=by simpa using heq
  cases hv
  refine zn (s:=convert s d (a.eval x)) (by unfold execOp;rw [ho]) (v:=.float f (floatOfInt f n)) (w':=C.w) ?_ (Zk (.raw _ rfl) h)
  rw [hxe]
  exact run_convert_int_float _ _ _ _ _ _ (by simp [hs]) hd
 ·exact h.elim
theorem zaO (sim:Sim C) (he:Opds C a e) {c:Call} {x y:Operand} {x' y':Opd} (ho:o.op=.call c) (hcb:c.callee=.builtin .complex) (hargs:c.args.toList=[x,y])
  (hx:opd x=some x') (hy:opd y=some y') (h:xex E .cpx [e x',e y'] g C.L K):Z5 E C a o K:=by
 have hxv:=he x x' hx
 have hyv:=he y y' hy
 have e1:c.args.map a.eval=#[a.eval x,a.eval y]:=by apply Array.ext';simp [hargs]
 generalize hxe:a.eval x=xv at hxv
 generalize hye:a.eval y=yv at hyv
 generalize e x'=ex at *
 generalize e y'=ey at *
 simp only [xex] at h
 split at h
 ·rename_i k p k' q heq
  obtain ⟨rfl,rfl⟩:ex=.raw (.float k p)/\ey=.raw (.float k' q):=by simpa using heq
  obtain ⟨rfl,h⟩:=h
  cases hxv;cases hyv
  refine zn (s:=Builtin.complex_ c.argTypes o.type #[a.eval x,a.eval y]) (v:=.complex k p q) (w':=C.w) (by
   unfold execOp;rw [ho];simp only [resolve,hcb];rw [e1];rfl) ?_ (Zk (.raw _ rfl) h)
  rw [hxe,hye]
  show (if k=k then pure (Value.complex k p q) else stuck _:Sem Value).run E.P C.w=_
  rw [if_pos rfl];rfl
 ·exact h.elim
theorem z8w {g:Nat} (hg:Free C.L g) (wf:Wf E.g0 C) (sim:Sim C) (he:Opds C a e) {t kt el:TypeId} {x:Operand} {x':Opd} (ho:o.op=.range t x) (ht:E.P.underlying t=some (.map kt el)) (hx:opd x=some x')
  (h:xex E .mrng [e x'] g C.L K):Good E C a o K:=by
 have hxv:=he x x' hx
 generalize hxe:a.eval x=xv at hxv
 generalize e x'=ex at *
 simp only [xex] at h
 split at h
 ·rename_i s heq
  obtain rfl:ex=.mp s:=by simpa using heq
  obtain ⟨rfl,hs⟩:=z6y hxv
  split at h
  ·rename_i es c hL
   obtain ⟨ms,h1,h2,h3⟩:=sim s _ hL
   refine Zd (s:=Instr.range t (a.eval x)) (v:=.pointer (some ⟨C.w.heap.size,0,none⟩)) (w':=ZT C.w (.mapIter (some (C.φ s).blk) c #[] c)) (by unfold execOp;rw [ho]) ?_ ?_
   ·rw [hxe]
    unfold Instr.range
    rw [Sem.run_bind,zN ht]
    simp only [Result.andThen_ok]
    rw [Sem.run_bind,Zq h1 Zr]
    rfl
   ·have hsg:s≠g:=fun h0=>by
     subst h0
     rcases hg with h0 | h0
     ·have:=zf hL;omega
     ·rw [hL] at h0;cases h0
    refine ⟨.ptr g 0 0,zK C.L g (.mit s),newφ C g 0,h,z0i (o:=.mapIter (some (C.φ s).blk) c #[] c) hg wf sim,WX (o:=.mapIter (some (C.φ s).blk) c #[] c) hg sim ?_,Yu hg (.mapIter (some (C.φ s).blk) c #[] c) (.mit s) 0,YI hg⟩
    refine ⟨by simp [newC,newφ],z0K hg hs,c,c,?_⟩
    have e1:(newC C g (.mapIter (some (C.φ s).blk) c #[] c) (.mit s) 0).φ s=C.φ s:=by simp [newC,newφ,hsg]
    rw [e1]
    simp only [newC,newφ,if_true];exact Zm
  ·exact h.elim
 ·exact h.elim
theorem z92 (wf:Wf E.g0 C) (sim:Sim C) (he:Opds C a e) {x:Operand} {x':Opd} (ho:o.op=.next x false) (hx:opd x=some x')
  (h:xex E .mnxt [e x'] g C.L K):Good E C a o K:=by
 have hxv:=he x x' hx
 generalize hxe:a.eval x=xv at hxv
 generalize e x'=ex at *
 simp only [xex] at h
 split at h
 ·rename_i t heq
  obtain rfl:ex=.ptr t 0 0:=by simpa using heq
  split at h
  ·rename_i s hT
   split at h
   ·rename_i c hL
    obtain ⟨hb,hs,since,last,hit⟩:=sim t _ hT
    obtain ⟨ms,h1,h2,h3⟩:=sim s _ hL
    have hms:ms=#[]:=Array.eq_empty_of_size_eq_zero (by simpa using h2)
    subst hms
    have hptr:xv=.pointer (some ⟨(C.φ t).blk,0,none⟩):=by
     cases hxv with
     | ptr _ _ _ hs=>rw [hb];simp
    have hvb:VR C (.tup [.bool false]) (.tuple #[.bool false]):=.tup [.bool false] [.bool false] rfl (fun i x hi=>by
     cases i with
     | zero=>simp at hi;subst hi;exact .bool false
     | succ i=>simp at hi)
    have hne:∀c e fr,Obj.mapIter (some (C.φ s).blk) since #[] last≠.cells c e fr:=fun _ _ _ h=>by cases h
    refine Zd (s:=Instr.next (a.eval x) false o.type) (by unfold execOp;rw [ho]) (v:=.tuple #[.bool false]) (w':=C.w) ?_ (ZF wf sim hvb h)
    rw [hxe,hptr]
    unfold Instr.next
    simp only
    rw [Sem.run_bind,Zq hit hne]
    simp only [Result.andThen_ok]
    rw [Sem.run_bind,Zq h1 Zr]
    simp [choose,Sem.run,Question.forced]
   ·exact h.elim
  ·exact h.elim
 ·exact h.elim
end
end Go.X
end
section
namespace Go.X
open Go
section
variable {E:Env} {C:Ctx} {a:Act} {e:Opd->IV} {o:Oper} {K:IV->List Blk->Prop} {g:Nat}
theorem z9s {P:Program} {t1 t2 ty el:TypeId} {sz n:Nat} {w:World} (ht:P.underlying t1=some (.slice el)) (hn:Z4 P el=some sz) {b k dLen dCap:Nat} {xv:Value} {news:List Value} (hl:Builtin.lenOf xv=pure n) (hle:n<=dLen)
  (hnew:(Builtin.firstCells sz n xv).run P w=.ok news.toArray w) {c:Array Value} {ty':TypeId} {fr:Nat × Nat} (hc:w.heap[b]?=some (.cells c ty' fr)) {tc:Bool} (hfr:frOk tc c.size fr) (hfit:k+news.length<=c.size) (hone:∀v∈news,v.oneCell'=true) :
  (Builtin.copy_ #[t1,t2] ty #[.slice (some ⟨b,k,none⟩) dLen dCap,xv]).run P w=.ok (.int .i64 n) (setW w b (.cells (seg c k news) ty' fr)):=by
 have hst:=ZP P b k ty' fr news 0 c w hc hfr (by simpa using hfit) hone
 simp only [Nat.add_zero] at hst
 have hmin:Nat.min n dLen=n:=Nat.min_eq_left hle
 rw [<-JI hc]
 unfold Builtin.copy_
 simp [run_underlying ht,hl,zO hn,hmin,hnew,hst,goInt,seg]
theorem z7P {P:Program} {t1 t2 ty el:TypeId} {sz:Nat} {w:World} (ht:P.underlying t1=some (.slice el)) (hn:Z4 P el=some sz) {d:Option Addr} {dLen dCap:Nat} {xv:Value} (hl:Builtin.lenOf xv=pure 0)
  (hnew:(Builtin.firstCells sz 0 xv).run P w=.ok #[] w):(Builtin.copy_ #[t1,t2] ty #[.slice d dLen dCap,xv]).run P w=.ok (.int .i64 0) w:=by
 have hmin:Nat.min 0 dLen=0:=Nat.zero_min _
 unfold Builtin.copy_
 cases d<;>simp [run_underlying ht,hl,zO hn,hmin,hnew,storeCells,goInt]
theorem z9x (wf:Wf E.g0 C) (sim:Sim C) (he:Opds C a e) {c:Call} {d x:Operand} {d' x':Opd} {el:TypeId} {n:Nat} (ho:o.op=.call c) (hcb:c.callee=.builtin .copy)
  (hargs:c.args.toList=[d,x]) (h1:(c.argTypes[0]?).bind E.P.underlying=some (.slice el)) (hn:Z4 E.P el=some n) (hd:opd d=some d') (hx:opd x=some x') (h:xex E (.copy n) [e d',e x'] g C.L K):Good E C a o K:=by
 rw [obs] at h1
 obtain ⟨t1,ht1,hu1⟩:=h1
 have hdv:=he d d' hd
 have hxv:=he x x' hx
 generalize hde:a.eval d=dv at hdv
 generalize hxe:a.eval x=xv at hxv
 generalize e d'=ed at *
 generalize e x'=ex at *
 have hrun:∀{v:Value} {w':World},(Builtin.copy_ #[t1,t1] o.type #[dv,xv]).run E.P C.w=.ok v w'->Post E C K v w'->Good E C a o K:=by
  intro v w' hr hp
  refine .inl ⟨v,w',?_,hp⟩
  rw [yT ho hcb]
  have e1:c.args.map a.eval=#[dv,xv]:=by
   apply Array.ext';simp [hargs,hde,hxe]
  have e2:(Builtin.copy_ c.argTypes o.type #[dv,xv])=(Builtin.copy_ #[t1,t1] o.type #[dv,xv]):=by
   unfold Builtin.copy_
   rw [ht1]
   rfl
  rw [e1]
  show (do pure (Next.value (<-Builtin.copy_ c.argTypes o.type #[dv,xv])):Sem Next).run E.P C.w=_
  rw [e2,Sem.run_bind,hr]
  rfl
 simp only [xex] at h
 unfold z0u at h
 split at h
 ·rename_i t off len cap
  split at h
  ·rename_i rs hrs
   obtain ⟨hle,hrows,h0,hk⟩:=h
   obtain ⟨news,hfl,hlen,hfirst⟩:=Wl (E:=E) sim hxv hrs (fun row hr=>(hrows row hr).1)
   have hone:=hfl.one (fun row hr=>(hrows row hr).2)
   cases hdv with
   | sl _ _ _ _ ad cap' hs hl hc ha=>
    by_cases hnil:rs=[]
    ·subst hnil
     have hnews:news=[]:=List.eq_nil_of_length_eq_zero (by rw [hfl.1];simp)
     subst hnews
     exact hrun (z7P hu1 hn hlen (hfirst _ rfl)) (ZF wf sim (.int _ _) (h0 rfl))
    ·have hpos:0<rs.length:=List.length_pos_iff.2 hnil
     obtain ⟨rfl, -⟩:=ha.resolve_left (by omega)
     have hk:=hk hnil
     have fin:∀{tc:Bool} {sz':Nat} {rows:List (List IV)},ZX tc C t sz' rows->sz'=n->off+rs.length<=rows.length->
       (∀(c0 c':Array Value) (ty:TypeId) (fr:Nat × Nat),C.w.heap[(C.φ t).blk]?=some (.cells c0 ty fr)->frOk tc c0.size fr->c'.size=c0.size->Flat C c' (C.φ t).base sz' (splice rows off rs)->
        Post E C K (.int .i64 rs.length) (setW C.w (C.φ t).blk (.cells c' ty fr)))->Good E C a o K:=by
      intro tc sz' rows hco hsz hfit hp
      subst hsz
      obtain ⟨hsz,c0,ty,fr,h3,hfr,hf⟩:=hco
      obtain ⟨hle2,hf2⟩:=z3N hf hfl hfit
      rw [hsz] at hrun
      exact hrun (z9s hu1 hn hlen hle (hfirst _ rfl) h3 hfr hle2 hone) (hp c0 _ ty fr h3 hfr (Z9 hle2) hf2)
     split at hk
     ·rename_i sz' rows hL
      obtain ⟨rfl,hfit,hK⟩:=hk
      exact fin (sim t _ hL) rfl hfit fun c0 c' ty fr h3 hfr hsz hf=>J6 wf sim hL h3 hfr hsz hf (.int _ _) hK
     ·rename_i ty0 sz' rows hL
      obtain ⟨rfl,hfit,hK⟩:=hk
      refine fin (sim t _ hL).1 rfl hfit fun c0 c' ty fr h3 hfr hsz hf=>?_
      obtain ⟨_,_,c1,fr1,h4⟩:=sim t _ hL
      have:ty=ty0:=by rw [h3] at h4;cases h4;rfl
      subst this
      exact z2s wf sim hL h3 hfr hsz hf (.int _ _) hK
     ·exact hk.elim
  ·exact h.elim
 ·exact h.elim
theorem z6f {P:Program} {w:World} {t el:TypeId} {n l hb m len cap:Nat} {b:Option Addr} {lo:Option Value} {k k' k'':IntKind} (ht:P.underlying t=some (.slice el)) (hn:Z4 P el=some n)
  (hlo:(lo=none/\l=0)\/lo=some (.int k l)) (h1:l<=hb) (h2:hb<=m) (h3:m<=cap) :
  (Instr.sliceAt t (.slice b len cap) lo (some (.int k' hb)) (some (.int k'' m))).run P w=.ok (.slice (if m=l then b else b.map (·.add (l*n))) (hb - l) (m - l)) w:=by
 have hbd:∀(n y:Nat) (k:IntKind) (c:BoundsCode),n<=y->(Instr.sliceBound (.int k n) y c).run P w=.ok n w:=fun n y k c hny=>by
  unfold Instr.sliceBound
  simp only [asIntOf,Sem.run_bind,Sem.run_pure,Result.andThen_ok]
  rw [if_pos ⟨by omega,by omega⟩]
  simp
 have hsb:(Instr.sliceBounds true len cap lo (some (.int k' hb)) (some (.int k'' m))).run P w=.ok (l,hb,m) w:=by
  unfold Instr.sliceBounds
  rcases hlo with ⟨rfl,rfl⟩ | rfl<;>simp [hbd,h1,h2,h3]
 unfold Instr.sliceAt
 rw [Sem.run_bind,zN ht]
 simp only [Result.andThen_ok]
 unfold Instr.slice
 rw [Sem.run_bind,zN ht]
 simp only [Result.andThen_ok]
 rw [Sem.run_bind,hsb]
 simp only [Result.andThen_ok]
 rw [Sem.run_bind,zO hn]
 rfl
theorem z5G (sim:Sim C) (he:Opds C a e) {t el:TypeId} {x h m:Operand} {lo:Option Operand} {x' h' m':Opd} {lo':Option Opd} {n:Nat} (ho:o.op=.slice t x lo (some h) (some m)) (ht:E.P.underlying t=some (.slice el))
  (hn:Z4 E.P el=some n) (hx:opd x=some x') (hl:opdO lo=some lo') (hh:opd h=some h') (hm:opd m=some m') (hk:xex E (.sl3 n) [e x',e (lo'.getD (.c (.int .i64 0))),e h',e m'] g C.L K):Z5 E C a o K:=by
 have hxv:=he x x' hx
 have hhv:=he h h' hh
 have hmv:=he m m' hm
 generalize hxe:a.eval x=xv at hxv
 generalize hhe:a.eval h=hv at hhv
 generalize hme:a.eval m=mv at hmv
 generalize e x'=ex at *
 generalize e h'=eh at *
 generalize e m'=em at *
 simp only [xex] at hk
 split at hk
 ·rename_i s off len cap k1 l k2 hb k3 mb heq
  obtain ⟨rfl,hle,rfl,rfl⟩:ex=.sl s off len cap/\e (lo'.getD (.c (.int .i64 0)))=.int k1 l/\eh=.int k2 hb/\em=.int k3 mb:=by simpa using heq
  obtain ⟨hsz,h0,h1,h2,h3,hK⟩:=hk
  have hz:lo'=none->l=0:=fun h9=>by
   subst h9
   have:=he (.const (.int .i64 0)) (.c (.int .i64 0)) rfl
   simp only [Option.getD_none] at hle
   rw [hle] at this
   change VR C (.int k1 l) (.int .i64 0) at this
   cases this
   rfl
  cases hhv;cases hmv
  cases hxv with
  | sl _ _ _ _ ad cap' hs hl0 hc ha=>
   obtain ⟨l',rfl⟩:∃l':Nat,l=l':=⟨l.toNat,by omega⟩
   obtain ⟨hb',rfl⟩:∃l':Nat,hb=l':=⟨hb.toNat,by omega⟩
   obtain ⟨mb',rfl⟩:∃l':Nat,mb=l':=⟨mb.toNat,by omega⟩
   have hlo:(lo.map a.eval=none/\l'=0)\/lo.map a.eval=some (.int k1 l'):=by
    cases lo with
    | none=>
     simp only [opdO,sij] at hl
     have:=hz hl.symm
     exact .inl ⟨rfl,by omega⟩
    | some p=>
     simp only [opdO,oms] at hl
     obtain ⟨p',hp,rfl⟩:=hl
     have:=he p p' hp
     simp only [Option.getD_some] at hle
     rw [hle] at this
     right
     generalize hpe:a.eval p=pv at this
     cases this
     simp [hpe]
   refine zn (s:=Instr.sliceAt t (a.eval x) (lo.map a.eval) (some (a.eval h)) (some (a.eval m))) (v:=.slice (if mb'=l' then ad else ad.map (·.add (l'*n))) (hb' - l') (mb' - l')) (by unfold execOp;rw [ho];rfl) (w':=C.w) ?_ (Zk ?_ hK)
   ·rw [hxe,hhe,hme]
    exact z6f ht hn hlo (by omega) (by omega) (by omega)
   ·simp only [Int.toNat_natCast]
    have e1:((hb':Int) - l').toNat=hb' - l':=by omega
    have e2:((mb':Int) - l').toNat=mb' - l':=by omega
    rw [e1,e2]
    refine .sl _ _ _ _ _ _ hs (by omega) (Nat.le_refl _) ?_ (by omega)
    by_cases hml:mb'=l'
    ·exact .inl (by omega)
    ·refine .inr ?_
     obtain ⟨rfl,c,ety,fr,h5,h6⟩:=ha.resolve_left (by omega)
     have hcs:(C.φ s).sz=n:=by
      unfold szOf at hsz
      split at hsz
      ·rename_i sz rows hL;cases hsz;exact (sim s _ hL).1
      ·rename_i ty sz rows hL;cases hsz;exact (sim s _ hL).1.1
      ·cases hsz
     rw [if_neg hml,hcs]
     rw [hcs] at h6
     refine ⟨?_,c,ety,fr,h5,?_⟩
     ·show some (Addr.add _ _)=_
      unfold Addr.add
      congr 1
      split
      ·rename_i h7;simp [Nat.add_mul,h7]
      ·simp;rw [Nat.add_mul];omega
     ·have:(off+l'+(mb' - l'))*n<=(off+cap')*n:=Nat.mul_le_mul_right n (by omega)
      omega
 ·exact hk.elim
end
end Go.X
end
section
namespace Go.X
open Go
section
variable {E:Env}
def yZ (t:Nat):Ren:=fun s=>if s=t then some none else some (some s)
theorem z0A {g0:Nat} {C:Ctx} {t:Nat} {k:Blk} (wf:Wf g0 C) (sim:Sim C) (hk:C.L[t]?=some k) (ha:k.alive=true) :
  Wf g0 ⟨C.w,C.φ,C.L.set t .dead,C.X⟩/\Sim ⟨C.w,C.φ,C.L.set t .dead,C.X⟩/\Ext C ⟨C.w,C.φ,C.L.set t .dead,C.X⟩/\(∀b,Ctx.own ⟨C.w,C.φ,C.L.set t .dead,C.X⟩ b->C.own b)/\z4G C ⟨C.w,C.φ,C.L.set t .dead,C.X⟩ (yZ t):=by
 have hlt:=zf hk
 have hget:∀{s:Nat} {k':Blk},(C.L.set t .dead)[s]?=some k'->(s=t/\k'=.dead)\/(s≠t/\C.L[s]?=some k'):=fun {s k'} h=>by
  by_cases hst:t=s
  ·subst hst;rw [List.getElem?_set_self hlt] at h;exact .inl ⟨rfl,(Option.some.inj h).symm⟩
  ·rw [List.getElem?_set_ne hst] at h;exact .inr ⟨Ne.symm hst,h⟩
 have hal:∀{s:Nat} {k':Blk},(C.L.set t .dead)[s]?=some k'->k'.alive=true->s≠t/\C.L[s]?=some k':=fun {s k'} h ha'=>by
  rcases hget h with ⟨_,rfl⟩ | h
  ·cases ha'
  ·exact h
 have hmine:∀b,Ctx.mine ⟨C.w,C.φ,C.L.set t .dead,C.X⟩ b->C.mine b:=fun b ⟨s,k',h,h1,h2⟩=>⟨s,k',(hal h h1).2,h1,h2⟩
 have hown:∀b,Ctx.own ⟨C.w,C.φ,C.L.set t .dead,C.X⟩ b->C.own b:=fun b h=>h.imp (fun h=>h) (hmine b)
 have hbo:∀s,C.born s->Ctx.born ⟨C.w,C.φ,C.L.set t .dead,C.X⟩ s:=fun s ⟨k',h,h1⟩=>by
  by_cases hst:t=s
  ·subst hst;exact ⟨.dead,List.getElem?_set_self hlt,rfl⟩
  ·exact ⟨k',by show (C.L.set t .dead)[s]?=_;rw [List.getElem?_set_ne hst];exact h,h1⟩
 have hext:Ext C ⟨C.w,C.φ,C.L.set t .dead,C.X⟩:=⟨Nat.le_refl _,fun _ _ _=>rfl,fun b h=>.inl (hmine b h),fun _ _=>rfl,hbo,by show _<=(C.L.set t .dead).length;rw [lls];exact Nat.le_refl _,fun _ c e fr h=>⟨c,e,fr,h,rfl⟩,rfl,rfl,rfl,rfl⟩
 refine ⟨⟨fun s u k1 k2 hs hu h1 h2 h3=>wf.inj s u k1 k2 (hal hs h1).2 (hal hu h2).2 h1 h2 h3,fun b h=>wf.lo b (hmine b h),fun b hx h=>wf.apart b hx (hmine b h),wf.exlo,wf.g⟩,fun s k' h=>?_,hext,hown,fun s k' h=>⟨fun hm _=>?_,fun u hu=>?_⟩⟩
 ·rcases hget h with ⟨_,rfl⟩ | ⟨_,h1⟩
  ·trivial
  ·exact wH.mono hext h1 (sim s k' h1) rfl
 ·have hst:s=t:=by
   unfold yZ at hm
   split at hm
   ·assumption
   ·cases hm
  subst hst
  rintro (hx | ⟨u,k2,h1,h2,h3⟩)
  ·exact wf.apart _ hx ⟨s,k,hk,ha,rfl⟩
  ·obtain ⟨h4,h5⟩:=hal h1 h2
   exact h4 (wf.inj u s k2 k h5 hk h2 ha h3)
 ·have hsu:s=u:=by
   unfold yZ at hu
   split at hu
   ·cases hu
   ·simpa using hu
  subst hsu
  exact ⟨fun hb=>hbo s ⟨k',h,hb⟩,rfl⟩
end
section
variable {E:Env} {C:Ctx} {a:Act} {o:Oper} {e:Opd->IV} {g:Nat} {K:IV->List Blk->Prop}
theorem zbR {P:Program} {w:World} {t el:TypeId} {n l b k:Nat} {lo:Option Value} {q:IntKind} (ht:P.underlying t=some (.array n el)) (hn:Z4 P el=some 1)
  (hlo:(lo=none/\l=0)\/lo=some (.int q l)) (h1:l<=n) :
  (Instr.sliceAt t (.pointer (some ⟨b,k,none⟩)) lo none none).run P w=.ok (.slice (some (if n=l then ⟨b,k,none⟩ else Addr.add ⟨b,k,none⟩ (l*1))) (n - l) (n - l)) w:=by
 have hbd:∀(n y:Nat) (k:IntKind) (c:BoundsCode),n<=y->(Instr.sliceBound (.int k n) y c).run P w=.ok n w:=fun n y k c hny=>by
  unfold Instr.sliceBound
  simp only [asIntOf,Sem.run_bind,Sem.run_pure,Result.andThen_ok]
  rw [if_pos ⟨by omega,by omega⟩]
  simp
 have hsb:(Instr.sliceBounds false n n lo none none).run P w=.ok (l,n,n) w:=by
  unfold Instr.sliceBounds
  rcases hlo with ⟨rfl,rfl⟩ | rfl<;>simp [hbd,h1]
 unfold Instr.sliceAt
 rw [Sem.run_bind,zN ht]
 simp only [Result.andThen_ok,Instr.sureAddr]
 rw [Sem.run_bind,Sem.run_pure]
 simp only [Result.andThen_ok]
 rw [Sem.run_bind,hsb]
 simp only [Result.andThen_ok]
 rw [Sem.run_bind,zO hn]
 rfl
theorem zb1 (wf:Wf E.g0 C) (sim:Sim C) (he:Opds C a e) {t el:TypeId} {n:Nat} {x:Operand} {lo:Option Operand} {x':Opd} {lo':Option Opd} (ho:o.op=.slice t x lo none none) (ht:E.P.underlying t=some (.array n el))
  (hn:Z4 E.P el=some 1) (hx:opd x=some x') (hl:opdO lo=some lo') (h:xex E (.sla n) [e x',e (lo'.getD (.c (.int .i64 0)))] g C.L K):Good E C a o K:=by
 have hxv:=he x x' hx
 generalize hxe:a.eval x=xv at hxv
 generalize e x'=ex at *
 simp only [xex] at h
 split at h
 ·rename_i s k1 l heq
  obtain ⟨rfl,hle⟩:ex=.ptr s 0 0/\e (lo'.getD (.c (.int .i64 0)))=.int k1 l:=by simpa using heq
  split at h
  ·rename_i m row hL
   obtain ⟨rfl,hint,hlen,h0,h1,hK⟩:=h
   have hz:lo'=none->l=0:=fun h9=>by
    subst h9
    have:=he (.const (.int .i64 0)) (.c (.int .i64 0)) rfl
    simp only [Option.getD_none] at hle
    rw [hle] at this
    change VR C (.int k1 l) (.int .i64 0) at this
    cases this
    rfl
   obtain ⟨l',rfl⟩:∃l':Nat,l=l':=⟨l.toNat,by omega⟩
   have hlo:(lo.map a.eval=none/\l'=0)\/lo.map a.eval=some (.int k1 l'):=by
    cases lo with
    | none=>
     simp only [opdO,sij] at hl
     have:=hz hl.symm
     exact .inl ⟨rfl,by omega⟩
    | some p=>
     simp only [opdO,oms] at hl
     obtain ⟨p',hp,rfl⟩:=hl
     have:=he p p' hp
     simp only [Option.getD_some] at hle
     rw [hle] at this
     right
     generalize hpe:a.eval p=pv at this
     cases this
     simp [hpe]
   cases hxv with
   | ptr _ _ _ hs=>
    obtain ⟨hsz,c,ety,fr,h3,hfr,h4,h5⟩:=sim s _ hL
    obtain ⟨wf',sim',hext,hown,hren⟩:=z0A wf sim hL rfl
    have hno:=(hren s _ hL).1 (by simp [yZ]) rfl
    have hrow:=(h5 0 row rfl).2
    refine .inl ⟨.slice (some (if m=l' then ⟨(C.φ s).blk,(C.φ s).base+0*(C.φ s).sz+0,none⟩ else Addr.add ⟨(C.φ s).blk,(C.φ s).base+0*(C.φ s).sz+0,none⟩ (l'*1))) (m - l') (m - l'),C.w,?_,_,C.L.set s .dead,C.φ,hK,wf',sim',hext,?_⟩
    ·unfold execOp
     rw [ho]
     show (do pure (Next.value (<-Instr.sliceAt t (a.eval x) (lo.map a.eval) none none)):Sem Next).run E.P C.w=_
     rw [hxe,Sem.run_bind,zbR ht hn hlo (by omega)]
     rfl
    ·have hrl:((row.drop ((l':Int)).toNat).map fun c=>[c]).length=m - l':=by simp [hlen]
     have hr0:∀(i:Nat) (r:List IV),((row.drop ((l':Int)).toNat).map fun c=>[c])[i]?=some r->∃c',r=[c']/\row[l'+i]?=some c':=fun i r hi=>by
      rw [List.getElem?_map,oms] at hi
      obtain ⟨c',h9,rfl⟩:=hi
      rw [List.getElem?_drop] at h9
      exact ⟨c',rfl,h9⟩
     have hj:∀(c' x:IV) (j:Nat),[c'][j]?=some x->j=0/\x=c':=fun c' x j hj=>by
      cases j with
      | zero=>simp at hj;exact ⟨rfl,hj.symm⟩
      | succ j=>simp at hj
     have hthis:=VR.isl (C:=⟨C.w,C.φ,C.L.set s .dead,C.X⟩) ((row.drop ((l':Int)).toNat).map fun c=>[c]) (some (if m=l' then ⟨(C.φ s).blk,(C.φ s).base+0*(C.φ s).sz+0,none⟩ else Addr.add ⟨(C.φ s).blk,(C.φ s).base+0*(C.φ s).sz+0,none⟩ (l'*1))) (m - l') 1
      (fun i _=>c.getD ((C.φ s).base+0*(C.φ s).sz+(l'+i)) undef) (by omega) (fun i r hi=>by obtain ⟨c',rfl,_⟩:=hr0 i r hi;rfl)
      (fun i r hi=>by
       obtain ⟨c',rfl,h9⟩:=hr0 i r hi
       obtain ⟨k,v,rfl⟩:=hint c' (List.mem_of_getElem? h9)
       rfl) ?_ ?_
     ·rw [hrl] at hthis;exact hthis
     ·by_cases hml:m=l'
      ·exact .inl (List.eq_nil_of_length_eq_zero (by omega))
      ·rw [if_neg hml]
       refine .inr ⟨(C.φ s).blk,(C.φ s).base+0*(C.φ s).sz+0+l'*1,by simp [Addr.add],(Array.getElem?_eq_some_iff.1 h3).1,hno,fun i r hi j x hx=>?_⟩
       obtain ⟨c',rfl,h9⟩:=hr0 i r hi
       obtain ⟨rfl,rfl⟩:=hj _ _ _ hx
       obtain ⟨v,h10,_⟩:=hrow _ _ h9
       have e1:(C.φ s).base+0*(C.φ s).sz+0+l'*1+i*1+0=(C.φ s).base+0*(C.φ s).sz+(l'+i):=by omega
       have e0:(C.φ s).base+0*m+(l'+i)=(C.φ s).base+0*(C.φ s).sz+(l'+i):=by omega
       rw [e1]
       rw [e0] at h10
       simp only [World.cell?,h3,h10,Array.getD_eq_getD_getElem?,Option.getD_some]
       rfl
     ·intro i r hi j x hx
      obtain ⟨c',rfl,h9⟩:=hr0 i r hi
      obtain ⟨rfl,rfl⟩:=hj _ _ _ hx
      obtain ⟨v,h10,h11⟩:=hrow _ _ h9
      obtain ⟨k,v',rfl⟩:=hint _ (List.mem_of_getElem? h9)
      have e0:(C.φ s).base+0*m+(l'+i)=(C.φ s).base+0*(C.φ s).sz+(l'+i):=by omega
      rw [e0] at h10
      simp only [Array.getD_eq_getD_getElem?,h10,Option.getD_some]
      cases h11
      exact .int _ _
  ·exact h.elim
 ·exact h.elim
end
end Go.X
end
