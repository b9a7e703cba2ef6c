/- Parts of the proof: XSound, XFun, XLib, XStep, XLoop, XMerge, XDone, XRace. -/
import Derived.Test.YtjliemjcailckaaGreatDoorXP4
import Derived.Sort.QuietThIn
import Derived.LoopNIn
import Derived.RangeFuncCalls
set_option linter.unusedVariables false
set_option linter.unusedSimpArgs false
set_option linter.unusedSectionVars false
section
namespace Go.X
open Go
section
variable {E:Env} {F:Fence} {C0:Ctx} {N:Nat}
theorem FOk.fn {F:Fence} (h:FOk F) (f:FuncId):F.fn f:=by
 rcases h with rfl | ⟨l,rfl⟩<;>trivial
theorem FOk.depth {F:Fence} (h:FOk F):F.depth=none:=by
 rcases h with rfl | ⟨l,rfl⟩<;>rfl
theorem FOk.calls {F:Fence} (b:FOk F) {n:Nat} {P:Program} {f:FuncId} {args:Array Value} {w:World} {R:Ending->World->Prop} (h:Calls P f args w R):CallsIn F n P f args w R:=by
 rcases b with rfl | ⟨l,rfl⟩
 ·exact callsIn_wide.2 h
 ·exact CallsIn.inRound l (callsIn_wide.2 h)
def DOk (n0:Nat) (C:Ctx):List Deferred->Prop
 | []=>True
 | d::ds=>(∃D,d={ target:=.collected D,args:=#[] }/\n0<=D/\D<C.w.heap.size/\¬C.mine D/\C.w.heap[D]?=some (.deferred (some []))/\∀d'∈ds,d'.target≠.collected D)/\DOk n0 C ds
def z0o (E:Env) (n0:Nat) (C:Ctx) (ds:List Deferred):Prop:=match E.base with
 | none=>DOk n0 C ds
 | some B=>ds=B
def z6i (E:Env) (a:Act):Prop:=∀t,t<E.lo->a.tmps.getD t undef=E.kept t
def Env.plain (E:Env):Prop:=E.lo=0/\E.base=none
theorem DOk.mono {n0:Nat} {C C':Ctx} (h:Ext C C'):∀{b:List Deferred},DOk n0 C b->DOk n0 C' b
 | [],_=>trivial
 | d::b,⟨⟨D,h1,h2,h3,h4,h5,h6⟩,h7⟩=>
  ⟨⟨D,h1,h2,Nat.lt_of_lt_of_le h3 h.size,fun l=>(h.sub D l).elim h4 (fun j=>absurd h3 (Nat.not_lt.2 j)),(h.frame D h3 h4).trans h5,h6⟩,h7.mono h⟩
theorem z0o.mono {E:Env} {n0:Nat} {C C':Ctx} (h:Ext C C') {d:List Deferred} (hd:z0o E n0 C d):z0o E n0 C' d:=by
 unfold z0o at *
 split
 ·rename_i b;rw [b] at hd;exact DOk.mono h hd
 ·rename_i B b;rw [b] at hd;exact hd
theorem z0o.none {E:Env} (d:E.base=none) {n0:Nat} {C:Ctx} {b:List Deferred}:z0o E n0 C b↔DOk n0 C b:=by
 unfold z0o;rw [d]
theorem vg {E:Env} (h:E.lo=0) {a:Act}:z6i E a:=fun t b=>by rw [h] at b;omega
def Rel (E:Env) (C0:Ctx) (N:Nat) (ρ:Rho) (L:List Blk) (a:Act) (w:World):Prop:=
 a.tmps.size=N/\∃φ,Wf E.g0 ⟨w,φ,L,C0.X⟩/\Sim ⟨w,φ,L,C0.X⟩/\Ext C0 ⟨w,φ,L,C0.X⟩/\(∀n,VR ⟨w,φ,L,C0.X⟩ (ρ n) (a.tmps.getD n undef))/\z0o E C0.w.heap.size ⟨w,φ,L,C0.X⟩ a.defers/\z6i E a
def V8 (E:Env) (C0:Ctx) (N:Nat) (Q:Exit->Act->World->Prop):Prop:=
 ∀(x:IV) (v:Value) (L':List Blk) (φ':Nat->Loc) (a:Act) (w':World),E.pan x L'->a.tmps.size=N->Wf E.g0 ⟨w',φ',L',C0.X⟩->Sim ⟨w',φ',L',C0.X⟩->Ext C0 ⟨w',φ',L',C0.X⟩->
  VR ⟨w',φ',L',C0.X⟩ x v->z0o E C0.w.heap.size ⟨w',φ',L',C0.X⟩ a.defers->z6i E a->(∃ρ:Rho,∀n,VR ⟨w',φ',L',C0.X⟩ (ρ n) (a.tmps.getD n undef))->Q (.panic [{ v,recovered:=false }]) a w'
theorem z1b {E:Env} {C0:Ctx} (d:Wf E.g0 C0) (hG:E.G C0.w) {w:World} {l:Nat->Loc} {L:List Blk} (h:Ext C0 ⟨w,l,L,C0.X⟩):E.G w:=by
 refine E.hG C0.w w (fun b j=>?_) hG
 exact h.frame b (Nat.lt_of_lt_of_le j d.g) (fun m=>absurd (d.lo b m) (Nat.not_le.2 j))
theorem Zv {t:Array Value} {d n:Nat} {v:Value} (hd:d<t.size):(t.setIfInBounds d v).getD n undef=if n=d then v else t.getD n undef:=by
 rw [Array.getD_eq_getD_getElem?,Array.getD_eq_getD_getElem?,Array.getElem?_setIfInBounds]
 by_cases h:n=d
 ·subst h;rw [if_pos rfl,if_pos hd,if_pos rfl];rfl
 ·rw [if_neg (Ne.symm h),if_neg h]
theorem put_defers (a:Act) (d:Option Nat) (v:Value):(a.put d v).defers=a.defers:=by cases d<;>rfl
theorem z07 {E:Env} {C0:Ctx} {N:Nat} {ρ:Rho} {L L':List Blk} {a:Act} {w w':World} {u b:Nat->Loc} {dst:Option Nat} {r:IV} {v:Value} (A:a.tmps.size=N) (hd:∀d,dst=some d->d<N)
  (D:Ext C0 ⟨w,u,L,C0.X⟩) (s:∀n,VR ⟨w,u,L,C0.X⟩ (ρ n) (a.tmps.getD n undef)) (l:z0o E C0.w.heap.size ⟨w,u,L,C0.X⟩ a.defers/\z6i E a) (B:E.lo=0\/∀d,dst=some d->E.lo<=d) (q:Wf E.g0 ⟨w',b,L',C0.X⟩) (m:Sim ⟨w',b,L',C0.X⟩)
  (j:Ext ⟨w,u,L,C0.X⟩ ⟨w',b,L',C0.X⟩) (I:VR ⟨w',b,L',C0.X⟩ r v):Rel E C0 N (put ρ dst r) L' (a.put dst v) w':=by
 cases dst with
 | none=>exact ⟨A,b,q,m,D.trans j,fun n=>(s n).mono j,l.1.mono j,l.2⟩
 | some d=>
  refine ⟨by simpa [Act.put] using A,b,q,m,D.trans j,fun n=>?_,l.1.mono j,fun t G=>?_⟩
  rotate_left
  ·show (a.tmps.setIfInBounds d v).getD t undef=_
   rw [Zv (by rw [A];exact hd d rfl),if_neg,l.2 t G]
   rcases B with h | h
   ·rw [h] at G;omega
   ·have:=h d rfl;omega
  show VR _ (if n=d then r else ρ n) ((a.tmps.setIfInBounds d v).getD n undef)
  rw [Zv (by rw [A];exact hd d rfl)]
  by_cases h:n=d
  ·rw [if_pos h,if_pos h];exact I
  ·rw [if_neg h,if_neg h];exact (s n).mono j
theorem VG {P:Program} {o:Op} {x:XO} (h:Y3 P o=some x):∀c,o≠.defer c:=by
 rintro c rfl;cases h
theorem ZX {P:Program} {N:Nat} {ops:List Oper} {o:Oper} {x:zg} (h:Zk P N ops o=some x) :
  Y3 P o.op=some x.op/\x.dst=o.dst/\(∀d,o.dst=some d->d<N)/\((o.guard=none/\x.guard=none)\/∃j b t,o.guard=some (j,b)/\(ops[j]?).bind (·.dst)=some t/\x.guard=some (t,b)):=by
 unfold Zk at h
 rw [obs] at h
 obtain ⟨y,m,h⟩:=h
 split at h
 ·rename_i hd
  have l:∀d,o.dst=some d->d<N:=fun d q=>by
   rw [q] at hd;simpa [zc2] using hd
  split at h
  ·rename_i hg
   simp only [sij] at h;subst h
   exact ⟨m,rfl,l,.inl ⟨hg,rfl⟩⟩
  ·rename_i j b hg
   rw [oms] at h
   obtain ⟨t,r,rfl⟩:=h
   exact ⟨m,rfl,l,.inr ⟨j,b,t,hg,r,rfl⟩⟩
 ·cases h
theorem vH {ops:Array Oper} {tmps:Array Value} {j t:Nat} (h:(ops.toList[j]?).bind (·.dst)=some t) {b:Bool} (d:tmps.getD t undef=.bool b):yielded ops tmps j=some b:=by
 unfold yielded
 rw [<-Array.getElem?_toList,h]
 simp only [Option.bind_some]
 rw [Array.getD_eq_getD_getElem?] at d
 cases ht:tmps[t]? with
 | none=>rw [ht] at d;cases d
 | some v=>rw [ht] at d;simp at d;subst d;rfl
theorem wI {ops:Array Oper} {tmps:Array Value} {j t:Nat} (h:(ops.toList[j]?).bind (·.dst)=some t) (b:tmps.getD t undef=undef):yielded ops tmps j=none:=by
 unfold yielded
 rw [<-Array.getElem?_toList,h]
 simp only [Option.bind_some]
 rw [Array.getD_eq_getD_getElem?] at b
 cases ht:tmps[t]? with
 | none=>rfl
 | some v=>rw [ht] at b;simp at b;subst b;rfl
def Ve (lo:Nat) (o:zg):Bool:=match o.dst with | none=>true | some d=>decide (lo<=d)
theorem Vy {lo:Nat} {o:zg} (h:Ve lo o=true):∀d,o.dst=some d->lo<=d:=fun d hd=>by
 unfold Ve at h;rw [hd] at h;simpa using h
theorem Yq (hF:FOk F) (ax:Wf E.g0 C0) (au:E.G C0.w) {ops:Array Oper} {KV:IV->List Blk->Prop} {next:Act->World->Prop} {Q:Exit->Act->World->Prop} (hP:V8 E C0 N Q) {i:Nat} {o:Oper} {x:zg}
  (ak:E.lo=0\/∀d,x.dst=some d->E.lo<=d) (ho:ops[i]?=some o) (hx:Zk E.P N ops.toList o=some x) {ρ:Rho} {L:List Blk} {a:Act} {w:World} (h:zG E x ρ L KV) (hr:Rel E C0 N ρ L a w)
  (hn:∀v L' a' w',KV v L'->Rel E C0 N (put ρ x.dst v) L' a' w'->next a' w'):wpOpIn F 0 E.P ops Q i next a w:=by
 obtain ⟨aj,A,ag,V⟩:=ZX hx
 obtain ⟨hN,φ,wf,ah,s,O,U⟩:=hr
 have hG:=z1b ax au s
 have m:∀f,o.about E.P w a.eval=some f->F.fn f:=fun f _=>hF.fn f
 have J:KV .und L->next (a.put o.dst undef) w:=fun hs=>
  hn .und L _ w hs (by rw [A];exact z07 hN ag s O U (by rw [<-A];exact ak) wf ah (Ext.refl _) .und)
 have S:xop E x.op (Opd.ev ρ) L KV->o.wpIn F 0 E.P a w next Q:=fun he=>by
  refine ⟨m,?_⟩
  rw [Oper.semAt_eq _ _ _ (VG aj)]
  have ae:=z0u (E:=E) (C:=⟨w,φ,L,C0.X⟩) (a:=a) wf ah hG (WY O) aj he
  have q:∀v w',Post E ⟨w,φ,L,C0.X⟩ KV v w'->next (a.put o.dst v) w':=by
   rintro v w' ⟨r,L',ai,I,B,h3,h4,h5⟩
   exact hn r L' _ w' I (by rw [A];exact z07 hN ag s O U (by rw [<-A];exact ak) B h3 h4 h5)
  have Y:∀v w',Post E ⟨w,φ,L,C0.X⟩ E.pan v w'->Q (.panic [{ v,recovered:=false }]) a w':=by
   rintro v w' ⟨r,L',ai,I,B,h3,h4,h5⟩
   exact hP r v L' ai a w' I hN B h3 (s.trans h4) h5 (U.1.mono h4) U.2 ⟨ρ,fun n=>(O n).mono h4⟩
  rcases ae with ⟨v,w',I,B⟩ | ⟨w',I,B⟩ | ⟨f,args,w',I,B⟩ | ⟨l,fn,tmps,ay,body,w',I,B⟩ | ⟨v,w',I,B⟩
  ·rw [I];exact q v w' B
  ·rw [I];exact q undef w' B
  ·rw [I]
   refine ⟨(fun h=>by rw [hF.depth] at h;cases h),(hF.calls B).mono ?_⟩
   rintro e T ⟨v,⟨rfl,hp⟩ | ⟨rfl,hp⟩⟩
   ·exact q v T hp
   ·exact Y v T hp
  ·rw [I]
   refine ⟨(fun h=>by rw [hF.depth] at h;cases h),(B F hF).mono ?_⟩
   rintro e T ⟨v,rfl,hp⟩
   exact q v T hp
  ·rw [I];exact Y v w' B
 unfold wpOpIn
 simp only [ho]
 unfold zG at h
 rcases V with ⟨hg,af⟩ | ⟨j,b,t,hg,ht,af⟩
 ·rw [af] at h
  rw [if_pos (by simp [Region.wanted,hg])]
  exact S h
 ·rw [af] at h
  simp only at h
  have D:=O t
  split at h
  ·rename_i b' Z
   rw [Z] at D
   have M:a.tmps.getD t undef=.bool b':=by generalize a.tmps.getD t undef=u at D;cases D;rfl
   have hy:=vH ht M
   by_cases hbb:b'=b
   ·rw [if_pos (by simp [Region.wanted,hg,hy,hbb])]
    exact S (h.1 hbb)
   ·rw [if_neg (by simp [Region.wanted,hg,hy,hbb])]
    exact ⟨m,J (h.2 hbb)⟩
  ·rename_i Z
   rw [Z] at D
   have M:a.tmps.getD t undef=undef:=by generalize a.tmps.getD t undef=u at D;cases D;rfl
   have hy:=wI ht M
   rw [if_neg (by simp [Region.wanted,hg,hy])]
   exact ⟨m,J h⟩
  ·exact h.elim
theorem jZ (A:FOk F) (l:Wf E.g0 C0) (j:E.G C0.w) {ops:Array Oper} {K:Rho->List Blk->Prop} {Q:Exit->Act->World->Prop} (I:V8 E C0 N Q)
  (D:∀ρ L a w,K ρ L->Rel E C0 N ρ L a w->Q .normal a w) :
  ∀(m k:Nat) (xs:List zg) (ρ:Rho) (L:List Blk) (a:Act) (w:World),(E.lo=0\/xs.all (Ve E.lo)=true)->k+m=ops.size->zF (Zk E.P N ops.toList) (ops.toList.drop k)=some xs->Y7 E xs ρ L K->Rel E C0 N ρ L a w->
   wpOpsIn F 0 E.P ops Q (List.range' k m) a w
 | 0,k,xs,ρ,L,a,w,hlo,hk,hxs,h,hr=>by
  have:ops.toList.drop k=[]:=List.drop_eq_nil_of_le (by simp;omega)
  rw [this] at hxs
  simp only [zF,sij] at hxs;subst hxs
  exact D ρ L a w h hr
 | m+1,k,xs,ρ,L,a,w,hlo,hk,hxs,h,hr=>by
  have b:k<ops.toList.length:=by simp;omega
  obtain ⟨o,B⟩:∃o,ops.toList[k]?=some o:=⟨_,List.getElem?_eq_getElem b⟩
  have d:ops.toList.drop k=o::ops.toList.drop (k+1):=by
   rw [List.drop_eq_getElem_cons b]
   congr 1
   exact Option.some.inj ((List.getElem?_eq_getElem b).symm.trans B)
  rw [d] at hxs
  simp only [zF] at hxs
  split at hxs
  ·split at hxs
   ·rename_i x J _ M r
    simp only [sij] at hxs;subst hxs
    rw [z19] at h
    have q:ops[k]?=some o:=by rw [<-Array.getElem?_toList];exact B
    show wpOpsIn F 0 E.P ops Q (k::List.range' (k+1) m) a w
    rw [wpOpsIn_cons]
    simp only [List.all_cons,Bool.and_eq_true] at hlo
    exact Yq A l j I (hlo.imp (fun h=>h) fun h=>Vy h.1) q J h hr fun v L' O w' s u=>jZ A l j I D m (k+1) M _ L' O w' (hlo.imp id And.right) od r s u
   ·cases hxs
  ·cases hxs
theorem z8M {o:zg} {ρ:Rho} {L:List Blk} {KV:IV->List Blk->Prop} (h:zG E o.toP ρ L KV):zG E o ρ L KV:=by
 obtain ⟨d,op,g⟩:=o
 cases g with
 | none=>exact z1X h
 | some p=>
  obtain ⟨t,w⟩:=p
  simp only [zG,zg.toP] at h ⊢
  split at h
  ·exact ⟨fun b=>z1X (h.1 b),h.2⟩
  ·exact h
  ·exact h.elim
theorem z6M {ops:Array Oper} {xs:List zg} (h:z8a ops xs=true):z6y ops xs=true:=by
 unfold z8a at h
 rw [Bool.and_eq_true] at h
 exact h.2
theorem ZM (hF:FOk F) (Z:Wf E.g0 C0) (M:E.G C0.w) {id:Nat} {ops:Array Oper} {K:Rho->List Blk->Prop} {Q:Exit->Act->World->Prop} (hP:V8 E C0 N Q) (hm:E.P.follows .mixedOrders=true)
  {xs0 xs:List zg} (T:E.lo=0\/xs.all (Ve E.lo)=true) (B:zF (Zk E.P N ops.toList) ops.toList=some xs0) (V:∀(i:Nat) (x:zg),xs[i]?=some x->∃j,xs0[i]?=some j/\(x=j\/x=j.toP)) (hl:xs.length=xs0.length) (hB:z1S ops xs=true)
  {ρ:Rho} {L:List Blk} {a:Act} {w:World} (h:Y7 E xs ρ L K) (m:Rel E C0 N ρ L a w) (hQ:∀ρ L a w,K ρ L->Rel E C0 N ρ L a w->Q .normal a w):(Code.region id ops true).wpIn F 0 E.P Q a w:=by
 unfold z1S at hB
 have d:xs.length=ops.size:=by rw [hl,zu B];simp
 have l:Rel E C0 N ρ L a w.drew:=by
  obtain ⟨hN,φ,wf,J,r,Y,A⟩:=m
  exact ⟨hN,φ,Zu wf,Zc J,r.trans (zA _),fun n=>(Y n).mono (zA _),A.1.mono (zA _),A.2⟩
 refine wpIn_region_any hm ?_
 have q:z0n E ops xs K ops.size (Array.replicate ops.size false) ρ L:=by
  have:=WG (E:=E) (K:=K) d xs 0 (Array.replicate ops.size false) ρ L (by simp) (by simp) (by rw [d];exact hB) h
  rwa [d] at this
 have key:∀(fuel:Nat) (b:Array Bool) (ρ:Rho) (L:List Blk) (a:Act) (w:World),z0n E ops xs K fuel b ρ L->Rel E C0 N ρ L a w->wpAnyIn F 0 E.P .any ops Q fuel b a w:=by
  intro fuel
  induction fuel with
  | zero=>intro b ρ L a w h m;exact ⟨h.1,hQ ρ L a w h.2 m⟩
  | succ fuel ih=>
   intro b ρ L a w h m
   refine ⟨fun h0=>hQ ρ L a w (h.1 h0) m,fun i hi=>?_⟩
   have X:=h.2 i hi
   obtain ⟨_,o,U,_⟩:=mem_ready.1 hi
   have D:i<xs.length:=by rw [d];exact (Array.getElem?_eq_some_iff.1 U).1
   obtain ⟨x,I⟩:∃x,xs[i]?=some x:=⟨_,List.getElem?_eq_getElem D⟩
   obtain ⟨j,O,u⟩:=V i x I
   obtain ⟨o',s,hc⟩:=zq B i j O
   rw [Array.getElem?_toList,U] at s
   obtain rfl:=Option.some.inj s
   simp only [sOp,I] at X
   have hd:x.dst=j.dst:=by rcases u with rfl | rfl<;>rfl
   have h2:zG E j ρ L fun v L'=>z0n E ops xs K fuel (b.setIfInBounds i true) (put ρ x.dst v) L':=by
    rcases u with rfl | rfl
    ·exact X
    ·exact z8M X
   exact Yq hF Z M hP (T.imp (fun h=>h) fun h=>by rw [<-hd];rw [List.all_eq_true] at h;exact Vy (h x (List.mem_of_getElem? I))) U hc h2 m fun v L' a' w' S l=>ih _ _ L' a' w' S (by rw [hd];exact l)
 exact key _ _ _ _ _ _ q l
def z7r (C:Ctx) (o:Obj):Ctx:=⟨Zm C.w o,C.φ,C.L,C.X⟩
theorem VQ (C:Ctx) (o:Obj):Ext C (z7r C o) where
 size:=by simp [z7r,Zm]
 frame:=fun b d _=>ZA d
 sub:=fun b h=>.inl h
 slot:=fun _ _=>rfl
 bo:=fun _ h=>h
 len:=Nat.le_refl _
 cap:=fun b c e fr h=>⟨c,e,fr,(ZA (Array.getElem?_eq_some_iff.1 h).1).trans h,rfl⟩
 ex:=rfl
 os:=rfl
 tape:=rfl
 output:=rfl
theorem zbp {g0:Nat} {C:Ctx} {o:Obj} (wf:Wf g0 C):Wf g0 (z7r C o):=
 ⟨wf.inj,wf.lo,wf.apart,fun b d=>Nat.lt_of_lt_of_le (wf.exlo b d) (by simp [z7r,Zm]),Nat.le_trans wf.g (by simp [z7r,Zm])⟩
theorem z1D {C:Ctx} {o:Obj} (b:Sim C):Sim (z7r C o):=fun s k d=>by
 by_cases ha:k.alive=true
 ·exact (b s k d).mono (VQ C o) d (ZA (ZF b ⟨s,k,d,ha,rfl⟩))
 ·cases k<;>first | trivial | (exfalso;exact ha rfl)
theorem VR.tr {C C':Ctx} (G:C'.w=C.w) (m:∀t,C.born t->C'.φ t=C.φ t) (M:∀t,C.born t->C'.born t) (q:∀b,b<C.w.heap.size->C'.own b->C.own b) {x:IV} {v:Value} (h:VR C x v):VR C' x v:=by
 induction h with
 | bool b=>exact .bool b
 | int k n=>exact .int k n
 | str s=>exact .str s
 | raw v h=>exact .raw v h
 | und=>exact .und
 | ptr s r o hs=>rw [<-m s hs];exact .ptr s r o (M s hs)
 | sl s off len cap a cap' hs I hc ha hm=>refine .sl s off len cap a cap' (M s hs) I hc ?_ hm;rw [m s hs,G];exact ha
 | isl rows a cap' sz vals D hsz u ha J l=>
  refine .isl rows a cap' sz vals D hsz u ?_ l
  rcases ha with Y | ⟨b,o,ha,d,O,hc⟩
  ·exact .inl Y
  ·exact .inr ⟨b,o,ha,by rw [G];exact d,fun h=>O (q b d h),fun i B hi j x T=>by rw [G];exact hc i B hi j x T⟩
 | iptr rows r o b base sz vals hsz u d A ha J l=>
  exact .iptr rows r o b base sz vals hsz u (by rw [G];exact d) (fun h=>A (q b d h)) (fun i B hi j x T=>by rw [G];exact ha i B hi j x T) l
 | esl a=>exact .esl a
 | nsl=>exact .nsl
 | agg cs vs I J l=>exact .agg cs vs I l
 | tup cs vs I J l=>exact .tup cs vs I l
 | fn f as Z V vb ha d X U Q S=>exact .fn f as Z V vb ha d Q S
 | iface t x v J l=>exact .iface t x v l
 | mp s hs=>rw [<-m s hs];exact .mp s (M s hs)
 | yld s hs=>rw [<-m s hs];exact .yld s (M s hs)
theorem Zp.tr {C C':Ctx} (u:C'.w=C.w) (G:∀t,C.born t->C'.φ t=C.φ t) (V:∀t,C.born t->C'.born t) (I:∀b,b<C.w.heap.size->C'.own b->C.own b) {s:Nat} {k:Blk} (hs:k.alive=true->C'.φ s=C.φ s) (h:Zp C s k):Zp C' s k:=by
 have T:∀{x:IV} {v:Value},VR C x v->VR C' x v:=fun S=>S.tr u G V I
 have cells:∀{M:Bool} {sz:Nat} {rows:List (List IV)},C'.φ s=C.φ s->Z9 M C s sz rows->Z9 M C' s sz rows:=fun {M sz rows} hs h=>by
  obtain ⟨q,c,e,fr,d,J,Q,U⟩:=h
  refine ⟨by rw [hs];exact q,c,e,fr,by rw [hs,u];exact d,J,by rw [hs];exact Q,fun i D hi=>⟨(U i D hi).1,fun j x hj=>?_⟩⟩
  obtain ⟨v,S,O⟩:=(U i D hi).2 j x hj
  exact ⟨v,by rw [hs];exact S,T O⟩
 cases k with
 | cells sz rows=>exact cells (hs rfl) h
 | tcells ty sz rows=>
  obtain ⟨q,c,fr,d⟩:=h.2
  exact ⟨cells (hs rfl) h.1,by rw [hs rfl];exact q,c,fr,by rw [hs rfl,u];exact d⟩
 | siter t pos=>obtain ⟨q,d⟩:=h;exact ⟨by rw [hs rfl];exact q,by rw [hs rfl,u];exact d⟩
 | map es c=>
  obtain ⟨Y,q,d,Q⟩:=h
  refine ⟨Y,by rw [hs rfl,u];exact q,d,fun i e hi=>?_⟩
  obtain ⟨m,g1,g2,Z,g4⟩:=Q i e hi
  exact ⟨m,g1,g2,T Z,g4⟩
 | mit m=>
  obtain ⟨q,X,A,B,d⟩:=h
  exact ⟨by rw [hs rfl];exact q,V m X,A,B,by rw [hs rfl,u,G m X];exact d⟩
 | lp r l=>
  obtain ⟨q,d⟩:=h
  exact ⟨by rw [hs rfl,u];exact q,fun i=>T (d i)⟩
 | dead=>trivial
 | unborn=>trivial
def wW (X:Nat->Prop) (p:Nat):Nat->Prop:=fun b=>X b\/b=p
theorem Ext.toX {w w':World} {d b:Nat->Loc} {L L':List Blk} {X:Nat->Prop} (Y:Nat->Prop) (h:Ext ⟨w,d,L,X⟩ ⟨w',b,L',X⟩):Ext ⟨w,d,L,Y⟩ ⟨w',b,L',Y⟩:=
 ⟨h.size,h.frame,h.sub,h.slot,h.bo,h.len,h.cap,rfl,h.os,h.tape,h.output⟩
def z5N (E:Env) (C0:Ctx) (N d:Nat) (z:List IV) (ρ:Rho) (L:List Blk) (a:Act) (w:World):Prop:=∃(φ:Nat->Loc) (p:Nat) (zc:Array Value) (t:TypeId),a.tmps.size=N/\Wf E.g0 ⟨w,φ,L,wW C0.X p⟩/\Sim ⟨w,φ,L,wW C0.X p⟩/\Ext C0 ⟨w,φ,L,C0.X⟩/\
 (∀n,VR ⟨w,φ,L,wW C0.X p⟩ (put ρ (some d) (.raw (.pointer (some ⟨p,0,none⟩))) n) (a.tmps.getD n undef))/\z0o E C0.w.heap.size ⟨w,φ,L,C0.X⟩ a.defers/\z6i E a/\C0.w.heap.size<=p/\
 w.heap[p]?=some (.cells zc t)/\∀C,Flat C zc 0 z.length [z]
theorem z3N (hF:FOk F) {X:Nat->Prop} {ops:Array Oper} {KV:IV->List Blk->Prop} {next:Act->World->Prop} {Q:Exit->Act->World->Prop} {i:Nat} {o:Oper} {x:zg}
  (ho:ops[i]?=some o) (hx:Zk E.P N ops.toList o=some x) {ρ:Rho} {L:List Blk} {a:Act} {w:World} {M:Nat->Loc} (hG:E.G w) (wf:Wf E.g0 ⟨w,M,L,X⟩) (af:Sim ⟨w,M,L,X⟩) (ah:∀n,VR ⟨w,M,L,X⟩ (ρ n) (a.tmps.getD n undef)) (h:zG E x ρ L KV)
  (hn:∀r v L' d w',KV r L'->Wf E.g0 ⟨w',d,L',X⟩->Sim ⟨w',d,L',X⟩->Ext ⟨w,M,L,X⟩ ⟨w',d,L',X⟩->VR ⟨w',d,L',X⟩ r v->next (a.put x.dst v) w')
  (Y:∀r v L' d w',E.pan r L'->Wf E.g0 ⟨w',d,L',X⟩->Sim ⟨w',d,L',X⟩->Ext ⟨w,M,L,X⟩ ⟨w',d,L',X⟩->VR ⟨w',d,L',X⟩ r v->Q (.panic [{ v,recovered:=false }]) a w'):wpOpIn F 0 E.P ops Q i next a w:=by
 obtain ⟨ag,U,ai,S⟩:=ZX hx
 have m:∀f,o.about E.P w a.eval=some f->F.fn f:=fun f _=>hF.fn f
 have D:KV .und L->next (a.put o.dst undef) w:=fun hs=>by
  rw [<-U];exact hn .und undef L M w hs wf af (Ext.refl _) .und
 have I:xop E x.op (Opd.ev ρ) L KV->o.wpIn F 0 E.P a w next Q:=fun he=>by
  refine ⟨m,?_⟩
  rw [Oper.semAt_eq _ _ _ (VG ag)]
  have ae:=z0u (E:=E) (C:=⟨w,M,L,X⟩) (a:=a) wf af hG (WY ah) ag he
  have q:∀v w',Post E ⟨w,M,L,X⟩ KV v w'->next (a.put o.dst v) w':=by
   rintro v w' ⟨r,L',d,B,s,h3,h4,h5⟩
   rw [<-U];exact hn r v L' d w' B s h3 h4 h5
  have T:∀v w',Post E ⟨w,M,L,X⟩ E.pan v w'->Q (.panic [{ v,recovered:=false }]) a w':=by
   rintro v w' ⟨r,L',d,B,s,h3,h4,h5⟩
   exact Y r v L' d w' B s h3 h4 h5
  rcases ae with ⟨v,w',B,s⟩ | ⟨w',B,s⟩ | ⟨f,args,w',B,s⟩ | ⟨l,fn,tmps,aj,body,w',B,s⟩ | ⟨v,w',B,s⟩
  ·rw [B];exact q v w' s
  ·rw [B];exact q undef w' s
  ·rw [B]
   refine ⟨(fun h=>by rw [hF.depth] at h;cases h),(hF.calls s).mono ?_⟩
   rintro e O ⟨v,⟨rfl,Y⟩ | ⟨rfl,Y⟩⟩
   ·exact q v O Y
   ·exact T v O Y
  ·rw [B]
   refine ⟨(fun h=>by rw [hF.depth] at h;cases h),(s F hF).mono ?_⟩
   rintro e O ⟨v,rfl,Y⟩
   exact q v O Y
  ·rw [B];exact T v w' s
 unfold wpOpIn
 simp only [ho]
 unfold zG at h
 rcases S with ⟨hg,V⟩ | ⟨j,b,t,hg,ht,V⟩
 ·rw [V] at h
  rw [if_pos (by simp [Region.wanted,hg])]
  exact I h
 ·rw [V] at h
  simp only at h
  have A:=ah t
  split at h
  ·rename_i b' Z
   rw [Z] at A
   have J:a.tmps.getD t undef=.bool b':=by generalize a.tmps.getD t undef=u at A;cases A;rfl
   have hy:=vH ht J
   by_cases hbb:b'=b
   ·rw [if_pos (by simp [Region.wanted,hg,hy,hbb])]
    exact I (h.1 hbb)
   ·rw [if_neg (by simp [Region.wanted,hg,hy,hbb])]
    exact ⟨m,D (h.2 hbb)⟩
  ·rename_i Z
   rw [Z] at A
   have J:a.tmps.getD t undef=undef:=by generalize a.tmps.getD t undef=u at A;cases A;rfl
   have hy:=wI ht J
   rw [if_neg (by simp [Region.wanted,hg,hy])]
   exact ⟨m,D h⟩
  ·exact h.elim
theorem z3P {ρ:Rho} {L:List Blk} {a:Act} {w:World} {d:Nat} {z:List IV} {zc:Array Value} {t:TypeId} (hd:d<N) (G:E.lo=0\/E.lo<=d) (S:Rel E C0 N ρ L a w) (Q:∀C,Flat C zc 0 z.length [z]) :
  z5N E C0 N d z ρ L (a.put (some d) (.pointer (some ⟨w.heap.size,0,none⟩))) (Zm w (.cells zc t)):=by
 obtain ⟨I,q,wf,r,j,J,D,B⟩:=S
 let C1:Ctx:=⟨w,q,L,wW C0.X w.heap.size⟩
 have m:∀b,b<w.heap.size->C1.own b->Ctx.own ⟨w,q,L,C0.X⟩ b:=fun b l h=>by
  rcases h with (h | h) | h
  ·exact .inl h
  ·omega
  ·exact .inr h
 have A:Sim C1:=fun s k T=>Zp.tr (C:=⟨w,q,L,C0.X⟩) (C':=C1) rfl (fun _ _=>rfl) (fun _ h=>h) m (fun _=>rfl) (r s k T)
 refine ⟨q,w.heap.size,zc,t,by simpa [Act.put] using I,⟨wf.inj,wf.lo,fun b l O=>?_,fun b l=>?_,Nat.le_trans wf.g (by simp [Zm])⟩,z1D (C:=C1) (o:=.cells zc t) A,j.trans (VQ ⟨w,q,L,C0.X⟩ (.cells zc t)),fun n=>?_,?_,fun u M=>?_,j.size,zX,Q⟩
 ·rcases l with l | rfl
  ·exact wf.apart b l O
  ·exact absurd (ZF r O) (Nat.lt_irrefl _)
 ·rcases l with l | rfl
  ·exact Nat.lt_of_lt_of_le (wf.exlo b l) (by simp [Zm])
  ·simp [Zm]
 ·show VR _ (if n=d then _ else ρ n) ((a.tmps.setIfInBounds d _).getD n undef)
  rw [Zv (by rw [I];exact hd)]
  by_cases h:n=d
  ·rw [if_pos h,if_pos h];exact .raw _ rfl
  ·rw [if_neg h,if_neg h]
   exact (VR.tr (C:=⟨w,q,L,C0.X⟩) (C':=C1) rfl (fun _ _=>rfl) (fun _ h=>h) m (J n)).mono (VQ C1 (.cells zc t))
 ·rw [put_defers];exact D.mono (VQ ⟨w,q,L,C0.X⟩ (.cells zc t))
 ·show (a.tmps.setIfInBounds d _).getD u undef=_
  rw [Zv (by rw [I];exact hd),if_neg,B u M]
  rcases G with h | h
  ·rw [h] at M;omega
  ·omega
theorem Wf.dropX {g0 p:Nat} {w:World} {j:Nat->Loc} {L:List Blk} {X:Nat->Prop} (h:Wf g0 ⟨w,j,L,wW X p⟩):Wf g0 ⟨w,j,L,X⟩:=⟨h.inj,h.lo,fun b d=>h.apart b (.inl d),fun b d=>h.exlo b (.inl d),h.g⟩
theorem z2E {p:Nat} {w:World} {d:Nat->Loc} {L:List Blk} {X:Nat->Prop} (b:Nat) (h:Ctx.own ⟨w,d,L,X⟩ b):Ctx.own ⟨w,d,L,wW X p⟩ b:=h.imp .inl id
theorem Sim.dropX {p:Nat} {w:World} {d:Nat->Loc} {L:List Blk} {X:Nat->Prop} (h:Sim ⟨w,d,L,wW X p⟩):Sim ⟨w,d,L,X⟩:=fun s k l=>Zp.tr (C:=⟨w,d,L,wW X p⟩) (C':=⟨w,d,L,X⟩) rfl (fun _ _=>rfl) (fun _ h=>h) (fun b _ j=>z2E b j) (fun _=>rfl) (h s k l)
theorem VR.dropX {p:Nat} {w:World} {d:Nat->Loc} {L:List Blk} {X:Nat->Prop} {x:IV} {v:Value} (h:VR ⟨w,d,L,wW X p⟩ x v):VR ⟨w,d,L,X⟩ x v:=VR.tr (C:=⟨w,d,L,wW X p⟩) (C':=⟨w,d,L,X⟩) rfl (fun _ _=>rfl) (fun _ h=>h) (fun b _ j=>z2E b j) h
theorem z9t (hF:FOk F) (U:Wf E.g0 C0) (T:E.G C0.w) {ops:Array Oper} {KV:IV->List Blk->Prop} {next:Act->World->Prop} {Q:Exit->Act->World->Prop} (hP:V8 E C0 N Q) {i d:Nat} {z:List IV} {o:Oper} {x:zg}
  (Z:E.lo=0\/∀d,x.dst=some d->E.lo<=d) (ho:ops[i]?=some o) (hx:Zk E.P N ops.toList o=some x) (ae:z0I (some d) x.rds=true) (af:neO (some d) x.dst=true) {ρ:Rho} {L:List Blk} {a:Act} {w:World} (h:zG E x ρ L KV) (hr:z5N E C0 N d z ρ L a w)
  (hn:∀v L' a' w',KV v L'->z5N E C0 N d z (put ρ x.dst v) L' a' w'->next a' w'):wpOpIn F 0 E.P ops Q i next a w:=by
 obtain ⟨φ,p,zc,t,M,wf,O,b,l,J,s,hp,hh,hz⟩:=hr
 have D:p<w.heap.size:=(Array.getElem?_eq_some_iff.1 hh).1
 have V:¬Ctx.mine ⟨w,φ,L,wW C0.X p⟩ p:=wf.apart p (.inr rfl)
 obtain ⟨_,m,I,_⟩:=ZX hx
 rw [z2F (ρ':=put ρ (some d) (.raw (.pointer (some ⟨p,0,none⟩)))) (fun n hn=>(vN ae n hn).symm)] at h
 refine z3N hF (X:=wW C0.X p) ho hx (z1b U T b) wf O l h (fun r v L' A w' hk q j ext' Y=>?_) (fun r v L' A w' hk q j ext' Y=>?_)
 ·refine hn r L' _ w' hk ⟨A,p,zc,t,?_,q,j,b.trans (ext'.toX C0.X),fun n=>?_,?_,fun u S=>?_,hp,(ext'.frame p D V).trans hh,hz⟩
  ·cases hd:x.dst with
   | none=>exact M
   | some d'=>simpa [Act.put] using M
  ·rw [put_comm (d:=x.dst) (d':=some d) (by revert af;cases x.dst<;>simp [neO];intro B h2;exact B h2.symm)]
   cases hd:x.dst with
   | none=>exact (l n).mono ext'
   | some d'=>
    show VR _ (if n=d' then r else put ρ (some d) _ n) ((a.tmps.setIfInBounds d' v).getD n undef)
    rw [Zv (by rw [M];exact I d' (by rw [<-m,hd]))]
    by_cases B:n=d'
    ·rw [if_pos B,if_pos B];exact Y
    ·rw [if_neg B,if_neg B];exact (l n).mono ext'
  ·rw [put_defers];exact J.mono (ext'.toX C0.X)
  ·cases hd:x.dst with
   | none=>exact s u S
   | some d'=>
    show (a.tmps.setIfInBounds d' v).getD u undef=_
    rw [Zv (by rw [M];exact I d' (by rw [<-m,hd])),if_neg,s u S]
    rcases Z with h | h
    ·rw [h] at S;omega
    ·have:=h d' hd;omega
 ·exact hP r v L' A a w' hk M q.dropX j.dropX (b.trans (ext'.toX C0.X)) Y.dropX (J.mono (ext'.toX C0.X)) s ⟨_,fun n=>((l n).mono ext').dropX⟩
theorem DOk.tr3 {n0:Nat} {C C':Ctx} (m:C'.w=C.w) (q:∀b,C'.mine b->C.mine b\/∃c t fr,C.w.heap[b]?=some (.cells c t fr)):∀{l:List Deferred},DOk n0 C l->DOk n0 C' l
 | [],_=>trivial
 | d::l,⟨⟨D,h1,h2,h3,h4,h5,h6⟩,h7⟩=>
  ⟨⟨D,h1,h2,by rw [m];exact h3,fun h=>(q D h).elim h4 (fun ⟨c,t,fr,j⟩=>by rw [h5] at j;cases j),by rw [m];exact h5,h6⟩,h7.tr3 m q⟩
theorem z4S (Y:Wf E.g0 C0) {ρ:Rho} {L:List Blk} {a:Act} {w:World} {d:Nat} {z:List IV} (hr:z5N E C0 N d z ρ L a w):Rel E C0 N (put ρ (some d) (.ptr L.length 0 0)) (L++[.cells z.length [z]]) a w:=by
 obtain ⟨U,p,zc,t,hN,wf,ah,m,ag,G,aj,hp,hh,hz⟩:=hr
 have ak:p<w.heap.size:=(Array.getElem?_eq_some_iff.1 hh).1
 have ae:¬Ctx.mine ⟨w,U,L,wW C0.X p⟩ p:=wf.apart p (.inr rfl)
 let φ3:Nat->Loc:=fun s=>if s=L.length then ⟨p,0,z.length⟩ else U s
 let C2:Ctx:=⟨w,U,L,wW C0.X p⟩
 let C3:Ctx:=⟨w,φ3,L++[.cells z.length [z]],C0.X⟩
 have S:∀s,s<L.length->φ3 s=U s:=fun s hs=>if_neg od
 have A:∀{s:Nat} {k:Blk},C3.L[s]?=some k->(s<L.length/\L[s]?=some k/\φ3 s=U s)\/(s=L.length/\k=.cells z.length [z]/\φ3 s=⟨p,0,z.length⟩):=fun {s k} hs=>by
  by_cases h0:s<L.length
  ·exact .inl ⟨h0,by rw [<-hs];exact (List.getElem?_append_left h0).symm,S s h0⟩
  ·have r:[Blk.cells z.length [z]][s - L.length]?=some k:=by rw [<-List.getElem?_append_right od];exact hs
   have O:s - L.length<1:=(List.getElem?_eq_some_iff.1 r).1
   have V:s=L.length:=by omega
   subst V
   rw [Nat.sub_self] at r;cases r
   exact .inr ⟨rfl,rfl,if_pos rfl⟩
 have q:∀b,C3.mine b->C2.mine b\/b=p:=fun b ⟨s,k,r,O,V⟩=>by
  rcases A r with ⟨g1,g2,g3⟩ | ⟨g1,g2,g3⟩
  ·exact .inl ⟨s,k,g2,O,by rw [<-V];exact congrArg Loc.blk g3.symm⟩
  ·right;rw [<-V];exact congrArg Loc.blk g3
 have M:∀b,b<w.heap.size->C3.own b->C2.own b:=fun b _ h=>by
  rcases h with h | h
  ·exact .inl (.inl h)
  ·exact (q b h).elim .inr fun h=>.inl (.inr h)
 have ai:∀{s:Nat},C2.born s->s<L.length:=fun h=>h.lt
 have hb:∀s,C2.born s->C3.born s:=fun s ⟨k,r,O⟩=>⟨k,by show (L++_)[s]?=_;rw [List.getElem?_append_left (List.getElem?_eq_some_iff.1 r).1];exact r,O⟩
 have J:∀s,C2.born s->C3.φ s=C2.φ s:=fun s h=>S s (ai h)
 refine ⟨hN,φ3,⟨fun s u k l hs hu hk hl D=>?_,fun b T=>?_,fun b hx T=>?_,wf.dropX.exlo,wf.g⟩,fun s k hs=>?_,?_,fun n=>?_,?_,aj⟩
 ·rcases A hs with ⟨a1,Z,I⟩ | ⟨a1,Z,I⟩<;>rcases A hu with ⟨b1,b2,b3⟩ | ⟨b1,b2,b3⟩
  ·exact wf.inj s u k l Z b2 hk hl (by have D:(φ3 s).blk=(φ3 u).blk:=D;rw [I,b3] at D;exact D)
  ·exact absurd ⟨s,k,Z,hk,by have D:(φ3 s).blk=(φ3 u).blk:=D;rw [I,b3] at D;exact D⟩ ae
  ·exact absurd ⟨u,l,b2,hl,by have D:(φ3 s).blk=(φ3 u).blk:=D;rw [I,b3] at D;exact D.symm⟩ ae
  ·omega
 ·rcases q b T with h | rfl
  ·exact wf.lo b h
  ·exact Nat.le_trans Y.g hp
 ·rcases q b T with h | rfl
  ·exact wf.apart b (.inl hx) h
  ·exact absurd (Y.exlo b hx) od
 ·rcases A hs with ⟨a1,Z,I⟩ | ⟨rfl,rfl,I⟩
  ·exact Zp.tr (C:=C2) (C':=C3) rfl J hb M (fun _=>I) (ah s k Z)
  ·obtain ⟨r,O⟩:=hz C3
   refine ⟨by show (φ3 L.length).sz=_;rw [I],zc,t,(0,0),by show w.heap[(φ3 L.length).blk]?=_;rw [I];exact hh,WL _ _,by show (φ3 L.length).base+_<=_;rw [I];exact r,fun i af hi=>⟨(O i af hi).1,fun j x hj=>?_⟩⟩
   obtain ⟨v,V,h4⟩:=(O i af hi).2 j x hj
   exact ⟨v,by show zc[(φ3 L.length).base+i*z.length+j]?=_;rw [I];exact V,h4⟩
 ·refine ⟨m.size,m.frame,fun b T=>?_,fun s hs=>(S s (Nat.lt_of_lt_of_le hs.lt m.len)).trans (m.slot s hs),fun s hs=>hb s (m.bo s hs),?_,m.cap,rfl,m.os,m.tape,m.output⟩
  ·rcases q b T with h | rfl
   ·exact m.sub b h
   ·exact .inr hp
  ·exact Nat.le_trans m.len (by show L.length<=(L++_).length;simp)
 ·by_cases h:n=d
  ·subst h
   have r:=ag n
   have e1:put ρ (some n) (IV.raw (.pointer (some ⟨p,0,none⟩))) n=.raw (.pointer (some ⟨p,0,none⟩)):=if_pos rfl
   have e2:put ρ (some n) (IV.ptr L.length 0 0) n=.ptr L.length 0 0:=if_pos rfl
   rw [e1] at r
   rw [e2]
   generalize a.tmps.getD n undef=u at r
   cases r
   have:=VR.ptr (C:=C3) L.length 0 0 ⟨_,by show (L++[Blk.cells z.length [z]])[L.length]?=_;simp;rfl,rfl⟩
   have e3:C3.φ L.length=⟨p,0,z.length⟩:=if_pos rfl
   rw [e3] at this
   simpa using this
  ·have r:=ag n
   have e1:∀v,put ρ (some d) v n=ρ n:=fun v=>if_neg h
   rw [e1] at r ⊢
   exact VR.tr (C:=C2) (C':=C3) rfl J hb M r
 ·unfold z0o at G ⊢
  split
  ·rename_i Q;rw [Q] at G
   exact DOk.tr3 (C:=⟨w,U,L,C0.X⟩) (C':=C3) rfl (fun b T=>(q b T).elim .inl fun h=>.inr ⟨zc,t,(0,0),h▸hh⟩) G
  ·rename_i B Q;rw [Q] at G;exact G
theorem z7n {P:Program} {o:Oper} {z:List IV} (j:JK o=true) (h:Y3 P o.op=some (.alloc z)):∃t,o.op=.alloc t/\zeroCells P t=some z:=by
 unfold JK at j
 split at j
 ·rename_i t b
  rw [b] at h
  simp only [Y3,oms] at h
  obtain ⟨m,l,d⟩:=h
  split at d
  ·cases d
  ·cases d;exact ⟨t,b,l⟩
 ·cases j
theorem z7e {ops:Array Oper} {i j k:Nat} (h:i≠j):(Yw ops j k)[i]?=ops[i]?:=by
 unfold Yw
 split
 ·rw [Array.getElem?_setIfInBounds,if_neg (Ne.symm h)]
 ·rfl
theorem z2J {ops:Array Oper} {j k:Nat} {o:Oper} (h:ops[j]?=some o):(Yw ops j k)[j]?=some { o with after:=o.after.push ⟨k,.data⟩ }:=by
 unfold Yw
 rw [h]
 exact Array.getElem?_setIfInBounds_self_of_lt (Array.getElem?_eq_some_iff.1 h).1
theorem Ja {ops:Array Oper} {j k:Nat}:(Yw ops j k).size=ops.size:=by
 unfold Yw
 split<;>simp
theorem Z4 {l:Array Bool} {j i:Nat} {d:Bool} (h:j<l.size):(l.setIfInBounds j true).getD i d=if i=j then true else l.getD i d:=by
 rw [Array.getD_eq_getD_getElem?,Array.getD_eq_getD_getElem?]
 by_cases hi:i=j
 ·subst hi;rw [if_pos rfl,Array.getElem?_setIfInBounds_self_of_lt h];rfl
 ·rw [if_neg hi,Array.getElem?_setIfInBounds,if_neg (Ne.symm hi)]
theorem z0U (hF:FOk F) (di:Wf E.g0 C0) (ku:E.G C0.w) {id:Nat} {ops:Array Oper} {K:Rho->List Blk->Prop} {Q:Exit->Act->World->Prop} (hP:V8 E C0 N Q) (hm:E.P.follows .mixedOrders=true)
  {xs:List zg} (qo:E.lo=0\/xs.all (Ve E.lo)=true) (ed:zF (Zk E.P N ops.toList) ops.toList=some xs) (hB:z5W ops xs=true)
  {ρ:Rho} {L:List Blk} {a:Act} {w:World} (h:Y7 E xs ρ L K) (hr:Rel E C0 N ρ L a w) (hQ:∀ρ L a w,K ρ L->Rel E C0 N ρ L a w->Q .normal a w):(Code.region id ops true).wpIn F 0 E.P Q a w:=by
 unfold z5W at hB
 rw [List.any_eq_true] at hB
 obtain ⟨k,hk,hB⟩:=hB
 rw [Bool.and_eq_true,List.any_eq_true] at hB
 obtain ⟨qw,j,hj,hB⟩:=hB
 rw [List.mem_range] at hk hj
 unfold z8N at hB
 split at hB
 ·rename_i d z dn
  simp only [Bool.and_eq_true,decide_eq_true_eq,Bool.not_eq_true',List.all_eq_true] at hB
  obtain ⟨⟨⟨⟨⟨qx,mi⟩,ni⟩,gm⟩,dw⟩,ax⟩:=hB
  have hW:=yH ops k
  have af:xs.length=ops.size:=by rw [zu ed];simp
  have aj:∀(i:Nat) (x:zg),xs[i]?=some x->E.lo=0\/∀d,x.dst=some d->E.lo<=d:=fun i x O=>qo.imp (fun h=>h) fun h=>by rw [List.all_eq_true] at h;exact Vy (h x (List.mem_of_getElem? O))
  have ag:Rel E C0 N ρ L a w.drew:=by
   obtain ⟨hN,φ,wf,ng,gq,qj,iw⟩:=hr
   exact ⟨hN,φ,Zu wf,Zc ng,gq.trans (zA _),fun n=>(qj n).mono (zA _),iw.1.mono (zA _),iw.2⟩
  refine wpIn_region_any hm ?_
  have dh:xs.length=(Yw ops j k).size:=by rw [af,Ja]
  have iq:z0n E (Yw ops j k) xs K ops.size (Array.replicate ops.size false) ρ L:=by
   unfold z1S at ax
   rw [Ja] at ax
   have:=WG (E:=E) (K:=K) dh xs 0 (Array.replicate ops.size false) ρ L (by simp) (by simp) (by rw [af];exact ax) h
   rwa [af] at this
  obtain ⟨oj,V,qp⟩:=zq ed j _ dn
  rw [Array.getElem?_toList] at V
  obtain ⟨bz,bf,lw,ny⟩:=ZX qp
  have bf:some d=oj.dst:=bf
  rw [V] at mi
  have mr:d<N:=lw d bf.symm
  have lu:E.lo=0\/E.lo<=d:=(aj j _ dn).imp (fun h=>h) fun h=>h d rfl
  have ae:∀(i:Nat) (o:Oper),ops[i]?=some o->∀e∈o.after,Region.binds .any e=true->e.on<i/\(e.on=j->i∈ZU ops k/\i≠k):=fun i o S e M hb=>by
   have A:=dw i (by rw [List.mem_range];exact (Array.getElem?_eq_some_iff.1 S).1)
   rw [S] at A
   simp only [Array.all_eq_true_iff_forall_mem] at A
   have J:=A e M
   rw [hb] at J
   simp only [Bool.not_true,Bool.false_or,Bool.and_eq_true,decide_eq_true_eq,Bool.or_eq_true,bne_iff_ne,List.contains_eq_mem] at J
   exact ⟨J.1,fun h3=>J.2.resolve_left (fun h4=>h4 h3)⟩
  have mg:∀(q:Array Bool) (i:Nat),(∀u,u∈ZU ops k->q.getD u true=false)->i∈Region.ready .any ops q->i≠k->¬i∈ZU ops k:=fun q i hl hi au pg=>by
   obtain ⟨_,o,S,B⟩:=mem_ready.1 hi
   obtain ⟨o',e,J,h3,h4,h5⟩:=hW.edge i pg au
   rw [S] at J
   obtain rfl:=Option.some.inj J
   have h6:=B e h3 h4
   have h7:=hl _ h5
   rw [Array.getD_eq_getD_getElem?] at h6 h7
   cases O:q[e.on]? with
   | none=>rw [O] at h7;cases h7
   | some b=>rw [O] at h6 h7;simp at h6 h7;rw [h6] at h7;cases h7
  have dm:∀(q:Array Bool),q.size=ops.size->∀m,m<=k->q.getD m true=false->∃i,i<=k/\i∈Region.ready .any ops q:=fun q hsz m=>by
   induction m using Nat.strongRecOn with
   | _ m ih=>
    intro qf Y
    have gz:m<ops.size:=by omega
    obtain ⟨o,S⟩:∃o,ops[m]?=some o:=⟨_,Array.getElem?_eq_getElem gz⟩
    by_cases B:∀e∈o.after,Region.binds .any e=true->q.getD e.on false=true
    ·exact ⟨m,qf,mem_ready.2 ⟨Y,o,S,B⟩⟩
    ·simp only [Classical.not_forall] at B
     obtain ⟨e,A,J,h3⟩:=B
     have h4:=(ae m o S e A J).1
     refine ih e.on h4 od ?_
     have h5:e.on<q.size:=by omega
     rw [Array.getD_eq_getD_getElem?,Array.getElem?_eq_getElem h5] at h3 ⊢
     simpa using h3
  have bg:∀(q:Array Bool) (i:Nat),i≠j->(i∈Region.ready .any (Yw ops j k) q↔i∈Region.ready .any ops q):=fun q i D=>by rw [mem_ready,mem_ready,z7e D]
  have cu:∀(q:Array Bool),q.size=ops.size->q.getD k true=true->j∈Region.ready .any ops q->j∈Region.ready .any (Yw ops j k) q:=fun q hsz ik ql=>by
   obtain ⟨A,o,J,h3⟩:=mem_ready.1 ql
   rw [V] at J
   obtain rfl:=Option.some.inj J
   refine mem_ready.2 ⟨A,_,z2J V,fun e M hb=>?_⟩
   rw [Array.mem_push] at M
   rcases M with M | rfl
   ·exact h3 e M hb
   ·show q.getD k false=true
    have h5:k<q.size:=by omega
    rw [Array.getD_eq_getD_getElem?,Array.getElem?_eq_getElem h5] at ik ⊢
    simpa using ik
  have kw:∀(q:Array Bool) (i:Nat),i∈Region.ready .any (Yw ops j k) q->i∈Region.ready .any ops q:=fun q i hi=>by
   by_cases D:i=j
   ·subst D
    obtain ⟨A,o,J,h3⟩:=mem_ready.1 hi
    rw [z2J V] at J
    obtain rfl:=Option.some.inj J
    exact mem_ready.2 ⟨A,_,V,fun e M hb=>h3 e (Array.mem_push.2 (.inl M)) hb⟩
   ·exact (bg q i D).1 hi
  have gu:∀(q:Array Bool) (i:Nat),i∈Region.ready .any ops q->∃o x,ops[i]?=some o/\xs[i]?=some x/\Zk E.P N ops.toList o=some x:=fun q i hi=>by
   obtain ⟨_,o,S,_⟩:=mem_ready.1 hi
   have kz:i<xs.length:=by rw [af];exact (Array.getElem?_eq_some_iff.1 S).1
   obtain ⟨x,O⟩:∃x,xs[i]?=some x:=⟨_,List.getElem?_eq_getElem kz⟩
   obtain ⟨o',ai,hc⟩:=zq ed i x O
   rw [Array.getElem?_toList,S] at ai
   obtain rfl:=Option.some.inj ai
   exact ⟨o,x,S,O,hc⟩
  have az:∀(q:Array Bool) (i:Nat),i∈Region.ready .any ops q->i<ops.size/\q.getD i true=false:=fun q i hi=>by
   obtain ⟨A,o,S,_⟩:=mem_ready.1 hi
   exact ⟨(Array.getElem?_eq_some_iff.1 S).1,A⟩
  have bu:∀(q:Array Bool),q.size=ops.size->∀(i:Nat),i∈Region.ready .any ops q->(q.getD k true=false->∀u,u∈ZU ops k->q.getD u true=false)->
    ((q.setIfInBounds i true).getD k true=false->∀u,u∈ZU ops k->(q.setIfInBounds i true).getD u true=false):=fun q hsz i hi X I u hu=>by
   have U:=(az q i hi).1
   rw [Z4 od] at I ⊢
   by_cases hki:k=i
   ·rw [if_pos hki] at I;cases I
   ·rw [if_neg hki] at I
    have A:=X I
    have J:=mg q i A hi (Ne.symm hki)
    have qh:u≠i:=fun h=>J (h▸hu)
    rw [if_neg qh]
    exact A u hu
  have key:∀(fuel:Nat) (q:Array Bool),q.size=ops.size->(q.getD k true=false->∀u,u∈ZU ops k->q.getD u true=false)->∀(ms:List Nat),ms.length<=fuel->∀(ρ:Rho) (L:List Blk) (a:Act) (w:World),
    ((∀i,i<ops.size->q.getD i true=false->i∈ms)->z0n E (Yw ops j k) xs K fuel q ρ L->Rel E C0 N ρ L a w->wpAnyIn F 0 E.P .any ops Q fuel q a w)/\
    (q.getD k true=false->q.getD j true=false->(∀e∈oj.after,Region.binds .any e=true->q.getD e.on false=true)->(∀i,i<ops.size->(q.setIfInBounds j true).getD i true=false->i∈ms)->
     z0n E (Yw ops j k) xs K (fuel+1) q ρ L->z5N E C0 N d z ρ L a w->wpAnyIn F 0 E.P .any ops Q fuel (q.setIfInBounds j true) a w):=by
   intro fuel
   induction fuel with
   | zero=>
    intro q hsz X ms qi ρ L a w
    have gp:ms=[]:=List.length_eq_zero_iff.1 od
    subst gp
    refine ⟨fun s h hr=>⟨?_,hQ ρ L a w h.2 hr⟩,fun I eu _ s _ _=>?_⟩
    ·cases M:Region.ready .any ops q with
     | nil=>rfl
     | cons i r=>
      obtain ⟨A,J⟩:=az q i (by rw [M];exact List.mem_cons_self)
      cases s i A J
    ·have A:=s k hk (by rw [Z4 od,if_neg od];exact I)
     cases A
   | succ fuel ih=>
    intro q hsz X ms qi ρ L a w
    have Z:∀(l:Array Bool) (i:Nat),l.size=ops.size->(∀i,i<ops.size->l.getD i true=false->i∈ms)->i<ops.size->(∀u,u<ops.size->(l.setIfInBounds i true).getD u true=false->u∈ms.erase i):=fun l i hl s U u hu Y=>by
     rw [Z4 od] at Y
     by_cases hui:u=i
     ·rw [if_pos hui] at Y;cases Y
     ·rw [if_neg hui] at Y
      exact (List.mem_erase_of_ne hui).2 (s u hu Y)
    refine ⟨fun s h hr=>⟨fun M=>?_,fun i hi=>?_⟩,fun I eu ah s h hr=>⟨fun M=>?_,fun i hi=>?_⟩⟩
    ·refine hQ ρ L a w (h.1 ?_) hr
     cases he':Region.ready .any (Yw ops j k) q with
     | nil=>rfl
     | cons i r=>
      have:=kw q i (by rw [he'];exact List.mem_cons_self)
      rw [M] at this;cases this
    ·obtain ⟨U,T⟩:=az q i hi
     have ak:(ms.erase i).length<=fuel:=by rw [List.length_erase_of_mem (s i U T)];omega
     by_cases hpend:i=j/\q.getD k true=false
     ·obtain ⟨rfl,I⟩:=hpend
      obtain ⟨t,lh,pz⟩:∃t,oj.op=.alloc t/\zeroCells E.P t=some z:=z7n mi bz
      obtain ⟨ti,v,g1,g2,g3,g4⟩:=zJ pz
      have qm:oj.guard=none:=by
       rcases ny with ⟨A,_⟩ | ⟨_,_,_,_,_,A⟩
       ·exact A
       ·cases A
      unfold wpOpIn
      simp only [V]
      rw [if_pos (by simp [Region.wanted,qm])]
      refine ⟨fun f _=>hF.fn f,?_⟩
      rw [Oper.semAt_eq _ _ _ (VG bz)]
      have gy:(execOp a.eval oj).run E.P w=.ok (.value (.pointer (some ⟨w.heap.size,0,none⟩))) (Zm w (.cells v.cells t)):=by
       have e1:execOp a.eval oj=(do pure (Next.value (<-Instr.alloc t true (.tuple #[])))):=by unfold execOp;rw [lh]
       rw [e1,Sem.run_bind]
       unfold Instr.alloc
       rw [Sem.run_bind,Z5 g1 g2]
       rfl
      rw [gy]
      have l7:=z3P (zc:=v.cells) (t:=t) mr lu hr (fun C=>jd (C:=C) g3 (g4 C))
      rw [bf] at l7
      refine (ih q hsz X (ms.erase i) ak ρ L _ _).2 I T ?_ ?_ h l7
      ·obtain ⟨_,o,S,B⟩:=mem_ready.1 hi
       rw [V] at S
       obtain rfl:=Option.some.inj S
       exact B
      ·exact Z q i hsz s U
     ·have nz:i∈Region.ready .any (Yw ops j k) q:=by
       by_cases D:i=j
       ·subst D
        refine cu q hsz ?_ hi
        cases hh:q.getD k true with
        | true=>rfl
        | false=>exact absurd ⟨rfl,hh⟩ hpend
       ·exact (bg q i D).2 hi
      have A:=h.2 i nz
      obtain ⟨o,x,S,O,hc⟩:=gu q i hi
      simp only [sOp,O] at A
      refine Yq hF di ku hP (aj i x O) S hc A hr fun v L' a' w' bi ag=>?_
      exact (ih _ (by simpa using hsz) (bu q hsz i hi X) (ms.erase i) ak _ _ a' w').1 (Z q i hsz s U) bi ag
    ·obtain ⟨i,au,hi⟩:=dm (q.setIfInBounds j true) (by simpa using hsz) k (Nat.le_refl _) (by rw [Z4 od,if_neg od];exact I)
     rw [M] at hi;cases hi
    ·obtain ⟨U,T⟩:=az _ i hi
     have ak:(ms.erase i).length<=fuel:=by rw [List.length_erase_of_mem (s i U T)];omega
     rw [Z4 od] at T
     have D:i≠j:=fun h=>by rw [if_pos h] at T;cases T
     rw [if_neg D] at T
     have pq:∀u,u∈ZU ops k->(q.setIfInBounds j true).getD u true=false:=fun u hu=>by
      rw [Z4 od,if_neg (fun h=>by subst h;simp [hu] at ni)]
      exact X I u hu
     have lm:i≠k->¬i∈ZU ops k:=mg _ i pq hi
     obtain ⟨o,x,S,O,hc⟩:=gu _ i hi
     have l9:z0I (some d) x.rds=true/\neO (some d) x.dst=true:=by
      have A:=gm i (by rw [List.mem_range];exact U)
      rw [O] at A
      simp only [Bool.or_eq_true,beq_iff_eq,Bool.and_eq_true,List.contains_eq_mem,decide_eq_true_eq,bne_iff_ne] at A
      rcases A with (A | ⟨A,J⟩) | A
      ·exact absurd A D
      ·exact absurd A (lm J)
      ·exact A
     have ig:i∈Region.ready .any (Yw ops j k) q:=by
      rw [bg q i D]
      obtain ⟨_,o',ai,B⟩:=mem_ready.1 hi
      refine mem_ready.2 ⟨T,o',ai,fun e M hb=>?_⟩
      have h3:=B e M hb
      rw [Z4 od] at h3
      by_cases hej:e.on=j
      ·obtain ⟨h4,h5⟩:=(ae i o' ai e M hb).2 hej
       exact absurd h4 (lm h5)
      ·rw [if_neg hej] at h3;exact h3
     have iy:i∈Region.ready .any ops q:=(bg q i D).1 ig
     have A:=h.2 i ig
     simp only [sOp,O] at A
     refine z9t hF di ku hP (aj i x O) S hc l9.1 l9.2 A hr fun v L' a' w' bi ag=>?_
     have ay:=Z (q.setIfInBounds j true) i (by simpa using hsz) s U
     rw [Array.setIfInBounds_comm _ _ (Ne.symm D)] at ay ⊢
     by_cases au:i=k
     ·subst au
      have mf:(q.setIfInBounds i true).size=ops.size:=by simpa using hsz
      have qg:j∈Region.ready .any (Yw ops j i) (q.setIfInBounds i true):=by
       refine cu _ mf (by rw [Z4 od,if_pos rfl]) (mem_ready.2 ⟨by rw [Z4 od,if_neg od];exact eu,oj,V,fun e M hb=>?_⟩)
       rw [Z4 od]
       split
       ·rfl
       ·exact ah e M hb
      have J:=bi.2 j qg
      simp only [sOp,dn] at J
      have lq:=z4S di ag
      refine (ih ((q.setIfInBounds i true).setIfInBounds j true) (by simpa using hsz) (fun bn=>?_) (ms.erase i) ak _ _ a' w').1 ay J lq
      rw [Z4 od,if_neg od,Z4 od,if_pos rfl] at bn
      cases bn
     ·refine (ih (q.setIfInBounds i true) (by simpa using hsz) (bu q hsz i iy X) (ms.erase i) ak _ _ a' w').2 (by rw [Z4 od,if_neg (Ne.symm au)];exact I) (by rw [Z4 od,if_neg (Ne.symm D)];exact eu) (fun e M hb=>?_) ay bi ag
      rw [Z4 od]
      split
      ·rfl
      ·exact ah e M hb
  refine (key ops.size (Array.replicate ops.size false) (by simp) (fun _ u hu=>?_) (List.range ops.size) (by simp) ρ L a _).1 (fun i hi _=>List.mem_range.2 hi) iq ag
  rw [Array.getD_eq_getD_getElem?]
  cases O:(Array.replicate ops.size false)[u]? with
  | none=>
   have qc:u<ops.size:=by
    by_cases huk:u=k
    ·omega
    ·obtain ⟨o,_,J,_⟩:=hW.edge u hu huk
     exact (Array.getElem?_eq_some_iff.1 J).1
   rw [Array.getElem?_replicate,if_pos qc] at O
   cases O
  | some b=>
   rw [Array.getElem?_replicate] at O
   split at O
   ·cases O;rfl
   ·cases O
 ·cases hB
theorem z0z (hF:FOk F) (ay:Wf E.g0 C0) (au:E.G C0.w) {ops:Array Oper} {KV:IV->List Blk->Prop} {next:Act->World->Prop} {Q:Exit->Act->World->Prop} (hP:V8 E C0 N Q) {i g:Nat} {o:Oper} {x:zg}
  (ak:E.lo=0\/∀d,x.dst=some d->E.lo<=d) (ho:ops[i]?=some o) (hx:Zk E.P N ops.toList o=some x) {ρ:Rho} {L:List Blk} {a:Act} {w:World} (h:z1p E x g ρ L KV) (hr:Rel E C0 N ρ L a w)
  (hn:∀v L' a' w',KV v L'->Rel E C0 N (put ρ x.dst v) L' a' w'->next a' w'):wpOpIn F 0 E.P ops Q i next a w:=by
 obtain ⟨aj,A,ag,V⟩:=ZX hx
 obtain ⟨hN,φ,wf,ah,s,O,U⟩:=hr
 have hG:=z1b ay au s
 have m:∀f,o.about E.P w a.eval=some f->F.fn f:=fun f _=>hF.fn f
 have J:KV .und L->next (a.put o.dst undef) w:=fun hs=>
  hn .und L _ w hs (by rw [A];exact z07 hN ag s O U (by rw [<-A];exact ak) wf ah (Ext.refl _) .und)
 have S:z0E E x.op (Opd.ev ρ) g L KV->o.wpIn F 0 E.P a w next Q:=fun he=>by
  refine ⟨m,?_⟩
  rw [Oper.semAt_eq _ _ _ (VG aj)]
  obtain ⟨g',ax,hT⟩:=zbR he
  have ae:=Jj (E:=E) (C:=⟨w,φ,L,C0.X⟩) (a:=a) ax wf ah hG (WY O) aj hT
  have q:∀v w',Post E ⟨w,φ,L,C0.X⟩ KV v w'->next (a.put o.dst v) w':=by
   rintro v w' ⟨r,L',ai,I,B,h3,h4,h5⟩
   exact hn r L' _ w' I (by rw [A];exact z07 hN ag s O U (by rw [<-A];exact ak) B h3 h4 h5)
  have Y:∀v w',Post E ⟨w,φ,L,C0.X⟩ E.pan v w'->Q (.panic [{ v,recovered:=false }]) a w':=by
   rintro v w' ⟨r,L',ai,I,B,h3,h4,h5⟩
   exact hP r v L' ai a w' I hN B h3 (s.trans h4) h5 (U.1.mono h4) U.2 ⟨ρ,fun n=>(O n).mono h4⟩
  rcases ae with ⟨v,w',I,B⟩ | ⟨w',I,B⟩ | ⟨f,args,w',I,B⟩ | ⟨l,fn,tmps,az,body,w',I,B⟩ | ⟨v,w',I,B⟩
  ·rw [I];exact q v w' B
  ·rw [I];exact q undef w' B
  ·rw [I]
   refine ⟨(fun h=>by rw [hF.depth] at h;cases h),(hF.calls B).mono ?_⟩
   rintro e T ⟨v,⟨rfl,hp⟩ | ⟨rfl,hp⟩⟩
   ·exact q v T hp
   ·exact Y v T hp
  ·rw [I]
   refine ⟨(fun h=>by rw [hF.depth] at h;cases h),(B F hF).mono ?_⟩
   rintro e T ⟨v,rfl,hp⟩
   exact q v T hp
  ·rw [I];exact Y v w' B
 unfold wpOpIn
 simp only [ho]
 unfold z1p at h
 rcases V with ⟨hg,af⟩ | ⟨j,b,t,hg,ht,af⟩
 ·rw [af] at h
  rw [if_pos (by simp [Region.wanted,hg])]
  exact S h
 ·rw [af] at h
  simp only at h
  have D:=O t
  split at h
  ·rename_i b' Z
   rw [Z] at D
   have M:a.tmps.getD t undef=.bool b':=by generalize a.tmps.getD t undef=u at D;cases D;rfl
   have hy:=vH ht M
   by_cases hbb:b'=b
   ·rw [if_pos (by simp [Region.wanted,hg,hy,hbb])]
    exact S (h.1 hbb)
   ·rw [if_neg (by simp [Region.wanted,hg,hy,hbb])]
    exact ⟨m,J (h.2 hbb)⟩
  ·rename_i Z
   rw [Z] at D
   have M:a.tmps.getD t undef=undef:=by generalize a.tmps.getD t undef=u at D;cases D;rfl
   have hy:=wI ht M
   rw [if_neg (by simp [Region.wanted,hg,hy])]
   exact ⟨m,J h⟩
  ·exact h.elim
theorem z3g {o:XO} {e:Opd->IV} {g:Nat} {L:List Blk} {K:IV->List Blk->Prop} (h:z0E E o.toP e g L K):z0E E o e g L K:=by
 cases o with
 | call f as=>exact z1X (o:=.call f as) h
 | _=>exact h
theorem zbF {o:zg} {g:Nat} {ρ:Rho} {L:List Blk} {KV:IV->List Blk->Prop} (h:z1p E o.toP g ρ L KV):z1p E o g ρ L KV:=by
 obtain ⟨d,op,j⟩:=o
 cases j with
 | none=>exact z3g h
 | some p=>
  obtain ⟨t,w⟩:=p
  simp only [z1p,zg.toP] at h ⊢
  split at h
  ·exact ⟨fun b=>z3g (h.1 b),h.2⟩
  ·exact h
  ·exact h.elim
theorem rel_keep {ρ:Rho} {L:List Blk} {a:Act} {w:World} (m:Nat) (h:Rel E C0 N ρ L a w):Rel E C0 N ρ (L++List.replicate m .unborn) a w:=by
 obtain ⟨Q,G,wf,D,u,J,A⟩:=h
 let C:Ctx:=⟨w,G,L,C0.X⟩
 let C':Ctx:=⟨w,G,L++List.replicate m .unborn,C0.X⟩
 have d:∀(s:Nat) (k:Blk),C'.L[s]?=some k->k.alive=true->C.L[s]?=some k:=fun s k q ha=>by
  rcases Nat.lt_or_ge s L.length with r | r
  ·rw [show C'.L=L++List.replicate m .unborn from rfl,List.getElem?_append_left r] at q;exact q
  ·rw [show C'.L=L++List.replicate m .unborn from rfl,List.getElem?_append_right r,List.getElem?_replicate] at q
   split at q
   ·cases q;cases ha
   ·cases q
 have j:∀b,C'.mine b->C.mine b:=by
  rintro b ⟨s,k,q,ha,rfl⟩
  exact ⟨s,k,d s k q ha,ha,rfl⟩
 have B:Ext C C':=⟨Nat.le_refl _,fun _ _ _=>rfl,fun b h=>.inl (j b h),fun _ _=>rfl,fun s hs=>by
  obtain ⟨k,r,M⟩:=hs
  exact ⟨k,by show (L++_)[s]?=_;rw [List.getElem?_append_left (zk r)];exact r,M⟩,by simp [C,C'],fun b c e fr h=>⟨c,e,fr,h,rfl⟩,rfl,rfl,rfl,rfl⟩
 refine ⟨Q,G,⟨fun s t k l hs S as at_ I=>wf.inj s t k l (d s k hs as) (d t l S at_) as at_ I,fun b h=>wf.lo b (j b h),fun b O h=>wf.apart b O (j b h),wf.exlo,wf.g⟩,?_,u.trans B,fun n=>(J n).mono B,A.1.mono B,A.2⟩
 intro s k q
 by_cases ha:k.alive=true
 ·exact (D s k (d s k q ha)).mono B (d s k q ha) rfl
 ·cases k<;>first | trivial | (exfalso;exact ha rfl)
theorem ZW {a:Array Bool} {i:Nat} {d:Bool} (h:i<a.size):a.getD i d=a[i]:=by
 rw [Array.getD_eq_getD_getElem?,Array.getElem?_eq_getElem h];rfl
theorem z1d (hF:FOk F) (lm:Wf E.g0 C0) (ik:E.G C0.w) {id:Nat} {ops:Array Oper} {K:Rho->List Blk->Prop} {Q:Exit->Act->World->Prop} (hP:V8 E C0 N Q) (hm:E.P.follows .mixedOrders=true)
  {xs0:List zg} (kz:E.lo=0\/xs0.all (Ve E.lo)=true) (iq:zF (Zk E.P N ops.toList) ops.toList=some xs0) {xs:List (zg × List Nat × Bool)} (gz:xs.map (·.1)=xs0.map zg.toP) (hB:z7Q ops xs=true)
  {ρ:Rho} {L:List Blk} {a:Act} {w:World} (h:Zo E 0 [] xs ρ L K) (V:Rel E C0 N ρ L a w) (hQ:∀ρ L a w,K ρ L->Rel E C0 N ρ L a w->Q .normal a w):(Code.region id ops true).wpIn F 0 E.P Q a w:=by
 obtain ⟨dw,ed,q,aj⟩:=z5d hB
 obtain ⟨tr,m,ρ',L',hK,ax,bz⟩:=trace xs 0 [] ρ L ed h
 obtain ⟨gy,iw,dm⟩:=z9a _ _ _ _ ax
 obtain ⟨_,kw⟩:=z0e xs 0 [] tr bz
 let l:=xs.map (·.1)
 let n:=ops.size
 have hyl:l.length=n:=by simp [l,n,dw]
 have lu:tr.length=n:=by rw [<-gy];exact hyl
 let s0:St:=(ρ,L++List.replicate m .unborn)
 have ay:∀(i:Nat) (o:zg),l[i]?=some o->∃D keep,xs[i]?=some (o,D,keep):=fun i o hi=>by
  simp only [l,List.getElem?_map,oms] at hi
  obtain ⟨⟨o',D,keep⟩,s,rfl⟩:=hi
  exact ⟨D,keep,s⟩
 have Z:∀(i:Nat) (o:zg) (t:Tr),l[i]?=some o->tr[i]?=some t->zbo E o t (SS l tr (fun _=>true) s0 i):=iw
 have hfit:∀t∈tr,Fits t:=fun t ht=>by
  obtain ⟨i,hi,rfl⟩:=List.mem_iff_getElem.1 ht
  have gq:i<l.length:=by omega
  exact (Z i _ _ (List.getElem?_eq_getElem gq) (List.getElem?_eq_getElem hi)).1
 have ag:∀(i j:Nat) (o:zg) (t:Tr) (p:zg) (u:Tr),i<j->j∉ZU ops i->l[i]?=some o->tr[i]?=some t->l[j]?=some p->tr[j]?=some u->Ind o t p u:=fun i j o t p u d hw hi ht hj hu=>by
  obtain ⟨D,keep,s⟩:=ay i o hi
  obtain ⟨ae,U,O⟩:=ay j p hj
  rcases aj i j o D keep p ae U d s O with X | ⟨X,h4,Y,h6⟩
  ·exact absurd X hw
  ·refine ⟨X,h4,Y,?_⟩
   obtain ⟨_,a1,a2,_⟩:=Z i o t hi ht
   obtain ⟨_,b1,b2,_⟩:=Z j p u hj hu
   by_cases hrc:racy o p=true
   ·obtain ⟨h7,h8⟩:=h6 hrc
    exact kw i j o D keep t p ae U u d s ht O hu h7 (by rw [Nat.zero_add];exact h8)
   ·simp only [racy,Bool.and_eq_true,Bool.not_eq_true',beq_eq_false_iff_ne,ne_eq,Bool.and_eq_false_iff,not_and,not_or] at hrc
    by_cases B:o.op.rk=0
    ·obtain ⟨e1,e2⟩:=a1 B;rw [e1,e2];exact z3z
    ·by_cases hp:p.op.rk=0
     ·obtain ⟨e1,e2⟩:=b1 hp;rw [e1,e2];exact z2R
     ·have h9:=hrc ⟨B,hp⟩
      have gm:o.op.rk=1:=by
       by_cases h10:o.op.rk=1
       ·exact h10
       ·exact absurd h10 h9.1
      have gu:p.op.rk=1:=by
       by_cases h10:p.op.rk=1
       ·exact h10
       ·exact absurd h10 h9.2
      rw [a2 gm,b2 gu]
      exact ⟨fun i h=>by simp at h,fun i h=>by simp at h⟩
 have iy:Rel E C0 N s0.1 s0.2 a w.drew:=by
  refine rel_keep m ?_
  obtain ⟨hN,φ,wf,eu,ak,ku,bn⟩:=V
  exact ⟨hN,φ,Zu wf,Zc eu,ak.trans (zA _),fun n=>(ku n).mono (zA _),bn.1.mono (zA _),bn.2⟩
 refine wpIn_region_any hm ?_
 have key:∀(fuel:Nat) (b:Array Bool) (a:Act) (w:World),b.size=n->(∀(j:Nat) (o:Oper),ops[j]?=some o->b.getD j true=true->∀e∈o.after,Region.binds .any e=true->b.getD e.on true=true)->
   ((List.range n).filter fun i=>!b.getD i true).length=fuel->
   Rel E C0 N (SS l tr (fun i=>b.getD i true) s0 n).1 (SS l tr (fun i=>b.getD i true) s0 n).2 a w->wpAnyIn F 0 E.P .any ops Q fuel b a w:=by
  intro fuel
  have af:∀(b:Array Bool) (a:Act) (w:World),b.size=n->Region.ready .any ops b=[]->
    Rel E C0 N (SS l tr (fun i=>b.getD i true) s0 n).1 (SS l tr (fun i=>b.getD i true) s0 n).2 a w->Q .normal a w:=by
   intro b a w hsz J V
   have bg:∀i,i<n->b.getD i true=true:=by
    intro i
    induction i using Nat.strongRecOn with
    | ind i ih=>
     intro hi
     by_cases hli:b.getD i true=true
     ·exact hli
     ·exfalso
      have:i∈Region.ready .any ops b:=by
       rw [mem_ready]
       refine ⟨by simpa using hli,ops[i],Array.getElem?_eq_getElem hi,fun e he hb=>?_⟩
       have s:=q i _ (Array.getElem?_eq_getElem hi) e he hb
       have O:=ih e.on s od
       rw [ZW od] at O ⊢
       exact O
      rw [J] at this;cases this
   have e1:SS l tr (fun i=>b.getD i true) s0 n=SS l tr (fun _=>true) s0 n:=z05 n fun i hi=>bg i hi
   rw [e1] at V
   have e2:SS l tr (fun _=>true) s0 n=(ρ',L'):=by rw [<-hyl];exact dm
   rw [e2] at V
   exact hQ _ _ _ _ hK V
  induction fuel with
  | zero=>
   intro b a w hsz ah M V
   have J:Region.ready .any ops b=[]:=by
    cases J:Region.ready .any ops b with
    | nil=>rfl
    | cons i r=>
     exfalso
     have hi:i∈Region.ready .any ops b:=by rw [J];exact List.mem_cons_self
     obtain ⟨s,o,B,_⟩:=mem_ready.1 hi
     have:i∈(List.range n).filter fun i=>!b.getD i true:=by
      simp only [List.mem_filter,List.mem_range,Bool.not_eq_true']
      exact ⟨(Array.getElem?_eq_some_iff.1 B).1,s⟩
     rw [List.eq_nil_of_length_eq_zero M] at this;cases this
   exact ⟨J,af b a w hsz J V⟩
  | succ fuel ih=>
   intro b a w hsz ah M V
   refine ⟨fun h0=>af b a w hsz h0 V,fun j hj=>?_⟩
   obtain ⟨A,o,B,T⟩:=mem_ready.1 hj
   have dh:j<n:=(Array.getElem?_eq_some_iff.1 B).1
   obtain ⟨p,hp⟩:∃p,l[j]?=some p:=⟨_,List.getElem?_eq_getElem od⟩
   obtain ⟨u,hu⟩:∃u,tr[j]?=some u:=⟨_,List.getElem?_eq_getElem od⟩
   have S:∀i,b.getD i true=false->∀k,k∈ZU ops i->b.getD k true=false:=by
    intro i hi
    intro k
    induction k using Nat.strongRecOn with
    | ind k ig=>
     intro hk
     by_cases hki:k=i
     ·subst hki;exact hi
     ·obtain ⟨o',e,s,O,X,h4⟩:=(yH ops i).edge k hk hki
      have Y:=ig e.on (q k o' s e O X) h4
      by_cases h6:b.getD k true=true
      ·have:=ah k o' s h6 e O X
       rw [Y] at this;cases this
      ·simpa using h6
   have lq:∀i,b.getD i true=false->i<j->j∉ZU ops i:=fun i hi d hw=>by
    obtain ⟨o',e,s,O,X,h4⟩:=(yH ops i).edge j hw od
    rw [B] at s;cases s
    have Y:=T e O X
    have h6:=S i hi e.on h4
    have h7:=q j o B e O X
    rw [ZW od] at Y h6
    rw [Y] at h6;cases h6
   have gp:∀(i:Nat) (o:zg) (t:Tr),i<j->(fun i=>b.getD i true) i=false->l[i]?=some o->tr[i]?=some t->Ind o t p u:=fun i o t d hi I ht=>ag i j o t p u d (lq i hi d) I ht hp hu
   have bu:∀(i:Nat) (o:zg) (t:Tr),j<i->(fun i=>b.getD i true) i=true->l[i]?=some o->tr[i]?=some t->Ind o t p u:=fun i o t d hi I ht=>
    (ag j i p u o t d (fun hw=>by have:=S j A i hw;simp only at hi;rw [this] at hi;cases hi) hp hu I ht).symm
   have az:=(z8u hfit (s0:=s0) hp hu A gp bu n).2 od
   obtain ⟨_,_,_,ai⟩:=Z j p u hp hu
   have lh:=ai (SS l tr (fun i=>b.getD i true) s0 n).1 (SS l tr (fun i=>b.getD i true) s0 n).2 az.1 az.2.1 (fun v L''=>v=u.v/\L''=wJ (SS l tr (fun i=>b.getD i true) s0 n).2 u.wl) ⟨rfl,rfl⟩
   have cu:(xs0.map zg.toP)[j]?=some p:=by rw [<-gz];exact hp
   rw [List.getElem?_map,oms] at cu
   obtain ⟨x0,di,rfl⟩:=cu
   obtain ⟨o',I,hc⟩:=zq iq j x0 di
   rw [Array.getElem?_toList,B] at I
   obtain rfl:=Option.some.inj I
   refine z0z hF lm ik hP (kz.imp (fun h=>h) fun h=>by rw [List.all_eq_true] at h;exact Vy (h x0 (List.mem_of_getElem? di))) B hc (zbF lh) V fun v L'' a' w' hv au=>?_
   obtain ⟨rfl,rfl⟩:=hv
   refine ih (b.setIfInBounds j true) a' w' (by simp [hsz]) ?_ ?_ ?_
   ·intro k o' hk dn e he hb
    by_cases hkj:j=k
    ·subst hkj
     rw [B] at hk;cases hk
     have Y:=T e he hb
     have h7:=q j o B e he hb
     have h8:b.getD e.on true=true:=by rw [ZW od] at Y ⊢;exact Y
     rw [Go.getD_set_ne true od];exact h8
    ·rw [Go.getD_set_ne true hkj] at dn
     have:=ah k o' hk dn e he hb
     by_cases hej:j=e.on
     ·rw [<-hej,ZW (by simp;omega)];simp
     ·rw [Go.getD_set_ne true hej];exact this
   ·have s:((List.range n).filter fun i=>!b.getD i true)=((List.range n).filter fun i=>!b.getD i true):=rfl
    have bi:j∈(List.range n).filter fun i=>!b.getD i true:=by
     simp only [List.mem_filter,List.mem_range,Bool.not_eq_true'];exact ⟨dh,A⟩
    have he:((List.range n).filter fun i=>!(b.setIfInBounds j true).getD i true)=((List.range n).filter fun i=>!b.getD i true).erase j:=by
     rw [List.Nodup.erase_eq_filter (show List.Nodup _ from List.Pairwise.filter _ List.nodup_range),List.filter_filter]
     refine List.filter_congr fun i hi=>?_
     by_cases d:j=i
     ·subst d
      rw [ZW (by simp;omega)];simp
     ·rw [Go.getD_set_ne true d]
      have:(i !=j)=true:=by simp [Ne.symm d]
      rw [this,Bool.true_and]
    rw [he,List.length_erase_of_mem bi,M];rfl
   ·have bf:=zc3 hfit (s0:=s0) (lst':=fun i=>(b.setIfInBounds j true).getD i true) hp hu A (by rw [ZW (by simp;omega)];simp) (fun i hi=>by rw [Go.getD_set_ne true (Ne.symm hi)]) bu n dh
    rw [bf]
    exact au
 have h0:SS l tr (fun i=>(Array.replicate ops.size false).getD i true) s0 n=s0:=by
  have:∀k,k<=n->SS l tr (fun i=>(Array.replicate ops.size false).getD i true) s0 k=s0:=by
   intro k
   induction k with
   | zero=>intro _;rfl
   | succ k ih=>
    intro hk
    simp only [SS]
    rw [if_neg (by rw [ZW (by simp;omega)];simp)]
    exact ih od
  exact this n (Nat.le_refl _)
 refine key ops.size (Array.replicate ops.size false) a w.drew (by simp [n]) (fun j o B hl=>?_) ?_ (by rw [h0];exact iy)
 ·rw [ZW (by simpa using (Array.getElem?_eq_some_iff.1 B).1)] at hl
  simp at hl
 ·rw [List.filter_eq_self.2,List.length_range]
  intro i hi
  rw [ZW (by simpa using List.mem_range.1 hi)]
  simp
def XE.to:XE->Exit
 | .normal=>.normal
 | .exit id=>.exit id
 | .goto l=>.goto l
 | .ret=>.ret
theorem z1N {P:Program} {b:Frame} {a:Act} {k:List Item} {cs:List Frame} {w:World} {c:Code}:step P (lone (b.atR a (.code (.scope c)::k)) cs w)=.next (lone (b.atR a (.code c::.inScope c::k)) cs w):=
 step_lone_go (by simp [stepG,stepG.exec,Frame.atR])
theorem WI {P:Program} {b:Frame} {a:Act} {k:List Item} {cs:List Frame} {w:World} {c:Code}:step P (lone (b.atR a (.inScope c::k)) cs w)=.next (lone (b.atR a k) cs w):=
 step_lone_go (by simp [stepG,stepG.exec,Frame.atR])
def wu (F:Fence) (n:Nat) (P:Program) (c:Code) (Q:Exit->Act->World->Prop):Nat->Exit->Act->World->Prop
 | m,.goto l,a,w=>match findLabel c l with
  | none=>Q (.goto l) a w
  | some rest=>match m with
   | 0=>False
   | m+1=>rest.wpIn F n P (wu F n P c Q m) a w
 | _,e,a,w=>Q e a w
theorem z4g {F:Fence} {n:Nat} {P:Program} {c:Code} {Q:Exit->Act->World->Prop} (k:Nat) {b:List PanicEntry} {a:Act} {w:World}:wu F n P c Q k (.panic b) a w=Q (.panic b) a w:=by
 cases k<;>rfl
theorem V8.scope {E:Env} {C0:Ctx} {N:Nat} {F:Fence} {n:Nat} {P:Program} {c:Code} {Q:Exit->Act->World->Prop} (k:Nat) (h:V8 E C0 N Q):V8 E C0 N (wu F n P c Q k):=
 fun x v L' b a w' r l q d s j m=>by rw [z4g];exact h x v L' b a w' r l q d s j m
theorem z3B {n:Nat} {P:Program} {Q:Exit->Act->World->Prop} {a:Act} {w:World} {c:Code} (m:Nat) (h:c.wpIn F n P (wu F n P c Q m) a w):(Code.scope c).wpIn F n P Q a w:=by
 intro b k cs I M O
 have key:∀m c' a w,Code.wpIn F n P c' (wu F n P c Q m) a w->
   ∃e U w',Q e U w'/\ArrivesIn (Machine.fenced P F) P (lone (b.atR a (.code c'::.inScope c::k)) cs w) b k cs e U w':=by
  intro m
  induction m with
  | zero=>
   intro c' a w h
   obtain ⟨e,j,q,r,d⟩:=h b (.inScope c::k) cs I M O
   cases e with
   | normal=>exact ⟨_,j,q,r,StepsIn.trans d (.one (fenced_calm M O rfl) WI)⟩
   | exit id=>exact ⟨_,j,q,r,⟨fun D s=>d.1 D (by simpa [exitTo] using s),fun G s=>d.2 G (by simpa [exitTo] using s)⟩⟩
   | goto l=>
    unfold wu at r
    cases hf:findLabel c l with
    | none=>
     simp only [hf] at r
     exact ⟨_,j,q,r,⟨fun D s=>d.1 D (by simpa [gotoIn,hf] using s),fun G s=>d.2 G (by simpa [gotoIn,hf] using s)⟩⟩
    | some A=>simp only [hf] at r
   | ret=>exact ⟨_,j,q,r,d⟩
   | panic X=>exact ⟨_,j,q,r,d⟩
   | outgrown=>exact ⟨_,j,q,r,d⟩
  | succ m V=>
   intro c' a w h
   obtain ⟨e,j,q,r,d⟩:=h b (.inScope c::k) cs I M O
   cases e with
   | normal=>exact ⟨_,j,q,r,StepsIn.trans d (.one (fenced_calm M O rfl) WI)⟩
   | exit id=>exact ⟨_,j,q,r,⟨fun D s=>d.1 D (by simpa [exitTo] using s),fun G s=>d.2 G (by simpa [exitTo] using s)⟩⟩
   | goto l=>
    unfold wu at r
    cases hf:findLabel c l with
    | none=>
     simp only [hf] at r
     exact ⟨_,j,q,r,⟨fun D s=>d.1 D (by simpa [gotoIn,hf] using s),fun G s=>d.2 G (by simpa [gotoIn,hf] using s)⟩⟩
    | some A=>
     simp only [hf] at r
     obtain ⟨T,J,S,B,u⟩:=V A j q r
     exact ⟨T,J,S,B,.of_steps (d.1 _ (by simp [gotoIn,hf])) u⟩
   | ret=>exact ⟨_,j,q,r,d⟩
   | panic X=>exact ⟨_,j,q,r,d⟩
   | outgrown=>exact ⟨_,j,q,r,d⟩
 obtain ⟨e,U,w',r,d⟩:=key m c a w h
 exact ⟨e,U,w',r,.of_steps (.one (fenced_calm M O rfl) z1N) d⟩
theorem Wp {P:Program} {N l:Nat} {ops:Array Oper}:(VC P N ops).find l=none:=by
 unfold VC
 split
 ·split
  ·repeat' split
   all_goals rfl
  ·rfl
 ·rfl
theorem We {P:Program} {N:Nat}:∀{c:Code} {x:XC},comp P N c=some x->∀l,(findLabel c l=none/\x.find l=none)\/∃d m,findLabel c l=some d/\x.find l=some m/\comp P N d=some m
 | .seq a b,x,h,l=>by
  simp only [comp,obs,oms] at h
  obtain ⟨A,ha,B,s,rfl⟩:=h
  simp only [findLabel,XC.find]
  rcases We ha l with ⟨q,j⟩ | ⟨r,m,q,j,u⟩
  ·rw [q,j];exact We s l
  ·rw [q,j];exact .inr ⟨_,_,rfl,rfl,by simp only [comp,u,s,Option.bind_some,Option.map_some]⟩
 | .label l',x,h,l=>by
  simp only [comp,sij] at h;subst h
  simp only [findLabel,XC.find]
  by_cases hl:l'=l
  ·subst hl;simp [comp]
  ·have:(l'==l)=false:=by simpa using hl
   simp [this]
 | .skip,x,h,l=>by simp only [comp,sij] at h;subst h;exact .inl ⟨rfl,rfl⟩
 | .region _ ops false,x,h,l=>by
  simp only [comp] at h
  split at h<;>(simp only [sij] at h;subst h;exact .inl ⟨rfl,rfl⟩)
 | .region _ ops true,x,h,l=>by simp only [comp,sij] at h;subst h;exact .inl ⟨rfl,Wp⟩
 | .cond c t e,x,h,l=>by
  simp only [comp,obs,oms] at h
  obtain ⟨c',_,t',_,w,_,rfl⟩:=h;exact .inl ⟨rfl,rfl⟩
 | .block id b,x,h,l=>by simp only [comp,oms] at h;obtain ⟨y,_,rfl⟩:=h;exact .inl ⟨rfl,rfl⟩
 | .loop b,x,h,l=>by simp only [comp,oms] at h;obtain ⟨y,_,rfl⟩:=h;exact .inl ⟨rfl,rfl⟩
 | .exit id,x,h,l=>by simp only [comp,sij] at h;subst h;exact .inl ⟨rfl,rfl⟩
 | .scope b,x,h,l=>by simp only [comp,oms] at h;obtain ⟨y,_,rfl⟩:=h;exact .inl ⟨rfl,rfl⟩
 | .goto l',x,h,l=>by simp only [comp,sij] at h;subst h;exact .inl ⟨rfl,rfl⟩
 | .ret,x,h,l=>by simp only [comp,sij] at h;subst h;exact .inl ⟨rfl,rfl⟩
 | .refuse _,x,h,l=>by simp only [comp,sij] at h;subst h;exact .inl ⟨rfl,rfl⟩
 | .rangeFunc ..,x,h,l=>by
  simp only [comp] at h
  split at h<;>(simp only [sij] at h;subst h;exact .inl ⟨rfl,rfl⟩)
theorem Yl {P:Program} {N:Nat}:∀{c:Code} {x:XC},comp P N c=some x->∀l,x.find l≠none->l∈labels c
 | .seq a b,x,h,l,hf=>by
  simp only [comp,obs,oms] at h
  obtain ⟨m,ha,q,j,rfl⟩:=h
  simp only [XC.find] at hf
  simp only [labels,List.mem_append]
  cases h1:m.find l with
  | none=>rw [h1] at hf;exact .inr (Yl j l hf)
  | some r=>exact .inl (Yl ha l (by rw [h1];simp))
 | .label l',x,h,l,hf=>by
  simp only [comp,sij] at h;subst h
  simp only [XC.find] at hf
  split at hf
  ·rename_i d
   have:l'=l:=by simpa using d
   simp [labels,this]
  ·exact absurd rfl hf
 | .skip,x,h,l,hf=>by simp only [comp,sij] at h;subst h;exact absurd rfl hf
 | .region _ ops false,x,h,l,hf=>by
  simp only [comp] at h
  split at h<;>(simp only [sij] at h;subst h;exact absurd rfl hf)
 | .region _ ops true,x,h,l,hf=>by simp only [comp,sij] at h;subst h;exact absurd Wp hf
 | .cond c t e,x,h,l,hf=>by
  simp only [comp,obs,oms] at h
  obtain ⟨c',_,t',_,s,_,rfl⟩:=h;exact absurd rfl hf
 | .block id b,x,h,l,hf=>by simp only [comp,oms] at h;obtain ⟨y,_,rfl⟩:=h;exact absurd rfl hf
 | .loop b,x,h,l,hf=>by simp only [comp,oms] at h;obtain ⟨y,_,rfl⟩:=h;exact absurd rfl hf
 | .exit id,x,h,l,hf=>by simp only [comp,sij] at h;subst h;exact absurd rfl hf
 | .scope b,x,h,l,hf=>by simp only [comp,oms] at h;obtain ⟨y,_,rfl⟩:=h;exact absurd rfl hf
 | .goto l',x,h,l,hf=>by simp only [comp,sij] at h;subst h;exact absurd rfl hf
 | .ret,x,h,l,hf=>by simp only [comp,sij] at h;subst h;exact absurd rfl hf
 | .refuse _,x,h,l,hf=>by simp only [comp,sij] at h;subst h;exact absurd rfl hf
 | .rangeFunc ..,x,h,l,hf=>by
  simp only [comp] at h
  split at h<;>(simp only [sij] at h;subst h;exact absurd rfl hf)
theorem Wx (b:XC) (l:Nat):∀d:List Nat,(l∈d\/b.find l=none)->Yx E (jK b d) l=(b.find l).map (Za E)
 | [],h=>by
  have:=h.resolve_left (by simp)
  rw [this];simp [jK,Yx]
 | l'::r,h=>by
  simp only [jK]
  by_cases hl:l=l'
  ·subst hl
   cases hf:b.find l with
   | none=>simp only;rw [Wx b l r (.inr hf),hf]
   | some c=>simp only [Yx,if_true,Option.map_some]
  ·cases hf:b.find l' with
   | none=>simp only;exact Wx b l r (h.imp (fun h=>(List.mem_cons.1 h).resolve_left hl) id)
   | some c=>simp only [Yx,hl,if_false];exact Wx b l r (h.imp (fun h=>(List.mem_cons.1 h).resolve_left hl) id)
def YF:XC->Bool
 | .seq a b=>YF a&&YF b
 | .cond _ t e=>YF t&&YF e
 | .block _ b | .loop b | .scope b _=>YF b
 | .rngF ..=>false
 | _=>true
theorem WT {l:Nat}:∀{x r:XC},YF x=true->x.find l=some r->YF r=true
 | .seq a b,r,h,hf=>by
  simp only [YF,Bool.and_eq_true] at h
  simp only [XC.find] at hf
  cases ha:a.find l with
  | none=>rw [ha] at hf;exact WT h.2 hf
  | some d=>
   rw [ha] at hf
   simp only [sij] at hf;subst hf
   simp only [YF,Bool.and_eq_true]
   exact ⟨WT h.1 ha,h.2⟩
 | .label l',r,_,hf=>by
  simp only [XC.find] at hf
  split at hf
  ·simp only [sij] at hf;subst hf;rfl
  ·cases hf
 | .skip,_,_,hf | .ops _,_,_,hf | .draw _,_,_,hf | .drawE _,_,_,hf | .drawR _,_,_,hf | .bad,_,_,hf | .rngF ..,_,_,hf | .cond ..,_,_,hf | .block ..,_,_,hf | .loop _,_,_,hf | .exit _,_,_,hf | .scope ..,_,_,hf | .goto _,_,_,hf | .ret,_,_,hf=>by cases hf
theorem z5b {α:Type} {N n:Nat} {f:Nat->α} {d:α} (h:n<N):((List.range N).map f).getD n d=f n:=by
 simp [List.getD,h]
theorem z4c (ai:E.plain) (gq:Wf E.g0 C0) (dn:E.G C0.w) {g:Operand} {g':Opd} {ps:Array Tmp} {aj body:Code} {xa xb:XC} (hg:opd g=some g') (gm:comp E.P N aj=some xa) (di:comp E.P N body=some xb)
  {ρ:Rho} {L:List Blk} {K:XE→Rho→List Blk→Prop} {Q:Exit→Act→World→Prop} {a:Act} {w:World} (h:Za E (.rngF g' N ps.toList xa xb) ρ L K) (hr:Rel E C0 N ρ L a w)
  (hQ:∀e ρ L a w,K e ρ L→Rel E C0 N ρ L a w→Q e.to a w):(Code.rangeFunc g ps aj body).wpIn Fence.wide 0 E.P Q a w:=by
 obtain ⟨hN,φ,wf,V,M,az,af,gu⟩:=hr
 rw [z0o.none ai.2] at af
 simp only [Za] at h
 have Y:=WY az g g' hg
 split at h
 case h_2=>exact h.elim
 rename_i gf caps dh
 rw [dh] at Y
 generalize hav:a.eval g=gv at Y
 cases Y with
 | fn _ _ _ va vb ha hb gz bz=>
 have:va=[]:=List.eq_nil_of_length_eq_zero (by simpa using ha.symm)
 subst this
 refine wpIn_rangeFunc fun fn gy=>?_
 obtain ⟨b,j⟩:∃b:Loop,b={ state:=.ready,pending:=none,fn,tmps:=a.tmps,params:=ps,assign:=aj,body,defers:=w.heap.size }:=⟨_,rfl⟩
 have bg:b.tmps=a.tmps:=by rw [j]
 let C:Ctx:=⟨w,φ,L,C0.X⟩
 let C1:Ctx:=z7r C (.deferred (some []))
 let l:=(List.range N).map ρ
 let C2:Ctx:=⟨Zm C1.w (.loop b),newφ C1 L.length 0,L++[.lp b l],C0.X⟩
 have Z:y8 C1 L.length (.loop b) (.lp b l) 0=C2:=by
  show (⟨Zm C1.w (.loop b),newφ C1 L.length 0,zy L L.length (.lp b l),C0.X⟩:Ctx)=⟨Zm C1.w (.loop b),newφ C1 L.length 0,L++[.lp b l],C0.X⟩
  rw [zB]
 have ag:Free C1.L L.length:=.inl rfl
 have e1:Ext C C1:=VQ C _
 have e2:Ext C1 C2:=Z▸yN ag (.loop b) (.lp b l) 0
 have ay:Ext C0 C2:=M.trans (e1.trans e2)
 have U:∀n,VR C2 (ρ n) (a.tmps.getD n undef):=fun n=>(az n).mono (e1.trans e2)
 have dm:Wf E.g0 C2:=Z▸jH ag (zbp wf) (z1D V)
 have A:C1.w.heap.size=w.heap.size+1:=by simp [C1,z7r,Zm,C]
 have I:C2.φ L.length=⟨w.heap.size+1,0,0⟩:=by
  show (if L.length=L.length then _ else _)=_
  rw [if_pos rfl,A]
 have O:Zp C2 L.length (.lp b l):=⟨by
   show (Zm C1.w (.loop b)).heap[(C2.φ L.length).blk]?=_
   rw [I,←A];exact zX,fun n=>by
   by_cases hn:n<N
   ·rw [z5b hn,bg];exact U n
   ·rw [bg]
    have h1:l.getD n .und=.und:=by simp [l,List.getD,hn]
    have h2:a.tmps.getD n undef=undef:=by rw [Array.getD_eq_getD_getElem?,Array.getElem?_eq_none od];rfl
    rw [h1,h2];exact .und⟩
 have bf:Sim C2:=by
  rw [←Z] at O ⊢
  exact wB ag (z1D V) O
 obtain ⟨⟨ed,bu,dw,ae⟩,q⟩:=h b (by rw [j]) (by rw [j]) ⟨by rw [j],by rw [j];exact gm,by rw [j];exact di,by rw [j];exact hN⟩
 have q:=q C2.w C2.φ C0.X (.func (.yield (w.heap.size+1)) #[] #[]::vb) dm bf (z1b gq dn ay) (by simp [hb]) (fun i x hi=>by
  cases i with
  | zero=>
   simp only [List.getElem?_cons_zero,sij] at hi;subst hi
   have:=VR.yld (C:=C2) L.length ⟨.lp b l,by show (L++[Blk.lp b l])[L.length]?=_;simp,rfl⟩
   rw [I] at this
   exact this
  | succ i=>exact (bz i x (by simpa using hi)).mono (e1.trans e2))
 refine ⟨w.heap.size+1,[{ target:=.collected w.heap.size,args:=#[] }],C2.w,{ target:=.fn (.func gf) vb.toArray,args:=#[.func (.yield (w.heap.size+1)) #[] #[]] },C2.w,gf,
  (.func (.yield (w.heap.size+1)) #[] #[]::vb).toArray,C2.w,?_,?_,?_,?_,(fun h=>by cases h),?_⟩
 ·rw [show C2.w=(w.alloc (.deferred (some []))).alloc (.loop b) from rfl,j];exact run_enterLoop_outer _ _ _ _ _
 ·simp only [resolve,hav]
  simp [Deferred.ofValue,Act.eval]
 ·intro f' _;trivial
 ·simp only [invoke]
  have:(#[Value.func (.yield (w.heap.size+1)) #[] #[]]++vb.toArray)=(.func (.yield (w.heap.size+1)) #[] #[]::vb).toArray:=by apply Array.ext';simp
  rw [this]
  unfold callFunc
  rw [Sem.run_bind,run_program]
  have ak : (ed.name == "runtime.NumGoroutine") = false := by simpa using dw
  simp only [Result.andThen_ok,bu,ak,Bool.false_eq_true,if_false,ae]
  rfl
 ·refine (callsIn_wide.2 q).mono ?_
  rintro e w' ⟨r,L',m,v,⟨r1,J,gp,hK⟩,rfl,ax,S,ext', -⟩
  let C':Ctx:=⟨w',m,L',C0.X⟩
  have s:m L.length=⟨w.heap.size+1,0,0⟩:=(ext'.slot L.length ⟨.lp b l,by show (L++[Blk.lp b l])[L.length]?=_;simp,rfl⟩).trans I
  have ah:=(S _ _ J).1
  rw [show (⟨w',m,L',C0.X⟩:Ctx).φ L.length=m L.length from rfl,s] at ah
  have au:∀c e fr,Obj.loop r1≠.cells c e fr:=fun _ _ _ h=>by cases h
  have T:C'.w.heap[(C'.φ L.length).blk]?=some (.loop r1):=by show w'.heap[(m L.length).blk]?=_;rw [s];exact ah
  let C3:Ctx:=Vb C' L.length (.loop { r1 with state:=.exhausted }) .dead
  have eu:Wf E.g0 C3:=jG ax J rfl
  have bi:Sim C3:=Wv ax S J rfl T au trivial
  have e3:Ext C' C3:=YY J rfl T au
  have bn:C3.w=w'.putObj (w.heap.size+1) (.loop { r1 with state:=.exhausted }):=by
   show setW w' (m L.length).blk _=_
   rw [s];rfl
  have cu:DOk C0.w.heap.size C2 ({ target:=.collected w.heap.size,args:=#[] }::a.defers):=by
   refine ⟨⟨w.heap.size,rfl,M.size,?_,?_,?_,?_⟩,af.mono (e1.trans e2)⟩
   ·have:C2.w.heap.size=w.heap.size+2:=by simp [C2,C1,z7r,Zm,C]
    omega
   ·intro hm
    rcases e2.sub _ hm with h1 | h1
    ·exact absurd (ZF V h1) (Nat.lt_irrefl _)
    ·rw [A] at h1;omega
   ·show (Zm C1.w (.loop b)).heap[w.heap.size]?=_
    rw [ZA (by rw [A];omega)]
    exact zX
   ·intro d' u hc
    have:∀(ds:List Deferred),DOk C0.w.heap.size C ds→∀d'∈ds,d'.target≠.collected w.heap.size:=by
     intro ds
     induction ds with
     | nil=>intro _ d' u;cases u
     | cons d ds ih=>
      rintro ⟨⟨D,h1,_,h3,_⟩,h7⟩ d' u
      rcases List.mem_cons.1 u with rfl | u
      ·rw [h1];intro hc;cases hc;exact absurd h3 (Nat.lt_irrefl _)
      ·exact ih h7 d' u
    exact this _ af d' u hc
  have B:Rel E C0 N ρ (L'.set L.length .dead) { a with defers:=[{ target:=.collected w.heap.size,args:=#[] }]++a.defers } C3.w:=
   ⟨hN,m,eu,bi,(ay.trans ext').trans e3,fun n=>((U n).mono ext').mono e3,(z0o.none ai.2).2 ((cu.mono ext').mono e3),vg ai.1⟩
  refine ⟨r1.pending,C3.w,by rw [bn];exact run_endLoop ah gp,?_⟩
  cases hp:r1.pending with
  | none=>rw [hp] at hK;exact hQ .normal _ _ _ _ hK B
  | some c=>
   rw [hp] at hK
   cases c with
   | ret=>exact wpIn_ret (hQ .ret _ _ _ _ hK B)
   | exit i=>exact wpIn_exit (hQ (.exit i) _ _ _ _ hK B)
   | goto l=>exact wpIn_goto (hQ (.goto l) _ _ _ _ hK B)
   | _=>exact hK.elim
def yA:Code->Nat
 | .seq a b=>yA a+yA b+1
 | .cond _ t e=>yA t+yA e+1
 | .block _ b=>yA b+1
 | .loop b=>yA b+1
 | .scope b=>yA b+1
 | _=>1
theorem WZ {l:Nat}:∀{c d:Code},findLabel c l=some d->yA d<=yA c
 | .seq a b,d,hf=>by
  simp only [findLabel] at hf
  split at hf
  ·rename_i r h
   simp only [sij] at hf;subst hf
   have:=WZ h
   simp only [yA];omega
  ·have:=WZ hf
   simp only [yA];omega
 | .label l',d,hf=>by
  simp only [findLabel] at hf
  split at hf
  ·simp only [sij] at hf;subst hf;exact Nat.le_refl _
  ·cases hf
 | .skip,_,hf=>by cases hf
 | .region ..,_,hf=>by cases hf
 | .cond ..,_,hf=>by cases hf
 | .block ..,_,hf=>by cases hf
 | .loop ..,_,hf=>by cases hf
 | .exit ..,_,hf=>by cases hf
 | .scope ..,_,hf=>by cases hf
 | .goto ..,_,hf=>by cases hf
 | .ret,_,hf=>by cases hf
 | .refuse ..,_,hf=>by cases hf
 | .rangeFunc ..,_,hf=>by cases hf
def safe (lo:Nat):XC->Bool
 | .ops l | .draw l | .drawE l=>l.all (Ve lo)
 | .drawR l=>l.all fun p=>Ve lo p.1
 | .seq a b=>safe lo a&&safe lo b
 | .cond _ t e=>safe lo t&&safe lo e
 | .block _ b | .loop b | .scope b _=>safe lo b
 | .rngF ..=>false
 | _=>true
theorem jR {lo l:Nat}:∀{x r:XC},safe lo x=true->x.find l=some r->safe lo r=true
 | .seq a b,r,h,hf=>by
  simp only [safe,Bool.and_eq_true] at h
  simp only [XC.find] at hf
  cases ha:a.find l with
  | none=>rw [ha] at hf;exact jR h.2 hf
  | some d=>
   rw [ha] at hf
   simp only [sij] at hf;subst hf
   simp only [safe,Bool.and_eq_true]
   exact ⟨jR h.1 ha,h.2⟩
 | .label l',r,h,hf=>by
  simp only [XC.find] at hf
  split at hf
  ·simp only [sij] at hf;subst hf;rfl
  ·cases hf
 | .skip,_,_,hf=>by cases hf
 | .ops _,_,_,hf=>by cases hf
 | .draw _,_,_,hf=>by cases hf
 | .drawE _,_,_,hf=>by cases hf
 | .drawR _,_,_,hf=>by cases hf
 | .bad,_,_,hf=>by cases hf
 | .rngF ..,_,_,hf=>by cases hf
 | .cond ..,_,_,hf=>by cases hf
 | .block ..,_,_,hf=>by cases hf
 | .loop ..,_,_,hf=>by cases hf
 | .exit ..,_,_,hf=>by cases hf
 | .scope ..,_,_,hf=>by cases hf
 | .goto ..,_,_,hf=>by cases hf
 | .ret,_,_,hf=>by cases hf
theorem Jz:∀{l:List zg},(Wh l).length=l.length
 | []=>rfl
 | o::r=>by simp only [Wh,llc,Jz]
theorem Jb:∀{l:List zg} (i:Nat) (x:zg),(Wh l)[i]?=some x->∃b,l[i]?=some b/\(x=b\/x=b.toP)
 | [],i,x,h=>by simp [Wh] at h
 | o::r,0,x,h=>by
  simp only [Wh,List.getElem?_cons_zero,sij] at h
  refine ⟨o,rfl,?_⟩
  split at h
  ·exact .inr h.symm
  ·exact .inl h.symm
 | o::r,i+1,x,h=>by
  simp only [Wh,List.getElem?_cons_succ] at h
  exact Jb i x h
theorem z8q {lo:Nat} {xs:List zg}:(xs.map zg.toP).all (Ve lo)=xs.all (Ve lo):=by
 rw [List.all_map];rfl
theorem z5Z {lo:Nat} {ops:Array Oper} {xs:List zg} (h:(Jw ops (xs.map zg.toP)).all (fun p=>Ve lo p.1)=true):xs.all (Ve lo)=true:=by
 rw [<-z8q]
 have b:(Jw ops (xs.map zg.toP)).map (·.1)=xs.map zg.toP:=by simp [Jw,List.map_map,Function.comp_def,List.zipIdx_map_fst]
 rw [<-b,List.all_map];exact h
theorem yD (Z:FOk F) (T:Wf E.g0 C0) (O:E.G C0.w):∀(m:Nat) (c:Code),yA c<=m->∀(x:XC),comp E.P N c=some x->(F=Fence.wide\/YF x=true)->(E.plain\/safe E.lo x=true)->
  ∀(ρ:Rho) (L:List Blk) (K:XE->Rho->List Blk->Prop) (Q:Exit->Act->World->Prop) (a:Act) (w:World),V8 E C0 N Q->Za E x ρ L K->Rel E C0 N ρ L a w->
   (∀e ρ L a w,K e ρ L->Rel E C0 N ρ L a w->Q e.to a w)->c.wpIn F 0 E.P Q a w:=by
 intro m
 induction m with
 | zero=>intro c hc;exfalso;cases c<;>simp [yA] at hc
 | succ m ih=>
  intro c hc x B S j ρ L K Q a w U h A I
  cases c with
  | skip=>simp only [comp,sij] at B;subst B;exact wpIn_skip (I .normal ρ L a w h A)
  | label l=>simp only [comp,sij] at B;subst B;exact wpIn_label (I .normal ρ L a w h A)
  | exit id=>simp only [comp,sij] at B;subst B;exact wpIn_exit (I (.exit id) ρ L a w h A)
  | goto l=>simp only [comp,sij] at B;subst B;exact wpIn_goto (I (.goto l) ρ L a w h A)
  | ret=>simp only [comp,sij] at B;subst B;exact wpIn_ret (I .ret ρ L a w h A)
  | refuse s=>simp only [comp,sij] at B;subst B;exact h.elim
  | rangeFunc g ps bi body=>
   simp only [comp] at B
   split at B
   ·rename_i g' xa xb hg ay ak
    simp only [sij] at B;subst B
    obtain rfl:=S.resolve_right (by simp [YF])
    exact z4c (j.resolve_right (by simp [safe])) T O hg ay ak h A I
   ·simp only [sij] at B;subst B;exact h.elim
  | region id ops d=>
   cases d
   ·simp only [comp] at B
    split at B
    ·rename_i xs M
     simp only [sij] at B;subst B
     refine wpIn_region ?_
     rw [List.range_eq_range']
     exact jZ Z T O U (fun ρ L a w D A=>I .normal ρ L a w D A) ops.size 0 xs ρ L a w (j.imp And.left fun h=>h) od (by simpa using M) h A
    ·simp only [sij] at B;subst B;exact h.elim
   ·simp only [comp,sij] at B
    subst B
    unfold VC at h j
    split at h
    ·rename_i hm
     rw [if_pos hm] at j
     split at h
     ·rename_i xs M
      rw [M] at j
      simp only at j
      split at h
      ·rename_i hc
       rw [if_pos hc] at j
       simp only [Bool.and_eq_true] at hc
       exact ZM Z T O U (K:=fun ρ' L'=>K .normal ρ' L') hm (j.imp And.left fun h=>h) M (fun i x B=>⟨x,B,.inl rfl⟩) rfl (jr (z6M hc.2)) h.2 A fun ρ L a w D A=>I .normal ρ L a w D A
      ·rename_i bg
       rw [if_neg bg] at j
       split at h
       ·rename_i hc
        rw [if_pos hc] at j
        simp only [Bool.and_eq_true] at hc
        exact ZM Z T O U (K:=fun ρ' L'=>K .normal ρ' L') hm (j.imp And.left fun h=>h) M (fun i x B=>⟨x,B,.inl rfl⟩) rfl (jr hc.2) h A fun ρ L a w D A=>I .normal ρ L a w D A
       ·rename_i az
        rw [if_neg az] at j
        split at h
        ·rename_i hc
         rw [if_pos hc] at j
         simp only [Bool.and_eq_true] at hc
         refine ZM Z T O U (K:=fun ρ' L'=>K .normal ρ' L') hm (j.imp And.left fun h=>h) M (fun i x B=>?_) (by simp [z3n]) hc.2 h A fun ρ L a w D A=>I .normal ρ L a w D A
         simp only [z3n] at B
         rw [List.getElem?_map,oms] at B
         obtain ⟨y,hy,rfl⟩:=B
         exact ⟨y,hy,by split;exact .inl rfl;exact .inr rfl⟩
        ·rename_i ai
         rw [if_neg ai] at j
         split at h
         ·rename_i hc
          rw [if_pos hc] at j
          simp only [Bool.and_eq_true] at hc
          exact ZM Z T O U (K:=fun ρ' L'=>K .normal ρ' L') hm (j.imp And.left fun h=>h) M Jb Jz hc.2 h A fun ρ L a w D A=>I .normal ρ L a w D A
         ·rename_i ag
          rw [if_neg ag] at j
          split at h
          ·rename_i hc
           rw [if_pos hc] at j
           simp only [Bool.and_eq_true] at hc
           exact z0U Z T O U (K:=fun ρ' L'=>K .normal ρ' L') hm (j.imp And.left fun h=>h) M hc.2 h A fun ρ L a w D A=>I .normal ρ L a w D A
          ·rename_i aj
           rw [if_neg aj] at j
           split at h
           ·rename_i hc
            rw [if_pos hc] at j
            have hc:=jr (z6M hc)
            refine ZM Z T O U (K:=fun ρ' L'=>K .normal ρ' L') hm (j.imp And.left fun h=>h) M (fun i x B=>?_) (by simp) hc h A fun ρ L a w D A=>I .normal ρ L a w D A
            rw [List.getElem?_map,oms] at B
            obtain ⟨y,hy,rfl⟩:=B
            exact ⟨y,hy,.inr rfl⟩
           ·rename_i ah
            rw [if_neg ah] at j
            split at h
            ·rename_i hc
             rw [if_pos hc] at j
             exact z1d Z T O U (K:=fun ρ' L'=>K .normal ρ' L') hm (j.imp And.left z5Z) M (by simp [Jw,List.map_map,Function.comp_def,List.zipIdx_map_fst]) hc h A fun ρ L a w D A=>I .normal ρ L a w D A
            ·rename_i bf
             rw [if_neg bf] at j
             split at h
             ·rename_i hc
              rw [if_pos hc] at j
              exact ZM Z T O U (K:=fun ρ' L'=>K .normal ρ' L') hm (j.imp And.left fun h=>h) M (fun i x B=>⟨x,B,.inl rfl⟩) rfl (jr hc) h A fun ρ L a w D A=>I .normal ρ L a w D A
             ·rename_i ax
              rw [if_neg ax] at j
              split at h
              ·rename_i hc
               rw [if_pos hc] at j
               refine ZM Z T O U (K:=fun ρ' L'=>K .normal ρ' L') hm (j.imp And.left fun h=>h) M (fun i x B=>?_) (by simp) (jr hc) h A fun ρ L a w D A=>I .normal ρ L a w D A
               rw [List.getElem?_map,oms] at B
               obtain ⟨y,hy,rfl⟩:=B
               exact ⟨y,hy,.inr rfl⟩
              ·exact h.elim
     ·exact h.elim
    ·exact h.elim
  | seq c1 c2=>
   simp only [comp,obs,oms] at B
   obtain ⟨x1,h1,x2,Y,rfl⟩:=B
   simp only [YF,Bool.and_eq_true] at S
   simp only [safe,Bool.and_eq_true] at j
   simp only [yA] at hc
   refine wpIn_seq (ih c1 od x1 h1 (S.imp id And.left) (j.imp id And.left) ρ L _ _ a w U h A ?_)
   intro e ρ' L' X w' D J
   cases e with
   | normal=>exact ih c2 od x2 Y (S.imp id And.right) (j.imp id And.right) ρ' L' K Q X w' U D J I
   | exit id=>exact I _ ρ' L' X w' D J
   | goto l=>exact I _ ρ' L' X w' D J
   | ret=>exact I _ ρ' L' X w' D J
  | cond c1 t e=>
   simp only [comp,obs,oms] at B
   obtain ⟨q,hq,xt,ht,xe,he,rfl⟩:=B
   simp only [YF,Bool.and_eq_true] at S
   simp only [safe,Bool.and_eq_true] at j
   simp only [yA] at hc
   simp only [Za] at h
   have hv:VR _ (q.ev ρ) (a.eval c1):=WY A.2.choose_spec.2.2.2.1 c1 q hq
   split at h
   ·rename_i b V
    rw [V] at hv
    have au:a.eval c1=.bool b:=by generalize a.eval c1=u at hv;cases hv;rfl
    exact wpIn_cond_split au (fun V=>ih t od xt ht (S.imp id And.left) (j.imp id And.left) ρ L K Q a w U (h.1 V) A I) (fun V=>ih e od xe he (S.imp id And.right) (j.imp id And.right) ρ L K Q a w U (h.2 V) A I)
   ·exact h.elim
  | block id b=>
   simp only [comp,oms] at B;obtain ⟨xb,V,rfl⟩:=B
   simp only [yA] at hc
   refine wpIn_block (ih b od xb V S j ρ L _ _ a w U h A ?_)
   intro e ρ' L' X w' D J
   cases e with
   | normal=>exact I .normal ρ' L' X w' D J
   | exit i=>
    simp only [XE.inBlock] at D
    simp only [XE.to,Exit.inBlock]
    split at D
    ·rename_i hi;rw [if_pos hi];exact I .normal ρ' L' X w' D J
    ·rename_i hi;rw [if_neg hi];exact I (.exit i) ρ' L' X w' D J
   | goto l=>exact I _ ρ' L' X w' D J
   | ret=>exact I _ ρ' L' X w' D J
  | loop b=>
   simp only [comp,oms] at B;obtain ⟨xb,V,rfl⟩:=B
   simp only [yA] at hc
   simp only [Za] at h
   obtain ⟨n,h⟩:=h
   refine wpIn_loop_rounds n ?_
   have key:∀n ρ L a w,z3T (Za E xb) n ρ L K->Rel E C0 N ρ L a w->Code.roundsIn F 0 E.P b Q n a w:=by
    intro n
    induction n with
    | zero=>intro ρ L a w h;exact h.elim
    | succ n af=>
     intro ρ L a w h A
     refine ih b od xb V S j ρ L _ _ a w U h A ?_
     intro e ρ' L' X w' D J
     cases e with
     | normal=>exact af ρ' L' X w' D J
     | exit i=>exact I _ ρ' L' X w' D J
     | goto l=>exact I _ ρ' L' X w' D J
     | ret=>exact I _ ρ' L' X w' D J
   exact key n ρ L a w h A
  | scope b=>
   simp only [comp,oms] at B;obtain ⟨xb,V,rfl⟩:=B
   simp only [yA] at hc
   simp only [Za] at h
   obtain ⟨n,h⟩:=h
   refine z3B n (ih b od xb V S j ρ L _ _ a w (U.scope n) h A ?_)
   have key:∀n e ρ L a w,yG (Yx E (jK xb (labels b))) n e ρ L K->Rel E C0 N ρ L a w->wu F 0 E.P b Q n e.to a w:=by
    intro n
    induction n with
    | zero=>
     intro e ρ L a w h A
     cases e with
     | normal=>exact I .normal ρ L a w h A
     | exit id=>exact I (.exit id) ρ L a w h A
     | ret=>exact I .ret ρ L a w h A
     | goto l=>
      simp only [yG] at h
      rw [Wx xb l (labels b) (by
       cases hf:xb.find l with
       | none=>exact .inr rfl
       | some r=>exact .inl (Yl V l (by rw [hf];simp)))] at h
      simp only [XE.to]
      unfold wu
      rcases We V l with ⟨h1,Y⟩ | ⟨ae,xr,h1,Y,h3⟩
      ·rw [Y] at h;simp only [Option.map_none] at h
       simp only [h1];exact I (.goto l) ρ L a w h A
      ·rw [Y] at h;simp only [Option.map_some] at h
    | succ n af=>
     intro e ρ L a w h A
     cases e with
     | normal=>exact I .normal ρ L a w h A
     | exit id=>exact I (.exit id) ρ L a w h A
     | ret=>exact I .ret ρ L a w h A
     | goto l=>
      simp only [yG] at h
      rw [Wx xb l (labels b) (by
       cases hf:xb.find l with
       | none=>exact .inr rfl
       | some r=>exact .inl (Yl V l (by rw [hf];simp)))] at h
      simp only [XE.to]
      unfold wu
      rcases We V l with ⟨h1,Y⟩ | ⟨ae,xr,h1,Y,h3⟩
      ·rw [Y] at h;simp only [Option.map_none] at h
       simp only [h1];exact I (.goto l) ρ L a w h A
      ·rw [Y] at h;simp only [Option.map_some] at h
       simp only [h1]
       have hsz:=WZ h1
       exact ih ae od xr h3 (S.imp id (fun h=>WT h Y)) (j.imp id (fun h=>jR h Y)) ρ L _ _ a w (U.scope n) h A (fun e ρ L a w D A=>af e ρ L a w D A)
   exact fun e ρ L a w D A=>key n e ρ L a w D A
end
section
variable {E:Env}
inductive jQ where
 | tmp (t:Nat)
 | cell1 (a:Nat)
 | cellN (a n:Nat)
def ZY (P:Program):ResultVar->Option jQ
 | .tmp t=>some (.tmp t)
 | .cell a t=>(wU P t).bind fun g=>(zI P t).map fun n=>if g then .cellN a n else .cell1 a
def z1j (E:Env) (ρ:Rho) (L:List Blk):jQ->(IV->Prop)->Prop
 | .tmp t,K=>K (ρ t)
 | .cell1 a,K=>xop E (.load1 (.t a)) (Opd.ev ρ) L fun r _=>K r
 | .cellN a n,K=>xop E (.loadN n (.t a)) (Opd.ev ρ) L fun r _=>K r
def yI (E:Env) (ρ:Rho) (L:List Blk):List jQ->(List IV->Prop)->Prop
 | [],K=>K []
 | r::l,K=>z1j E ρ L r fun v=>yI E ρ L l fun vs=>K (v::vs)
def ZV:List IV->IV
 | [x]=>x
 | l=>.tup l
def zY (E:Env) (rs:List jQ) (ρ:Rho) (L:List Blk) (K:IV->Prop):Prop:=yI E ρ L rs fun vs=>K (ZV vs)
def yw (n:Nat) (keep:List Nat):Ren:=fun s=>if s<n then some (some s) else
 match pos keep s n with
 | some i=>some (some i)
 | none=>some none
def Leave (n:Nat) (r:IV) (L':List Blk) (R:IV->List Blk->Prop):Prop:=
 ∃keep:List Nat,keep.Pairwise (·<·)/\(∀s∈keep,n<=s/\s<L'.length)/\∃r' L'',conv L' fuel (yw n keep) r=some r'/\
  zF (ZT L' fuel (yw n keep)) (L'.take n++keep.map fun s=>L'.getD s .dead)=some L''/\R r' L''
def entry (args:List IV):Rho:=fun n=>args.getD n .und
structure XFn where
 ntmps:Nat
 results:List jQ
 body:XC
def zfW (E:Env) (F:XFn) (args:List IV) (L:List Blk) (R:IV->List Blk->Prop):Prop:=
 Za E F.body (entry args) L fun e ρ L'=>(e=.ret\/e=.normal)/\zY E F.results ρ L' fun r=>Leave L.length r L' R
def Zz (P:Program) (fn:Func):Option XFn:=
 fn.body.bind fun c=>(comp P fn.ntmps c).bind fun x=>(zF (ZY P) fn.results.toList).map fun rs=>⟨fn.ntmps,rs,x⟩
def z6K (tmps:Array Value):ResultVar->Sem Value
 | .tmp t=>pure (tmps.getD t undef)
 | .cell a t=>do loadVar t (<-asAddr (tmps.getD a undef))
theorem z4b {C:Ctx} (sim:Sim C) (hG:E.G C.w) {ρ:Rho} {tmps:Array Value} (hρ:∀n,VR C (ρ n) (tmps.getD n undef)) {rv:ResultVar} {x:jQ} (hx:ZY E.P rv=some x) {K:IV->Prop} (h:z1j E ρ C.L x K) :
  ∃v r,(z6K tmps rv).run E.P C.w=.ok v C.w/\VR C r v/\K r:=by
 have hload:∀(t:TypeId) (at_:Nat) (Q:IV->List Blk->Prop) (xo:XO),Y3 E.P (.load t (.tmp at_))=some xo->xo.quiet=true->xop E xo (Opd.ev ρ) C.L Q->
   ∃v r,(do loadVar t (<-asAddr (tmps.getD at_ undef)):Sem Value).run E.P C.w=.ok v C.w/\VR C r v/\Q r C.L:=by
  intro t at_ Q xo hxo hq hxop
  obtain ⟨v,r,h1,h2,h3⟩:=z7y (E:=E) (C:=C) (a:=⟨tmps,[]⟩) (o:={ (default:Oper) with op:=.load t (.tmp at_) }) (x:=xo) sim hG (WY hρ) hxo hq hxop
  refine ⟨v,r,?_,h2,h3⟩
  have h4:(execOp (Act.eval ⟨tmps,[]⟩) { (default:Oper) with op:=.load t (.tmp at_) }).run E.P C.w=((Instr.loadAt t (tmps.getD at_ undef)).run E.P C.w).andThen fun v w'=>.ok (.value v) w':=by
   show (do pure (Next.value (<-Instr.loadAt t (tmps.getD at_ undef))):Sem Next).run E.P C.w=_
   rw [Sem.run_bind];rfl
  rw [h4] at h1
  have h5:(Instr.loadAt t (tmps.getD at_ undef)).run E.P C.w=.ok v C.w:=by
   cases hr:(Instr.loadAt t (tmps.getD at_ undef)).run E.P C.w with
   | ok u w'=>rw [hr] at h1;simp only [Result.andThen_ok,Result.ok.injEq,Next.value.injEq] at h1;rw [h1.1,h1.2]
   | halt hh w'=>rw [hr] at h1;cases h1
  unfold Instr.loadAt at h5
  rw [Sem.run_bind] at h5 ⊢
  cases hv:tmps.getD at_ undef with
  | pointer p=>
   cases p with
   | none=>rw [hv] at h5;cases h5
   | some p=>rw [hv] at h5;exact h5
  | _=>rw [hv] at h5;cases h5
 cases rv with
 | tmp t=>simp only [ZY,sij] at hx;subst hx;exact ⟨_,_,rfl,hρ t,h⟩
 | cell at_ t=>
  simp only [ZY,obs,oms] at hx
  obtain ⟨g,hg,n,hn,rfl⟩:=hx
  cases g
  ·simp only [Bool.false_eq_true,if_false,z1j] at h
   exact hload t at_ (fun r _=>K r) (.load1 (.t at_)) (by simp [Y3,hg,hn,opd]) rfl h
  ·simp only [if_true,z1j] at h
   exact hload t at_ (fun r _=>K r) (.loadN n (.t at_)) (by simp [Y3,hg,hn,opd]) rfl h
theorem Jv {C:Ctx} (d:Sim C) (hG:E.G C.w) {ρ:Rho} {tmps:Array Value} (j:∀n,VR C (ρ n) (tmps.getD n undef)):∀(b:List ResultVar) (xs:List jQ) (K:List IV->Prop),zF (ZY E.P) b=some xs->yI E ρ C.L xs K->
  ∃vs rs,(b.mapM (z6K tmps)).run E.P C.w=.ok vs C.w/\rs.length=vs.length/\
   (∀(i:Nat) (x:IV),rs[i]?=some x->VR C x (vs.getD i undef))/\K rs
 | [],xs,K,hx,h=>by
  simp only [zF,sij] at hx;subst hx
  exact ⟨[],[],rfl,rfl,fun i x hi=>by simp at hi,h⟩
 | rv::b,xs,K,hx,h=>by
  simp only [zF] at hx
  split at hx
  ·split at hx
   ·rename_i x m _ D l
    simp only [sij] at hx;subst hx
    obtain ⟨v,r,I,u,B⟩:=z4b (E:=E) d hG j m h
    obtain ⟨vs,rs,q,J,s,A⟩:=Jv d hG j b D _ l B
    refine ⟨v::vs,r::rs,?_,by simp [J],fun i x hi=>?_,A⟩
    ·rw [List.mapM_cons,Sem.run_bind,I]
     simp only [Result.andThen_ok]
     rw [Sem.run_bind,q]
     rfl
    ·cases i with
     | zero=>simp at hi;subst hi;exact u
     | succ i=>simpa using s i x (by simpa using hi)
   ·cases hx
  ·cases hx
theorem wX {C:Ctx} (j:Sim C) (hG:E.G C.w) {ρ:Rho} {tmps:Array Value} (m:∀n,VR C (ρ n) (tmps.getD n undef)) {fn:Func} {xs:List jQ} {K:IV->Prop} (u:zF (ZY E.P) fn.results.toList=some xs) (h:zY E xs ρ C.L K) :
  ∃v r,(results fn tmps).run E.P C.w=.ok v C.w/\VR C r v/\K r:=by
 obtain ⟨vs,rs,s,l,d,q⟩:=Jv (E:=E) j hG m fn.results.toList xs _ u h
 have b:(results fn tmps).run E.P C.w=.ok (if h:vs.toArray.size=1 then vs.toArray[0] else .tuple vs.toArray) C.w:=by
  have B:results fn tmps=(do let vs <-fn.results.mapM (z6K tmps);pure (if h:vs.size=1 then vs[0] else .tuple vs)):=rfl
  rw [B,Sem.run_bind,Array.mapM_eq_mapM_toList,Sem.run_map,s]
  rfl
 refine ⟨_,_,b,?_,q⟩
 clear s b q
 match rs,vs,l,d with
 | [],[],_,_=>exact .tup [] [] rfl (fun i x hi=>by simp at hi)
 | [r],[v],_,d=>exact d 0 r rfl
 | r1::r2::rs,A::v2::vs,l,d=>
  have:¬((A::v2::vs).toArray.size=1):=by simp
  rw [dif_neg this]
  exact .tup _ _ l d
theorem z2i {g0:Nat} {C0 C:Ctx} (wf:Wf g0 C) (Z:Sim C) (ext:Ext C0 C) {r:IV} {v:Value} (hv:VR C r v) {R:IV->List Blk->Prop} (h:Leave C0.L.length r C.L R) :
  ∃r' L' j,R r' L'/\Wf g0 ⟨C.w,j,L',C.X⟩/\Sim ⟨C.w,j,L',C.X⟩/\Ext C0 ⟨C.w,j,L',C.X⟩/\VR ⟨C.w,j,L',C.X⟩ r' v:=by
 obtain ⟨keep,ah,U,r',L',hr,hL,hR⟩:=h
 let n:=C0.L.length
 have hn:n<=C.L.length:=ext.len
 let src:Nat->Nat:=fun s=>if s<n then s else keep.getD (s - n) 0
 let j:Nat->Loc:=fun s=>C.φ (src s)
 have au:L'.length=n+keep.length:=by
  rw [zu hL];simp only [lla,List.length_take,List.length_map];omega
 have I:∀s k,L'[s]?=some k->∃k0,C.L[src s]?=some k0/\ZT C.L fuel (yw n keep) k0=some k/\((s<n/\src s=s)\/(n<=s/\keep[s - n]?=some (src s))):=by
  intro s k hs
  obtain ⟨k0,D,q⟩:=zq hL s k hs
  by_cases m:s<n
  ·rw [List.getElem?_append_left (by rw [List.length_take];omega),List.getElem?_take,if_pos m] at D
   exact ⟨k0,by simp only [src,m,if_true];exact D,q,.inl ⟨m,by simp only [src,m,if_true]⟩⟩
  ·have ax:=zl hs
   rw [List.getElem?_append_right (by rw [List.length_take];omega),List.length_take,List.getElem?_map,oms] at D
   obtain ⟨t,O,rfl⟩:=D
   have e1:s - min n C.L.length=s - n:=by omega
   have ae:keep[s - n]?=some t:=by rw [<-e1];exact O
   have V:src s=t:=by simp only [src,m,if_false];exact YJ ae
   have ak:t∈keep:=List.mem_of_getElem? ae
   obtain ⟨G,h6⟩:=U t ak
   exact ⟨_,by rw [V];exact getD_get (d:=.dead) h6,q,.inr ⟨od,by rw [V];exact ae⟩⟩
 have A:∀b,(⟨C.w,j,L',C.X⟩:Ctx).mine b->C.mine b:=by
  rintro b ⟨s,k,S,ha,rfl⟩
  obtain ⟨k0,D,q,_⟩:=I s k S
  exact ⟨src s,k0,D,by rw [<-zD q];exact ha,rfl⟩
 have af:Ext C0 ⟨C.w,j,L',C.X⟩:=
  ⟨ext.size,ext.frame,fun b hb=>ext.sub b (A b hb),fun s Q=>by
   have hs:s<n:=Q.lt
   show C.φ (src s)=_
   have:src s=s:=by simp only [src];exact if_pos hs
   rw [this];exact ext.slot s Q,fun s Q=>by
   have hs:s<n:=Q.lt
   obtain ⟨k,D,q⟩:=ext.bo s Q
   have O:(C.L.take n++keep.map fun s=>C.L.getD s .dead)[s]?=some k:=by
    rw [List.getElem?_append_left (by rw [List.length_take];omega),List.getElem?_take,if_pos hs];exact D
   obtain ⟨k',B,G⟩:=Zd hL s k O
   exact ⟨k',B,by rw [ZO G];exact q⟩,by show n<=L'.length;omega,ext.cap,ext.ex,ext.os,ext.tape,ext.output⟩
 have ag:∀s t,s<L'.length->t<L'.length->((s<n/\src s=s)\/(n<=s/\keep[s - n]?=some (src s)))->((t<n/\src t=t)\/(n<=t/\keep[t - n]?=some (src t)))->src s=src t->s=t:=by
  intro s t _ _ hs ht T
  have S:∀i x,keep[i]?=some x->n<=x:=fun i x hx=>(U x (List.mem_of_getElem? hx)).1
  rcases hs with ⟨D,q⟩ | ⟨D,q⟩<;>rcases ht with ⟨O,B⟩ | ⟨O,B⟩
  ·omega
  ·have:=S _ _ B;omega
  ·have:=S _ _ q;omega
  ·rw [T] at q
   rcases Nat.lt_trichotomy (s - n) (t - n) with G | G | G
   ·have h6:=List.pairwise_iff_getElem.1 ah (s - n) (t - n) (zl q) (zl B) G
    have e1:=Option.some.inj ((List.getElem?_eq_getElem (zl q)).symm.trans q)
    have e2:=Option.some.inj ((List.getElem?_eq_getElem (zl B)).symm.trans B)
    omega
   ·omega
   ·have h6:=List.pairwise_iff_getElem.1 ah (t - n) (s - n) (zl B) (zl q) G
    have e1:=Option.some.inj ((List.getElem?_eq_getElem (zl q)).symm.trans q)
    have e2:=Option.some.inj ((List.getElem?_eq_getElem (zl B)).symm.trans B)
    omega
 have Y:z1I C ⟨C.w,j,L',C.X⟩ (yw n keep):=by
  intro s k S
  refine ⟨fun J ha M=>?_,fun t J=>?_⟩
  ·have m:¬s<n:=by
    intro h;unfold yw at J;rw [if_pos h] at J;cases J
   have aj:s∉keep:=by
    unfold yw at J
    rw [if_neg m] at J
    split at J
    ·cases J
    ·rename_i hp;exact Vp hp
   rcases M with hx | ⟨t,l,hl,ai,T⟩
   ·exact wf.apart _ hx ⟨s,k,S,ha,rfl⟩
   ·obtain ⟨k0,D,q,O⟩:=I t l hl
    have:=wf.inj s (src t) k k0 S D ha (by rw [<-zD q];exact ai) T.symm
    rcases O with ⟨B,G⟩ | ⟨B,G⟩
    ·omega
    ·rw [<-this] at G;exact aj (List.mem_of_getElem? G)
  ·unfold yw at J
   split at J
   ·rename_i m
    simp only [sij] at J;subst J
    refine ⟨fun hb=>?_,?_⟩
    ·have O:(C.L.take n++keep.map fun s=>C.L.getD s .dead)[s]?=some k:=by
      rw [List.getElem?_append_left (by rw [List.length_take];omega),List.getElem?_take,if_pos m];exact S
     obtain ⟨k',B,G⟩:=Zd hL s k O
     exact ⟨k',B,by rw [ZO G];exact hb⟩
    show C.φ (src s)=_
    have:src s=s:=by simp only [src];exact if_pos m
    rw [this]
   ·rename_i m
    split at J
    ·rename_i i hp
     simp only [sij] at J;subst J
     obtain ⟨d,rfl,hd⟩:=Yi hp
     have ay:=zl hd
     refine ⟨fun hb=>?_,?_⟩
     ·have O:(C.L.take n++keep.map fun s=>C.L.getD s .dead)[n+d]?=some k:=by
       rw [List.getElem?_append_right (by rw [List.length_take];omega),List.length_take,List.getElem?_map]
       have e1:n+d - min n C.L.length=d:=by omega
       rw [e1,hd]
       show some (C.L.getD s .dead)=_
       rw [List.getD_eq_getElem?_getD,S];rfl
      obtain ⟨k',B,G⟩:=Zd hL _ k O
      exact ⟨k',B,by rw [ZO G];exact hb⟩
     show C.φ (src (n+d))=_
     have:src (n+d)=s:=by
      have D:¬n+d<n:=by omega
      simp only [src,D,if_false,Nat.add_sub_cancel_left];exact YJ hd
     rw [this]
    ·cases J
 have M:∀b,(⟨C.w,j,L',C.X⟩:Ctx).own b->C.own b:=fun b h=>h.imp id (A b)
 refine ⟨r',L',j,hR,⟨?_,fun b h=>wf.lo b (A b h),fun b hx h=>wf.apart b hx (A b h),wf.exlo,wf.g⟩,?_,af,Zi (C:=C) (C':=⟨C.w,j,L',C.X⟩) rfl Z M fuel _ r r' v Y hr hv⟩
 ·intro s t ks kt hs ht as at_ T
  obtain ⟨k1,D,q,O⟩:=I s ks hs
  obtain ⟨k2,B,G,h6⟩:=I t kt ht
  exact ag s t (zl hs) (zl ht) O h6 (wf.inj _ _ k1 k2 D B (by rw [<-zD q];exact as) (by rw [<-zD G];exact at_) T)
 ·intro s k S
  obtain ⟨k0,D,q,_⟩:=I s k S
  exact Vs (C:=C) (C':=⟨C.w,j,L',C.X⟩) (s:=src s) rfl rfl (fun x x' u _ hc hu=>Zi (C:=C) (C':=⟨C.w,j,L',C.X⟩) rfl Z M fuel _ x x' u Y hc hu) q (Z _ k0 D)
theorem VR.keep {C C':Ctx} (hs:C'.w.heap.size=C.w.heap.size) (l:C'.φ=C.φ) (O:C'.L=C.L) (hX:C'.X=C.X) (hc:∀(b:Nat) c e fr,C.w.heap[b]?=some (.cells c e fr)->C'.w.heap[b]?=some (.cells c e fr))
  {x:IV} {v:Value} (h:VR C x v):VR C' x v:=by
 have B:∀b,C'.own b↔C.own b:=fun b=>by simp only [Ctx.own,Ctx.mine,l,O,hX]
 have q:∀b o v,C.w.cell? ⟨b,o,none⟩=some v->C'.w.cell? ⟨b,o,none⟩=some v:=fun b o v m=>by
  simp only [World.cell?] at m ⊢
  cases u:C.w.heap[b]? with
  | none=>rw [u] at m;cases m
  | some ob=>cases ob with
   | cells c e fr=>rw [u] at m;rw [hc b c e fr u];exact m
   | _=>rw [u] at m;cases m
 induction h with
 | bool b=>exact .bool b
 | int k n=>exact .int k n
 | str s=>exact .str s
 | raw v h=>exact .raw v h
 | und=>exact .und
 | ptr s r o d=>rw [<-l];exact .ptr s r o (by unfold Ctx.born;rw [O];exact d)
 | sl s off len cap a cap' d M I ha Y=>
  refine .sl s off len cap a cap' (by unfold Ctx.born;rw [O];exact d) M I ?_ Y
  rcases ha with U | ⟨ha,c,e,fr,hh,S⟩
  ·exact .inl U
  ·exact .inr ⟨by rw [l];exact ha,c,e,fr,by rw [l];exact hc _ _ _ _ hh,by rw [l];exact S⟩
 | isl rows a cap' sz vals J hsz D ha m A=>
  refine .isl rows a cap' sz vals J hsz D ?_ A
  rcases ha with U | ⟨b,o,ha,u,hn,I⟩
  ·exact .inl U
  ·exact .inr ⟨b,o,ha,by rw [hs];exact u,fun h=>hn ((B b).1 h),fun i G hi j x V=>q _ _ _ (I i G hi j x V)⟩
 | iptr rows r o b base sz vals hsz D u ho ha m A=>
  exact .iptr rows r o b base sz vals hsz D (by rw [hs];exact u) (fun h=>ho ((B b).1 h)) (fun i G hi j x V=>q _ _ _ (ha i G hi j x V)) A
 | esl a=>exact .esl a
 | nsl=>exact .nsl
 | agg cs vs M m A=>exact .agg cs vs M A
 | tup cs vs M m A=>exact .tup cs vs M A
 | fn f as bs va vb ha u ae Z Q T=>exact .fn f as bs va vb ha u Q T
 | iface t x v m A=>exact .iface t x v A
 | mp s d=>rw [<-l];exact .mp s (by unfold Ctx.born;rw [O];exact d)
 | yld s d=>rw [<-l];exact .yld s (by unfold Ctx.born;rw [O];exact d)
theorem vV {g0:Nat} {C0 C:Ctx} (wf:Wf g0 C) (d:Sim C) (ext:Ext C0 C) {r:IV} {v:Value} (j:VR C r v) {R:IV->List Blk->Prop} (h:Leave C0.L.length r C.L R\/R r C.L) :
  ∃l L' b,R l L'/\Wf g0 ⟨C.w,b,L',C.X⟩/\Sim ⟨C.w,b,L',C.X⟩/\Ext C0 ⟨C.w,b,L',C.X⟩/\VR ⟨C.w,b,L',C.X⟩ l v:=by
 rcases h with h | h
 ·exact z2i wf d ext j h
 ·exact ⟨r,C.L,C.φ,h,wf,d,ext,j⟩
def zhc (E:Env) (C0:Ctx) (xs:Nat->IV) (us:Nat->Value) (L:List Blk) (ds:List Deferred) (w:World):Prop:=
 ∃φ,Wf E.g0 ⟨w,φ,L,C0.X⟩/\Sim ⟨w,φ,L,C0.X⟩/\Ext C0 ⟨w,φ,L,C0.X⟩/\(∀n,VR ⟨w,φ,L,C0.X⟩ (xs n) (us n))/\DOk C0.w.heap.size ⟨w,φ,L,C0.X⟩ ds
theorem wH {C0:Ctx} {fn:Func} {xs:Nat->IV} {us:Nat->Value} {L:List Blk} {tmps:Array Value} {R:Ending->World->Prop} {u:FrameMode} (hu:u≠.run) (S:∀w,zhc E C0 xs us L [] w->LeavesInM Fence.wide 0 E.P fn tmps R [] u w) :
  ∀(G:List Deferred) (w:World),zhc E C0 xs us L G w->LeavesInM Fence.wide 0 E.P fn tmps R G u w
 | [],w,h=>S w h
 | d::G,w,h=>by
  obtain ⟨φ,wf,ag,A,ax,⟨⟨D,rfl,h2,h3,h4,h5,h6⟩,h7⟩⟩:=h
  refine ⟨hu,.inl ⟨D,w.putObj D (.deferred none),rfl,run_takeDeferred h5,wH hu S G _ ?_⟩⟩
  let C:Ctx:=⟨w,φ,L,C0.X⟩
  let C':Ctx:=⟨w.putObj D (.deferred none),φ,L,C0.X⟩
  have hsz:C'.w.heap.size=C.w.heap.size:=World.putObj_size
  have q:∀b,b≠D->C'.w.heap[b]?=C.w.heap[b]?:=fun b B=>World.putObj_heap_other B
  have O:∀(b:Nat) c e fr,C.w.heap[b]?=some (.cells c e fr)->C'.w.heap[b]?=some (.cells c e fr):=fun b c e fr B=>by
   rw [q b (fun h=>by subst h;rw [h5] at B;cases B)];exact B
  have M:∀{x v},VR C x v->VR C' x v:=fun h=>VR.keep hsz rfl rfl rfl O h
  have V:Ext C0 C':=
   ⟨Nat.le_trans A.size (Nat.le_of_eq hsz.symm),fun b B hm=>(q b od).trans (A.frame b B hm),A.sub,A.slot,A.bo,A.len,
    fun b c e fr B=>by obtain ⟨c',e',fr',Q,h9⟩:=A.cap b c e fr B;exact ⟨c',e',fr',O _ _ _ _ Q,h9⟩,A.ex,A.os,A.tape,A.output⟩
  refine ⟨φ,⟨wf.inj,wf.lo,wf.apart,fun b B=>by rw [hsz];exact wf.exlo b B,by rw [hsz];exact wf.g⟩,?_,V,fun n=>M (ax n),?_⟩
  ·intro s k hk
   have Q:=ag s k hk
   by_cases ha:k.alive=true
   ·have B:(φ s).blk≠D:=fun h=>h4 ⟨s,k,hk,ha,h⟩
    cases k with
    | cells sz rows=>
     obtain ⟨h9,c,e,fr,T,Y,Z,I⟩:=Q
     exact ⟨h9,c,e,fr,O _ _ _ _ T,Y,Z,fun i J hi=>⟨(I i J hi).1,fun j x hj=>let ⟨v,h13,h14⟩:=(I i J hi).2 j x hj;⟨v,h13,M h14⟩⟩⟩
    | tcells ty sz rows=>
     obtain ⟨⟨h9,c,e,fr,T,Y,Z,I⟩,bf,c',fr',az⟩:=Q
     exact ⟨⟨h9,c,e,fr,O _ _ _ _ T,Y,Z,fun i J hi=>⟨(I i J hi).1,fun j x hj=>let ⟨v,h13,h14⟩:=(I i J hi).2 j x hj;⟨v,h13,M h14⟩⟩⟩,bf,c',fr',O _ _ _ _ az⟩
    | siter t p=>exact ⟨Q.1,(q _ B).trans Q.2⟩
    | map es c=>obtain ⟨ms,k1,k2,k3⟩:=Q;exact ⟨ms,(q _ B).trans k1,k2,fun i e he=>by obtain ⟨m,k4,k5,k6,k7⟩:=k3 i e he;exact ⟨m,k4,k5,M k6,k7⟩⟩
    | mit m=>obtain ⟨k1,k2,U,af,k3⟩:=Q;exact ⟨k1,k2,U,af,(q _ B).trans k3⟩
    | lp r l=>exact ⟨(q _ B).trans Q.1,fun n=>M (Q.2 n)⟩
    | dead=>trivial
    | unborn=>trivial
   ·cases k<;>first | trivial | (exfalso;exact ha rfl)
  ·have:∀G:List Deferred,(∀d'∈G,d'.target≠.collected D)->DOk C0.w.heap.size C G->DOk C0.w.heap.size C' G:=by
    intro G
    induction G with
    | nil=>intro _ _;trivial
    | cons d G ih=>
     rintro ae ⟨⟨D',h1,ak,ay,ai,ah,aj⟩,au⟩
     refine ⟨⟨D',h1,ak,by rw [hsz];exact ay,ai,?_,aj⟩,ih (fun d' bg=>ae d' (List.mem_cons_of_mem _ bg)) au⟩
     rw [q D' (fun h=>ae d List.mem_cons_self (by rw [h1,h]))];exact ah
   exact this G h6 h7
def Env.withPan (E:Env) (Q:IV->List Blk->Prop):Env:={ E with pan:=Q,lo:=0,kept:=fun _=>undef,base:=none }
def Env.noPan (E:Env):Env:={ E with pan:=fun _ _=>False,lo:=0,kept:=fun _=>undef,base:=none }
def z3F (E:Env) (N:Nat) (c:Code) (ρ:Rho) (L:List Blk) (K:XE->Rho->List Blk->Prop):Prop:=∀(C0:Ctx) (Q:Exit->Act->World->Prop) (a:Act) (w:World),Wf E.g0 C0->E.G C0.w->V8 E C0 N Q->Rel E C0 N ρ L a w->
 (∀e ρ L a w,K e ρ L->Rel E C0 N ρ L a w->Q e.to a w)->c.wpIn Fence.wide 0 E.P Q a w
theorem ji {N:Nat} {c:Code} {x:XC} {ρ:Rho} {L:List Blk} {K:XE->Rho->List Blk->Prop} (b:E.plain) (d:comp E.P N c=some x) (h:Za E x ρ L K):z3F E N c ρ L K:=fun C0 Q a w wf hG m j l=>
 yD (F:=Fence.wide) (.inl rfl) (C0:=C0) wf hG (yA c) c (Nat.le_refl _) x d (.inl rfl) (.inl b) ρ L K Q a w m h j l
theorem z1o {N:Nat} {h l:Code} {ρ:Rho} {L:List Blk} {M:Rho->List Blk->Prop} {K:XE->Rho->List Blk->Prop} (D:z3F E N h ρ L fun e ρ L=>e=.normal/\M ρ L) (q:∀ρ L,M ρ L->z3F E N l ρ L K):z3F E N (.seq h l) ρ L K:=fun C0 Q a w wf hG j u A=>by
 refine wpIn_seq (D C0 _ a w wf hG (fun x v L' b a w' s r q3 q4 q5 q6 q7 m I=>j x v L' b a w' s r q3 q4 q5 q6 q7 m I) u ?_)
 rintro e ρ' L' B w' ⟨rfl,G⟩ d
 exact q ρ' L' G C0 Q B w' wf hG j d A
theorem z5l {N:Nat} {id:Nat} {ops:Array Oper} {xs0 xs:List zg} {ρ:Rho} {L:List Blk} {K:Rho->List Blk->Prop} (J:E.lo=0) (hm:E.P.follows .mixedOrders=true) (u:zF (Zk E.P N ops.toList) ops.toList=some xs0)
  (O:∀(i:Nat) (x:zg),xs[i]?=some x->∃d,xs0[i]?=some d/\(x=d\/x=d.toP)) (hl:xs.length=xs0.length) (h:z0n E ops xs K ops.size (Array.replicate ops.size false) ρ L):z3F E N (.region id ops true) ρ L fun e ρ L=>e=.normal/\K ρ L:=fun C0 Q a w wf hG hP l V=>by
 have j:Rel E C0 N ρ L a w.drew:=by
  obtain ⟨hN,Z,wf,D,m,T,s⟩:=l
  exact ⟨hN,Z,Zu wf,Zc D,m.trans (zA _),fun n=>(T n).mono (zA _),s.1.mono (zA _),s.2⟩
 have B:xs.length=ops.size:=by rw [hl,zu u];simp
 refine wpIn_region_any hm ?_
 have key:∀(fuel:Nat) (b:Array Bool) (ρ:Rho) (L:List Blk) (a:Act) (w:World),z0n E ops xs K fuel b ρ L->Rel E C0 N ρ L a w->wpAnyIn Fence.wide 0 E.P .any ops Q fuel b a w:=by
  intro fuel
  induction fuel with
  | zero=>intro b ρ L a w h l;exact ⟨h.1,V .normal ρ L a w ⟨rfl,h.2⟩ l⟩
  | succ fuel X=>
   intro b ρ L a w h l
   refine ⟨fun h0=>V .normal ρ L a w ⟨rfl,h.1 h0⟩ l,fun i hi=>?_⟩
   have S:=h.2 i hi
   obtain ⟨_,o,M,_⟩:=mem_ready.1 hi
   have A:i<xs.length:=by rw [B];exact (Array.getElem?_eq_some_iff.1 M).1
   obtain ⟨x,U⟩:∃x,xs[i]?=some x:=⟨_,List.getElem?_eq_getElem A⟩
   obtain ⟨d,G,r⟩:=O i x U
   obtain ⟨o',q,hc⟩:=zq u i d G
   rw [Array.getElem?_toList,M] at q
   obtain rfl:=Option.some.inj q
   simp only [sOp,U] at S
   have hd:x.dst=d.dst:=by rcases r with rfl | rfl<;>rfl
   have Y:zG E d ρ L fun v L'=>z0n E ops xs K fuel (b.setIfInBounds i true) (put ρ x.dst v) L':=by
    rcases r with rfl | rfl
    ·exact S
    ·exact z8M S
   exact Yq (.inl rfl) wf hG hP (.inl J) M hc Y l fun v L' a' w' I j=>X _ _ L' a' w' I (by rw [hd];exact j)
 exact key _ _ _ _ _ _ h j
theorem ja {f : FuncId} {fn : Func} {c : Code} {rs : List jQ} {args : List IV} {L : List Blk} {R Q : IV → List Blk → Prop} {pq : IV → List Blk → Prop} (Lv : IV → List Blk → (IV → List Blk → Prop) → Prop) (M : ∀ r L' R, Lv r L' R → Leave L.length r L' R ∨ R r L') (ai : ∀ x L', pq x L' → Lv x L' Q) (hf : E.P.funcs[f]? = some fn) (hb : fn.body = some c) (ag : zF (ZY E.P) fn.results.toList = some rs) (af : fn.name ≠ "runtime.NumGoroutine")
  (ae:args.length≤fn.ntmps) (h:z3F (E.withPan pq) fn.ntmps c (entry args) L fun e ρ L'=>(e=.ret∨e=.normal)∧zY (E.withPan pq) rs ρ L' fun r=>Lv r L' R):XTP E f args L R Q:=by
 refine ⟨⟨fn,hf,af,by rw [hb];rfl⟩,fun w s X vs wf Y hG hl ah=>?_⟩
 refine callsIn_wide.1 (callsIn_of_wp_marks (n:=0) hf hb trivial ?_)
 have T:Rel (E.withPan pq) ⟨w,s,L,X⟩ fn.ntmps (entry args) L { tmps:=vs.toArray++Array.replicate (fn.ntmps - vs.toArray.size) undef,defers:=[] } w:=by
  refine ⟨by simp;omega,s,wf,Y,Ext.refl _,fun n=>?_,(z0o.none (E:=E.withPan pq) rfl).2 trivial,vg rfl⟩
  show VR _ (args.getD n .und) _
  by_cases hn:n<args.length
  ·have U:=ah n _ (getD_get (d:=.und) hn)
   have J:(vs.toArray++Array.replicate (fn.ntmps - vs.toArray.size) undef).getD n undef=vs.getD n undef:=by
    rw [Array.getD_eq_getD_getElem?,Array.getElem?_append_left (by simpa [←hl] using hn),List.getD_eq_getElem?_getD]
    simp
   rw [J];exact U
  ·have U:args.getD n .und=.und:=by rw [List.getD_eq_getElem?_getD,List.getElem?_eq_none od];rfl
   have J:(vs.toArray++Array.replicate (fn.ntmps - vs.toArray.size) undef).getD n undef=undef:=by
    rw [Array.getD_eq_getD_getElem?,Array.getElem?_append_right (by simp;omega),Array.getElem?_replicate]
    split<;>rfl
   rw [U,J];exact .und
 let P1:Ending→World→Prop:=fun e j=>∃r L'' b v',Wf E.g0 ⟨j,b,L'',X⟩∧Sim ⟨j,b,L'',X⟩∧Ext ⟨w,s,L,X⟩ ⟨j,b,L'',X⟩∧VR ⟨j,b,L'',X⟩ r v'∧
   ((R r L''∧e=.returned v')∨(Q r L''∧e=.panicked [{ v:=v',recovered:=false }]))
 refine h ⟨w,s,L,X⟩ (bodyPostM Fence.wide 0 E.P fn P1) _ w wf hG ?_ T ?_
 ·intro y v L' B a w' hy hN D q ext' hv hd _ _
  have hd:=(z0o.none (E:=E.withPan pq) rfl).1 hd
  refine wH (E:=E) (C0:=⟨w,s,L,X⟩) (fn:=fn) (xs:=fun _=>y) (us:=fun _=>v) (L:=L') (R:=P1) (by intro h;cases h) (fun j hr=>?_) a.defers w' ⟨B,D,q,ext',fun _=>hv,hd⟩
  obtain ⟨φ1,A,m,l,Z,_⟩:=hr
  obtain ⟨r',L'',b,h4,h5,h6,h7,h8⟩:=vV (C0:=⟨w,s,L,X⟩) (C:=⟨j,φ1,L',X⟩) A m l (Z 0) (M _ _ _ (ai y L' hy))
  exact ⟨r',L'',b,v,h5,h6,h7,h8,.inr ⟨h4,rfl⟩⟩
 rintro e ρ L' V w' ⟨he,I⟩ ⟨aj,B,D,q,ext',O,G,_⟩
 have G:=(z0o.none (E:=E.withPan pq) rfl).1 G
 have u:LeavesInM Fence.wide 0 E.P fn V.tmps P1 V.defers .returning w':=by
  refine wH (E:=E) (C0:=⟨w,s,L,X⟩) (xs:=ρ) (us:=fun n=>V.tmps.getD n undef) (L:=L') (by intro h;cases h) (fun j hr=>?_) V.defers w' ⟨B,D,q,ext',O,G⟩
  obtain ⟨φ1,A,m,l,S,_⟩:=hr
  obtain ⟨v,r,U,J,h3⟩:=wX (E:=E.withPan pq) (C:=⟨j,φ1,L',X⟩) m (z1b (C0:=⟨w,s,L,X⟩) wf hG l) S ag I
  obtain ⟨r',L'',b,h4,h5,h6,h7,h8⟩:=vV (C0:=⟨w,s,L,X⟩) (C:=⟨j,φ1,L',X⟩) A m l J (M _ _ _ h3)
  exact ⟨v,U,r',L'',b,v,h5,h6,h7,h8,.inl ⟨h4,rfl⟩⟩
 rcases he with rfl | rfl
 ·exact u
 ·exact u
theorem VX {f : FuncId} {fn : Func} {F : XFn} {args : List IV} {L : List Blk} {R Q : IV → List Blk → Prop} {pq : IV → List Blk → Prop} (Lv : IV → List Blk → (IV → List Blk → Prop) → Prop) (j : ∀ r L' R, Lv r L' R → Leave L.length r L' R ∨ R r L') (l : ∀ x L', pq x L' → Lv x L' Q) (w : E.P.funcs[f]? = some fn) (q : Zz E.P fn = some F) (d : fn.name ≠ "runtime.NumGoroutine")
  (b:args.length≤fn.ntmps) (h:Za (E.withPan pq) F.body (entry args) L fun e ρ L'=>(e=.ret∨e=.normal)∧zY (E.withPan pq) F.results ρ L' fun r=>Lv r L' R):XTP E f args L R Q:=by
 simp only [Zz,obs,oms] at q
 obtain ⟨c,u,x,s,rs,m,rfl⟩:=q
 exact ja Lv j l w u m d b (ji ⟨rfl,rfl⟩ s h)
theorem z4f {f : FuncId} {fn : Func} {F : XFn} {args : List IV} {L : List Blk} {R Q : IV → List Blk → Prop} {pq : IV → List Blk → Prop} (d : ∀ x L', pq x L' → Leave L.length x L' Q) (m : E.P.funcs[f]? = some fn) (l : Zz E.P fn = some F) (j : fn.name ≠ "runtime.NumGoroutine")
  (b:args.length≤fn.ntmps) (h:zfW (E.withPan pq) F args L R):XTP E f args L R Q:=
 VX (fun r L' R=>Leave L.length r L' R) (fun _ _ _ h=>.inl h) d m l j b h
theorem VS {f : FuncId} {fn : Func} {F : XFn} {args : List IV} {L : List Blk} {R Q : IV → List Blk → Prop} (l : E.P.funcs[f]? = some fn) (j : Zz E.P fn = some F) (d : fn.name ≠ "runtime.NumGoroutine")
  (b:args.length≤fn.ntmps) (h:Za (E.withPan Q) F.body (entry args) L fun e ρ L'=>(e=.ret∨e=.normal)∧zY (E.withPan Q) F.results ρ L' fun r=>R r L'):XTP E f args L R Q:=
 VX (pq:=Q) (fun r L' R=>R r L') (fun _ _ _ h=>.inr h) (fun _ _ h=>h) l j d b h
theorem z2H {f:FuncId} {args:List IV} {L:List Blk} {R:IV->List Blk->Prop} (h:XTP E f args L R fun _ _=>False):XT E f args L R:=
 ⟨h.1,fun w q X vs wf d hG A s=>(h.2 w q X vs wf d hG A s).mono fun e w' ⟨r,L',j,v,B,m,u,l,b⟩=>by
  rcases b with ⟨b,rfl⟩ | ⟨b,_⟩
  ·exact ⟨r,L',j,v,b,rfl,B,m,u,l⟩
  ·exact b.elim⟩
theorem zbm {f:FuncId} {args:List IV} {L:List Blk} {R Q:IV->List Blk->Prop} (h:XT E f args L R):XTP E f args L R Q:=
 ⟨h.1,fun w q X vs wf b hG A u=>(h.2 w q X vs wf b hG A u).mono fun e w' ⟨r,L',d,v,B,j,m,s,l,D⟩=>⟨r,L',d,v,m,s,l,D,.inl ⟨B,j⟩⟩⟩
theorem ZH.np {f:FuncId} {args:List IV} {r:IV} (h:ZH E f args r):ZH E.noPan f args r:=h
theorem ZH.wp {f:FuncId} {args:List IV} {r:IV} {Q:IV->List Blk->Prop} (h:ZH E f args r):ZH (E.withPan Q) f args r:=h
theorem z4G {f : FuncId} {fn : Func} {F : XFn} {args : List IV} {L : List Blk} {R : IV → List Blk → Prop} (l : E.P.funcs[f]? = some fn) (j : Zz E.P fn = some F) (d : fn.name ≠ "runtime.NumGoroutine")
  (b:args.length≤fn.ntmps) (h:zfW E.noPan F args L R):XT E f args L R:=
 z2H (z4f (pq:=fun _ _=>False) (fun _ _ h=>h.elim) l j d b h)
end
section
variable {E:Env}
theorem ZG {K K':Rho->List Blk->Prop} (d:∀ρ L,K ρ L->K' ρ L):∀{l:List zg} {ρ:Rho} {L:List Blk},Y7 E l ρ L K->Y7 E l ρ L K'
 | [],ρ,L,h=>d _ _ h
 | o::r,ρ,L,h=>by
  simp only [Y7] at *
  split
  ·rename_i hg;rw [hg] at h;exact ZC (fun v L'=>ZG d) h
  ·rename_i t q hg
   rw [hg] at h
   simp only at h
   split
   ·rename_i b j;rw [j] at h
    exact ⟨fun m=>ZC (fun v L'=>ZG d) (h.1 m),fun m=>ZG d (h.2 m)⟩
   ·rename_i j;rw [j] at h;exact ZG d h
   ·split at h<;>simp_all
theorem yB {K K':Rho->List Blk->Prop} (d:∀ρ L,K ρ L->K' ρ L):∀{l:List (zg × List Nat × Bool)} {i:Nat} {lg:List (Nat × List Nat × List Nat)} {ρ:Rho} {L:List Blk},Zo E i lg l ρ L K->Zo E i lg l ρ L K'
 | [],i,lg,ρ,L,h=>d _ _ h
 | (o,chk,keep)::r,i,lg,ρ,L,h=>by
  simp only [Zo] at *
  split
  ·rename_i hg;rw [hg] at h;exact ZC (fun v L' h=>⟨h.1,yB d h.2⟩) h
  ·rename_i t q hg
   rw [hg] at h
   simp only at h
   split
   ·rename_i b j;rw [j] at h
    exact ⟨fun m=>ZC (fun v L' h=>⟨h.1,yB d h.2⟩) (h.1 m),fun m=>yB d (h.2 m)⟩
   ·rename_i j;rw [j] at h;exact yB d h
   ·split at h<;>simp_all
def zaG (f:Run):Prop:=∀(ρ:Rho) (L:List Blk) (K K':XE->Rho->List Blk->Prop),(∀e ρ L,K e ρ L->K' e ρ L)->f ρ L K->f ρ L K'
theorem JB {f:Run} (d:zaG f) {K K':XE->Rho->List Blk->Prop} (b:∀e ρ L,K e ρ L->K' e ρ L) :
  ∀{n:Nat} {ρ:Rho} {L:List Blk},z3T f n ρ L K->z3T f n ρ L K'
 | 0,_,_,h=>h.elim
 | n+1,ρ,L,h=>d _ _ _ _ (fun e ρ L h=>by
   cases e with
   | normal=>exact JB d b h
   | exit=>exact b _ _ _ h
   | goto=>exact b _ _ _ h
   | ret=>exact b _ _ _ h) h
theorem Jc {g:Nat->Option Run} (hg:∀l f,g l=some f->zaG f) {K K':XE->Rho->List Blk->Prop} (b:∀e ρ L,K e ρ L->K' e ρ L) :
  ∀{n:Nat} {e:XE} {ρ:Rho} {L:List Blk},yG g n e ρ L K->yG g n e ρ L K'
 | n,.normal,_,_,h=>by cases n<;>exact b _ _ _ h
 | n,.ret,_,_,h=>by cases n<;>exact b _ _ _ h
 | n,.exit id,_,_,h=>by cases n<;>exact b _ _ _ h
 | 0,.goto l,_,_,h=>by
  unfold yG at *
  split at h
  ·exact b _ _ _ h
  ·exact h.elim
 | n+1,.goto l,_,_,h=>by
  unfold yG at *
  split at h
  ·exact b _ _ _ h
  ·rename_i f d
   exact hg l f d _ _ _ _ (fun e ρ L h=>Jc hg b h) h
mutual
theorem zn:∀(c:XC) {ρ:Rho} {L:List Blk} {K K':XE->Rho->List Blk->Prop},(∀e ρ L,K e ρ L->K' e ρ L)->Za E c ρ L K->Za E c ρ L K'
 | .skip,_,_,_,_,d,h=>d _ _ _ h
 | .ops l,_,_,_,_,d,h=>ZG (fun ρ L=>d _ ρ L) h
 | .draw l,_,_,_,_,d,h=>⟨h.1,ZG (fun ρ L=>d _ ρ L) h.2⟩
 | .seq a b,_,_,_,_,d,h=>by
  simp only [Za] at *
  exact zn a (fun e ρ L h=>by cases e<;>first | exact zn b d h | exact d _ _ _ h) h
 | .cond c t e,_,_,_,_,d,h=>by
  simp only [Za] at *
  split
  ·rename_i j;rw [j] at h;exact ⟨fun q=>zn t d (h.1 q),fun q=>zn e d (h.2 q)⟩
  ·split at h<;>simp_all
 | .block id b,_,_,_,_,d,h=>by
  simp only [Za] at *
  refine zn b (fun e ρ L h=>?_) h
  cases e with
  | exit i=>simp only [XE.inBlock] at *;split<;>simp_all
  | normal=>exact d _ _ _ h
  | goto l=>exact d _ _ _ h
  | ret=>exact d _ _ _ h
 | .loop b,_,_,_,_,d,h=>by
  simp only [Za] at *
  obtain ⟨n,h⟩:=h
  exact ⟨n,JB (f:=Za E b) (fun _ _ _ _ d h=>zn b d h) d h⟩
 | .exit id,_,_,_,_,d,h=>d _ _ _ h
 | .scope b ls,_,_,_,_,d,h=>by
  simp only [Za] at *
  obtain ⟨n,h⟩:=h
  exact ⟨n,zn b (fun e ρ L h=>Jc (fun _ _ B=>Jf ls B) d h) h⟩
 | .drawE l,_,_,_,_,d,h=>ZG (fun ρ L=>d _ ρ L) h
 | .drawR l,_,_,_,_,d,h=>yB (fun ρ L=>d _ ρ L) h
 | .bad,_,_,_,_,_,h=>h.elim
 | .rngF g N ps asg body,ρ,L,_,_,d,h=>by
  simp only [Za] at *
  split at h
  ·rename_i j
   refine fun r0 G u A=>(h r0 G u A).mono fun r L' D=>?_
   obtain ⟨r1,s,I,m⟩:=D
   refine ⟨r1,s,I,?_⟩
   split at m<;>first
    | exact d _ _ _ m
    | exact m.elim
    | (rename_i w;rw [w];exact d _ _ _ m)
  ·exact h.elim
 | .label _,_,_,_,_,d,h=>d _ _ _ h
 | .goto l,_,_,_,_,d,h=>d _ _ _ h
 | .ret,_,_,_,_,d,h=>d _ _ _ h
theorem Jf:∀(b:vI) {l:Nat} {f:Run},Yx E b l=some f->zaG f
 | .nil,_,_,h=>by cases h
 | .cons l' c r,l,f,h=>by
  simp only [Yx] at h
  split at h
  ·simp only [sij] at h;subst h;exact fun _ _ _ _ d h=>zn c d h
  ·exact Jf r h
end
def zgm (M:Rho->List Blk->Prop):XE->Rho->List Blk->Prop
 | .normal,ρ,L=>M ρ L
 | _,_,_=>False
theorem z4z {b:XC} {ρ:Rho} {L:List Blk} {K:XE->Rho->List Blk->Prop} (I:Nat->Rho->List Blk->Prop) {n:Nat} (q:I n ρ L)
  (hs:∀n ρ L,I n ρ L->Za E b ρ L fun e ρ' L'=>match e with
   | .normal=>∃m,m<n/\I m ρ' L'
   | e=>K e ρ' L'):Za E (.loop b) ρ L K:=by
 simp only [Za]
 have key:∀n m ρ L,m<=n->I m ρ L->z3T (Za E b) (n+1) ρ L K:=by
  intro n
  induction n with
  | zero=>
   intro m ρ L r h
   refine zn b (fun e ρ' L' d=>?_) (hs m ρ L h)
   cases e with
   | normal=>obtain ⟨k,s,_⟩:=d;omega
   | exit=>exact d
   | goto=>exact d
   | ret=>exact d
  | succ n j=>
   intro m ρ L r h
   refine zn b (fun e ρ' L' d=>?_) (hs m ρ L h)
   cases e with
   | normal=>obtain ⟨k,s,l⟩:=d;exact j k ρ' L' od l
   | exit=>exact d
   | goto=>exact d
   | ret=>exact d
 exact ⟨n+1,key n n ρ L (Nat.le_refl _) q⟩
theorem vZ {f : FuncId} {fn : Func} {F : XFn} {args : List IV} {r : IV} (J : E.P.funcs[f]? = some fn) (I : Zz E.P fn = some F) (w : fn.name ≠ "runtime.NumGoroutine")
  (b:args.length≤fn.ntmps) (h:Za E.noPan F.body (entry args) [] fun e ρ L'=>(e=.ret∨e=.normal)∧zY E.noPan F.results ρ L' fun M=>conv L' fuel zW M=some r):ZH E f args r:=by
 refine z4G J I w b (zn _ (fun e ρ L' ⟨A,G⟩=>⟨A,?_⟩) h)
 have j:yw 0 []=zW:=by funext s;simp [yw,pos,zW]
 have key:∀(rs:List jQ) (K K':List IV→Prop),(∀v,K v→K' v)→yI E.noPan ρ L' rs K→yI E.noPan ρ L' rs K':=by
  intro rs
  induction rs with
  | nil=>intro K K' B h;exact B _ h
  | cons x l D=>
   intro K K' B h
   simp only [yI] at *
   have A:∀(Q Q':IV→Prop),(∀v,Q v→Q' v)→z1j E.noPan ρ L' x Q→z1j E.noPan ρ L' x Q':=by
    intro Q Q' q u
    cases x with
    | tmp t=>exact q _ u
    | cell1 a=>exact ZC (E:=E.noPan) (fun v _ m=>q v m) (by simpa only [z1j] using u)
    | cellN a n=>exact ZC (E:=E.noPan) (fun v _ m=>q v m) (by simpa only [z1j] using u)
   exact A _ _ (fun v m=>D _ _ (fun vs d=>B _ d) m) h
 refine key _ _ _ (fun vs d=>?_) G
 exact ⟨[],.nil,by simp,r,[],by simpa only [lln,j] using d,rfl,rfl,rfl⟩
end
section
variable {E:Env} {ρ:Rho} {L:List Blk} {KX:XE->Rho->List Blk->Prop} {KR:Rho->List Blk->Prop} {KV:IV->List Blk->Prop}
theorem nr {α:Sort _} {a b:α} (h:a=b):a=b:=h
def z5G (e:Opd->IV):Option Opd->Option Opd
 | none=>none
 | some x=>some (.c (e x))
def z1r (e:Opd->IV):List Opd->List Opd
 | []=>[]
 | x::r=>.c (e x)::z1r e r
def z8V (e:Opd->IV):List (Nat × Nat × Opd)->List (Nat × Nat × Opd)
 | []=>[]
 | (a,b,x)::r=>(a,b,.c (e x))::z8V e r
def z92 (e:Opd->IV):List (Nat × Opd)->List (Nat × Opd)
 | []=>[]
 | (a,x)::r=>(a,.c (e x))::z92 e r
def XO.sub (e:Opd->IV):XO->XO
 | .mov v_x=>.mov (.c (e v_x))
 | .pick v_c v_a v_b=>.pick (.c (e v_c)) (.c (e v_a)) (.c (e v_b))
 | .alloc v_zero=>.alloc v_zero
 | .box v_x=>.box (.c (e v_x))
 | .build v_zero v_parts=>.build v_zero (z8V e v_parts)
 | .bslice v_sz v_zero v_len v_parts=>.bslice v_sz v_zero v_len (z92 e v_parts)
 | .load1 v_a=>.load1 (.c (e v_a))
 | .loadN v_n v_a=>.loadN v_n (.c (e v_a))
 | .store v_n v_a v_x=>.store v_n (.c (e v_a)) (.c (e v_x))
 | .nilck v_x=>.nilck (.c (e v_x))
 | .bin v_op v_x v_y=>.bin v_op (.c (e v_x)) (.c (e v_y))
 | .eqB v_neg v_x v_y=>.eqB v_neg (.c (e v_x)) (.c (e v_y))
 | .un v_op v_x=>.un v_op (.c (e v_x))
 | .cvInt v_k v_x=>.cvInt v_k (.c (e v_x))
 | .cvIntStr v_x=>.cvIntStr (.c (e v_x))
 | .cvStr v_x=>.cvStr (.c (e v_x))
 | .fldA v_off v_x=>.fldA v_off (.c (e v_x))
 | .fld v_off v_n v_agg v_x=>.fld v_off v_n v_agg (.c (e v_x))
 | .idxS v_n v_x v_i=>.idxS v_n (.c (e v_x)) (.c (e v_i))
 | .idxA v_n v_sz v_x v_i=>.idxA v_n v_sz (.c (e v_x)) (.c (e v_i))
 | .idx v_x v_i=>.idx (.c (e v_x)) (.c (e v_i))
 | .slice v_n v_x v_lo v_hi=>.slice v_n (.c (e v_x)) (z5G e v_lo) (z5G e v_hi)
 | .sliceS v_x v_lo v_hi=>.sliceS (.c (e v_x)) (z5G e v_lo) (z5G e v_hi)
 | .slice0 v_x=>.slice0 (.c (e v_x))
 | .mkfn v_f v_first v_cap=>.mkfn v_f (z1r e v_first) (z1r e v_cap)
 | .mkslice v_zero v_bytes v_len v_cap=>.mkslice v_zero v_bytes (.c (e v_len)) (.c (e v_cap))
 | .len v_x=>.len (.c (e v_x))
 | .lenS v_x=>.lenS (.c (e v_x))
 | .append v_sz v_bytes v_s v_x=>.append v_sz v_bytes (.c (e v_s)) (.c (e v_x))
 | .max2 v_x v_y=>.max2 (.c (e v_x)) (.c (e v_y))
 | .min2 v_x v_y=>.min2 (.c (e v_x)) (.c (e v_y))
 | .call v_f v_args=>.call (.c (e v_f)) (z1r e v_args)
 | .ext v_t v_i=>.ext (.c (e v_t)) v_i
 | .pcall v_f v_args=>.pcall (.c (e v_f)) (z1r e v_args)
 | .isNil v_k v_n v_x=>.isNil v_k v_n (.c (e v_x))
 | .rng v_x=>.rng (.c (e v_x))
 | .nxt v_x=>.nxt (.c (e v_x))
 | .ex v_k v_xs=>.ex v_k (z1r e v_xs)
def cev:Opd->IV:=Opd.ev fun _=>.und
@[go_sem] theorem zeJ {e:Opd->IV} {v_x:Opd}:XO.sub e (XO.mov v_x)=.mov (.c (e v_x)):=nr rfl
@[go_sem] theorem zdA {e:Opd->IV} {v_c v_a v_b:Opd}:XO.sub e (XO.pick v_c v_a v_b)=.pick (.c (e v_c)) (.c (e v_a)) (.c (e v_b)):=nr rfl
@[go_sem] theorem zcv {e:Opd->IV} {v_zero:List IV}:XO.sub e (XO.alloc v_zero)=.alloc v_zero:=nr rfl
@[go_sem] theorem zeP {e:Opd->IV} {v_x:Opd}:XO.sub e (XO.box v_x)=.box (.c (e v_x)):=nr rfl
@[go_sem] theorem zcu {e:Opd->IV} {v_zero:List IV} {v_parts:List (Nat × Nat × Opd)}:XO.sub e (XO.build v_zero v_parts)=.build v_zero (z8V e v_parts):=nr rfl
@[go_sem] theorem zaM {e:Opd->IV} {v_sz:Nat} {v_zero:List IV} {v_len:Nat} {v_parts:List (Nat × Opd)}:XO.sub e (XO.bslice v_sz v_zero v_len v_parts)=.bslice v_sz v_zero v_len (z92 e v_parts):=nr rfl
@[go_sem] theorem zcx {e:Opd->IV} {v_a:Opd}:XO.sub e (XO.load1 v_a)=.load1 (.c (e v_a)):=nr rfl
@[go_sem] theorem zcA {e:Opd->IV} {v_n:Nat} {v_a:Opd}:XO.sub e (XO.loadN v_n v_a)=.loadN v_n (.c (e v_a)):=nr rfl
@[go_sem] theorem zbw {e:Opd->IV} {v_n:Nat} {v_a v_x:Opd}:XO.sub e (XO.store v_n v_a v_x)=.store v_n (.c (e v_a)) (.c (e v_x)):=nr rfl
@[go_sem] theorem zbC {e:Opd->IV} {v_x:Opd}:XO.sub e (XO.nilck v_x)=.nilck (.c (e v_x)):=nr rfl
@[go_sem] theorem zer {e:Opd->IV} {v_op:BinOp} {v_x v_y:Opd}:XO.sub e (XO.bin v_op v_x v_y)=.bin v_op (.c (e v_x)) (.c (e v_y)):=nr rfl
@[go_sem] theorem zeA {e:Opd->IV} {v_neg:Bool} {v_x v_y:Opd}:XO.sub e (XO.eqB v_neg v_x v_y)=.eqB v_neg (.c (e v_x)) (.c (e v_y)):=nr rfl
@[go_sem] theorem zgB {e:Opd->IV} {v_op:UnOp} {v_x:Opd}:XO.sub e (XO.un v_op v_x)=.un v_op (.c (e v_x)):=nr rfl
@[go_sem] theorem zcG {e:Opd->IV} {v_k:IntKind} {v_x:Opd}:XO.sub e (XO.cvInt v_k v_x)=.cvInt v_k (.c (e v_x)):=nr rfl
@[go_sem] theorem z8H {e:Opd->IV} {v_x:Opd}:XO.sub e (XO.cvIntStr v_x)=.cvIntStr (.c (e v_x)):=nr rfl
@[go_sem] theorem zbM {e:Opd->IV} {v_x:Opd}:XO.sub e (XO.cvStr v_x)=.cvStr (.c (e v_x)):=nr rfl
@[go_sem] theorem zdD {e:Opd->IV} {v_off:Nat} {v_x:Opd}:XO.sub e (XO.fldA v_off v_x)=.fldA v_off (.c (e v_x)):=nr rfl
@[go_sem] theorem zep {e:Opd->IV} {v_off v_n:Nat} {v_agg:Bool} {v_x:Opd}:XO.sub e (XO.fld v_off v_n v_agg v_x)=.fld v_off v_n v_agg (.c (e v_x)):=nr rfl
@[go_sem] theorem zdH {e:Opd->IV} {v_n:Nat} {v_x v_i:Opd}:XO.sub e (XO.idxS v_n v_x v_i)=.idxS v_n (.c (e v_x)) (.c (e v_i)):=nr rfl
@[go_sem] theorem zdd {e:Opd->IV} {v_n v_sz:Nat} {v_x v_i:Opd}:XO.sub e (XO.idxA v_n v_sz v_x v_i)=.idxA v_n v_sz (.c (e v_x)) (.c (e v_i)):=nr rfl
@[go_sem] theorem zed {e:Opd->IV} {v_x v_i:Opd}:XO.sub e (XO.idx v_x v_i)=.idx (.c (e v_x)) (.c (e v_i)):=nr rfl
@[go_sem] theorem zbA {e:Opd->IV} {v_n:Nat} {v_x:Opd} {v_lo v_hi:Option Opd}:XO.sub e (XO.slice v_n v_x v_lo v_hi)=.slice v_n (.c (e v_x)) (z5G e v_lo) (z5G e v_hi):=nr rfl
@[go_sem] theorem zb0 {e:Opd->IV} {v_x:Opd} {v_lo v_hi:Option Opd}:XO.sub e (XO.sliceS v_x v_lo v_hi)=.sliceS (.c (e v_x)) (z5G e v_lo) (z5G e v_hi):=nr rfl
@[go_sem] theorem zaS {e:Opd->IV} {v_x:Opd}:XO.sub e (XO.slice0 v_x)=.slice0 (.c (e v_x)):=nr rfl
@[go_sem] theorem zdE {e:Opd->IV} {v_f:Fn} {v_first v_cap:List Opd}:XO.sub e (XO.mkfn v_f v_first v_cap)=.mkfn v_f (z1r e v_first) (z1r e v_cap):=nr rfl
@[go_sem] theorem za7 {e:Opd->IV} {v_zero:List IV} {v_bytes:Nat} {v_len v_cap:Opd}:XO.sub e (XO.mkslice v_zero v_bytes v_len v_cap)=.mkslice v_zero v_bytes (.c (e v_len)) (.c (e v_cap)):=nr rfl
@[go_sem] theorem zfc {e:Opd->IV} {v_x:Opd}:XO.sub e (XO.len v_x)=.len (.c (e v_x)):=nr rfl
@[go_sem] theorem zdm {e:Opd->IV} {v_x:Opd}:XO.sub e (XO.lenS v_x)=.lenS (.c (e v_x)):=nr rfl
@[go_sem] theorem zaR {e:Opd->IV} {v_sz v_bytes:Nat} {v_s v_x:Opd}:XO.sub e (XO.append v_sz v_bytes v_s v_x)=.append v_sz v_bytes (.c (e v_s)) (.c (e v_x)):=nr rfl
@[go_sem] theorem zdr {e:Opd->IV} {v_x v_y:Opd}:XO.sub e (XO.max2 v_x v_y)=.max2 (.c (e v_x)) (.c (e v_y)):=nr rfl
@[go_sem] theorem zcX {e:Opd->IV} {v_x v_y:Opd}:XO.sub e (XO.min2 v_x v_y)=.min2 (.c (e v_x)) (.c (e v_y)):=nr rfl
@[go_sem] theorem zdN {e:Opd->IV} {v_f:Opd} {v_args:List Opd}:XO.sub e (XO.call v_f v_args)=.call (.c (e v_f)) (z1r e v_args):=nr rfl
@[go_sem] theorem zeW {e:Opd->IV} {v_t:Opd} {v_i:Nat}:XO.sub e (XO.ext v_t v_i)=.ext (.c (e v_t)) v_i:=nr rfl
@[go_sem] theorem zcr {e:Opd->IV} {v_f:Opd} {v_args:List Opd}:XO.sub e (XO.pcall v_f v_args)=.pcall (.c (e v_f)) (z1r e v_args):=nr rfl
@[go_sem] theorem zcM {e:Opd->IV} {v_k:Nat} {v_n:Bool} {v_x:Opd}:XO.sub e (XO.isNil v_k v_n v_x)=.isNil v_k v_n (.c (e v_x)):=nr rfl
@[go_sem] theorem zen {e:Opd->IV} {v_x:Opd}:XO.sub e (XO.rng v_x)=.rng (.c (e v_x)):=nr rfl
@[go_sem] theorem zeV {e:Opd->IV} {v_x:Opd}:XO.sub e (XO.nxt v_x)=.nxt (.c (e v_x)):=nr rfl
@[go_sem] theorem zgH {e:Opd->IV} {v_k:XX} {v_xs:List Opd}:XO.sub e (XO.ex v_k v_xs)=.ex v_k (z1r e v_xs):=nr rfl
@[go_sem] theorem zV {v:IV}:cev (.c v)=v:=nr rfl
theorem WA {e:Opd->IV}:∀{l:List Opd},(z1r e l).map cev=l.map e
 | []=>rfl
 | x::r=>by simp only [z1r,List.map_cons,zV,WA]
theorem z3t {e:Opd->IV}:∀{l:List (Nat × Nat × Opd)},(z8V e l).map (fun p=>(p.1,p.2.1,cev p.2.2))=l.map fun p=>(p.1,p.2.1,e p.2.2)
 | []=>rfl
 | (a,b,x)::r=>by simp only [z8V,List.map_cons,zV,z3t]
theorem z3p {e:Opd->IV}:∀{l:List (Nat × Opd)},(z92 e l).map (fun p=>(p.1,cev p.2))=l.map fun p=>(p.1,e p.2)
 | []=>rfl
 | (a,x)::r=>by simp only [z92,List.map_cons,zV,z3p]
theorem z6Y {e:Opd->IV} {x:Option Opd}:(z5G e x).map cev=x.map e:=by cases x<;>rfl
theorem vF {E:Env} {o:XO} {e:Opd->IV} {L:List Blk} {K:IV->List Blk->Prop}:xop E o e L K=xop E (o.sub e) cev L K:=by
 cases o<;>first | rfl | simp only [XO.sub,xop,zV,WA,z3t,z3p,z6Y]
def zbb (E:Env) (b:XC) (K:XE->Rho->List Blk->Prop):XE->Rho->List Blk->Prop
 | .normal,ρ,L=>Za E b ρ L K
 | e,ρ,L=>K e ρ L
def same {α:Sort _} (a:α):α:=a
@[go_sem] theorem same_eq {α:Sort _} {a:α}:same a=a:=nr rfl
@[congr] theorem zbc {c:XC} {ρ':Rho} {L':List Blk} (h:same ρ=ρ') (hL:same L=L'):Za E c ρ L KX=Za E c ρ' L' KX:=by rw [<-h,<-hL];rfl
@[congr] theorem zb6 {l:List zg} {ρ':Rho} {L':List Blk} (h:same ρ=ρ') (hL:same L=L'):Y7 E l ρ L KR=Y7 E l ρ' L' KR:=by rw [<-h,<-hL];rfl
@[congr] theorem zbK {o o':XO} {e:Opd->IV} {L':List Blk} (ho:same o=o') (hL:same L=L'):xop E o e L KV=xop E o' e L' KV:=by rw [<-ho,<-hL];rfl
@[congr] theorem zah {f:FuncId} {as as':List IV} {L':List Blk} (ho:same as=as') (hL:same L=L'):WU E f as L KV=WU E f as' L' KV:=by rw [<-ho,<-hL];rfl
@[go_sem ↓] theorem zgP:Za E .skip ρ L KX=KX .normal ρ L:=nr rfl
@[go_sem ↓] theorem zkm {l:List zg}:Za E (.ops l) ρ L KX=Y7 E l ρ L fun ρ' L'=>KX .normal ρ' L':=nr rfl
@[go_sem ↓] theorem zgk {l:List zg}:Za E (.draw l) ρ L KX=(l.all (fun o=>o.op.quiet)=true/\Y7 E l ρ L fun ρ' L'=>KX .normal ρ' L'):=nr rfl
@[go_sem ↓] theorem zfk {l:List zg}:Za E (.drawE l) ρ L KX=Y7 E l ρ L fun ρ' L'=>KX .normal ρ' L':=nr rfl
theorem z9k {b:XC}:(fun e ρ' L'=>match e with
  | .normal=>Za E b ρ' L' KX
  | e=>KX e ρ' L')=zbb E b KX:=by
 funext e ρ L;cases e<;>rfl
@[go_sem ↓] theorem zhr {a b:XC}:Za E (.seq a b) ρ L KX=Za E a ρ L (zbb E b KX):=by rw [<-z9k];rfl
@[go_sem ↓] theorem zee {b:XC}:zbb E b KX .normal ρ L=Za E b ρ L KX:=nr rfl
@[go_sem ↓] theorem zeN {b:XC}:zbb E b KX .ret ρ L=KX .ret ρ L:=nr rfl
@[go_sem ↓] theorem zfb {b:XC} {l:Nat}:zbb E b KX (.goto l) ρ L=KX (.goto l) ρ L:=nr rfl
@[go_sem ↓] theorem zfJ {b:XC} {id:Nat}:zbb E b KX (.exit id) ρ L=KX (.exit id) ρ L:=nr rfl
@[go_sem ↓] theorem zf6 {id:Nat} {b:XC}:Za E (.block id b) ρ L KX=Za E b ρ L (XE.inBlock id KX):=nr rfl
@[go_sem ↓] theorem s_exit {id:Nat}:Za E (.exit id) ρ L KX=KX (.exit id) ρ L:=nr rfl
@[go_sem ↓] theorem zfd {id:Nat}:Za E (.label id) ρ L KX=KX .normal ρ L:=nr rfl
@[go_sem ↓] theorem zfZ {id:Nat}:Za E (.goto id) ρ L KX=KX (.goto id) ρ L:=nr rfl
@[go_sem ↓] theorem zj6:Za E .ret ρ L KX=KX .ret ρ L:=nr rfl
@[go_sem ↓] theorem zfa {c:Opd} {t e:XC} (h:c.ev ρ=.bool true):Za E (.cond c t e) ρ L KX=Za E t ρ L KX:=by
 simp [Za,h]
@[go_sem ↓] theorem zfe {c:Opd} {t e:XC} (h:c.ev ρ=.bool false):Za E (.cond c t e) ρ L KX=Za E e ρ L KX:=by
 simp [Za,h]
@[go_sem ↓] theorem zgA {id:Nat}:XE.inBlock id KX .normal ρ L=KX .normal ρ L:=nr rfl
@[go_sem ↓] theorem zfT {id:Nat}:XE.inBlock id KX .ret ρ L=KX .ret ρ L:=nr rfl
@[go_sem ↓] theorem zga {id l:Nat}:XE.inBlock id KX (.goto l) ρ L=KX (.goto l) ρ L:=nr rfl
@[go_sem ↓] theorem zgS {id:Nat}:XE.inBlock id KX (.exit id) ρ L=KX .normal ρ L:=by simp [XE.inBlock]
@[go_sem ↓] theorem zgu {id i:Nat} (h:¬i=id):XE.inBlock id KX (.exit i) ρ L=KX (.exit i) ρ L:=by simp [XE.inBlock,h]
@[go_sem ↓] theorem zjV:Y7 E [] ρ L KR=KR ρ L:=nr rfl
@[go_sem ↓] theorem zgf {d:Option Nat} {o:XO} {r:List zg}:Y7 E (⟨d,o,none⟩::r) ρ L KR=xop E (o.sub (Opd.ev ρ)) cev L fun v L'=>Y7 E r (put ρ d v) L' KR:=by
 simp only [Y7];exact vF
@[go_sem ↓] theorem zlv {d:Option Nat} {o:XO} {r:List zg} {t:Nat} {w:Bool} (h:ρ t=.bool w) :
  Y7 E (⟨d,o,some (t,w)⟩::r) ρ L KR=xop E (o.sub (Opd.ev ρ)) cev L fun v L'=>Y7 E r (put ρ d v) L' KR:=by
 rw [<-vF];simp [Y7,h]
@[go_sem ↓] theorem zeT {d:Option Nat} {o:XO} {r:List zg} {t:Nat} {w:Bool} (h:ρ t=.bool (!w)) :
  Y7 E (⟨d,o,some (t,w)⟩::r) ρ L KR=Y7 E r (put ρ d .und) L KR:=by
 cases w<;>simp [Y7,h]
@[go_sem ↓] theorem zgh {d:Option Nat} {o:XO} {r:List zg} {t:Nat} {w:Bool} (h:ρ t=.und) :
  Y7 E (⟨d,o,some (t,w)⟩::r) ρ L KR=Y7 E r (put ρ d .und) L KR:=by
 simp [Y7,h]
@[go_sem] theorem zm1 {n:Nat}:Opd.ev ρ (.t n)=ρ n:=nr rfl
@[go_sem] theorem zm7 {v:IV}:Opd.ev ρ (.c v)=v:=nr rfl
@[go_sem] theorem zlZ {n:Nat}:Opd.ev ρ (.f n)=.fn (.func n) [] []:=nr rfl
@[go_sem] theorem zm9 {n:Nat}:Opd.ev ρ (.g n)=.raw (.pointer (some ⟨n,0,none⟩)):=nr rfl
@[go_sem] theorem zdp {e:Opd->IV}:z1r e []=[]:=nr rfl
@[go_sem] theorem zbW {e:Opd->IV} {x:Opd} {r:List Opd}:z1r e (x::r)=.c (e x)::z1r e r:=nr rfl
@[go_sem] theorem zea {e:Opd->IV}:z8V e []=[]:=nr rfl
@[go_sem] theorem zbr {e:Opd->IV} {a b:Nat} {x:Opd} {r:List (Nat × Nat × Opd)}:z8V e ((a,b,x)::r)=(a,b,.c (e x))::z8V e r:=nr rfl
@[go_sem] theorem ze7 {e:Opd->IV}:z92 e []=[]:=nr rfl
@[go_sem] theorem zcL {e:Opd->IV} {a:Nat} {x:Opd} {r:List (Nat × Opd)}:z92 e ((a,x)::r)=(a,.c (e x))::z92 e r:=nr rfl
@[go_sem] theorem zbZ {e:Opd->IV}:z5G e none=none:=nr rfl
@[go_sem] theorem zcj {e:Opd->IV} {x:Opd}:z5G e (some x)=some (.c (e x)):=nr rfl
@[go_sem] theorem zfp {d n:Nat} {v:IV}:put ρ (some d) v n=if n=d then v else ρ n:=nr rfl
@[go_sem] theorem zd3 {v:IV}:put ρ none v=ρ:=nr rfl
@[go_sem] theorem zjC {v:IV}:xop E (.mov (.c v)) cev L KV=KV v L:=nr rfl
@[go_sem] theorem zej {a b:IV}:xop E (.pick (.c (.bool true)) (.c a) (.c b)) cev L KV=KV a L:=nr rfl
@[go_sem] theorem zfy {a b:IV}:xop E (.pick (.c (.bool false)) (.c a) (.c b)) cev L KV=KV b L:=nr rfl
@[go_sem] theorem zfh {z:List IV}:xop E (.alloc z) cev L KV=KV (.ptr L.length 0 0) (L++[.cells z.length [z]]):=nr rfl
@[go_sem] theorem zic {x:IV}:xop E (.box (.c x)) cev L KV=KV (.ptr L.length 0 0) (L++[.cells (cellsOf x).length [cellsOf x]]):=nr rfl
@[go_sem] theorem ze9 {s r o:Nat}:xop E (.nilck (.c (.ptr s r o))) cev L KV=KV (.ptr s r o) L:=nr rfl
@[go_sem] theorem ze2 {rows:List (List IV)} {r o:Nat}:xop E (.nilck (.c (.iptr rows r o))) cev L KV=KV (.iptr rows r o) L:=nr rfl
@[go_sem] theorem zdc {f:FuncId} {a b:List IV}:xop E (.nilck (.c (.fn (.func f) a b))) cev L KV=KV (.fn (.func f) a b) L:=nr rfl
@[go_sem] theorem zkL {k:IntKind} {a b:Int}:xop E (.bin .add (.c (.int k a)) (.c (.int k b))) cev L KV=KV (.int k (k.wrap (a+b))) L:=by simp only [xop,vU,zV,true_and]
@[go_sem] theorem zjB {k:IntKind} {a b:Int}:xop E (.bin .sub (.c (.int k a)) (.c (.int k b))) cev L KV=KV (.int k (k.wrap (a - b))) L:=by simp only [xop,vU,zV,true_and]
@[go_sem] theorem zly {k:IntKind} {a b:Int}:xop E (.bin .mul (.c (.int k a)) (.c (.int k b))) cev L KV=KV (.int k (k.wrap (a*b))) L:=by simp only [xop,vU,zV,true_and]
@[go_sem] theorem ziC {k:IntKind} {a b:Int}:xop E (.bin .quo (.c (.int k a)) (.c (.int k b))) cev L KV=(b≠0/\KV (.int k (k.wrap (a.tdiv b))) L):=by simp only [xop,vU,zV,true_and]
@[go_sem] theorem zlz {k:IntKind} {a b:Int}:xop E (.bin .rem (.c (.int k a)) (.c (.int k b))) cev L KV=(b≠0/\KV (.int k (a.tmod b)) L):=by simp only [xop,vU,zV,true_and]
@[go_sem] theorem zje {k:IntKind} {a b:Int}:xop E (.bin .eql (.c (.int k a)) (.c (.int k b))) cev L KV=KV (.bool (decide (a=b))) L:=by simp only [xop,vU,zV,true_and]
@[go_sem] theorem zhS {k:IntKind} {a b:Int}:xop E (.bin .neq (.c (.int k a)) (.c (.int k b))) cev L KV=KV (.bool (!decide (a=b))) L:=by simp only [xop,vU,zV,true_and]
@[go_sem] theorem zkH {k:IntKind} {a b:Int}:xop E (.bin .lss (.c (.int k a)) (.c (.int k b))) cev L KV=KV (.bool (decide (a<b))) L:=by simp only [xop,vU,zV,true_and]
@[go_sem] theorem zkz {k:IntKind} {a b:Int}:xop E (.bin .leq (.c (.int k a)) (.c (.int k b))) cev L KV=KV (.bool (decide (a<=b))) L:=by simp only [xop,vU,zV,true_and]
@[go_sem] theorem zio {k:IntKind} {a b:Int}:xop E (.bin .gtr (.c (.int k a)) (.c (.int k b))) cev L KV=KV (.bool (decide (b<a))) L:=by simp only [xop,vU,zV,true_and]
@[go_sem] theorem zkK {k:IntKind} {a b:Int}:xop E (.bin .geq (.c (.int k a)) (.c (.int k b))) cev L KV=KV (.bool (decide (b<=a))) L:=by simp only [xop,vU,zV,true_and]
@[go_sem] theorem zjv {a b:List UInt8}:xop E (.bin .add (.c (.str a)) (.c (.str b))) cev L KV=(a.length+b.length<=9223372036854775807/\KV (.str (a++b)) L):=nr rfl
@[go_sem] theorem zfV {a b:List UInt8}:xop E (.bin .eql (.c (.str a)) (.c (.str b))) cev L KV=KV (.bool (decide (a=b))) L:=nr rfl
@[go_sem] theorem zgl {a b:List UInt8}:xop E (.bin .neq (.c (.str a)) (.c (.str b))) cev L KV=KV (.bool (!decide (a=b))) L:=nr rfl
@[go_sem] theorem zh5 {a b:List UInt8}:xop E (.bin .lss (.c (.str a)) (.c (.str b))) cev L KV=KV (.bool (Op.bytesLess a b)) L:=nr rfl
@[go_sem] theorem zjk {n a b:Bool}:xop E (.eqB n (.c (.bool a)) (.c (.bool b))) cev L KV=KV (.bool (if n=true then !decide (a=b) else decide (a=b))) L:=nr rfl
@[go_sem] theorem zil {b:Bool}:xop E (.un .not (.c (.bool b))) cev L KV=KV (.bool (!b)) L:=nr rfl
@[go_sem] theorem zj9 {k:IntKind} {n:Int}:xop E (.un .neg (.c (.int k n))) cev L KV=KV (.int k (k.wrap (0 - n))) L:=nr rfl
@[go_sem] theorem zfs {k b:IntKind} {n:Int}:xop E (.cvInt k (.c (.int b n))) cev L KV=KV (.int k (k.wrap n)) L:=nr rfl
@[go_sem] theorem zb5 {b:IntKind} {n:Int}:xop E (.cvIntStr (.c (.int b n))) cev L KV=KV (.str (Utf8.encode n).data.toList) L:=nr rfl
@[go_sem] theorem zeB {s:List UInt8}:xop E (.cvStr (.c (.str s))) cev L KV=KV (.str s) L:=nr rfl
@[go_sem] theorem zez {off s r o:Nat}:xop E (.fldA off (.c (.ptr s r o))) cev L KV=KV (.ptr s r (o+off)) L:=nr rfl
@[go_sem] theorem zex {off:Nat} {rows:List (List IV)} {r o:Nat}:xop E (.fldA off (.c (.iptr rows r o))) cev L KV=KV (.iptr rows r (o+off)) L:=nr rfl
@[go_sem] theorem zh2 {off n:Nat} {cs:List IV}:xop E (.fld off n true (.c (.agg cs))) cev L KV=(off+n<=cs.length/\KV (.agg ((cs.drop off).take n)) L):=by simp [xop,zV]
@[go_sem] theorem zha {off n:Nat} {cs:List IV}:xop E (.fld off n false (.c (.agg cs))) cev L KV=(off+n<=cs.length/\off<cs.length/\KV (cs.getD off .und) L):=by simp [xop,zV]
@[go_sem] theorem zeD {m:Nat} {rows:List (List IV)} {k:IntKind} {n:Int}:xop E (.idxS m (.c (.isl rows)) (.c (.int k n))) cev L KV=(Rows m rows/\0<=n/\n<rows.length/\KV (.iptr rows n.toNat 0) L):=nr rfl
@[go_sem] theorem zek {m s off len cap:Nat} {k:IntKind} {n:Int}:xop E (.idxS m (.c (.sl s off len cap)) (.c (.int k n))) cev L KV=(vJ L s=some m/\0<=n/\n<len/\KV (.ptr s (off+n.toNat) 0) L):=nr rfl
@[go_sem] theorem zfj {m sz s r o:Nat} {k:IntKind} {n:Int}:xop E (.idxA m sz (.c (.ptr s r o)) (.c (.int k n))) cev L KV=(0<=n/\n<m/\KV (.ptr s r (o+n.toNat*sz)) L):=nr rfl
@[go_sem] theorem zfl {m sz:Nat} {rows:List (List IV)} {r o:Nat} {k:IntKind} {n:Int}:xop E (.idxA m sz (.c (.iptr rows r o)) (.c (.int k n))) cev L KV=(0<=n/\n<m/\KV (.iptr rows r (o+n.toNat*sz)) L):=nr rfl
@[go_sem] theorem ziM {s:List UInt8} {k:IntKind} {n:Int}:xop E (.idx (.c (.str s)) (.c (.int k n))) cev L KV=(0<=n/\n<s.length/\KV (.int .u8 (s.getD n.toNat 0).toNat) L):=nr rfl
@[go_sem] theorem zdg {rows:List (List IV)} {r o:Nat}:xop E (.load1 (.c (.iptr rows r o))) cev L KV=(r<rows.length/\o<(rows.getD r []).length/\KV ((rows.getD r []).getD o .und) L):=nr rfl
@[go_sem] theorem zdk {n:Nat} {rows:List (List IV)} {r o:Nat}:xop E (.loadN n (.c (.iptr rows r o))) cev L KV=(r<rows.length/\o+n<=(rows.getD r []).length/\KV (.agg (((rows.getD r []).drop o).take n)) L):=nr rfl
@[go_sem] theorem zd7 {n o:Nat} {cs:List IV} (h:E.gl n=some cs):xop E (.load1 (.c (.raw (.pointer (some ⟨n,o,none⟩))))) cev L KV=(o<cs.length/\KV (cs.getD o .und) L):=by
 simp [xop,zV,Zj,h]
@[go_sem] theorem zdb {m n o:Nat} {cs:List IV} (h:E.gl n=some cs):xop E (.loadN m (.c (.raw (.pointer (some ⟨n,o,none⟩))))) cev L KV=(o+m<=cs.length/\KV (.agg ((cs.drop o).take m)) L):=by
 simp [xop,zV,Zj,h]
@[go_sem] theorem zda {n o:Nat}:xop E (.nilck (.c (.raw (.pointer (some ⟨n,o,none⟩))))) cev L KV=KV (.raw (.pointer (some ⟨n,o,none⟩))) L:=nr rfl
@[go_sem] theorem zfx {off n o:Nat}:xop E (.fldA off (.c (.raw (.pointer (some ⟨n,o,none⟩))))) cev L KV=KV (.raw (.pointer (some ⟨n,o+off,none⟩))) L:=nr rfl
@[go_sem] theorem zei {m sz b o:Nat} {k:IntKind} {n:Int}:xop E (.idxA m sz (.c (.raw (.pointer (some ⟨b,o,none⟩)))) (.c (.int k n))) cev L KV=(0<=n/\n<m/\KV (.raw (.pointer (some ⟨b,o+n.toNat*sz,none⟩))) L):=nr rfl
def z9f (b:Option Blk) (K:Nat->List (List IV)->Prop):Prop:=
 match b with
 | some (.cells sz rows)=>K sz rows
 | some (.tcells _ sz rows)=>K sz rows
 | _=>False
def zbe (b:Option Blk) (K:(List (List IV)->Blk)->List (List IV)->Prop):Prop:=
 match b with
 | some (.cells sz rows)=>K (.cells sz) rows
 | some (.tcells ty sz rows)=>K (.tcells ty sz) rows
 | _=>False
@[congr] theorem zbf {b b':Option Blk} {K:(List (List IV)->Blk)->List (List IV)->Prop} (h:same b=b'):zbe b K=zbe b' K:=by rw [<-h];rfl
@[go_sem] theorem zba {sz:Nat} {rows:List (List IV)} {K:(List (List IV)->Blk)->List (List IV)->Prop}:zbe (some (.cells sz rows)) K=K (.cells sz) rows:=nr rfl
@[go_sem] theorem z9U {ty sz:Nat} {rows:List (List IV)} {K:(List (List IV)->Blk)->List (List IV)->Prop}:zbe (some (.tcells ty sz rows)) K=K (.tcells ty sz) rows:=nr rfl
@[congr] theorem zaT {b b':Option Blk} {K:Nat->List (List IV)->Prop} (h:same b=b'):z9f b K=z9f b' K:=by rw [<-h];rfl
@[go_sem] theorem zbu {sz:Nat} {rows:List (List IV)} {K:Nat->List (List IV)->Prop}:z9f (some (.cells sz rows)) K=K sz rows:=nr rfl
@[go_sem] theorem zaN {ty sz:Nat} {rows:List (List IV)} {K:Nat->List (List IV)->Prop}:z9f (some (.tcells ty sz rows)) K=K sz rows:=nr rfl
@[go_sem] theorem zd9 {s r o:Nat}:xop E (.load1 (.c (.ptr s r o))) cev L KV=z9f L[s]? fun _ rows=>r<rows.length/\o<(rows.getD r []).length/\KV ((rows.getD r []).getD o .und) L:=by
 simp only [xop,zV,Zj,z9f,eq_iff_iff]
 split<;>split<;>simp_all
@[go_sem] theorem zcS {n s r o:Nat}:xop E (.loadN n (.c (.ptr s r o))) cev L KV=z9f L[s]? fun _ rows=>r<rows.length/\o+n<=(rows.getD r []).length/\KV (.agg (((rows.getD r []).drop o).take n)) L:=by
 simp only [xop,zV,Zj,z9f,eq_iff_iff]
 split<;>split<;>simp_all
@[go_sem] theorem zdi {n s r o:Nat} {x:IV}:xop E (.store n (.c (.ptr s r o)) (.c x)) cev L KV=zbe L[s]? fun mk rows=>
  r<rows.length/\o+n<=(rows.getD r []).length/\(cellsOf x).length=n/\(cellsOf x).all zU=true/\
    KV .und (L.set s (mk (rows.set r (splice (rows.getD r []) o (cellsOf x))))):=by
 simp only [xop,zV,zbe,eq_iff_iff]
 split<;>split<;>simp_all
def z1F {α:Type} (o:Option α) (K:α->Prop):Prop:=
 match o with
 | some x=>K x
 | none=>False
@[congr] theorem zb8 {α:Type} {o o':Option α} {K:α->Prop} (h:same o=o'):z1F o K=z1F o' K:=by rw [<-h];rfl
@[go_sem] theorem zbY {α:Type} {x:α} {K:α->Prop}:z1F (some x) K=K x:=nr rfl
@[congr] theorem zcD {k:XX} {vs vs':List IV} {g g':Nat} {L':List Blk} (hv:same vs=vs') (hg:same g=g') (hL:same L=L'):xex E k vs g L KV=xex E k vs' g' L' KV:=by rw [<-hv,<-hg,<-hL];rfl
@[go_sem] theorem zm8 {k:XX} {xs:List Opd}:xop E (.ex k xs) cev L KV=xex E k (xs.map cev) L.length L KV:=nr rfl
@[go_sem] theorem zeC {g t:Nat} {v:IV}:xex E .panic [.iface t v] g L KV=E.pan (.iface t v) L:=nr rfl
@[go_sem] theorem zgn {g t:Nat} {v:IV}:xex E (.mkif t) [v] g L KV=KV (.iface t v) L:=nr rfl
@[go_sem] theorem zkR {g t:Nat} {v:IV}:xex E (.tas t) [.iface t v] g L KV=KV (.tup [v,.bool true]) L:=by simp only [xex,if_pos]
@[go_sem] theorem zgD {g:Nat} {v:IV}:xex E .rStr [v] g L KV=z1F ((yu L v).bind (zF runeOf)) fun s=>KV (.str (runesL s)) L:=by
 simp only [xex,z1F,eq_iff_iff]
 split<;>split<;>simp_all
@[go_sem] theorem zgQ {g ty:Nat} {s:List UInt8}:xex E (.strB ty) [.str s] g L KV=(s.length<=9223372036854775807/\KV (.sl g 0 s.length s.length) (zy L g (.tcells ty 1 (Zq s)))):=nr rfl
@[go_sem] theorem zgg {g:Nat} {v:IV}:xex E .bStr [v] g L KV=z1F ((yu L v).bind (zF byteOf)) fun s=>KV (.str s) L:=by
 simp only [xex,z1F,eq_iff_iff]
 split<;>split<;>simp_all
theorem zbV {g:Nat} {neg:Bool} {d:List Nat} {a b:List IV}:xex E (.eqA neg d) [.agg a,.agg b] g L KV=z1F (zM d a b) fun t=>KV (.bool (if neg then !t else t)) L:=by
 simp only [xex,z1F,eq_iff_iff]
 split<;>split<;>simp_all
theorem zby {g:Nat} {neg:Bool} {a b:IV}:xex E (.eqP neg) [a,b] g L KV=z1F (jW a b) fun t=>KV (.bool (if neg then !t else t)) L:=by
 simp only [xex,z1F,eq_iff_iff]
 split<;>split<;>simp_all
@[go_sem] theorem zgV {g:Nat} {d:List Nat} {a b:List IV}:xex E (.eqA false d) [.agg a,.agg b] g L KV=z1F (zM d a b) fun t=>KV (.bool t) L:=zbV
@[go_sem] theorem zgM {g:Nat} {d:List Nat} {a b:List IV}:xex E (.eqA true d) [.agg a,.agg b] g L KV=z1F (zM d a b) fun t=>KV (.bool (!t)) L:=zbV
@[go_sem] theorem zgd {g:Nat} {a b:IV}:xex E (.eqP false) [a,b] g L KV=z1F (jW a b) fun t=>KV (.bool t) L:=zby
@[go_sem] theorem zg2 {g:Nat} {a b:IV}:xex E (.eqP true) [a,b] g L KV=z1F (jW a b) fun t=>KV (.bool (!t)) L:=zby
@[go_sem] theorem zc8:jW (.raw (.pointer none)) (.raw (.pointer none))=some true:=nr rfl
@[go_sem] theorem zdR {s r o:Nat}:jW (.ptr s r o) (.raw (.pointer none))=some false:=nr rfl
@[go_sem] theorem zaO {s r o:Nat}:jW (.ptr s r o) (.ptr s r o)=some true:=by simp [jW]
@[go_sem] theorem zdW {g ty:Nat} {z:List IV} {xs:List IV}:xex E (.allocT ty z) xs g L KV=KV (.ptr g 0 0) (zy L g (.tcells ty z.length [z])):=nr rfl
@[go_sem] theorem zm6 {g:Nat} {k:FloatKind} {a b:Nat}:xex E (.ru .re) [.raw (.complex k a b)] g L KV=KV (.raw (.float k a)) L:=by
 simp only [xex,z2f,sij,exists_eq_left']
@[go_sem] theorem zm0 {g:Nat} {k:FloatKind} {a b:Nat}:xex E (.ru .im) [.raw (.complex k a b)] g L KV=KV (.raw (.float k b)) L:=by
 simp only [xex,z2f,sij,exists_eq_left']
@[go_sem] theorem zg0 {g s off len cap:Nat}:xex E .slId [.sl s off len cap] g L KV=zaK s off len cap L KV:=nr rfl
@[go_sem] theorem zdJ {g:Nat}:xex E .sdata [.raw (.slice none 0 0)] g L KV=KV (.raw (.pointer none)) L:=nr rfl
@[go_sem] theorem zgb:xop E (.len (.c (.raw (.slice none 0 0)))) cev L KV=KV (.int .i64 0) L:=nr rfl
@[go_sem] theorem zdl {g:Nat}:xex E .sdata [.nsl] g L KV=KV (.raw (.pointer none)) L:=nr rfl
@[go_sem] theorem zf2 {g s off len cap:Nat}:xex E .sdata [.sl s off len cap] g L KV=(0<cap/\KV (.ptr s off 0) L):=nr rfl
@[go_sem] theorem zeQ {g ty:Nat} {n:Int}:xex E (.ustr ty) [.raw (.pointer none),.int .i64 n] g L KV=(n=0/\KV (.str []) L):=nr rfl
@[go_sem] theorem zgR {g ty s r o:Nat} {n:Int}:xex E (.ustr ty) [.ptr s r o,.int .i64 n] g L KV=zcc ty s r o n L KV:=nr rfl
@[go_sem] theorem zhY {g ty n s r o:Nat}:xex E (.toU ty n) [.ptr s r o] g L KV=z4l ty n s r o L KV:=nr rfl
@[go_sem] theorem zk3 {g ty n s r o:Nat}:xex E (.ofU ty n) [.ptr s r o] g L KV=z4l ty n s r o L KV:=nr rfl
@[go_sem] theorem zgN {g ty b:Nat} {s x:IV}:xex E (.appT ty b) [s,x] g L KV=YG ty b s x g L KV:=nr rfl
@[go_sem] theorem zgF {b:Bool}:cellsOf (.bool b)=[.bool b]:=nr rfl
@[go_sem] theorem zhB {k:IntKind} {n:Int}:cellsOf (.int k n)=[.int k n]:=nr rfl
@[go_sem] theorem ziu {s:List UInt8}:cellsOf (.str s)=[.str s]:=nr rfl
@[go_sem] theorem zkI {s r o:Nat}:cellsOf (.ptr s r o)=[.ptr s r o]:=nr rfl
@[go_sem] theorem zgq {rows:List (List IV)} {r o:Nat}:cellsOf (.iptr rows r o)=[.iptr rows r o]:=nr rfl
@[go_sem] theorem zir {rows:List (List IV)}:cellsOf (.isl rows)=[.isl rows]:=nr rfl
@[go_sem] theorem zm3 {s o l c:Nat}:cellsOf (.sl s o l c)=[.sl s o l c]:=nr rfl
@[go_sem] theorem zjD:cellsOf .nsl=[.nsl]:=nr rfl
@[go_sem] theorem zjE:cellsOf .esl=[.esl]:=nr rfl
@[go_sem] theorem zlY {f:Fn} {a b:List IV}:cellsOf (.fn f a b)=[.fn f a b]:=nr rfl
@[go_sem] theorem zjj {v:Value}:cellsOf (.raw v)=[.raw v]:=nr rfl
@[go_sem] theorem zkk {cs:List IV}:cellsOf (.agg cs)=cs:=nr rfl
@[go_sem] theorem zgU {b:Bool}:zU (.bool b)=true:=nr rfl
@[go_sem] theorem zjL {k:IntKind} {n:Int}:zU (.int k n)=true:=nr rfl
@[go_sem] theorem zlo {s:List UInt8}:zU (.str s)=true:=nr rfl
@[go_sem] theorem zl0 {s r o:Nat}:zU (.ptr s r o)=true:=nr rfl
@[go_sem] theorem zg9 {rows:List (List IV)} {r o:Nat}:zU (.iptr rows r o)=true:=nr rfl
@[go_sem] theorem zhw {rows:List (List IV)}:zU (.isl rows)=true:=nr rfl
@[go_sem] theorem zm2 {s o l c:Nat}:zU (.sl s o l c)=true:=nr rfl
@[go_sem] theorem zhK:zU .nsl=true:=nr rfl
@[go_sem] theorem zi9:zU .esl=true:=nr rfl
@[go_sem] theorem zm5 {f:Fn} {a b:List IV}:zU (.fn f a b)=true:=nr rfl
@[go_sem] theorem zaY {α:Type} {l xs:List α} {i:Nat}:splice l i xs=l.take i++xs++l.drop (i+xs.length):=nr rfl
@[go_sem] theorem zaQ {s:List UInt8}:xop E (.sliceS (.c (.str s)) none none) cev L KV=KV (.str s) L:=by simp [xop,zV,bnd]
@[go_sem] theorem zb9 {s:List UInt8} {k:IntKind} {h:Int}:xop E (.sliceS (.c (.str s)) none (some (.c (.int k h)))) cev L KV=(0<=h/\h.toNat<=s.length/\KV (.str (s.take h.toNat)) L):=by simp [xop,zV,bnd]
@[go_sem] theorem zb7 {s:List UInt8} {k:IntKind} {l:Int}:xop E (.sliceS (.c (.str s)) (some (.c (.int k l))) none) cev L KV=(0<=l/\l.toNat<=s.length/\KV (.str (s.drop l.toNat)) L):=by simp [xop,zV,bnd]
@[go_sem] theorem zaP {s:List UInt8} {k b:IntKind} {l h:Int}:xop E (.sliceS (.c (.str s)) (some (.c (.int k l))) (some (.c (.int b h)))) cev L KV =
  (0<=l/\0<=h/\l.toNat<=h.toNat/\h.toNat<=s.length/\KV (.str ((s.take h.toNat).drop l.toNat)) L):=by simp [xop,zV,bnd]
@[go_sem] theorem zh6 {s:List UInt8}:xop E (.lenS (.c (.str s))) cev L KV=KV (.int .i64 s.length) L:=nr rfl
@[go_sem] theorem zgs {rows:List (List IV)}:xop E (.len (.c (.isl rows))) cev L KV=KV (.int .i64 rows.length) L:=nr rfl
@[go_sem] theorem zg3 {s off len cap:Nat}:xop E (.len (.c (.sl s off len cap))) cev L KV=KV (.int .i64 len) L:=nr rfl
@[go_sem] theorem zh1:xop E (.len (.c .nsl)) cev L KV=KV (.int .i64 0) L:=nr rfl
@[go_sem] theorem zgX:xop E (.len (.c .esl)) cev L KV=KV (.int .i64 0) L:=nr rfl
@[go_sem] theorem zgi {k d:IntKind} {a b:Int}:xop E (.max2 (.c (.int k a)) (.c (.int d b))) cev L KV=KV (.int k (if b>a then b else a)) L:=nr rfl
@[go_sem] theorem zhf {k d:IntKind} {a b:Int}:xop E (.min2 (.c (.int k a)) (.c (.int d b))) cev L KV=KV (.int k (if b<a then b else a)) L:=nr rfl
@[go_sem] theorem zkQ {cs:List IV} {i:Nat}:xop E (.ext (.c (.tup cs)) i) cev L KV=(i<cs.length/\KV (cs.getD i .und) L):=nr rfl
@[go_sem] theorem zgp {f:FuncId} {a b:List IV} {as:List Opd}:xop E (.call (.c (.fn (.func f) a b)) as) cev L KV=WU E f (a++as.map cev++b) L KV:=nr rfl
@[go_sem] theorem zgT {f:Fn} {a b:List Opd}:xop E (.mkfn f a b) cev L KV=KV (.fn f (a.map cev) (b.map cev)) L:=nr rfl
@[go_sem] theorem zfg {z:List IV} {ps:List (Nat × Nat × Opd)} {cs:List IV} (h:Va z (ps.map fun p=>(p.1,p.2.1,cev p.2.2))=some cs):xop E (.build z ps) cev L KV=KV (.agg cs) L:=by
 simp only [xop,h]
@[go_sem] theorem zkZ {s:Nat} {as:List Opd}:xop E (.call (.c (.yld s)) as) cev L KV=E.yl s (as.map cev) L KV:=nr rfl
@[go_sem] theorem zfP {n:Bool}:xop E (.isNil 0 n (.c .nsl)) cev L KV=KV (.bool (if n then !true else true)) L:=nr rfl
@[go_sem] theorem zgx {n:Bool} {rows:List (List IV)}:xop E (.isNil 0 n (.c (.isl rows))) cev L KV=(KV (.bool (if n then !false else false)) L/\(rows=[]->KV (.bool (if n then !true else true)) L)):=nr rfl
@[go_sem] theorem zfU {n:Bool} {s o l c:Nat}:xop E (.isNil 0 n (.c (.sl s o l c))) cev L KV=(KV (.bool (if n then !false else false)) L/\(c=0->KV (.bool (if n then !true else true)) L)):=nr rfl
@[go_sem] theorem zgG {n:Bool}:xop E (.isNil 0 n (.c .esl)) cev L KV=(KV (.bool (if n then !true else true)) L/\KV (.bool (if n then !false else false)) L):=nr rfl
@[go_sem] theorem zhb {n:Bool} {t:TypeId} {v:IV}:xop E (.isNil 1 n (.c (.iface t v))) cev L KV=KV (.bool (if n then !false else false)) L:=nr rfl
@[go_sem] theorem zgC {n:Bool}:xop E (.isNil 1 n (.c (.raw .nilIface))) cev L KV=KV (.bool (if n then !true else true)) L:=nr rfl
@[go_sem] theorem zgJ {n:Bool} {f:Fn} {a b:List IV}:xop E (.isNil 2 n (.c (.fn f a b))) cev L KV=KV (.bool (if n then !false else false)) L:=nr rfl
@[go_sem] theorem zk9 {x:List UInt8}:xop E (.rng (.c (.str x))) cev L KV=KV (.ptr L.length 0 0) (L++[.siter x 0]):=nr rfl
@[go_sem] theorem zbx {rows:List (List IV)}:xop E (.slice0 (.c (.isl rows))) cev L KV=KV .esl L:=nr rfl
@[go_sem] theorem zbG {s off len cap:Nat}:xop E (.slice0 (.c (.sl s off len cap))) cev L KV=KV .esl L:=nr rfl
@[go_sem] theorem zel {m:Nat} {rows:List (List IV)}:xop E (.slice m (.c (.isl rows)) none none) cev L KV=(Rows m rows/\KV (.isl rows) L):=by simp [xop,zV,bnd]
@[go_sem] theorem zfq {m:Nat} {rows:List (List IV)} {k:IntKind} {h:Int}:xop E (.slice m (.c (.isl rows)) none (some (.c (.int k h)))) cev L KV=(Rows m rows/\0<=h/\h.toNat<=rows.length/\KV (.isl (rows.take h.toNat)) L):=by simp [xop,zV,bnd]
@[go_sem] theorem zf0 {m:Nat} {rows:List (List IV)} {k:IntKind} {l:Int}:xop E (.slice m (.c (.isl rows)) (some (.c (.int k l))) none) cev L KV=(Rows m rows/\0<=l/\l.toNat<=rows.length/\KV (.isl (rows.drop l.toNat)) L):=by simp [xop,zV,bnd]
@[go_sem] theorem zf9 {m:Nat} {rows:List (List IV)} {k b:IntKind} {l h:Int}:xop E (.slice m (.c (.isl rows)) (some (.c (.int k l))) (some (.c (.int b h)))) cev L KV =
  (Rows m rows/\0<=l/\0<=h/\l.toNat<=h.toNat/\h.toNat<=rows.length/\KV (.isl ((rows.take h.toNat).drop l.toNat)) L):=by simp [xop,zV,bnd]
end
section
variable {E:Env} {ρ:Rho} {L:List Blk} {KX:XE->Rho->List Blk->Prop}
def z6H (I:Nat->Rho->List Blk->Prop) (n:Nat) (K:XE->Rho->List Blk->Prop):XE->Rho->List Blk->Prop
 | .normal,ρ,L=>∃m,m<n/\I m ρ L
 | e,ρ,L=>K e ρ L
@[go_sem ↓] theorem ze0 {I:Nat->Rho->List Blk->Prop} {n:Nat}:z6H I n KX .normal ρ L=∃m,m<n/\I m ρ L:=nr rfl
@[go_sem ↓] theorem zeb {I:Nat->Rho->List Blk->Prop} {n:Nat}:z6H I n KX .ret ρ L=KX .ret ρ L:=nr rfl
@[go_sem ↓] theorem zd0 {I:Nat->Rho->List Blk->Prop} {n l:Nat}:z6H I n KX (.goto l) ρ L=KX (.goto l) ρ L:=nr rfl
@[go_sem ↓] theorem ze5 {I:Nat->Rho->List Blk->Prop} {n l:Nat}:z6H I n KX (.exit l) ρ L=KX (.exit l) ρ L:=nr rfl
theorem wS {b:XC} (I:Nat->Rho->List Blk->Prop) {n:Nat} (d:I n ρ L) (hs:∀n ρ L,I n ρ L->Za E b ρ L (z6H I n KX)):Za E (.loop b) ρ L KX:=by
 refine z4z I d fun n ρ L h=>zn _ (fun e ρ' L' h=>?_) (hs n ρ L h)
 cases e<;>exact h
def z1q (l:Nat) (I:Nat->Rho->List Blk->Prop) (n:Nat) (K:XE->Rho->List Blk->Prop):XE->Rho->List Blk->Prop
 | .goto l',ρ,L=>(l'=l->∃m,m<n/\I m ρ L)/\(l'≠l->K (.goto l') ρ L)
 | e,ρ,L=>K e ρ L
@[go_sem ↓] theorem zdQ {I:Nat->Rho->List Blk->Prop} {n l:Nat}:z1q l I n KX (.goto l) ρ L=∃m,m<n/\I m ρ L:=by simp [z1q]
@[go_sem ↓] theorem zcT {I:Nat->Rho->List Blk->Prop} {n l:Nat}:z1q l I n KX .ret ρ L=KX .ret ρ L:=nr rfl
@[go_sem ↓] theorem zcU {I:Nat->Rho->List Blk->Prop} {n l:Nat}:z1q l I n KX .normal ρ L=KX .normal ρ L:=nr rfl
@[go_sem ↓] theorem zd4 {I:Nat->Rho->List Blk->Prop} {n l i:Nat}:z1q l I n KX (.exit i) ρ L=KX (.exit i) ρ L:=nr rfl
theorem zaI {b c:XC} {l:Nat} (I:Nat->Rho->List Blk->Prop) (N:Nat) (B:Za E b ρ L (z1q l I N KX)) (hs:∀n ρ L,I n ρ L->Za E c ρ L (z1q l I n KX)) :
  Za E (.scope b (.cons l c .nil)) ρ L KX:=by
 simp only [Za]
 have hg:Yx E (.cons l c .nil) l=some (Za E c):=by simp [Yx]
 have q:∀d,d≠l->Yx E (.cons l c .nil) d=none:=fun d h=>by simp [Yx,h]
 have key:∀n,(∀m ρ L,m<n->I m ρ L->yG (Yx E (.cons l c .nil)) n (.goto l) ρ L KX)/\(∀e ρ L,z1q l I n KX e ρ L->yG (Yx E (.cons l c .nil)) n e ρ L KX):=by
  intro n
  induction n with
  | zero=>
   refine ⟨fun m ρ L h=>by omega,fun e ρ L h=>?_⟩
   cases e with
   | normal=>simp only [yG];exact h
   | ret=>simp only [yG];exact h
   | exit i=>simp only [yG];exact h
   | goto d=>
    by_cases j:d=l
    ·subst j;obtain ⟨m,u,_⟩:=h.1 rfl;omega
    ·unfold yG;rw [q d j];exact h.2 j
  | succ n A=>
   have w:∀m ρ L,m<n+1->I m ρ L->yG (Yx E (.cons l c .nil)) (n+1) (.goto l) ρ L KX:=by
    intro m ρ L u h
    unfold yG
    rw [hg]
    refine zn c (fun e ρ' L' r=>A.2 e ρ' L' ?_) (hs m ρ L h)
    cases e with
    | goto d=>
     refine ⟨fun j=>?_,r.2⟩
     obtain ⟨k,D,s⟩:=r.1 j
     exact ⟨k,od,s⟩
    | normal=>exact r
    | ret=>exact r
    | exit i=>exact r
   refine ⟨w,fun e ρ L h=>?_⟩
   cases e with
   | normal=>simp only [yG];exact h
   | ret=>simp only [yG];exact h
   | exit i=>simp only [yG];exact h
   | goto d=>
    by_cases j:d=l
    ·subst j;obtain ⟨m,u,s⟩:=h.1 rfl;exact w m ρ L u s
    ·unfold yG;rw [q d j];exact h.2 j
 exact ⟨N,zn b (fun e ρ L h=>(key N).2 e ρ L h) B⟩
theorem wrap64 {n:Int} (d : -9223372036854775808<=n) (b:n<=9223372036854775807):IntKind.wrap .i64 n=n:=by
 simp only [IntKind.wrap];simp [IntKind.bits,IntKind.signed];omega
end
section
variable {E:Env} {ρ:Rho} {L:List Blk} {KX:XE->Rho->List Blk->Prop} {KR:Rho->List Blk->Prop}
def z90:List Nat->Nat->Bool
 | [],_=>false
 | a::r,n=>if n=a then true else z90 r n
def hav (W:List Nat) (vs:Rho) (ρ:Rho):Rho:=fun n=>if z90 W n=true then vs n else ρ n
def act (ρ:Rho) (S:List Nat):Option (Nat × Bool)->Prop
 | none=>True
 | some (t,w)=>ρ t=.bool w/\z90 S t=false
def z9e (w b y:Bool):Bool:=if w then b&&y else b||y
@[go_sem] theorem zcQ {n:Nat}:z90 [] n=false:=nr rfl
@[go_sem] theorem zct {a n:Nat} {r:List Nat}:z90 (a::r) n=if n=a then true else z90 r n:=nr rfl
@[go_sem] theorem zes {W:List Nat} {vs:Rho} {n:Nat}:hav W vs ρ n=if z90 W n=true then vs n else ρ n:=nr rfl
@[go_sem] theorem zdB {S:List Nat}:act ρ S none=True:=nr rfl
@[go_sem] theorem zcO {S:List Nat} {t:Nat} {w:Bool}:act ρ S (some (t,w))=(ρ t=.bool w/\z90 S t=false):=nr rfl
@[go_sem] theorem zhe {b y:Bool}:z9e true b y=(b&&y):=nr rfl
@[go_sem] theorem zg4 {b y:Bool}:z9e false b y=(b||y):=nr rfl
end
section
variable {E:Env} {ρ:Rho} {L:List Blk}
def z3X (Q:Rho->List Blk->Prop):XE->Rho->List Blk->Prop
 | .normal,ρ,L=>Q ρ L
 | .ret,ρ,L=>Q ρ L
 | _,_,_=>False
@[go_sem ↓] theorem zdx {Q:Rho->List Blk->Prop}:z3X Q .ret ρ L=Q ρ L:=nr rfl
@[go_sem ↓] theorem z9y {Q:Rho->List Blk->Prop}:z3X Q .normal ρ L=Q ρ L:=nr rfl
theorem z5h {f : FuncId} {fn : Func} {t n : Nat} {c : XC} {args : List IV} {r : IV} (l : E.P.funcs[f]? = some fn) (j : Zz E.P fn = some ⟨n, [.tmp t], c⟩) (d : fn.name ≠ "runtime.NumGoroutine")
  (b:args.length≤fn.ntmps) (h:Za E.noPan c (entry args) [] (z3X fun ρ L'=>conv L' fuel zW (ρ t)=some r)):ZH E f args r:=by
 refine vZ l j d b (zn _ (fun e ρ L h=>?_) h)
 cases e with
 | normal=>exact ⟨Or.inr rfl,h⟩
 | ret=>exact ⟨Or.inl rfl,h⟩
 | exit=>exact h.elim
 | goto=>exact h.elim
end
def inN (i:Nat):List Nat->Bool
 | []=>false
 | a::r=>if i=a then true else inN i r
theorem z6B {i:Nat}:∀{l:List Nat},inN i l=true↔i∈l
 | []=>by simp [inN]
 | a::r=>by
  unfold inN
  by_cases h:i=a
  ·simp [h]
  ·rw [if_neg h,z6B];simp [h]
def z7T (a:Nat):List Nat->Prop
 | []=>True
 | b::l=>a≠b/\z7T a l
def sepL:List Nat->List Nat->Prop
 | [],_=>True
 | a::r,l=>z7T a l/\sepL r l
theorem z3k {a:Nat}:∀{l:List Nat},z7T a l↔a∉l
 | []=>by simp [z7T]
 | b::l=>by simp [z7T,z3k]
theorem z2D {l:List Nat}:∀{r:List Nat},sepL r l↔∀i∈r,i∉l
 | []=>by simp [sepL]
 | a::r=>by simp [sepL,z3k,z2D]
theorem zbH {r1 l r2 j:List Nat}:Ap r1 l r2 j=(sepL l r2/\sepL l j/\sepL j r1):=by
 simp only [Ap,z2D,eq_iff_iff]
 constructor
 ·rintro ⟨d,b⟩;exact ⟨fun i h=>(d i h).1,fun i h=>(d i h).2,fun i h=>(b i h).1⟩
 ·rintro ⟨d,b,q⟩;exact ⟨fun i h=>⟨d i h,b i h⟩,fun i h=>⟨q i h,fun m=>b i m h⟩⟩
theorem z7v {b r w:List Nat} {i:Nat} {r1 d:List Nat} {lg:List (Nat × List Nat × List Nat)}:z3f b r w ((i,r1,d)::lg)=((if inN i b=true then (sepL d r/\sepL d w/\sepL w r1) else True)/\z3f b r w lg):=by
 simp only [z3f,zbH,<-z6B]
 by_cases h:inN i b=true<;>simp [h]
theorem z94 {o : XO} {e : Opd → IV} {L : List Blk} : (o.sub e).rd cev L = o.rd e L := by
  cases o <;> first
    | rfl
    | (simp only [XO.sub, XO.rd, zV, WA]; done)
    | (rename_i k xs
       cases k <;> first
         | rfl
         | (have h := congrArg (List.flatMap slS) (WA (e := e) (l := xs))
            simpa only [List.flatMap_map, XO.sub, XO.rd] using h)
         | (have h := congrArg (List.flatMap slM) (WA (e := e) (l := xs))
            simpa only [List.flatMap_map, XO.sub, XO.rd] using h))
theorem z8P {o:XO} {e:Opd->IV}:(o.sub e).wr cev=o.wr e:=by
 cases o<;>first | rfl | (rename_i k xs;cases k<;>first | rfl | (cases xs<;>rfl))
theorem z6R {o:XO} {e:Opd->IV} {L L':List Blk}:yQ (o.sub e) L L'=yQ o L L':=by
 cases o<;>first | rfl | (rename_i k xs;cases k<;>rfl)
theorem z2X {r w:List Nat}:∀{lg:List (Nat × List Nat × List Nat)},z3f [] r w lg
 | []=>trivial
 | (i,r1,w1)::lg=>⟨fun h=>by simp at h,z2X⟩
def yK (o:XO) (L L':List Blk):List Nat:=o.rd cev L++yQ o L L'
def yP (o:XO) (L L':List Blk):List Nat:=o.wr cev++yQ o L L'
section
variable {E:Env} {ρ:Rho} {L L':List Blk} {KX:XE->Rho->List Blk->Prop} {KR:Rho->List Blk->Prop} {i:Nat} {lg:List (Nat × List Nat × List Nat)}
@[congr] theorem zaz {l:List (zg × List Nat × Bool)} {ρ':Rho} {L':List Blk} {i':Nat} {lg':List (Nat × List Nat × List Nat)} (hi:same i=i') (hg:same lg=lg') (h:same ρ=ρ') (hL:same L=L'):Zo E i lg l ρ L KR=Zo E i' lg' l ρ' L' KR:=by rw [<-hi,<-hg,<-h,<-hL];rfl
@[go_sem ↓] theorem zeu {l:List (zg × List Nat × Bool)}:Za E (.drawR l) ρ L KX=Zo E 0 [] l ρ L fun ρ' L'=>KX .normal ρ' L':=nr rfl
@[go_sem ↓] theorem zh7:Zo E i lg [] ρ L KR=KR ρ L:=nr rfl
@[go_sem ↓] theorem zdz {d:Option Nat} {o:XO} {r:List (zg × List Nat × Bool)}:Zo E i lg ((⟨d,o,none⟩,[],false)::r) ρ L KR=xop E (o.sub (Opd.ev ρ)) cev L fun v L'=>Zo E (i+1) lg r (put ρ d v) L' KR:=by
 rw [<-vF]
 simp only [Zo,Bool.false_eq_true,if_false]
 congr 1
 funext v L'
 simp [z2X,same_eq]
@[go_sem ↓] theorem zet {d:Option Nat} {o:XO} {r:List (zg × List Nat × Bool)} {chk:List Nat}:Zo E i lg ((⟨d,o,none⟩,chk,true)::r) ρ L KR=xop E (o.sub (Opd.ev ρ)) cev L fun v L'=>
  z3f chk (yK (o.sub (Opd.ev ρ)) L L') (yP (o.sub (Opd.ev ρ)) L L') lg/\Zo E (i+1) ((i,yK (o.sub (Opd.ev ρ)) L L',yP (o.sub (Opd.ev ρ)) L L')::lg) r (put ρ d v) L' KR:=by
 rw [<-vF]
 simp only [Zo,if_true]
 congr 1
 funext v L'
 simp only [same_eq,yK,yP,z94,z8P,z6R]
@[go_sem ↓] theorem zh9 {d:Option Nat} {o:XO} {r:List (zg × List Nat × Bool)} {c:Nat} {chk:List Nat}:Zo E i lg ((⟨d,o,none⟩,c::chk,false)::r) ρ L KR=xop E (o.sub (Opd.ev ρ)) cev L fun v L'=>
  z3f (c::chk) (yK (o.sub (Opd.ev ρ)) L L') (yP (o.sub (Opd.ev ρ)) L L') lg/\Zo E (i+1) lg r (put ρ d v) L' KR:=by
 rw [<-vF]
 simp only [Zo,Bool.false_eq_true,if_false]
 congr 1
 funext v L'
 simp only [same_eq,yK,yP,z94,z8P,z6R]
@[go_sem ↓] theorem zgt {d:Option Nat} {o:XO} {r:List (zg × List Nat × Bool)} {chk:List Nat} {keep:Bool} {t:Nat} {w:Bool} (h:ρ t=.bool w) :
  Zo E i lg ((⟨d,o,some (t,w)⟩,chk,keep)::r) ρ L KR=Zo E i lg ((⟨d,o,none⟩,chk,keep)::r) ρ L KR:=by
 simp [Zo,h,same_eq]
@[go_sem ↓] theorem zds {d:Option Nat} {o:XO} {r:List (zg × List Nat × Bool)} {chk:List Nat} {keep:Bool} {t:Nat} {w:Bool} (h:ρ t=.bool (!w)) :
  Zo E i lg ((⟨d,o,some (t,w)⟩,chk,keep)::r) ρ L KR=Zo E (i+1) lg r (put ρ d .und) L KR:=by
 cases w<;>simp [Zo,h,same_eq]
@[go_sem ↓] theorem zff {d:Option Nat} {o:XO} {r:List (zg × List Nat × Bool)} {chk:List Nat} {keep:Bool} {t:Nat} {w:Bool} (h:ρ t=.und) :
  Zo E i lg ((⟨d,o,some (t,w)⟩,chk,keep)::r) ρ L KR=Zo E (i+1) lg r (put ρ d .und) L KR:=by
 simp [Zo,h,same_eq]
attribute [go_sem] z7v
@[go_sem] theorem zev {b r w:List Nat}:z3f b r w []=True:=nr rfl
@[go_sem] theorem zfQ:inN i []=false:=nr rfl
@[go_sem] theorem zeL {a:Nat} {r:List Nat}:inN i (a::r)=if i=a then true else inN i r:=nr rfl
@[go_sem] theorem zfE {a:Nat}:z7T a []=True:=nr rfl
@[go_sem] theorem zcV {a b:Nat} {l:List Nat}:z7T a (b::l)=(¬a=b/\z7T a l):=nr rfl
@[go_sem] theorem zfn {l:List Nat}:sepL [] l=True:=nr rfl
@[go_sem] theorem zde {a:Nat} {r l:List Nat}:sepL (a::r) l=(z7T a l/\sepL r l):=nr rfl
@[go_sem] theorem zf5 {s r o:Nat}:slP (.ptr s r o)=[s]:=nr rfl
@[go_sem] theorem zcN {rows:List (List IV)} {r o:Nat}:slP (.iptr rows r o)=[]:=nr rfl
@[go_sem] theorem zfH {v:Value}:slP (.raw v)=[]:=nr rfl
@[go_sem] theorem zh3 {s off len cap:Nat}:slS (.sl s off len cap)=[s]:=nr rfl
@[go_sem] theorem zf3 {rows:List (List IV)}:slS (.isl rows)=[]:=nr rfl
@[go_sem] theorem zeG:slS .nsl=[]:=nr rfl
@[go_sem] theorem zfw:slS .esl=[]:=nr rfl
@[go_sem] theorem zfI {s:List UInt8}:slS (.str s)=[]:=nr rfl
section
variable {n sz len:Nat} {x y:IV} {z:List IV} {ps:List (Nat × Opd)} {lo hi:Option Opd} {f:Opd} {as:List Opd}
@[go_sem] theorem zdY:yK (.load1 (.c x)) L L'=slP x:=by simp [yK,XO.rd,yQ,zV]
@[go_sem] theorem zdC:yP (.load1 (.c x)) L L'=[]:=nr rfl
@[go_sem] theorem zdy:yK (.loadN n (.c x)) L L'=slP x:=by simp [yK,XO.rd,yQ,zV]
@[go_sem] theorem zdo:yP (.loadN n (.c x)) L L'=[]:=nr rfl
@[go_sem] theorem zeM:yK (.idxS n (.c x) (.c y)) L L'=slS x:=by simp [yK,XO.rd,yQ,zV]
@[go_sem] theorem zeE:yP (.idxS n (.c x) (.c y)) L L'=[]:=nr rfl
@[go_sem] theorem zdV:yK (.slice n (.c x) lo hi) L L'=slS x:=by simp [yK,XO.rd,yQ,zV]
@[go_sem] theorem zd5:yP (.slice n (.c x) lo hi) L L'=[]:=nr rfl
@[go_sem] theorem zdI:yP (.pcall f as) L L'=[]:=nr rfl
@[go_sem] theorem zdM:yK (.alloc z) L L'=[L.length]:=nr rfl
@[go_sem] theorem ze4:yP (.alloc z) L L'=[L.length]:=nr rfl
@[go_sem] theorem zg1:yK (.box f) L L'=[L.length]:=nr rfl
@[go_sem] theorem zgO:yP (.box f) L L'=[L.length]:=nr rfl
@[go_sem] theorem zcJ:yK (.bslice sz z len ps) L L'=[L.length]:=nr rfl
@[go_sem] theorem zcm:yP (.bslice sz z len ps) L L'=[L.length]:=nr rfl
@[go_sem] theorem zbg:yK (.mkslice z n (.c x) (.c y)) L L'=[L.length]:=nr rfl
@[go_sem] theorem zaV:yP (.mkslice z n (.c x) (.c y)) L L'=[L.length]:=nr rfl
@[go_sem] theorem zdK:yK (.store n (.c x) (.c y)) L L'=slP x:=by simp [yK,XO.rd,yQ,zV]
@[go_sem] theorem zdu:yP (.store n (.c x) (.c y)) L L'=slP x:=by simp [yP,XO.wr,yQ,zV]
@[go_sem] theorem zbh:yK (.append sz n (.c x) (.c y)) L L'=slS x++slS y++(if L'.length=L.length then [] else [L.length]):=by simp only [yK,XO.rd,yQ,zV]
@[go_sem] theorem zcg:yP (.append sz n (.c x) (.c y)) L L'=slS x++(if L'.length=L.length then [] else [L.length]):=by simp only [yP,XO.wr,yQ,zV]
end
end
end Go.X
end
