/- Parts of the proof: XRow, XData, XSel, XHeap, XFreeze, XDrop, XFstC, XFstC2, XFstF, XFst3, XFst4, XFst5, XFst6, XFst7, XFst8, XFstT, XAb. -/
import Derived.Test.YtjliemjcailckaaGreatDoorXP7
import Derived.Carry
import Derived.Deep.Strs
import Derived.ChangeSame
import Derived.ChangeOld
import Derived.WideShapes
import Derived.Deep.DeepHandedRow
import Derived.Lay
set_option linter.unusedVariables false
set_option linter.unusedSimpArgs false
set_option linter.unusedSectionVars false
section
namespace Go.X
open Go Go.ChangeShapes Go.WideShapes Go.RowKit
def za9 (P:Program) (W:World) (gl:Nat->Option (List IV))
  (hgl:∀(n:Nat) (cs:List IV),gl n=some cs->∀(j:Nat) (y:IV),cs[j]?=some y->∃u,W.cell? ⟨n,j,none⟩=some u/\∀C:Ctx,VR C y u):Env where
 pan:=fun _ _=>False
 P:=P
 g0:=W.heap.size
 G:=fun w=>∀b,b<W.heap.size->w.heap[b]?=W.heap[b]?
 hG:=fun w w' h hG b hb=>(h b hb).trans (hG b hb)
 gl:=gl
 hgl:=fun w n cs hG hn j y hy=>by
  obtain ⟨u,h1,h2⟩:=hgl n cs hn j y hy
  refine ⟨u,?_,h2⟩
  have hb:n<W.heap.size:=by
   simp only [World.cell?] at h1
   cases hb:W.heap[n]? with
   | none=>rw [hb] at h1;cases h1
   | some o=>exact (Array.getElem?_eq_some_iff.1 hb).1
  rw [cell_of_heap (hG n hb)];exact h1
 yl:=fun _ _ _ _=>False
 hylm:=fun _ _ _ _ _ _ h=>h
 hyl:=fun _ _ _ _ _ _ _ _ _ _ h=>h.elim
def z9c (W:World):Ctx:=⟨W,fun _=>⟨0,0,0⟩,[],fun _=>False⟩
theorem zb1 {W:World} {b:Nat}:¬(z9c W).own b:=by
 rintro (h | ⟨s,k,d,_⟩)
 ·exact h
 ·simp [z9c] at d
theorem z6z {P:Program} {W:World} {gl:Nat->Option (List IV)} {hgl} {f:FuncId} {args:List IV} {vs:List Value} (h:ZH (za9 P W gl hgl) f args (.bool true)) (q:args.length=vs.length)
  (j:∀(i:Nat) (x:IV),args[i]?=some x->VR (z9c W) x (vs.getD i undef)):Calls P f vs.toArray W fun e W'=>e=.returned (.bool true)/\Below W.heap.size W W':=by
 have wf:Wf (za9 P W gl hgl).g0 ⟨W,fun _=>⟨0,0,0⟩,[],fun _=>False⟩:=
  ⟨fun s t k l m=>by simp at m,fun b h=>absurd (.inr h) zb1,fun b h=>h.elim,fun b h=>h.elim,Nat.le_refl _⟩
 have d:Sim ⟨W,fun _=>⟨0,0,0⟩,[],fun _=>False⟩:=fun s k m=>by simp at m
 refine (h.2 W (fun _=>⟨0,0,0⟩) (fun _=>False) vs wf d (fun b _=>rfl) q j).mono ?_
 rintro e W' ⟨r,L',w,v,⟨rfl,rfl⟩,rfl,_,_,ext,j⟩
 cases j
 exact ⟨rfl,⟨ext.os,ext.tape,ext.output,ext.size,fun b u=>ext.frame b u (fun A=>zb1 (.inr A))⟩⟩
theorem JJ {W W':World} {p:MemPlace->Prop} (b:Below W.heap.size W W'):W.keptBut W' p:=by
 refine ⟨b.os,b.output,fun i hi=>?_⟩
 rw [b.block i hi]
 cases W.heap[i]? with
 | none=>rfl
 | some o=>cases o<;>first | rfl | exact ⟨rfl,rfl,rfl,fun _ _=>rfl⟩ | exact .inr ⟨rfl,rfl⟩
theorem z0A {W W':World} (b:Below W.heap.size W W') {a:Addr} (ha:a.block<W.heap.size):W'.frozen? a=W.frozen? a:=by
 unfold World.frozen?
 rw [b.block _ ha]
theorem wY {H:Type} {enc:TypeId × Value->H} {P:Program} (m:laidOutB P=true) {W W':World} (r:Below W.heap.size W W') (sp:Nat->Bool) :
  ∀{j:List TypeId} {vs:List Value} {l:List (DataW H)} {ps:List MemPlace},j.all (fun t=>P.readableRec t&&decide (t<P.types.size))=true->(∀p∈ps,sp p.block=true)->(∀p∈ps,p.block<W.heap.size)->
   DataW.TrodAll enc P W 0 (fun _=>true) true j vs l ps->DataW.TrodAll enc P W' 0 sp true j vs l ps
 | [],[],[],_,_,_,_,h=>h
 | [],[],_::_,_,_,_,_,h=>h.elim
 | [],_::_,_,_,_,_,_,h=>(by cases ‹List (DataW H)›<;>exact h.elim)
 | _::_,[],_,_,_,_,_,h=>(by cases ‹List (DataW H)›<;>exact h.elim)
 | _::_,_::_,[],_,_,_,_,h=>h.elim
 | t::j,v::vs,d::l,ps,ht,hs,hlt,h=>by
  obtain ⟨p,q,u,s,rfl⟩:=h
  simp only [List.all_cons,Bool.and_eq_true,decide_eq_true_eq] at ht
  exact ⟨p,q,WideElems.Trod_stays m ht.1.1 ht.1.2 u (fun x b=>r.same (hlt x (List.mem_append_left _ b))) (fun x b=>hs x (List.mem_append_left _ b)),
   wY m r sp ht.2 (fun x b=>hs x (List.mem_append_right _ b)) (fun x b=>hlt x (List.mem_append_right _ b)) s,rfl⟩
theorem z6s {H:Type} {enc:TypeId × Value->H} {P:Program} {f:Func} {s:ChangeSpec} {apart m h w:Bool} {W W':World} {args:Array Value} {u V:List (DataW H)} {d:List MemPlace} {t0:TypeId}
  (X:laidOutB P=true) (A:f.params.toList.all (fun t=>P.readableRec t&&decide (t<P.types.size))=true) (G:s.vars=[]) (I:f.resultTypes=#[t0]) (ht:P.underlying t0=some .bool)
  (Z:s.fn H u={ results:=[.lit (.bool true)],args:=u }) (hW:DataW.Whole enc P f.params.toList s.vars apart W args.toList u V d) (Y:Below W.heap.size W W') :
  s.post enc P f apart m h w W args (.bool true) W':=by
 have r:∀p∈d,p.block<W.heap.size:=fun p Q=>by simpa using hW.lt p Q
 obtain ⟨p,q,hA,S,rfl,J,M⟩:=hW
 have T:V=[]/\q=[]:=by
  rw [G] at S
  cases V with
  | nil=>exact ⟨rfl,S⟩
  | cons=>exact S.elim
 obtain ⟨rfl,rfl⟩:=T
 have j:s.fn H (u++[])={ results:=[.lit (.bool true)],args:=u }:=by rw [List.append_nil];exact Z
 have D:∀sp:Nat->Bool,(∀x∈p,sp x.block=true)->DataW.TrodAll enc P W' 0 sp true f.params.toList args.toList u p:=fun sp U=>
  wY X Y sp A U (fun x B=>r x (by simpa using B)) hA
 have l:∀(b:Nat) (sp:Nat->Bool) (hd:Bool),DataW.TrodAll enc P W' b sp hd f.resultTypes.toList ((Value.bool true).resultList f.resultTypes.size) [.lit (.bool true)] []:=fun b sp hd=>by
  rw [I]
  exact ⟨[],[],shut_bool ht _,rfl,rfl⟩
 have O:∀sp:Nat->Bool,DataW.TrodVars enc P W' sp s.vars ([]:List (DataW H)) []:=fun sp=>by rw [G];rfl
 refine ⟨u,[],p++[],[],p,[],⟨p,[],hA,S,rfl,J,M⟩,?_,?_,?_,JJ Y,fun _=>?_⟩
 ·rw [j];exact l _ _ _
 ·rw [j];exact D _ (fun x B=>by simpa using r x (by simpa using B))
 ·rw [j];exact O _
 ·refine ⟨ok_one I rfl (okWide_bool_mk ht _),_,_,p++[],⟨[]++p,[],trodAll_append (D _ (fun _ _=>rfl)) (l 0 (fun _=>true) true),O _,by simp,?_,?_⟩,?_⟩
  ·intro b off Q
   rw [z0A Y (r _ Q)]
   exact J b off Q
  ·exact M
  ·intro x B _;simpa using B
theorem z0w (C:Ctx) (b:ByteArray):VR C (.str b.data.toList) (.string b):=by
 have:=VR.str (C:=C) b.data.toList
 simpa using this
theorem z0L {W:World} {a:Addr} {v:Value} (h:W.cell? a=some v):a=⟨a.block,a.off,none⟩/\a.block<W.heap.size:=by
 unfold World.cell? at h
 split at h
 ·rename_i d
  split at h
  ·cases h
  ·rename_i hs
   refine ⟨?_,(Array.getElem?_eq_some_iff.1 d).1⟩
   obtain ⟨b,o,sp⟩:=a
   cases sp with
   | none=>rfl
   | some s=>simp at hs
 ·cases h
theorem z7O {b o i:Nat}:(⟨b,o,none⟩:Addr).add i=⟨b,o+i,none⟩:=by unfold Addr.add;split<;>simp_all
theorem z81 {W:World} {a:Addr} {len cap sz:Nat} {rows:List (List IV)} {vals:Nat->Nat->Value} (m:rows.length=len) (h:len<=cap) (l:0<sz)
  (hsz:∀b∈rows,b.length=sz) (q:∀b∈rows,closed.closedL b=true)
  (hc:∀i j,i<len->j<sz->W.cell? (a.add (i*sz+j))=some (vals i j)) (D:∀(i:Nat) (b:List IV),rows[i]?=some b->∀(j:Nat) (x:IV),b[j]?=some x->VR (z9c W) x (vals i j)) :
  VR (z9c W) (.isl rows) (.slice (some a) len cap):=by
 subst m
 refine .isl rows (some a) cap sz vals h (fun i b hi=>hsz b (List.mem_of_getElem? hi)) (fun i b hi=>q b (List.mem_of_getElem? hi)) ?_ D
 by_cases h0:rows=[]
 ·exact .inl h0
 ·have d:0<rows.length:=List.length_pos_iff.2 h0
  have A:=hc 0 0 d l
  have ha:a.add (0*sz+0)=a:=by simp [Addr.add]
  rw [ha] at A
  obtain ⟨w,B⟩:=z0L A
  refine .inr ⟨a.block,a.off,by rw [<-w],B,zb1,fun i b hi j x G=>?_⟩
  have s:=zk hi
  have r:j<sz:=by rw [<-hsz b (List.mem_of_getElem? hi)];exact zk G
  have u:=hc i j s r
  rw [w,z7O,<-Nat.add_assoc] at u
  exact u
theorem z1Z {H:Type} {enc:TypeId × Value->H} {C:Checked} {os:Os} {f:FuncId} {fn:Func} {s:OpenSpec} {conds:List PathCond} {apart:Bool} {laid:List (String × DataW Unit)} (modest:Bool) (w0:World) (args:Array Value) (hos:w0.os=os)
  (hv:(w0.forCall (fun _ _=>0) ⟨#[],args,[]⟩).variablesZipB C.prog=true)
  (hr:((w0.forCall (fun _ _=>0) ⟨#[],args,[]⟩).heap.toList.drop C.prog.globals.size).take ((begin C.prog (fun _ _=>0) default).world.heap.size - C.prog.globals.size) =
   (begin C.prog (fun _ _=>0) default).world.heap.toList.drop C.prog.globals.size)
  (hok:Input.okWideB C.prog (w0.forCall (fun _ _=>0) ⟨#[],args,[]⟩) f ⟨#[],args,[]⟩=true)
  (hrow:s.preRow enc C.prog fn conds apart laid (w0.forCall (fun _ _=>0) ⟨#[],args,[]⟩).memory args) :
  ∃(w:World) (tape:Tape) (i:Input),w.os=os/\(w.forCall tape i).Shaped C.prog/\i.vars=[]/\Input.okWide C.prog (w.forCall tape i) .any w.heap.size f i/\
   s.preRow enc C.prog fn conds apart laid (w.forCall tape i).memory i.args/\({ modest:=modest }:Assume).holds C.prog (lone (Frame.enter C.prog f i.args .normal) [] (w.forCall tape i)):=
 ⟨w0,fun _ _=>0,⟨#[],args,[]⟩,hos,World.shaped_of_ZipB hv hr,(Input.okWide_of_okWideB (base:=0) hok).1,(Input.okWide_of_okWideB hok).2,hrow,by
  simp only [Assume.holds]
  exact ⟨by simp,by simp,fun _=>Modest.zero,by simp,by simp⟩⟩
inductive Ty where
 | bool
 | int (k:IntKind)
 | str
 | slice (e:Ty)
 | struct (fs:List Ty)
 deriving Inhabited
mutual
def Ty.size:Ty->Nat
 | .struct fs=>Ty.sizes fs
 | _=>1
def Ty.sizes:List Ty->Nat
 | []=>0
 | t::r=>t.size+Ty.sizes r
end
mutual
def Ty.fits (P:Program):Ty->TypeId->Bool
 | .bool,t=>match P.underlying t with | some .bool=>true | _=>false
 | .int k,t=>match P.underlying t with | some (.int k')=>decide (k'=k) | _=>false
 | .str,t=>match P.underlying t with | some .string=>true | _=>false
 | .slice e,t=>match P.underlying t with | some (.slice u)=>e.fits P u&&decide (P.cellsOf u=e.size)&&decide (0<e.size) | _=>false
 | .struct fs,t=>match P.underlying t with | some (.struct us)=>Ty.fitsAll P fs us.toList 0&&decide (P.cellsOf t=Ty.sizes fs) | _=>false
def Ty.fitsAll (P:Program):List Ty->List Field->Nat->Bool
 | [],[],_=>true
 | f::fs,u::us,o=>f.fits P u.type&&decide (u.offset=o)&&decide (P.cellsOf u.type=f.size)&&Ty.fitsAll P fs us (o+f.size)
 | _,_,_=>false
end
mutual
def Ty.Of:Ty->List IV->Prop
 | .bool,c=>∃b,c=[.bool b]
 | .int k,c=>∃n,c=[.int k n]/\(Lit.int k n).wf=true
 | .str,c=>∃s:List UInt8,c=[.str s]/\s.length<=9223372036854775807
 | .slice e,c=>∃rows:List (List IV),c=[.isl rows]/\rows.length<=9223372036854775807/\∀row∈rows,e.Of row
 | .struct fs,c=>Ty.OfAll fs c
def Ty.OfAll:List Ty->List IV->Prop
 | [],c=>c=[]
 | f::fs,c=>∃a b,c=a++b/\f.Of a/\Ty.OfAll fs b
end
theorem jV {a b:List IV}:closed.closedL (a++b)=(closed.closedL a&&closed.closedL b):=by
 induction a with
 | nil=>simp [closed.closedL]
 | cons x a d=>simp [closed.closedL,d,Bool.and_assoc]
mutual
theorem Ty.closed:∀(t:Ty) (c:List IV),t.Of c->Go.X.closed.closedL c=true/\c.length=t.size
 | .bool,c,h=>by obtain ⟨b,rfl⟩:=h;exact ⟨rfl,rfl⟩
 | .int k,c,h=>by obtain ⟨b,rfl,_⟩:=h;exact ⟨rfl,rfl⟩
 | .str,c,h=>by obtain ⟨b,rfl,_⟩:=h;exact ⟨rfl,rfl⟩
 | .slice e,c,h=>by obtain ⟨b,rfl,_⟩:=h;exact ⟨rfl,rfl⟩
 | .struct fs,c,h=>Ty.closedAll fs c h
theorem Ty.closedAll:∀(t:List Ty) (c:List IV),Ty.OfAll t c->Go.X.closed.closedL c=true/\c.length=Ty.sizes t
 | [],c,h=>by cases h;exact ⟨rfl,rfl⟩
 | f::fs,c,h=>by
  obtain ⟨a,b,rfl,l,d⟩:=h
  obtain ⟨q,j⟩:=Ty.closed f a l
  obtain ⟨r,m⟩:=Ty.closedAll fs b d
  exact ⟨by rw [jV,q,r];rfl,by rw [lla,j,m];rfl⟩
end
section
variable {H:Type} {enc:TypeId × Value->H} {P:Program} {W:World} {sp:Nat->Bool} {hd:Bool}
theorem maxLen_eq:maxLen=9223372036854775807:=by decide
def Told (W:World) (ivs:List IV) (cs:List Value):Prop:=ivs.length=cs.length/\∀(j:Nat) (x:IV),ivs[j]?=some x->VR (z9c W) x (cs.getD j undef)
theorem wM {x:IV} {v:Value} (h:VR (z9c W) x v):Told W [x] [v]:=⟨rfl,fun j y b=>by
 cases j with
 | zero=>simp at b;subst b;exact h
 | succ j=>simp at b⟩
mutual
theorem VI:∀(ty:Ty) {fuel:Nat} {t:TypeId} {cs:List Value} {x:DataW H × List MemPlace},ty.fits P t=true->DataW.trod enc P W 0 sp hd fuel t cs=some x->∃l,ty.Of l/\Told W l cs
 | .bool,fuel,t,cs,x,hf,h=>by
  unfold Ty.fits at hf
  split at hf
  ·rename_i r
   obtain ⟨b,rfl,_⟩:=DataW.trod_bool r h
   exact ⟨[.bool b],⟨b,rfl⟩,wM (.bool b)⟩
  ·cases hf
 | .int k,fuel,t,cs,x,hf,h=>by
  unfold Ty.fits at hf
  split at hf
  ·rename_i k' r
   obtain rfl:=of_decide_eq_true hf
   obtain ⟨n,rfl,_,hw⟩:=DataW.trod_int r h
   exact ⟨[.int k' n],⟨n,rfl,hw⟩,wM (.int k' n)⟩
  ·cases hf
 | .str,fuel,t,cs,x,hf,h=>by
  unfold Ty.fits at hf
  split at hf
  ·rename_i r
   obtain ⟨s,rfl,_,hs⟩:=DataW.trod_string r h
   rw [maxLen_eq] at hs
   exact ⟨[.str s.data.toList],⟨_,rfl,by rw [Array.length_toList];exact hs⟩,wM (z0w _ s)⟩
  ·cases hf
 | .slice e,fuel,t,cs,x,hf,h=>by
  unfold Ty.fits at hf
  split at hf
  ·rename_i u r
   simp only [Bool.and_eq_true,decide_eq_true_eq] at hf
   obtain ⟨⟨Z,U⟩,J⟩:=hf
   rcases Deep.open_slice r h with ⟨rfl,_⟩ | ⟨a,len,cap,m,n,D,Pl,rfl,_,S,hm,X,_,T⟩
   ·exact ⟨[.isl []],⟨[],rfl,by simp,by simp⟩,wM (.isl [] none 0 1 (fun _ _=>undef) (Nat.le_refl _) (fun i d hi=>by simp at hi) (fun i d hi=>by simp at hi) (.inl rfl) (fun i d hi=>by simp at hi))⟩
   ·have ag:len<=m:=by rw [X];split<;>omega
    rw [maxLen_eq] at hm
    have Q:∀i,i<len->∃q:List IV × List Value,e.Of q.1/\Told W q.1 q.2/\∀j,j<e.size->W.cell? (a.add (i*e.size+j))=q.2[j]?:=fun i hi=>by
     obtain ⟨ae,Y,A⟩:=T i od
     obtain ⟨_,w,hc⟩:=World.cells?_some Y
     obtain ⟨l,B,h4⟩:=VI e Z A
     refine ⟨(l,ae),B,h4,fun j M=>?_⟩
     rw [U] at hc
     have:=hc j M
     rw [Addr.add_add] at this
     exact this
    obtain ⟨q,G⟩:=Deep.choose_lt Q
    refine ⟨[.isl ((List.range len).map fun i=>(q i).1)],⟨_,rfl,by simp;omega,fun d O=>?_⟩,wM ?_⟩
    ·obtain ⟨i,hi,rfl⟩:=List.mem_map.1 O
     exact (G i (List.mem_range.1 hi)).1
    ·refine z81 (sz:=e.size) (vals:=fun i j=>(q i).2.getD j undef) (by simp) S J (fun d O=>?_) (fun d O=>?_) (fun i j hi M=>?_) (fun i d hi j x M=>?_)
     ·obtain ⟨i,hi,rfl⟩:=List.mem_map.1 O
      exact (Ty.closed e _ (G i (List.mem_range.1 hi)).1).2
     ·obtain ⟨i,hi,rfl⟩:=List.mem_map.1 O
      exact (Ty.closed e _ (G i (List.mem_range.1 hi)).1).1
     ·obtain ⟨Y,A,B⟩:=G i hi
      have h4:(q i).2.length=e.size:=by rw [<-A.1];exact (Ty.closed e _ Y).2
      rw [B j M,List.getD_eq_getElem?_getD,List.getElem?_eq_getElem od]
      rfl
     ·simp only [List.getElem?_map,oms] at hi
      obtain ⟨k,hk,rfl⟩:=hi
      have I:i<len:=by have:=zk hk;simpa using this
      rw [List.getElem?_range I] at hk
      cases hk
      exact (G i I).2.1.2 j x M
  ·cases hf
 | .struct fs,fuel,t,cs,x,hf,h=>by
  unfold Ty.fits at hf
  split at hf
  ·rename_i us r
   simp only [Bool.and_eq_true,decide_eq_true_eq] at hf
   obtain ⟨V,hc⟩:=hf
   obtain ⟨xs,n,_,_,S,w,T⟩:=DataW.trod_struct r h
   rw [hc] at S
   have A:=V5 fs (us:=us.toList) (o:=0) (cs:=cs) (n:=n) (by rw [S];omega) V (fun i f hi=>by
    have B:=T i f (by simpa using hi)
    have af:i<xs.length:=by rw [w];have:=zk hi;simpa using this
    rw [List.getElem?_eq_getElem af] at B
    exact ⟨_,B⟩)
   rw [List.drop_zero] at A
   simp only [Ty.Of]
   exact A
  ·cases hf
theorem V5:∀(fs:List Ty) {us:List Field} {o n:Nat} {cs:List Value},o+Ty.sizes fs=cs.length->Ty.fitsAll P fs us o=true->
  (∀(i:Nat) (f:Field),us[i]?=some f->∃y,DataW.trod enc P W 0 sp hd n f.type ((cs.drop f.offset).take (P.cellsOf f.type))=some y)->∃l,Ty.OfAll fs l/\Told W l (cs.drop o)
 | [],[],o,n,cs,hl,hf,h=>⟨[],rfl,by rw [List.drop_of_length_le (by simp only [Ty.sizes] at hl;omega)];exact ⟨rfl,fun j x d=>by simp at d⟩⟩
 | [],_::_,o,n,cs,hl,hf,h=>by simp [Ty.fitsAll] at hf
 | _::_,[],o,n,cs,hl,hf,h=>by simp [Ty.fitsAll] at hf
 | f::fs,u::us,o,n,cs,hl,hf,h=>by
  simp only [Ty.fitsAll,Bool.and_eq_true,decide_eq_true_eq] at hf
  obtain ⟨⟨⟨m,B⟩,hc⟩,q⟩:=hf
  obtain ⟨y,r⟩:=h 0 u rfl
  rw [B,hc] at r
  obtain ⟨a,ha,G,w⟩:=VI f m r
  simp only [Ty.sizes] at hl
  obtain ⟨b,D,A,s⟩:=V5 fs (us:=us) (o:=o+f.size) (n:=n) (cs:=cs) od q (fun i g hi=>h (i+1) g (by simpa using hi))
  refine ⟨a++b,⟨a,b,rfl,ha,D⟩,?_,fun j x d=>?_⟩
  ·rw [lla,G,A];simp only [List.length_take,List.length_drop];omega
  ·have I:a.length=f.size:=(Ty.closed f a ha).2
   by_cases hj':j<a.length
   ·rw [List.getElem?_append_left hj'] at d
    have:=w j x d
    rw [List.getD_eq_getElem?_getD,List.getElem?_take,if_pos od] at this
    rw [List.getD_eq_getElem?_getD];exact this
   ·rw [List.getElem?_append_right od] at d
    have:=s _ x d
    rw [List.getD_eq_getElem?_getD,List.getElem?_drop] at this
    rw [List.getD_eq_getElem?_getD,List.getElem?_drop]
    have e:o+f.size+(j - a.length)=o+j:=by omega
    rw [e] at this;exact this
end
theorem jh {e:Ty} {t u:TypeId} {r:Reach} {q:Nat} {v:Value} {d:DataW H} {ps:List MemPlace} (w:(Ty.slice e).fits P t=true) (B:P.underlying t=some (.slice u)) (b:Value.okWide P W r q t v) (h:DataW.Trod enc P W 0 sp hd t v d ps) :
  ∃rows:List (List IV),VR (z9c W) (.isl rows) v/\rows.length<=9223372036854775807/\∀j∈rows,e.Of j:=by
 obtain ⟨a,len,cap,rfl⟩:=okWide_slice B b
 obtain ⟨fuel,h⟩:=h
 obtain ⟨m,⟨rows,rfl,A,s⟩,D,l⟩:=VI (.slice e) w h
 exact ⟨rows,by simpa [Value.cells] using l 0 (.isl rows) rfl,A,s⟩
end
end Go.X
end
section
namespace Go.X
open Go
section
variable {E:Env} {ρ:Rho} {L:List Blk} {K:IV->List Blk->Prop}
@[go_sem] theorem z8c (b:List UInt8):(Zq b).length=b.length:=by simp [Zq]
@[go_sem high] theorem zc9 {ty:Nat} {z:List IV} {KV:IV->List Blk->Prop}:xop E (.ex (.allocT ty z) []) cev L KV=KV (.ptr L.length 0 0) (L++[.tcells ty z.length [z]]):=by
 show KV _ (zy _ _ _)=_
 rw [zB]
@[go_sem high] theorem ze1 {ty:Nat} {s:List UInt8} {KV:IV->List Blk->Prop}:xop E (.ex (.strB ty) [.c (.str s)]) cev L KV=(s.length<=9223372036854775807/\KV (.sl L.length 0 s.length s.length) (L++[.tcells ty 1 (Zq s)])):=by
 show (_/\KV _ (zy _ _ _))=_
 rw [zB]
end
def Keep (F:Nat->Prop) (L L':List Blk):Prop:=L.length<=L'.length/\∀t,t<L.length->¬F t->L'[t]?=L[t]?
def Grown (F F':Nat->Prop) (L L':List Blk):Prop:=∀t,F' t->F t\/(L.length<=t/\t<L'.length)
def none':Nat->Prop:=fun _=>False
theorem Keep.refl {F:Nat->Prop} {L:List Blk}:Keep F L L:=⟨Nat.le_refl _,fun _ _ _=>rfl⟩
theorem Keep.get {F:Nat->Prop} {L L':List Blk} {t:Nat} {k:Blk} (h:Keep F L L') (b:L[t]?=some k) (d:¬F t):L'[t]?=some k:=by rw [h.2 t (zk b) d];exact b
theorem Keep.mono {F F':Nat->Prop} {L L':List Blk} (h:Keep F L L') (j:∀t,t<L.length->F t->F' t):Keep F' L L':=⟨h.1,fun t b d=>h.2 t b fun h=>d (j t b h)⟩
theorem Keep.trans {F F':Nat->Prop} {L L1 L2:List Blk} (h:Keep F L L1) (d:Keep F' L1 L2) (l:∀t,t<L.length->F' t->F t):Keep F L L2:=
 ⟨Nat.le_trans h.1 d.1,fun t b j=>(d.2 t (Nat.lt_of_lt_of_le b h.1) fun h=>j (l t b h)).trans (h.2 t b j)⟩
theorem Keep.set {F:Nat->Prop} {L L':List Blk} {s:Nat} {k:Blk} (h:Keep F L L') (hs:s<L.length->F s):Keep F L (L'.set s k):=
 ⟨by rw [lls];exact h.1,fun t d b=>by
  by_cases hst:s=t
  ·subst hst;exact absurd (hs d) b
  ·rw [List.getElem?_set_ne hst];exact h.2 t d b⟩
theorem Keep.app {F:Nat->Prop} {L L':List Blk} {k:Blk} (h:Keep F L L'):Keep F L (L'++[k]):=
 ⟨by rw [lla];exact Nat.le_trans h.1 (Nat.le_add_right _ _),fun t b d=>by rw [List.getElem?_append_left (Nat.lt_of_lt_of_le b h.1)];exact h.2 t b d⟩
theorem Grown.refl {F:Nat->Prop} {L L':List Blk}:Grown F F L L':=fun _ h=>.inl h
theorem Grown.trans {F F1 F2:Nat->Prop} {L L1 L2:List Blk} (h:Grown F F1 L L1) (l:Grown F1 F2 L1 L2) (r:L.length<=L1.length) (q:L1.length<=L2.length):Grown F F2 L L2:=fun t m=>by
 rcases l t m with d | ⟨d,j⟩
 ·rcases h t d with b | ⟨b,s⟩
  ·exact .inl b
  ·exact .inr ⟨b,od⟩
 ·exact .inr ⟨od,j⟩
theorem z2Z {L:List Blk} {s:Nat} {k b:Blk} (h:L[s]?=some k):(L++[b])[s]?=some k:=yR h
@[go_sem] theorem zfY {M:List Blk} {n:Nat} {x:Blk} (h:M.length=n):(M++[x])[n]?=some x:=by subst h;simp
@[go_sem] theorem zm4 {M:List Blk} {s:Nat} {b:Blk} (h:s<M.length):(M++[b])[s]?=M[s]?:=List.getElem?_append_left h
@[go_sem] theorem zlX {M:List Blk} {s t:Nat} {b:Blk} (h:¬s=t):(M.set s b)[t]?=M[t]?:=List.getElem?_set_ne h
@[go_sem] theorem zgy {M:List Blk} {s:Nat} {b:Blk} (h:s<M.length):(M.set s b)[s]?=some b:=List.getElem?_set_self h
@[go_sem] theorem zfi {M:List Blk} {s:Nat} {b:Blk} (h:s<M.length):(s<(M++[b]).length)=True:=eq_true (by rw [lla];exact Nat.lt_of_lt_of_le h (Nat.le_add_right _ _))
@[go_sem] theorem zdt {M:List Blk} {n:Nat} {b:Blk} (h:M.length=n):(n<(M++[b]).length)=True:=eq_true (by subst h;simp)
@[go_sem] theorem zjG {M:List Blk} {s:Nat} (h:s<M.length):(M.length=s)=False:=fO
@[go_sem] theorem ziy {M:List Blk} {s:Nat} (h:s<M.length):(s=M.length)=False:=fO
attribute [go_sem] lls
theorem YA {L:List Blk} {s:Nat} {k:Blk} (h:L[s]?=some k):(s<L.length)=True:=eq_true (zk h)
section
variable {E:Env} {L:List Blk} {K:IV->List Blk->Prop}
theorem xtl {f : FuncId} {fn : Func} {n : Nat} {rs : List jQ} {c : XC} {args : List IV} {R Q : IV → List Blk → Prop} (l : E.P.funcs[f]? = some fn) (j : Zz E.P fn = some ⟨n, rs, c⟩) (d : fn.name ≠ "runtime.NumGoroutine")
  (b:args.length≤fn.ntmps) (h:Za (E.withPan Q) c (entry args) L (z3X fun ρ L'=>zY (E.withPan Q) rs ρ L' fun r=>R r L')):XTP E f args L R Q:=by
 refine VS l j d b (zn _ (fun e ρ L h=>?_) h)
 cases e with
 | normal=>exact ⟨Or.inr rfl,h⟩
 | ret=>exact ⟨Or.inl rfl,h⟩
 | exit=>exact h.elim
 | goto=>exact h.elim
theorem zaZ {f : FuncId} {fn : Func} {n : Nat} {rs : List jQ} {c : XC} {args : List IV} {R : IV → List Blk → Prop} (l : E.P.funcs[f]? = some fn) (j : Zz E.P fn = some ⟨n, rs, c⟩) (d : fn.name ≠ "runtime.NumGoroutine")
  (b:args.length≤fn.ntmps) (h:Za E.noPan c (entry args) L (z3X fun ρ L'=>zY E.noPan rs ρ L' fun r=>R r L')):XT E f args L R:=z2H (xtl (Q:=fun _ _=>False) l j d b h)
theorem YH {f:FuncId} {args:List IV} {R:IV->List Blk->Prop} (h:XT E f args L R) (b:∀r L',R r L'->K r L'):WU E f args L K:=.inr (.inr (.inr (.inl (zbm (h.mono b)))))
theorem VA {f:FuncId} {args:List IV} {R Q:IV->List Blk->Prop} (h:XTP E f args L R Q) (b:∀r L',R r L'->K r L') (d:∀r L',Q r L'->E.pan r L'):WU E f args L K:=.inr (.inr (.inr (.inl (h.mono b d))))
theorem z9K {f:FuncId} {args:List IV} (h:XTX E f args L K):WU E f args L K:=.inr (.inr (.inr (.inr h)))
@[go_sem] theorem zgr {g sz:Nat} {d x:IV}:xex E (.copy sz) [d,x] g L K=JH sz d x L K:=nr rfl
@[go_sem] theorem ziG {g sz s off len cap:Nat} {k1 k2 k3:IntKind} {l h m:Int}:xex E (.sl3 sz) [.sl s off len cap,.int k1 l,.int k2 h,.int k3 m] g L K=(vJ L s=some sz/\0<=l/\l<=h/\h<=m/\m<=cap/\K (.sl s (off+l.toNat) (h - l).toNat (m - l).toNat) L):=nr rfl
theorem z6F {ty sz t off len cap:Nat} {x:IV} {rs rows:List (List IV)} (m:rowsOf L x=some rs) (b:L[t]?=some (.tcells ty sz rows)) (q:yc sz rs) (r:rs.length<=len) (l:off+rs.length<=rows.length)
  (d:K (.int .i64 rs.length) (L.set t (.tcells ty sz (splice rows off rs)))):JH sz (.sl t off len cap) x L K:=by
 unfold JH
 simp only [m,b]
 refine ⟨r,q,fun u=>?_,fun _=>⟨trivial,l,d⟩⟩
 subst u
 have s:splice rows off []=rows:=by simp [splice]
 have j:L.set t (.tcells ty sz rows)=L:=by
  apply List.ext_getElem? 
  intro i
  by_cases h:t=i
  ·subst h;rw [List.getElem?_set_self (zk b),b]
  ·rw [List.getElem?_set_ne h]
 rw [s,j] at d
 exact d
@[go_sem] theorem zdF {sz t off len cap:Nat}:JH sz (.sl t off len cap) .nsl L K=K (.int .i64 0) L:=by
 unfold JH
 simp [rowsOf,yc]
@[go_sem] theorem zhd {m s off len cap:Nat} {KV:IV->List Blk->Prop}:xop E (.slice m (.c (.sl s off len cap)) none none) cev L KV=(vJ L s=some m/\len<=cap/\KV (.sl s off len cap) L):=by simp [xop,zV,bnd]
@[go_sem] theorem zgz {m s off len cap:Nat} {k:IntKind} {l:Int} {KV:IV->List Blk->Prop}:xop E (.slice m (.c (.sl s off len cap)) (some (.c (.int k l))) none) cev L KV =
  (vJ L s=some m/\0<=l/\l.toNat<=len/\len<=cap/\KV (.sl s (off+l.toNat) (len - l.toNat) (cap - l.toNat)) L):=by simp [xop,zV,bnd]
@[go_sem] theorem zg7 {m s off len cap:Nat} {k:IntKind} {h:Int} {KV:IV->List Blk->Prop}:xop E (.slice m (.c (.sl s off len cap)) none (some (.c (.int k h)))) cev L KV =
  (vJ L s=some m/\0<=h/\h.toNat<=cap/\KV (.sl s off h.toNat cap) L):=by simp [xop,zV,bnd]
@[go_sem] theorem zgL {m s off len cap:Nat} {k b:IntKind} {l h:Int} {KV:IV->List Blk->Prop}:xop E (.slice m (.c (.sl s off len cap)) (some (.c (.int k l))) (some (.c (.int b h)))) cev L KV =
  (vJ L s=some m/\0<=l/\0<=h/\l.toNat<=h.toNat/\h.toNat<=cap/\KV (.sl s (off+l.toNat) (h.toNat - l.toNat) (cap - l.toNat)) L):=by
 simp only [xop,zV,bnd,Option.map_some]
@[go_sem] theorem zkA {z b:IV} {KV:IV->List Blk->Prop} (d:cellsOf b=[b]):xop E (.bslice 1 [z] 1 [(0,.c b)]) cev L KV=KV (.sl L.length 0 1 1) (L++[.cells 1 [[b]]]):=by simp [xop,zO,zV,d,List.replicate]
@[go_sem] theorem zi1 {z b d:IV} {KV:IV->List Blk->Prop} (h:cellsOf b=[b]) (j:cellsOf d=[d]):xop E (.bslice 1 [z] 2 [(0,.c b),(1,.c d)]) cev L KV=KV (.sl L.length 0 2 2) (L++[.cells 1 [[b],[d]]]):=by simp [xop,zO,zV,h,j,List.replicate]
@[go_sem] theorem zjy {z d h b:IV} {KV:IV->List Blk->Prop} (j:cellsOf d=[d]) (m:cellsOf h=[h]) (l:cellsOf b=[b]):xop E (.bslice 1 [z] 3 [(0,.c d),(1,.c h),(2,.c b)]) cev L KV=KV (.sl L.length 0 3 3) (L++[.cells 1 [[d],[h],[b]]]):=by simp [xop,zO,zV,j,m,l,List.replicate]
@[go_sem] theorem zkU {z d h b v3:IV} {KV:IV->List Blk->Prop} (j:cellsOf d=[d]) (q:cellsOf h=[h]) (m:cellsOf b=[b]) (l:cellsOf v3=[v3]):xop E (.bslice 1 [z] 4 [(0,.c d),(1,.c h),(2,.c b),(3,.c v3)]) cev L KV=KV (.sl L.length 0 4 4) (L++[.cells 1 [[d],[h],[b],[v3]]]):=by simp [xop,zO,zV,j,q,m,l,List.replicate]
@[go_sem] theorem zhl {ρ:Rho} {K:IV->Prop}:zY E [] ρ L K=K (.tup []):=nr rfl
@[go_sem] theorem zj0 {ρ:Rho} {t:Nat} {K:IV->Prop}:zY E [.tmp t] ρ L K=K (ρ t):=nr rfl
@[go_sem] theorem zhg {ρ:Rho} {t t':Nat} {K:IV->Prop}:zY E [.tmp t,.tmp t'] ρ L K=K (.tup [ρ t,ρ t']):=nr rfl
@[go_sem] theorem zgY {ρ:Rho} {t t' b:Nat} {K:IV->Prop}:zY E [.tmp t,.tmp t',.tmp b] ρ L K=K (.tup [ρ t,ρ t',ρ b]):=nr rfl
theorem z7W {rs:List jQ} {ρ:Rho} {K:IV->Prop}:zY E rs ρ L K=yI E ρ L rs fun vs=>K (ZV vs):=nr rfl
theorem z9g {ρ:Rho} {t:Nat} {rs:List jQ} {K:List IV->Prop}:yI E ρ L (.tmp t::rs) K=yI E ρ L rs fun vs=>K (ρ t::vs):=nr rfl
theorem z2B {ρ:Rho} {K:List IV->Prop}:yI E ρ L [] K=K []:=nr rfl
theorem zaw {ρ:Rho} {t:Nat} {rs:List jQ} {K:List IV->Prop}:yI E ρ L (.cell1 t::rs) K=xop E (.load1 (.c (ρ t))) cev L fun r _=>yI E ρ L rs fun vs=>K (r::vs):=nr rfl
theorem z7x {ρ:Rho} {t n:Nat} {rs:List jQ} {K:List IV->Prop}:yI E ρ L (.cellN t n::rs) K=xop E (.loadN n (.c (ρ t))) cev L fun r _=>yI E ρ L rs fun vs=>K (r::vs):=nr rfl
@[go_sem] theorem zgo {g:Nat} {f:FloatKind} {k:IntKind} {n:Int}:xex E (.itof f) [.int k n] g L K=K (.raw (.float f (floatOfInt f n))) L:=nr rfl
@[go_sem] theorem zll {g:Nat} {k:FloatKind} {a b:Nat}:xex E .cpx [.raw (.float k a),.raw (.float k b)] g L K=K (.raw (.complex k a b)) L:=by simp [xex]
@[go_sem] theorem zfF {g:Nat} {vs:List IV}:xex E .mmake vs g L K=K (.mp g) (zy L g (.map [] 0)):=nr rfl
@[go_sem] theorem zeq {g s:Nat} {st ok:Bool} {z k:IV}:xex E (.mlook st z ok) [.mp s,k] g L K=V4 st z ok (.mp s) k L K:=nr rfl
@[go_sem] theorem zgK {g s:Nat} {st:Bool} {k v:IV}:xex E (.mset st) [.mp s,k,v] g L K=z3H st (.mp s) k v L K:=nr rfl
def z6U (b:Option Blk) (K:List (IV × IV × Nat)->Nat->Prop):Prop:=
 match b with
 | some (.map es c)=>K es c
 | _=>False
@[congr] theorem zaU {b b':Option Blk} {K:List (IV × IV × Nat)->Nat->Prop} (h:same b=b'):z6U b K=z6U b' K:=by rw [<-h];rfl
@[go_sem] theorem zcn {b:List (IV × IV × Nat)} {c:Nat} {K:List (IV × IV × Nat)->Nat->Prop}:z6U (some (.map b c)) K=K b c:=nr rfl
def z16 (r:Option (Option Nat)) (K1:Nat->Prop) (K2:Prop):Prop:=
 match r with
 | some (some i)=>K1 i
 | some none=>K2
 | none=>False
@[congr] theorem zau {r r':Option (Option Nat)} {K1:Nat->Prop} {K2:Prop} (h:same r=r'):z16 r K1 K2=z16 r' K1 K2:=by rw [<-h];rfl
@[go_sem] theorem zdG {i:Nat} {K1:Nat->Prop} {K2:Prop}:z16 (some (some i)) K1 K2=K1 i:=nr rfl
@[go_sem] theorem zd6 {K1:Nat->Prop} {K2:Prop}:z16 (some none) K1 K2=K2:=nr rfl
@[go_sem] theorem zeR {k:IntKind} {n:Int}:isKey false (.int k n)=true:=nr rfl
@[go_sem] theorem zfm {s:List UInt8}:isKey true (.str s)=true:=nr rfl
@[go_sem] theorem zim {k:IntKind} {a b:Int}:kEq (.int k a) (.int k b)=some (decide (a=b)):=by simp [kEq]
@[go_sem] theorem zlE {a b:List UInt8}:kEq (.str a) (.str b)=some (decide (a=b)):=nr rfl
@[go_sem] theorem zg6 {k:IV} {i:Nat}:Yc k [] i=some none:=nr rfl
@[go_sem] theorem zge {k:IV} {e:IV × IV × Nat} {r:List (IV × IV × Nat)} {i:Nat} (h:kEq k e.1=some true):Yc k (e::r) i=some (some i):=by simp [Yc,h]
@[go_sem] theorem zfD {k:IV} {e:IV × IV × Nat} {r:List (IV × IV × Nat)} {i:Nat} (h:kEq k e.1=some false):Yc k (e::r) i=Yc k r (i+1):=by simp [Yc,h]
theorem z4N {st:Bool} {s:Nat} {k:IV} {F:Nat->List (IV × IV × Nat)->Nat->Option Nat->Prop}:Y9 st (.mp s) k L F=(isKey st k=true/\z6U L[s]? fun b c=>z16 (Yc k b 0) (fun i=>F s b c (some i)) (F s b c none)):=by
 simp only [Y9,eq_iff_iff]
 refine and_congr_right fun _=>?_
 cases hL:L[s]? with
 | none=>exact Iff.rfl
 | some q=>
  cases q with
  | map b c=>
   show (match Yc k b 0 with | some r=>F s b c r | none=>False)↔z16 (Yc k b 0) _ _
   cases hm:Yc k b 0 with
   | none=>exact Iff.rfl
   | some r=>cases r<;>exact Iff.rfl
  | _=>exact Iff.rfl
@[go_sem] theorem zeO {st ok:Bool} {s:Nat} {z k:IV}:V4 st z ok (.mp s) k L K=(isKey st k=true/\z6U L[s]? fun b _=>z16 (Yc k b 0) (fun i=>K (Yy ok (b.getD i default).2.1 true) L) (K (Yy ok z false) L)):=z4N
@[go_sem] theorem zg5 {st:Bool} {s:Nat} {k v:IV}:z3H st (.mp s) k v L K=(isKey st k=true/\z6U L[s]? fun b c=>z16 (Yc k b 0) (fun i=>K .und (L.set s (.map (b.set i (k,v,(b.getD i default).2.2)) c))) (K .und (L.set s (.map (b++[(k,v,c)]) (c+1))))):=z4N
@[go_sem] theorem zb4 {m:Nat}:cellsOf (.mp m)=[.mp m]:=nr rfl
def band (k:IntKind) (a b:Int):Int:=k.wrap (BitVec.ofInt k.bits a&&&BitVec.ofInt k.bits b).toNat
def bor (k:IntKind) (a b:Int):Int:=k.wrap (BitVec.ofInt k.bits a|||BitVec.ofInt k.bits b).toNat
def z5S (k:IntKind) (a b:Int):Int:=k.wrap (BitVec.ofInt k.bits a^^^BitVec.ofInt k.bits b).toNat
def zdh (k:IntKind) (n:Int):Int:=k.wrap (BitVec.ofInt k.bits (if k.signed then -1 else k.max)^^^BitVec.ofInt k.bits n).toNat
def zcW (k:IntKind) (a b:Int):Int:=a.fdiv (2^min b.toNat k.bits)
def zh8 (k:IntKind) (a b:Int):Int:=k.wrap (a*2^min b.toNat k.bits)
@[go_sem] theorem zfS {k:IntKind} {a b:Int} {KV:IV->List Blk->Prop}:xop E (.bin .and (.c (.int k a)) (.c (.int k b))) cev L KV=KV (.int k (band k a b)) L:=by simp only [xop,vU,zV,true_and,band]
@[go_sem] theorem zld {k:IntKind} {a b:Int} {KV:IV->List Blk->Prop}:xop E (.bin .or (.c (.int k a)) (.c (.int k b))) cev L KV=KV (.int k (bor k a b)) L:=by simp only [xop,vU,zV,true_and,bor]
@[go_sem] theorem zg8 {k:IntKind} {a b:Int} {KV:IV->List Blk->Prop}:xop E (.bin .xor (.c (.int k a)) (.c (.int k b))) cev L KV=KV (.int k (z5S k a b)) L:=by simp only [xop,vU,zV,true_and,z5S]
@[go_sem] theorem zgE {k d:IntKind} {a b:Int} {KV:IV->List Blk->Prop}:xop E (.bin .shr (.c (.int k a)) (.c (.int d b))) cev L KV=(0<=b/\KV (.int k (zcW k a b)) L):=nr rfl
@[go_sem] theorem zfO {k d:IntKind} {a b:Int} {KV:IV->List Blk->Prop}:xop E (.bin .shl (.c (.int k a)) (.c (.int d b))) cev L KV=(0<=b/\KV (.int k (zh8 k a b)) L):=nr rfl
@[go_sem] theorem zgv {k:IntKind} {n:Int} {KV:IV->List Blk->Prop}:xop E (.un .xor (.c (.int k n))) cev L KV=KV (.int k (zdh k n)) L:=nr rfl
theorem zbi {n:Int} (d : -9223372036854775808<=n) (b:n<=9223372036854775807):IntKind.i64.wrap n=n:=by unfold IntKind.wrap;simp [IntKind.bits,IntKind.signed]<;>omega
theorem zcF {n:Int} (d:0<=n) (b:n<=4294967295):IntKind.u32.wrap n=n:=by unfold IntKind.wrap;simp [IntKind.bits,IntKind.signed]<;>omega
def zdZ (b:Option Blk) (K:Nat->Prop):Prop:=
 match b with
 | some (.mit s)=>K s
 | _=>False
@[congr] theorem zb3 {b b':Option Blk} {K:Nat->Prop} (h:same b=b'):zdZ b K=zdZ b' K:=by rw [<-h];rfl
@[go_sem] theorem zcl {s:Nat} {K:Nat->Prop}:zdZ (some (.mit s)) K=K s:=nr rfl
def z9A (es:List (IV × IV × Nat)) (K:Prop):Prop:=
 match es with
 | []=>K
 | _=>False
@[go_sem] theorem zck {K:Prop}:z9A [] K=K:=nr rfl
@[go_sem] theorem zgj {g s:Nat}:xex E .mrng [.mp s] g L K=z6U L[s]? fun _ _=>K (.ptr g 0 0) (zy L g (.mit s)):=by
 simp only [xex]
 cases hL:L[s]? with
 | none=>rfl
 | some q=>cases q<;>rfl
@[go_sem] theorem zgI {g t:Nat}:xex E .mnxt [.ptr t 0 0] g L K=zdZ L[t]? fun s=>z6U L[s]? fun b _=>z9A b (K (.tup [.bool false]) L):=by
 simp only [xex]
 cases hL:L[t]? with
 | none=>rfl
 | some q=>
  cases q with
  | mit s=>
   show (match L[s]? with | some (.map [] _)=>K (.tup [.bool false]) L | _=>False)=z6U L[s]? fun b _=>z9A b (K (.tup [.bool false]) L)
   cases hL':L[s]? with
   | none=>rfl
   | some q=>
    cases q with
    | map b c=>cases b<;>rfl
    | _=>rfl
  | _=>rfl
@[go_sem] theorem zf4 {M:List Blk} {n:Nat} {k:Blk} (h:M.length=n):zy M n k=M++[k]:=by subst h;exact zB _ _
@[go_sem] theorem zeo {r:IV} {b:Bool}:Yy true r b=.tup [r,.bool b]:=nr rfl
@[go_sem] theorem zeh {r:IV} {b:Bool}:Yy false r b=r:=nr rfl
@[go_sem] theorem zdq {st ok:Bool} {z:IV} {vs:List Opd} {L L':List Blk}:yP (XO.ex (.mlook st z ok) vs) L L'=[]:=nr rfl
@[go_sem] theorem zcK {st ok:Bool} {z:IV} {m:Nat} {k:IntKind} {n:Int} {L L':List Blk}:yK (XO.ex (.mlook st z ok) [.c (.mp m),.c (.int k n)]) L L'=[m]:=nr rfl
@[go_sem] theorem zc6 {st ok:Bool} {z:IV} {m:Nat} {t:List UInt8} {L L':List Blk}:yK (XO.ex (.mlook st z ok) [.c (.mp m),.c (.str t)]) L L'=[m]:=nr rfl
@[go_sem] theorem zd8 {ty b:Nat} {x:Opd} {L L':List Blk}:yP (XO.ex (.appT ty b) [.c .nsl,x]) L L'=if L'.length=L.length then [] else [L.length]:=nr rfl
@[go_sem] theorem zdX {ty b t o l c:Nat} {x:Opd} {L L':List Blk}:yP (XO.ex (.appT ty b) [.c (.sl t o l c),x]) L L'=t::if L'.length=L.length then [] else [L.length]:=nr rfl
theorem jF {x:IV} {n:Nat} (h:lenOf x=some n):xop E (.len (.c x)) cev L K=K (.int .i64 n) L:=by simp only [xop,zV,h]
theorem z3I {ty bytes g t n:Nat} {x:IV} {rs rows:List (List IV)} (hg:L.length=g) (l:L[t]?=some (.tcells ty 1 rows)) (q:rows.length=n) (d:rowsOf L x=some rs) (m:yc 1 rs) (b:rs≠[]) (j:(n+rs.length)*bytes<=70368744177664)
  (r:K (.sl g 0 (n+rs.length) (n+rs.length)) (L.set t .dead++[.tcells ty 1 (rows++rs)])):YG ty bytes (.sl t 0 n n) x g L K:=by
 subst hg;subst q
 unfold YG
 rw [d]
 refine ⟨m,rfl,rfl,?_⟩
 simp only [l]
 refine ⟨trivial,trivial,trivial,fun h=>absurd h b,fun _=>⟨j,?_⟩⟩
 have s:zy (L.set t Blk.dead) L.length (.tcells ty 1 (rows++rs))=L.set t .dead++[.tcells ty 1 (rows++rs)]:=by unfold zy;rw [if_pos (by rw [lls])]
 rw [s];exact r
theorem z6x {ty bytes g t n:Nat} {x:IV} {rs rows:List (List IV)} (hg:L.length=g) (b:L[t]?=some (.cells 1 rows)\/L[t]?=some (.tcells ty 1 rows)) (q:rows.length=n) (h:rowsOf L x=some rs) (j:yc 1 rs) (d:rs≠[]) (l:(n+rs.length)*bytes<=70368744177664)
  (r:∀k:Blk,k=.cells 1 (rows++rs)\/k=.tcells ty 1 (rows++rs)->K (.sl g 0 (n+rs.length) (n+rs.length)) (L.set t .dead++[k])):YG ty bytes (.sl t 0 n n) x g L K:=by
 rcases b with b | b
 ·subst hg;subst q
  have m:0<rs.length:=List.length_pos_iff.2 d
  unfold YG
  rw [h]
  refine ⟨j,rfl,rfl,?_⟩
  simp only [b]
  unfold Zl
  rw [h]
  refine ⟨j,?_⟩
  simp only [b]
  refine ⟨trivial,od,?_⟩
  rw [if_neg od]
  refine ⟨l,?_⟩
  have s:zy (L.set t Blk.dead) L.length (.cells 1 ((rows.drop 0).take rows.length++rs))=L.set t .dead++[.cells 1 (rows++rs)]:=by unfold zy;rw [if_pos (by rw [lls])];simp
  rw [s]
  exact r _ (.inl rfl)
 ·exact z3I hg b q h j d l (r _ (.inr rfl))
end
attribute [go_sem] Nat.reduceEqDiff reduceIte Nat.reduceAdd Nat.reduceLT Nat.reduceLeDiff Nat.reduceSub Nat.reduceMul Int.reduceLT Int.reduceLE Int.reduceToNat Int.reduceSub Int.reduceAdd Int.reduceNeg Int.reduceEq
abbrev oM (d s : Nat) : zg := ⟨some d, .mov (.t s), none⟩
abbrev oL (d s : Nat) : zg := ⟨some d, .load1 (.t s), none⟩
abbrev oN (d s : Nat) : zg := ⟨some d, .nilck (.t s), none⟩
abbrev oF (d k s : Nat) : zg := ⟨some d, .fldA k (.t s), none⟩
abbrev oO (d : Nat) (o : XO) : zg := ⟨some d, o, none⟩
abbrev oU (o : XO) : zg := ⟨none, o, none⟩
abbrev oG (d g : Nat) (b : Bool) (o : XO) : zg := ⟨some d, o, some (g, b)⟩
abbrev oX (d i s : Nat) : zg := ⟨some d, .ext (.t s) i, none⟩
theorem xtA {E : Env} {L : List Blk} {f : FuncId} {P : Program} {fn : Func} {rs : List jQ} {c : XC} {args : List IV} {R : IV → List Blk → Prop} (hP : E.P = P) (hf : P.funcs[f]? = some fn) (hF : Zz P fn = some ⟨fn.ntmps, rs, c⟩) (hnm : fn.name ≠ "runtime.NumGoroutine") (ha : args.length ≤ fn.ntmps)
    (h : ∀ ρ : Rho, (∀ (i : Nat) (v : IV), args[i]? = some v → ρ i = v) → Za E.noPan c ρ L (z3X fun ρ L' => zY E.noPan rs ρ L' fun r => R r L')) : XT E f args L R :=
  zaZ (by rw [hP]; exact hf) (by rw [hP]; exact hF) hnm ha (h _ fun i v hv => by simp [entry, List.getD_eq_getElem?_getD, hv])
abbrev oi (n:Int):Opd:=.c (.int .i64 n)
abbrev oz:Opd:=.c (.raw (.pointer none))
abbrev oC (d f:Nat) (a:List Opd):zg:=⟨some d,.call (.f f) a,none⟩
abbrev oQ (d f:Nat) (a:List Opd):zg:=⟨some d,.pcall (.f f) a,none⟩
abbrev oI (d:Nat) (n:Int):zg:=⟨some d,.mov (.c (.int .i64 n)),none⟩
abbrev oV (d:Nat) (v:IV):zg:=⟨some d,.mov (.c v),none⟩
abbrev oY (d s:Nat):zg:=⟨some d,.len (.t s),none⟩
abbrev oB (d:Nat) (o:BinOp) (a b:Nat):zg:=⟨some d,.bin o (.t a) (.t b),none⟩
abbrev oK (d:Nat) (o:BinOp) (a:Nat) (n:Int):zg:=⟨some d,.bin o (.t a) (.c (.int .i64 n)),none⟩
abbrev oS (a b:Nat):zg:=⟨none,.store 1 (.t a) (.t b),none⟩
abbrev sO (l:List zg) (c:XC):XC:=.seq (.ops l) c
abbrev cT (g:Nat) (a b:XC):XC:=.cond (.t g) a b
attribute [go_sem] decide_true decide_false
theorem xt1 {E:Env} {L:List Blk} {f:FuncId} {P:Program} {fn:Func} {rs:List jQ} {c:XC} {a0:IV} {R:IV→List Blk→Prop} (hP:E.P=P) (h:∀ρ:Rho,ρ 0=a0→Za E.noPan c ρ L (z3X fun ρ L'=>zY E.noPan rs ρ L' fun r=>R r L')) (hf:P.funcs[f]?=some fn:=by rfl) (hF:Zz P fn=some ⟨fn.ntmps,rs,c⟩:=by kernel_rfl) (hnm:fn.name≠ "runtime.NumGoroutine":=by decide) (ha:1≤fn.ntmps:=by exact Nat.le_of_ble_eq_true rfl):XT E f [a0] L R:=xtA hP hf hF hnm ha fun ρ e=>h ρ (e 0 _ rfl)
theorem xu3 {E:Env} {f:FuncId} {P:Program} {fn:Func} {t:Nat} {c:XC} {a0 a1 a2 r:IV} (hP:E.P=P) (h:∀ρ:Rho,ρ 0=a0→ρ 1=a1→ρ 2=a2→Za E.noPan c ρ [] (z3X fun ρ L'=>conv L' fuel zW (ρ t)=some r)) (hf:P.funcs[f]?=some fn:=by rfl) (hF:Zz P fn=some ⟨fn.ntmps,[.tmp t],c⟩:=by kernel_rfl) (hnm:fn.name≠ "runtime.NumGoroutine":=by decide) (ha:3≤fn.ntmps:=by exact Nat.le_of_ble_eq_true rfl):ZH E f [a0,a1,a2] r:=z5h (by rw [hP];exact hf) (by rw [hP];exact hF) hnm ha (h _ rfl rfl rfl)
theorem kP {F:Nat→Prop} {L L':List Blk} (h:Keep F L L':=by (repeat' first | exact Keep.refl | apply Keep.app | apply Keep.set)<;>(intro hh;first | rfl | (exfalso;first | omega | (simp only [lla,lls,llc,lln] at hh;omega)))):Keep F L L':=h
theorem kQ {F:Nat→Prop} {L L':List Blk} (h:Keep F L L':=by (repeat' first | exact Keep.refl | apply Keep.app | apply Keep.set)<;>(intro hh;first | rfl | exact .inl rfl | exact .inr rfl | exact .inr (.inl rfl) | exact .inr (.inr rfl) | exact .inr (.inr (.inl rfl)) | exact .inr (.inr (.inr rfl)) | (exfalso;first | omega | (simp only [lla,lls,llc,lln] at hh;omega)))):Keep F L L':=h
theorem wR {n m:Int} (h:n=m∧(-9223372036854775808≤n∧n≤9223372036854775807):=by omega):IntKind.i64.wrap n=m:=by rw [wrap64 h.2.1 h.2.2,h.1]
section
variable {E:Env}

end
def allN (P:Nat->Prop):IV->Prop
 | .ptr s _ _ | .sl s _ _ _ | .mp s | .yld s=>P s
 | .agg cs | .tup cs=>allL cs
 | .fn _ a b=>allL a/\allL b
 | .iface _ v=>allN P v
 | _=>True
 where allL:List IV->Prop
 | []=>True
 | x::r=>allN P x/\allL r
theorem Vr {P:Nat->Prop}:∀{l:List IV},allN.allL P l↔∀x∈l,allN P x
 | []=>by simp [allN.allL]
 | x::r=>by
  simp only [allN.allL,List.mem_cons,forall_eq_or_imp,Vr (l:=r)]
theorem JP {P:Nat->Prop} {l:List IV} (h:∀(i:Nat) (x:IV),l[i]?=some x->allN P x):allN.allL P l:=Vr.2 fun x b=>by
 obtain ⟨i,hi⟩:=List.mem_iff_getElem?.1 b
 exact h i x hi
theorem Vx {P:Nat->Prop} {l:List IV} (h:allN.allL P l) {i:Nat} {x:IV} (hi:l[i]?=some x):allN P x:=Vr.1 h x (List.mem_of_getElem? hi)
theorem VR.allN {C:Ctx} {x:IV} {v:Value} (h:VR C x v):Go.X.allN C.born x:=by
 induction h with
 | ptr s r o hs=>exact hs
 | sl s off len cap a cap' hs l hc ha=>exact hs
 | agg cs vs l m b=>exact JP b
 | tup cs vs l m b=>exact JP b
 | fn f as B A D ha w u q j d=>exact ⟨JP j,JP d⟩
 | iface t x v m b=>exact b
 | mp s hs=>exact hs
 | yld s hs=>exact hs
 | _=>trivial
theorem Ye {P:Nat->Prop}:∀(x:IV),closed x=true->Go.X.allN P x
 | .agg cs,h=>closedL_allL cs (by simpa [closed] using h)
 | .tup cs,h=>closedL_allL cs (by simpa [closed] using h)
 | .fn _ a b,h=>by
  simp only [closed,Bool.and_eq_true] at h
  exact ⟨closedL_allL a h.1,closedL_allL b h.2⟩
 | .iface _ v,h=>Ye v (by simpa [closed] using h)
 | .bool _,_ | .int _ _,_ | .str _,_ | .raw _,_ | .und,_ | .isl _,_ | .iptr _ _ _,_ | .esl,_ | .nsl,_=>trivial
 | .ptr _ _ _,h | .sl _ _ _ _,h | .mp _,h | .yld _,h=>by simp [closed] at h
 where
 closedL_allL {P:Nat->Prop}:∀(l:List IV),closed.closedL l=true->Go.X.allN.allL P l
  | [],_=>trivial
  | x::r,h=>by
   simp only [closed.closedL,Bool.and_eq_true] at h
   exact ⟨Ye x h.1,closedL_allL r h.2⟩
theorem VR.drop {C C':Ctx} (I:C'.w=C.w) (q:C'.φ=C.φ) (B:∀b,C'.own b->C.own b) {x:IV} {v:Value} (h:VR C x v):Go.X.allN C'.born x->VR C' x v:=by
 induction h with
 | bool b=>exact fun _=>.bool b
 | int k n=>exact fun _=>.int k n
 | str s=>exact fun _=>.str s
 | raw v h=>exact fun _=>.raw v h
 | und=>exact fun _=>.und
 | ptr s r o hs=>intro l;rw [<-q];exact .ptr s r o l
 | sl s off len cap a cap' hs J hc ha U=>intro l;refine .sl s off len cap a cap' l J hc ?_ U;rw [q,I];exact ha
 | isl rows a cap' sz vals M hsz m ha O u=>
  intro _
  refine .isl rows a cap' sz vals M hsz m ?_ fun i d hi j x A=>u i d hi j x A (Ye x (Zh.1 (m i d hi) _ _ A))
  rcases ha with Z | ⟨b,o,ha,G,l,hc⟩
  ·exact .inl Z
  ·exact .inr ⟨b,o,ha,by rw [I];exact G,fun h=>l (B b h),fun i d hi j x A=>by rw [I];exact hc i d hi j x A⟩
 | iptr rows r o b base sz vals hsz m G D ha O u=>
  intro _
  exact .iptr rows r o b base sz vals hsz m (by rw [I];exact G) (fun h=>D (B b h)) (fun i d hi j x A=>by rw [I];exact ha i d hi j x A) fun i d hi j x A=>u i d hi j x A (Ye x (Zh.1 (m i d hi) _ _ A))
 | esl a=>exact fun _=>.esl a
 | nsl=>exact fun _=>.nsl
 | agg cs vs J O u=>exact fun l=>.agg cs vs J fun i x hi=>u i x hi (Vx l hi)
 | tup cs vs J O u=>exact fun l=>.tup cs vs J fun i x hi=>u i x hi (Vx l hi)
 | fn f as bs Y vb ha G V T S Q=>exact fun l=>.fn f as bs Y vb ha G (fun i x hi=>S i x hi (Vx l.1 hi)) fun i x hi=>Q i x hi (Vx l.2 hi)
 | iface t x v O u=>exact fun l=>.iface t x v (u l)
 | mp s hs=>intro l;rw [<-q];exact .mp s l
 | yld s hs=>intro l;rw [<-q];exact .yld s l
theorem Wl {P Q:Nat->Prop} (h:∀t,P t->Q t):∀(x:IV),Go.X.allN P x->Go.X.allN Q x
 | .agg cs,hx=>allL_mono h cs hx
 | .tup cs,hx=>allL_mono h cs hx
 | .fn _ a b,hx=>⟨allL_mono h a hx.1,allL_mono h b hx.2⟩
 | .iface _ v,hx=>Wl h v hx
 | .bool _,_ | .int _ _,_ | .str _,_ | .raw _,_ | .und,_ | .isl _,_ | .iptr _ _ _,_ | .esl,_ | .nsl,_=>trivial
 | .ptr s _ _,hx | .sl s _ _ _,hx | .mp s,hx | .yld s,hx=>h s hx
 where
 allL_mono {P Q:Nat->Prop} (h:∀t,P t->Q t):∀(l:List IV),Go.X.allN.allL P l->Go.X.allN.allL Q l
  | [],_=>trivial
  | x::r,hx=>⟨Wl h x hx.1,allL_mono h r hx.2⟩
theorem Zp.drop {C0 C C':Ctx} (B:C'.w=C.w) (d:C'.φ=C.φ) (q:∀b,C'.own b->C.own b) (hb:∀t,C0.born t->C'.born t) {s:Nat} {k:Blk} (J:Zp C0 s k) (h:Zp C s k):Zp C' s k:=by
 have T:∀{x:IV} {v0:Value},VR C0 x v0->allN C'.born x:=fun hx=>Wl hb _ hx.allN
 have cells:∀{O:Bool} {sz:Nat} {rows:List (List IV)},Z9 O C0 s sz rows->Z9 O C s sz rows->Z9 O C' s sz rows:=fun {O sz rows} J h=>by
  obtain ⟨_,c0,_,_,_,_,_,X⟩:=J
  obtain ⟨u,c,e,fr,A,S,U,Z⟩:=h
  refine ⟨by rw [d];exact u,c,e,fr,by rw [d,B];exact A,S,by rw [d];exact U,fun i D hi=>⟨(Z i D hi).1,fun j x hj=>?_⟩⟩
  obtain ⟨v0,_,I⟩:=(X i D hi).2 j x hj
  obtain ⟨v,hv,Q⟩:=(Z i D hi).2 j x hj
  exact ⟨v,by rw [d];exact hv,Q.drop B d q (T I)⟩
 cases k with
 | cells sz rows=>exact cells J h
 | tcells ty sz rows=>
  obtain ⟨u,c,fr,A⟩:=h.2
  exact ⟨cells J.1 h.1,by rw [d];exact u,c,fr,by rw [d,B];exact A⟩
 | siter t pos=>obtain ⟨u,A⟩:=h;exact ⟨by rw [d];exact u,by rw [d,B];exact A⟩
 | map es c=>
  obtain ⟨ae,_,_,Y⟩:=J
  obtain ⟨ms,u,A,U⟩:=h
  refine ⟨ms,by rw [d,B];exact u,A,fun i e hi=>?_⟩
  obtain ⟨m0,_,_,I,_⟩:=Y i e hi
  obtain ⟨m,g1,g2,g3,g4⟩:=U i e hi
  exact ⟨m,g1,g2,g3.drop B d q (T I),g4⟩
 | mit m=>
  obtain ⟨_,hm,_⟩:=J
  obtain ⟨u,_,G,M,A⟩:=h
  exact ⟨by rw [d];exact u,hb m hm,G,M,by rw [d,B];exact A⟩
 | lp r l=>
  obtain ⟨_,V⟩:=J
  obtain ⟨u,A⟩:=h
  exact ⟨by rw [d,B];exact u,fun n=>(A n).drop B d q (T (V n))⟩
 | dead=>trivial
 | unborn=>trivial
def Yf (n:Nat):Ren:=fun s=>if s<n then some (some s) else some none
theorem z2e {E:Env} {f:FuncId} {args:List IV} {L:List Blk} {R:IV->List Blk->Prop} {R':IV->Prop} (h:XT E f args L R)
  (hc:∀r L',R r L'->Keep none' L L'/\∃J,conv L' fuel (Yf L.length) r=some J/\R' J):XT E f args L fun r L'=>R' r/\L'=L:=by
 refine ⟨h.1,fun w Q X vs wf M hG hl hv=>(h.2 w Q X vs wf M hG hl hv).mono fun e w' ⟨r,L',d,v,T,Z,B,h4,q,h6⟩=>?_⟩
 obtain ⟨hk,J,V,hR⟩:=hc r L' T
 have l:∀{s:Nat} {k:Blk},L[s]?=some k->L'[s]?=some k:=fun hs=>hk.get hs fun h=>h
 have j:∀b,Ctx.mine ⟨w',d,L,X⟩ b->Ctx.mine ⟨w',d,L',X⟩ b:=fun b ⟨s,k,h,T,Z⟩=>⟨s,k,l h,T,Z⟩
 have m:∀b,Ctx.own ⟨w',d,L,X⟩ b->Ctx.own ⟨w',d,L',X⟩ b:=fun b h=>h.imp (fun h=>h) (j b)
 have O:∀s,Ctx.born ⟨w,Q,L,X⟩ s->Ctx.born ⟨w',d,L,X⟩ s:=fun s h=>h
 have G:Ext ⟨w,Q,L,X⟩ ⟨w',d,L,X⟩:=⟨q.size,q.frame,fun b A=>q.sub b (j b A),q.slot,O,Nat.le_refl _,q.cap,rfl,q.os,q.tape,q.output⟩
 refine ⟨J,L,d,v,⟨hR,rfl⟩,Z,⟨fun s u k1 k2 hs hu=>B.inj s u k1 k2 (l hs) (l hu),fun b A=>B.lo b (j b A),fun b S A=>B.apart b S (j b A),B.exlo,B.g⟩,fun s k hs=>?_,G,?_⟩
 ·exact Zp.drop (C0:=⟨w,Q,L,X⟩) (C:=⟨w',d,L',X⟩) (C':=⟨w',d,L,X⟩) rfl rfl m O (M s k hs) (h4 s k (l hs))
 ·refine Zi (C:=⟨w',d,L',X⟩) (C':=⟨w',d,L,X⟩) rfl h4 m fuel (Yf L.length) r J v (fun s k hs=>⟨fun U ha=>?_,fun t I=>?_⟩) V h6
  ·have Y:¬s<L.length:=by
    intro D
    unfold Yf at U
    rw [if_pos D] at U
    cases U
   rintro (S | ⟨u,k2,g1,g2,g3⟩)
   ·exact B.apart _ S ⟨s,k,hs,ha,rfl⟩
   ·have:=B.inj u s k2 k (l g1) hs g2 ha g3
    subst this
    exact Y (zk g1)
  ·unfold Yf at I
   split at I
   ·rename_i D
    simp only [sij] at I
    subst I
    refine ⟨fun A=>⟨k,?_,A⟩,rfl⟩
    show L[s]?=some k
    have:=hk.2 s D (fun h=>h)
    rw [<-this];exact hs
   ·simp at I
def cl:Nat->IV->Prop
 | n,.ptr s _ _ | n,.sl s _ _ _ | n,.mp s | n,.yld s=>s<n
 | n,.agg cs | n,.tup cs=>clL n cs
 | n,.fn _ a b=>clL n a/\clL n b
 | n,.iface _ v=>cl n v
 | _,.isl rows | _,.iptr rows _ _=>clR 0 rows
 | _,_=>True
 where
 clL:Nat->List IV->Prop
  | _,[]=>True
  | n,x::r=>cl n x/\clL n r
 clR:Nat->List (List IV)->Prop
  | _,[]=>True
  | n,x::r=>clL n x/\clR n r
section
variable {n:Nat}
theorem zQ:∀{l:List IV},cl.clL n l↔∀x∈l,cl n x
 | []=>by simp [cl.clL]
 | x::r=>by simp only [cl.clL,List.mem_cons,forall_eq_or_imp,zQ (l:=r)]
theorem Zg:∀{l:List (List IV)},cl.clR n l↔∀x∈l,cl.clL n x
 | []=>by simp [cl.clR]
 | x::r=>by simp only [cl.clR,List.mem_cons,forall_eq_or_imp,Zg (l:=r)]
mutual
theorem y7 {n m:Nat} (h:n<=m):∀(x:IV),cl n x->cl m x
 | .ptr s _ _,hx | .sl s _ _ _,hx | .mp s,hx | .yld s,hx=>Nat.lt_of_lt_of_le hx h
 | .agg cs,hx | .tup cs,hx=>yz h cs hx
 | .fn _ a b,hx=>⟨yz h a hx.1,yz h b hx.2⟩
 | .iface _ v,hx=>y7 h v hx
 | .isl rows,hx | .iptr rows _ _,hx=>hx
 | .bool _,_ | .int _ _,_ | .str _,_ | .raw _,_ | .und,_ | .esl,_ | .nsl,_=>trivial
theorem yz {n m:Nat} (h:n<=m):∀(l:List IV),cl.clL n l->cl.clL m l
 | [],_=>trivial
 | x::r,hx=>⟨y7 h x hx.1,yz h r hx.2⟩
theorem ZL {n m:Nat} (h:n<=m):∀(l:List (List IV)),cl.clR n l->cl.clR m l
 | [],_=>trivial
 | x::r,hx=>⟨yz h x hx.1,ZL h r hx.2⟩
end
def clB (n:Nat):Blk->Prop
 | .cells _ rows | .tcells _ _ rows=>cl.clR n rows
 | .map es _=>∀e∈es,cl n e.1/\cl n e.2.1
 | .mit m=>m<n
 | .lp _ l=>cl.clL n l
 | _=>True
theorem z7q {n m:Nat} (h:n<=m):∀{b:Blk},clB n b->clB m b
 | .cells _ rows,hb | .tcells _ _ rows,hb=>ZL h rows hb
 | .map es _,hb=>fun e d=>⟨y7 h _ (hb e d).1,y7 h _ (hb e d).2⟩
 | .mit _,hb=>Nat.lt_of_lt_of_le hb h
 | .lp _ l,hb=>yz h l hb
 | .siter _ _,_ | .dead,_ | .unborn,_=>trivial
def Eff.up (n:Nat):Eff->Nat
 | .push _ | .setPush _ _ _=>n+1
 | _=>n
def clE (n:Nat):Eff->Prop
 | .no=>True
 | .push b=>clB (n+1) b
 | .set _ b=>clB n b
 | .setPush _ b c=>(match b with | .dead=>True | _=>False)/\clB (n+1) c
theorem WR {a b:List IV}:cl.clL n (a++b)↔cl.clL n a/\cl.clL n b:=by
 simp only [zQ,List.mem_append]
 exact ⟨fun h=>⟨fun x d=>h x (.inl d),fun x d=>h x (.inr d)⟩,fun h x d=>d.elim (h.1 x) (h.2 x)⟩
theorem ve {a b:List (List IV)}:cl.clR n (a++b)↔cl.clR n a/\cl.clR n b:=by
 simp only [Zg,List.mem_append]
 exact ⟨fun h=>⟨fun x d=>h x (.inl d),fun x d=>h x (.inr d)⟩,fun h x d=>d.elim (h.1 x) (h.2 x)⟩
theorem z5n {a b:List IV} (h:cl.clL n b) (hs:∀x∈a,x∈b):cl.clL n a:=zQ.2 fun x d=>zQ.1 h x (hs x d)
theorem z6w {a b:List (List IV)} (h:cl.clR n b) (hs:∀x∈a,x∈b):cl.clR n a:=Zg.2 fun x d=>Zg.1 h x (hs x d)
theorem z08 {l:List IV} {k:Nat} (h:cl.clL n l):cl.clL n (l.take k):=z5n h fun x b=>List.mem_of_mem_take b
theorem z06 {l:List IV} {k:Nat} (h:cl.clL n l):cl.clL n (l.drop k):=z5n h fun x b=>List.mem_of_mem_drop b
theorem Yt {l:List (List IV)} {k:Nat} (h:cl.clR n l):cl.clR n (l.take k):=z6w h fun x b=>List.mem_of_mem_take b
theorem Yj {l:List (List IV)} {k:Nat} (h:cl.clR n l):cl.clR n (l.drop k):=z6w h fun x b=>List.mem_of_mem_drop b
theorem vM {l xs:List IV} {i:Nat} (h:cl.clL n l) (b:cl.clL n xs):cl.clL n (splice l i xs):=by
 unfold splice
 exact WR.2 ⟨WR.2 ⟨z08 h,b⟩,z06 h⟩
theorem YS {l xs:List (List IV)} {i:Nat} (h:cl.clR n l) (b:cl.clR n xs):cl.clR n (splice l i xs):=by
 unfold splice
 exact ve.2 ⟨ve.2 ⟨Yt h,b⟩,Yj h⟩
theorem YR {l:List IV} {i:Nat} (h:cl.clL n l):cl n (l.getD i .und):=by
 rw [List.getD_eq_getElem?_getD]
 cases hi:l[i]? with
 | none=>trivial
 | some x=>exact zQ.1 h x (List.mem_of_getElem? hi)
theorem VB {l:List (List IV)} {i:Nat} (h:cl.clR n l):cl.clL n (l.getD i []):=by
 rw [List.getD_eq_getElem?_getD]
 cases hi:l[i]? with
 | none=>trivial
 | some x=>exact Zg.1 h x (List.mem_of_getElem? hi)
theorem z2k {l:List (List IV)} {i:Nat} {x:List IV} (h:cl.clR n l) (d:cl.clL n x):cl.clR n (l.set i x):=Zg.2 fun y j=>by
 rcases List.mem_or_eq_of_mem_set j with b | b
 ·exact Zg.1 h y b
 ·rw [b];exact d
theorem z2h {k:Nat} {x:List IV} (b:cl.clL n x):cl.clR n (List.replicate k x):=Zg.2 fun y d=>by rw [(List.mem_replicate.1 d).2];exact b
theorem z0f {x:List IV} (b:cl.clL n x):cl.clR n [x]:=⟨b,trivial⟩
theorem Wq {x:IV} (h:cl n x):cl.clL n (cellsOf x):=by
 cases x<;>first
  | exact h
  | exact ⟨h,trivial⟩
theorem z0y {s:List UInt8}:cl.clR n (Zq s):=Zg.2 fun x d=>by
 unfold Zq at d
 obtain ⟨b,_,rfl⟩:=List.mem_map.1 d
 exact ⟨trivial,trivial⟩
theorem z4A:∀{ps:List (Nat × Nat × IV)} {cs b:List IV},Va cs ps=some b->cl.clL n cs->(∀p∈ps,cl n p.2.2)->cl.clL n b
 | [],cs,b,h,hc,_=>by cases h;exact hc
 | (off,m,v)::r,cs,b,h,hc,hp=>by
  simp only [Va] at h
  split at h
  ·exact z4A h (vM hc (Wq (hp _ List.mem_cons_self))) fun p d=>hp p (List.mem_cons_of_mem _ d)
  ·cases h
theorem z2A {sz:Nat}:∀{ps:List (Nat × IV)} {rows rows':List (List IV)},zO sz rows ps=some rows'->cl.clR n rows->(∀p∈ps,cl n p.2)->cl.clR n rows'
 | [],rows,rows',h,hc,_=>by cases h;exact hc
 | (i,v)::r,rows,rows',h,hc,hp=>by
  simp only [zO] at h
  split at h
  ·exact z2A h (z2k hc (Wq (hp _ List.mem_cons_self))) fun p b=>hp p (List.mem_cons_of_mem _ b)
  ·cases h
end
section
variable {gl:Nat->Option (List IV)} {lk:Lk} {n:Nat} {v:IV} {ef:Eff}
def LkC (lk:Lk) (n:Nat):Prop:=∀s b,lk s=some b->s<n/\clB n b
def GlC (gl:Nat->Option (List IV)):Prop:=∀n cs,gl n=some cs->cl.clL 0 cs
def ClO (n:Nat) (r:OR):Prop:=∀v ef,r=some (v,ef)->cl (ef.up n) v/\clE n ef
theorem ClO.none:ClO n none:=fun _ _ h=>by cases h
theorem ClO.yes {v:IV} (h:cl n v):ClO n (yes v):=fun _ _ b=>by cases b;exact ⟨h,trivial⟩
theorem ClO.flat {r:OR} (h:∀v ef,r=some (v,ef)->ef=.no/\∀m,cl m v):ClO n r:=fun v ef b=>by
 obtain ⟨rfl,d⟩:=h v ef b
 exact ⟨d _,trivial⟩
theorem Jl (d:LkC lk n) (hg:GlC gl) {x:IV} (j:cl n x) {rows:List (List IV)} {r o:Nat} (h:YI gl lk x=some (rows,r,o)):cl.clR n rows:=by
 unfold YI at h
 split at h
 ·split at h
  ·rename_i hgl;cases h;exact z0f (yz (Nat.zero_le _) _ (hg _ _ hgl))
  ·cases h
 ·split at h
  ·rename_i b;cases h;exact (d _ _ b).2
  ·rename_i b;cases h;exact (d _ _ b).2
  ·cases h
 ·cases h;exact ZL (Nat.zero_le _) _ j
 ·cases h
theorem vC (d:LkC lk n) {x:IV} (j:cl n x) {rows:List (List IV)} (h:Yr lk x=some rows):cl.clR n rows:=by
 unfold Yr at h
 split at h
 ·cases h;exact z0y
 ·cases h;exact ZL (Nat.zero_le _) _ j
 ·split at h
  ·rename_i b
   split at h
   ·cases h;exact Yt (Yj (d _ _ b).2)
   ·cases h
  ·rename_i b
   split at h
   ·cases h;exact Yt (Yj (d _ _ b).2)
   ·cases h
  ·cases h
 ·cases h;trivial
 ·cases h;trivial
 ·cases h
end
def z4M:IV->Bool
 | .bool _ | .int .. | .str _ | .raw _ | .und | .esl | .nsl=>true
 | .fn _ [] []=>true
 | _=>false
def ze6:IV->Bool
 | .agg cs=>cs.all z4M
 | .iface _ v=>z4M v
 | x=>z4M x
def yj:Opd->Bool
 | .c v=>ze6 v
 | _=>true
def zgc:XX->Bool
 | .mlook _ z _ | .ment _ z=>ze6 z
 | .allocT _ z | .clr z=>z.all z4M
 | _=>true
def zaL:XO->Bool
 | .mov x | .box x | .load1 x | .loadN _ x | .nilck x | .un _ x | .cvInt _ x | .cvIntStr x | .cvStr x | .fldA _ x | .fld _ _ _ x | .slice0 x | .len x | .lenS x | .isNil _ _ x | .rng x | .nxt x | .ext x _=>yj x
 | .pick a b c=>yj a&&yj b&&yj c
 | .alloc z=>z.all z4M
 | .build z ps=>z.all z4M&&ps.all fun p=>yj p.2.2
 | .bslice _ z _ ps=>z.all z4M&&ps.all fun p=>yj p.2
 | .store _ a x | .bin _ a x | .eqB _ a x | .idxS _ a x | .idxA _ _ a x | .idx a x | .append _ _ a x | .max2 a x | .min2 a x=>yj a&&yj x
 | .slice _ x lo hi | .sliceS x lo hi=>yj x&&(lo.all yj)&&hi.all yj
 | .mkfn _ a b=>a.all yj&&b.all yj
 | .mkslice z _ a b=>z.all z4M&&yj a&&yj b
 | .call f a | .pcall f a=>yj f&&a.all yj
 | .ex k xs=>zgc k&&xs.all yj
section
variable {gl:Nat->Option (List IV)} {lk:Lk} {n:Nat}
theorem z1z {x:IV} (h:z4M x=true):cl n x:=by
 unfold z4M at h
 split at h<;>first
  | trivial
  | exact ⟨trivial,trivial⟩
  | cases h
theorem Yn {l:List IV} (h:l.all z4M=true):cl.clL n l:=zQ.2 fun x b=>by
 rw [List.all_eq_true] at h
 exact z1z (h x b)
theorem je {x:IV} (h:ze6 x=true):cl n x:=by
 unfold ze6 at h
 split at h
 ·exact Yn h
 ·rename_i t v;exact z1z (x:=v) h
 ·exact z1z h
theorem z3c {α:Type} {l:List α} {f:α->IV} (h:∀x∈l,cl n (f x)):cl.clL n (l.map f):=zQ.2 fun y d=>by
 obtain ⟨x,b,rfl⟩:=List.mem_map.1 d
 exact h x b
theorem z5C {op : BinOp} {x y v : IV} {ef : Eff} (h : WO op x y = some (v, ef)) : ef = .no ∧ ∀ m, cl m v := by
  have hr : ∀ {op : BinOp} {u w : Value} {r : IV}, JE op u w = some r → ∀ m, cl m r := by
    intro op u w r hr m
    unfold JE at hr
    split at hr
    · split at hr
      · split at hr <;> first
          | (rw [Option.map_eq_some_iff] at hr; obtain ⟨a, _, rfl⟩ := hr; trivial)
          | (cases hr; trivial)
          | cases hr
      · cases hr
    · split at hr
      · split at hr <;> first
          | (rw [Option.map_eq_some_iff] at hr; obtain ⟨a, _, rfl⟩ := hr; trivial)
          | (split at hr <;> first | (rw [Option.map_eq_some_iff] at hr; obtain ⟨a, _, rfl⟩ := hr; trivial) | cases hr)
          | (cases hr; trivial)
          | cases hr
      · cases hr
    · cases hr
  unfold WO at h
  split at h <;> first
    | (cases h; exact ⟨rfl, fun _ => trivial⟩)
    | skip
  obtain ⟨h1, h2⟩ := ZI h
  refine ⟨h2, fun m => ?_⟩
  unfold ZR at h1
  split at h1 <;> first
    | (split at h1
       · cases h1; trivial
       · cases h1)
    | (cases h1; trivial)
    | exact hr h1 m
    | cases h1
theorem z8O (d:LkC lk n) {sz bytes:Nat} {s x:IV} (hs:cl n s) (m:cl n x):ClO n (z9B lk n sz bytes s x):=fun v ef h=>by
 unfold z9B at h
 split at h
 ·cases h
 ·rename_i rs j
  have b:=vC d m j
  split at h
  ·split at h
   ·split at h
    ·cases h;exact ⟨trivial,trivial⟩
    ·split at h
     ·cases h;exact ⟨Nat.lt_succ_self _,ZL (Nat.le_succ _) _ b⟩
     ·cases h
   ·split at h
    ·cases h;exact ⟨trivial,trivial⟩
    ·split at h
     ·cases h;exact ⟨Nat.lt_succ_self _,ZL (Nat.le_succ _) _ b⟩
     ·cases h
   ·split at h
    ·rename_i l
     split at h
     ·split at h
      ·cases h;exact ⟨hs,YS (d _ _ l).2 b⟩
      ·split at h
       ·cases h;exact ⟨Nat.lt_succ_self _,trivial,ZL (Nat.le_succ _) _ (ve.2 ⟨Yt (Yj (d _ _ l).2),b⟩)⟩
       ·cases h
     ·cases h
    ·cases h
   ·cases h
  ·cases h
theorem yU (d:LkC lk n) {st:Bool} {m k:IV} {s c:Nat} {h:List (IV × IV × Nat)} {r:Option Nat} (b:z8G lk st m k=some (s,h,c,r)):(∀e∈h,cl n e.1/\cl n e.2.1)/\s<n:=by
 unfold z8G at b
 split at b
 ·split at b
  ·split at b
   ·rename_i j
    split at b
    ·cases b;exact ⟨(d _ _ j).2,(d _ _ j).1⟩
    ·cases b
   ·cases b
  ·cases b
 ·cases b
theorem es_getD {b:List (IV × IV × Nat)} {i:Nat} (h:∀e∈b,cl n e.1/\cl n e.2.1):cl n (b.getD i default).1/\cl n (b.getD i default).2.1:=by
 rw [List.getD_eq_getElem?_getD]
 cases hi:b[i]? with
 | none=>exact ⟨trivial,trivial⟩
 | some x=>exact h x (List.mem_of_getElem? hi)
theorem z4V {d:List (IV × IV × Nat)} {i:Nat} {e:IV × IV × Nat} (h:∀e∈d,cl n e.1/\cl n e.2.1) (j:cl n e.1/\cl n e.2.1):∀x∈d.set i e,cl n x.1/\cl n x.2.1:=fun x l=>by
 rcases List.mem_or_eq_of_mem_set l with b | b
 ·exact h x b
 ·rw [b];exact j
theorem z8X {d:List (IV × IV × Nat)} {e:IV × IV × Nat} (h:∀e∈d,cl n e.1/\cl n e.2.1) (j:cl n e.1/\cl n e.2.1):∀x∈d++[e],cl n x.1/\cl n x.2.1:=fun x l=>by
 rcases List.mem_append.1 l with b | b
 ·exact h x b
 ·rw [List.mem_singleton.1 b];exact j
end
section
variable {gl:Nat->Option (List IV)} {lk:Lk} {n:Nat}
theorem vs1 {l:List IV} (h:cl.clL n l) {x:IV} {r:List IV} (b:l=x::r):cl n x/\cl.clL n r:=by subst b;exact h
theorem zbq (j:LkC lk n) {k:XX} {vs:List IV} (l:cl.clL n vs) (w:zgc k=true):ClO n (eEx lk n k vs):=by
 cases k<;>simp only [eEx]
 case panic=>exact ClO.none
 case slId=>exact ClO.none
 case ustr=>exact ClO.none
 case toU=>exact ClO.none
 case ofU=>exact ClO.none
 case no=>exact ClO.none
 case mmake=>exact fun v ef h=>by cases h;exact ⟨Nat.lt_succ_self _,fun e B=>by cases B⟩
 case allocT ty z=>exact fun v ef h=>by cases h;exact ⟨Nat.lt_succ_self _,z0f (Yn w)⟩
 case mkif t=>
  intro v ef h;unfold za3 at h
  split at h
  ·cases h;exact ⟨l.1,trivial⟩
  ·cases h
 case strB ty=>
  intro v ef h;unfold z9V at h
  split at h
  ·split at h
   ·cases h;exact ⟨Nat.lt_succ_self _,z0y⟩
   ·cases h
  ·cases h
 case bStr=>
  intro v ef h;unfold z9E at h
  split at h
  ·split at h
   ·cases h;exact ⟨trivial,trivial⟩
   ·cases h
  ·cases h
 case rStr=>
  intro v ef h;unfold zaj at h
  split at h
  ·split at h
   ·cases h;exact ⟨trivial,trivial⟩
   ·cases h
  ·cases h
 case tas t=>
  intro v ef h;unfold zfz at h
  split at h
  ·split at h
   ·cases h;exact ⟨⟨l.1,trivial,trivial⟩,trivial⟩
   ·cases h
  ·cases h
 case ru op=>
  intro v ef h;unfold eRu at h
  split at h
  ·obtain ⟨d,rfl⟩:=ZI h
   refine ⟨?_,trivial⟩
   unfold z2f at d
   split at d<;>first
    | (cases d;trivial)
    | (rw [oms] at d;obtain ⟨a,_,rfl⟩:=d;trivial)
    | cases d
  ·cases h
 case itof f=>
  intro v ef h;unfold zas at h
  split at h
  ·cases h;exact ⟨trivial,trivial⟩
  ·cases h
 case cpx=>
  intro v ef h;unfold zef at h
  split at h
  ·split at h
   ·cases h;exact ⟨trivial,trivial⟩
   ·cases h
  ·cases h
 case mlook st z ok=>
  have s:cl n z:=je w
  have A:∀{x:IV} {b:Bool},cl n x->cl n (Yy ok x b):=fun {x b} u=>by
   unfold Yy;split
   ·exact ⟨u,trivial,trivial⟩
   ·exact u
  intro v ef h;unfold z4x at h
  split at h
  ·split at h
   ·cases h;exact ⟨A s,trivial⟩
   ·cases h
  ·split at h
   ·rename_i d;cases h;exact ⟨A (es_getD (yU j d).1).2,trivial⟩
   ·cases h;exact ⟨A s,trivial⟩
   ·cases h
  ·cases h
 case mset st=>
  intro v ef h;unfold za1 at h
  split at h
  ·split at h
   ·rename_i d;cases h;exact ⟨trivial,z4V (yU j d).1 ⟨l.2.1,l.2.2.1⟩⟩
   ·rename_i d;cases h;exact ⟨trivial,z8X (yU j d).1 ⟨l.2.1,l.2.2.1⟩⟩
   ·cases h
  ·cases h
 case mdel st=>
  intro v ef h;unfold zae at h
  split at h
  ·split at h
   ·rename_i d;cases h;exact ⟨trivial,fun e B=>(yU j d).1 e (List.mem_of_mem_eraseIdx B)⟩
   ·rename_i d;cases h;exact ⟨trivial,(yU j d).1⟩
   ·cases h
  ·cases h
 case ment st z=>
  have s:cl n z:=je w
  intro v ef h;unfold zak at h
  split at h
  ·split at h
   ·rename_i d;cases h
    have G:=es_getD (i:=‹Nat›) (yU j d).1
    exact ⟨⟨(es_getD (yU j d).1).2,trivial,trivial⟩,z4V (yU j d).1 ⟨l.2.1,(es_getD (yU j d).1).2⟩⟩
   ·rename_i d;cases h;exact ⟨⟨s,trivial,trivial⟩,z8X (yU j d).1 ⟨l.2.1,s⟩⟩
   ·cases h
  ·cases h
 case msto=>
  intro v ef h;unfold zax at h
  split at h
  ·split at h
   ·rename_i d
    split at h
    ·cases h;exact ⟨trivial,z4V (j _ _ d).2 ⟨(es_getD (j _ _ d).2).1,l.2.2.1⟩⟩
    ·cases h
   ·cases h
  ·cases h
 case copy sz=>
  intro v ef h;unfold zaq at h
  split at h
  ·split at h
   ·rename_i rs q
    have r:=vC j l.2.1 q
    split at h
    ·split at h
     ·cases h;exact ⟨trivial,trivial⟩
     ·split at h
      ·rename_i d
       split at h
       ·cases h;exact ⟨trivial,YS (j _ _ d).2 r⟩
       ·cases h
      ·rename_i d
       split at h
       ·cases h;exact ⟨trivial,YS (j _ _ d).2 r⟩
       ·cases h
      ·cases h
    ·cases h
   ·cases h
  ·cases h
 case clr z=>
  intro v ef h;unfold zf8 at h
  split at h
  ·split at h
   ·cases h;exact ⟨trivial,trivial⟩
   ·split at h
    ·rename_i d
     split at h
     ·cases h;exact ⟨trivial,YS (j _ _ d).2 (z2h (Yn w))⟩
     ·cases h
    ·cases h
  ·cases h
 case sl3 sz=>
  intro v ef h;unfold zfN at h
  split at h
  ·split at h
   ·cases h;exact ⟨l.1,trivial⟩
   ·cases h
  ·cases h
 case sla m=>
  intro v ef h;unfold zfK at h
  split at h
  ·split at h
   ·rename_i d
    split at h
    ·rename_i G;cases h
     have D:=G.2.1
     rw [List.all_eq_true] at D
     refine ⟨Zg.2 fun x u=>?_,trivial⟩
     obtain ⟨c,hc,rfl⟩:=List.mem_map.1 u
     have I:=D c (List.mem_of_mem_drop hc)
     refine ⟨?_,trivial⟩
     cases c<;>first
      | trivial
      | cases I
    ·cases h
   ·cases h
  ·cases h
 case mrng=>
  intro v ef h;unfold zam at h
  split at h
  ·split at h
   ·cases h;exact ⟨Nat.lt_succ_self _,Nat.lt_succ_of_lt l.1⟩
   ·cases h
  ·cases h
 case mnxt=>
  intro v ef h;unfold za2 at h
  split at h
  ·split at h
   ·split at h
    ·cases h;exact ⟨⟨trivial,trivial⟩,trivial⟩
    ·cases h
   ·cases h
  ·cases h
 case eqA neg M=>
  intro v ef h;unfold zf1 at h
  split at h
  ·split at h
   ·cases h;exact ⟨trivial,trivial⟩
   ·cases h
  ·cases h
 case eqP neg=>
  intro v ef h;unfold zfr at h
  split at h
  ·split at h
   ·cases h;exact ⟨trivial,trivial⟩
   ·cases h
  ·cases h
 case sdata=>
  intro v ef h;unfold z6d at h
  split at h
  ·cases h;exact ⟨trivial,trivial⟩
  ·cases h;exact ⟨trivial,trivial⟩
  ·split at h
   ·cases h;exact ⟨l.1,trivial⟩
   ·cases h
  ·cases h
 case appT ty bytes=>
  intro v ef h;unfold z9i at h
  split at h
  ·split at h
   ·cases h
   ·rename_i rs q
    have r:=vC j l.2.1 q
    split at h
    ·split at h
     ·split at h
      ·cases h;exact ⟨trivial,trivial⟩
      ·split at h
       ·cases h;exact ⟨Nat.lt_succ_self _,ZL (Nat.le_succ _) _ r⟩
       ·cases h
     ·split at h
      ·cases h;exact ⟨trivial,trivial⟩
      ·split at h
       ·cases h;exact ⟨Nat.lt_succ_self _,ZL (Nat.le_succ _) _ r⟩
       ·cases h
     ·split at h
      ·split at h
       ·rename_i J
        split at h
        ·split at h
         ·cases h;exact ⟨l.1,trivial⟩
         ·split at h
          ·cases h;exact ⟨Nat.lt_succ_self _,trivial,ZL (Nat.le_succ _) _ (ve.2 ⟨(j _ _ J).2,r⟩)⟩
          ·cases h
        ·cases h
       ·exact z8O j l.1 l.2.1 _ _ h
       ·cases h
      ·cases h
     ·cases h
    ·cases h
  ·cases h
theorem z6l (A:LkC lk n) (hg:GlC gl) {e:Opd->IV} (w:∀o,yj o=true->cl n (e o)) {o:XO} (d:zaL o=true):ClO n (opE gl lk n e o):=by
 have B:∀{l:List Opd},l.all yj=true->cl.clL n (l.map e):=fun {l} h=>z3c fun x j=>w x (by rw [List.all_eq_true] at h;exact h x j)
 cases o<;>simp only [zaL,Bool.and_eq_true] at d<;>simp only [opE]
 case call=>exact ClO.none
 case pcall=>exact ClO.none
 case mov x=>exact ClO.yes (w _ d)
 case alloc z=>exact fun v ef h=>by cases h;exact ⟨Nat.lt_succ_self _,z0f (Yn d)⟩
 case box x=>exact fun v ef h=>by cases h;exact ⟨Nat.lt_succ_self _,z0f (yz (Nat.le_succ _) _ (Wq (w _ d)))⟩
 case mkfn f a b=>exact ClO.yes ⟨B d.1,B d.2⟩
 case ex k xs=>exact zbq A (B d.2) d.1
 case append sz b s x=>exact z8O A (w _ d.1) (w _ d.2)
 case bin op x y=>exact ClO.flat fun v ef h=>z5C h
 case isNil k neg x=>
  exact ClO.flat fun v ef h=>by
   obtain ⟨r,D⟩:=ZI h
   rw [oms] at r;obtain ⟨b,_,rfl⟩:=r
   exact ⟨D,fun _=>trivial⟩
 case len x=>
  exact ClO.flat fun v ef h=>by
   obtain ⟨r,D⟩:=ZI h
   rw [oms] at r;obtain ⟨b,_,rfl⟩:=r
   exact ⟨D,fun _=>trivial⟩
 case pick c a b=>
  intro v ef h;unfold z7Y at h
  split at h
  ·cases h;split
   ·exact ⟨w _ d.1.2,trivial⟩
   ·exact ⟨w _ d.2,trivial⟩
  ·cases h
 case build z ps=>
  intro v ef h;unfold z2M at h
  split at h
  ·rename_i r;cases h
   refine ⟨z4A r (Yn d.1) fun p G=>?_,trivial⟩
   obtain ⟨q,u,rfl⟩:=List.mem_map.1 G
   have:=d.2;rw [List.all_eq_true] at this
   exact w _ (this q u)
  ·cases h
 case bslice sz z len ps=>
  intro v ef h;unfold JQ at h
  split at h
  ·split at h
   ·rename_i r;cases h
    refine ⟨Nat.lt_succ_self _,ZL (Nat.le_succ n) _ (z2A r (z2h (Yn d.1)) fun p G=>?_)⟩
    obtain ⟨q,u,rfl⟩:=List.mem_map.1 G
    have:=d.2;rw [List.all_eq_true] at this
    exact w _ (this q u)
   ·cases h
  ·cases h
 case load1 a=>
  intro v ef h;unfold wZ at h
  split at h
  ·rename_i r
   split at h
   ·cases h;exact ⟨YR (VB (Jl A hg (w _ d) r)),trivial⟩
   ·cases h
  ·cases h
 case loadN m a=>
  intro v ef h;unfold Jn at h
  split at h
  ·rename_i r
   split at h
   ·cases h;exact ⟨z08 (z06 (VB (Jl A hg (w _ d) r))),trivial⟩
   ·cases h
  ·cases h
 case store m a x=>
  intro v ef h;unfold Wj at h
  split at h
  ·split at h
   ·rename_i r
    split at h
    ·cases h;exact ⟨trivial,z2k (A _ _ r).2 (vM (VB (A _ _ r).2) (Wq (w _ d.2)))⟩
    ·cases h
   ·rename_i r
    split at h
    ·cases h;exact ⟨trivial,z2k (A _ _ r).2 (vM (VB (A _ _ r).2) (Wq (w _ d.2)))⟩
    ·cases h
   ·cases h
  ·cases h
 case nilck x=>
  have j:=w _ d
  intro v ef h;unfold J6 at h
  split at h<;>first
   | (rename_i u;rw [u] at j;cases h;exact ⟨j,trivial⟩)
   | cases h
 case eqB neg x y=>
  intro v ef h;unfold zdf at h
  split at h
  ·cases h;exact ⟨trivial,trivial⟩
  ·cases h
 case un op x=>
  intro v ef h;unfold eUn at h
  split at h
  ·cases h;exact ⟨trivial,trivial⟩
  ·cases h;exact ⟨trivial,trivial⟩
  ·cases h;exact ⟨trivial,trivial⟩
  ·obtain ⟨r,rfl⟩:=ZI h
   rw [oms] at r;obtain ⟨b,_,rfl⟩:=r
   exact ⟨trivial,trivial⟩
  ·cases h
 case cvInt k x=>
  intro v ef h;unfold z3b at h
  split at h
  ·cases h;exact ⟨trivial,trivial⟩
  ·cases h
 case cvIntStr x=>
  intro v ef h;unfold wL at h
  split at h
  ·cases h;exact ⟨trivial,trivial⟩
  ·cases h
 case cvStr x=>
  intro v ef h
  split at h
  ·cases h;exact ⟨trivial,trivial⟩
  ·cases h
 case fldA off x=>
  have j:=w _ d
  intro v ef h;unfold z5r at h
  split at h<;>first
   | (rename_i u;rw [u] at j;cases h;exact ⟨j,trivial⟩)
   | (cases h;exact ⟨trivial,trivial⟩)
   | cases h
 case fld off m agg x=>
  have j:=w _ d
  intro v ef h;unfold zd1 at h
  split at h
  ·rename_i u;rw [u] at j
   split at h
   ·split at h
    ·cases h;exact ⟨z08 (z06 j),trivial⟩
    ·split at h
     ·cases h;exact ⟨YR j,trivial⟩
     ·cases h
   ·cases h
  ·cases h
 case idxS m x i=>
  have j:=w _ d.1
  intro v ef h;unfold z6v at h
  split at h
  ·rename_i u hi;rw [u] at j
   split at h
   ·cases h;exact ⟨j,trivial⟩
   ·cases h
  ·rename_i u hi;rw [u] at j
   split at h
   ·cases h;exact ⟨j,trivial⟩
   ·cases h
  ·cases h
 case idxA m sz x i=>
  have j:=w _ d.1
  intro v ef h;unfold z8w at h
  split at h<;>first
   | (rename_i u hi;rw [u] at j;split at h<;>first | (cases h;exact ⟨j,trivial⟩) | (cases h;exact ⟨trivial,trivial⟩) | cases h)
   | cases h
 case idx x i=>
  intro v ef h;unfold zdw at h
  split at h
  ·split at h
   ·cases h;exact ⟨trivial,trivial⟩
   ·cases h
  ·cases h
 case slice m x lo hi=>
  have j:=w _ d.1.1
  intro v ef h;unfold z3e at h
  split at h
  ·rename_i u;rw [u] at j
   split at h
   ·split at h
    ·split at h
     ·cases h;exact ⟨Yj (Yt j),trivial⟩
     ·cases h
    ·cases h
   ·cases h
  ·rename_i u;rw [u] at j
   split at h
   ·split at h
    ·split at h
     ·cases h;exact ⟨j,trivial⟩
     ·cases h
    ·cases h
   ·cases h
  ·split at h
   ·split at h
    ·cases h;exact ⟨trivial,trivial⟩
    ·cases h
   ·cases h
  ·split at h
   ·split at h
    ·cases h;exact ⟨trivial,trivial⟩
    ·cases h
   ·cases h
  ·cases h
 case sliceS x lo hi=>
  intro v ef h;unfold z0b at h
  split at h
  ·split at h
   ·split at h
    ·cases h;exact ⟨trivial,trivial⟩
    ·cases h
   ·cases h
  ·cases h
 case slice0 x=>
  intro v ef h;unfold JS at h
  split at h<;>first
   | (cases h;exact ⟨trivial,trivial⟩)
   | cases h
 case mkslice z b l c=>
  intro v ef h;unfold Vu at h
  split at h
  ·split at h
   ·cases h;exact ⟨Nat.lt_succ_self _,z2h (Yn d.1.1)⟩
   ·cases h
  ·cases h
 case lenS x=>
  intro v ef h;unfold z7N at h
  split at h
  ·cases h;exact ⟨trivial,trivial⟩
  ·cases h
 case max2 x y=>
  intro v ef h;unfold zd2 at h
  split at h
  ·cases h;exact ⟨trivial,trivial⟩
  ·cases h
 case min2 x y=>
  intro v ef h;unfold zdP at h
  split at h
  ·cases h;exact ⟨trivial,trivial⟩
  ·cases h
 case rng x=>
  intro v ef h;unfold zdn at h
  split at h
  ·cases h;exact ⟨Nat.lt_succ_self _,trivial⟩
  ·cases h
 case nxt t=>
  intro v ef h;unfold zcY at h
  split at h
  ·split at h
   ·split at h
    ·cases h;exact ⟨⟨trivial,trivial,trivial,trivial⟩,trivial⟩
    ·cases h;exact ⟨⟨trivial,trivial⟩,trivial⟩
   ·cases h
  ·cases h
 case ext t i=>
  have j:=w _ d
  intro v ef h;unfold zcR at h
  split at h
  ·rename_i u;rw [u] at j
   split at h
   ·cases h;exact ⟨YR j,trivial⟩
   ·cases h
  ·cases h
end
theorem YT {n:Nat} {P Q:Nat->Prop} (h:∀t,t<n->P t->Q t):∀(x:IV),cl n x->allN P x->allN Q x
 | .agg cs,hx,hp=>L h cs hx hp
 | .tup cs,hx,hp=>L h cs hx hp
 | .fn _ a b,hx,hp=>⟨L h a hx.1 hp.1,L h b hx.2 hp.2⟩
 | .iface _ v,hx,hp=>YT h v hx hp
 | .bool _,_,_ | .int _ _,_,_ | .str _,_,_ | .raw _,_,_ | .und,_,_ | .isl _,_,_ | .iptr _ _ _,_,_ | .esl,_,_ | .nsl,_,_=>trivial
 | .ptr s _ _,hx,hp | .sl s _ _ _,hx,hp | .mp s,hx,hp | .yld s,hx,hp=>h s hx hp
 where
 L {n:Nat} {P Q:Nat->Prop} (h:∀t,t<n->P t->Q t):∀(l:List IV),cl.clL n l->allN.allL P l->allN.allL Q l
  | [],_,_=>trivial
  | x::r,hx,hp=>⟨YT h x hx.1 hp.1,L h r hx.2 hp.2⟩
theorem Zp.dropC {C C':Ctx} {n:Nat} (D:C'.w=C.w) (d:C'.φ=C.φ) (G:∀b,C'.own b->C.own b) (V:∀t,t<n->C.born t->C'.born t) {s:Nat} {k:Blk} (hc:clB n k) (h:Zp C s k):Zp C' s k:=by
 have T:∀{x:IV} {v:Value},cl n x->VR C x v->VR C' x v:=fun Y M=>M.drop D d G (YT V _ Y M.allN)
 have cells:∀{S:Bool} {sz:Nat} {rows:List (List IV)},cl.clR n rows->Z9 S C s sz rows->Z9 S C' s sz rows:=fun {S sz rows} hr h=>by
  obtain ⟨q,c,e,fr,u,Q,I,U⟩:=h
  refine ⟨by rw [d];exact q,c,e,fr,by rw [d,D];exact u,Q,by rw [d];exact I,fun i A hi=>⟨(U i A hi).1,fun j x X=>?_⟩⟩
  obtain ⟨v,M,O⟩:=(U i A hi).2 j x X
  exact ⟨v,by rw [d];exact M,T (zQ.1 (Zg.1 hr A (List.mem_of_getElem? hi)) x (List.mem_of_getElem? X)) O⟩
 cases k with
 | cells sz rows=>exact cells hc h
 | tcells ty sz rows=>
  obtain ⟨q,c,fr,u⟩:=h.2
  exact ⟨cells hc h.1,by rw [d];exact q,c,fr,by rw [d,D];exact u⟩
 | siter t pos=>obtain ⟨q,u⟩:=h;exact ⟨by rw [d];exact q,by rw [d,D];exact u⟩
 | map es c=>
  obtain ⟨ms,q,u,I⟩:=h
  refine ⟨ms,by rw [d,D];exact q,u,fun i e hi=>?_⟩
  obtain ⟨m,g1,Z,g3,g4⟩:=I i e hi
  exact ⟨m,g1,Z,T (hc e (List.mem_of_getElem? hi)).2 g3,g4⟩
 | mit m=>
  obtain ⟨q,hm,B,J,u⟩:=h
  exact ⟨by rw [d];exact q,V m hc hm,B,J,by rw [d,D];exact u⟩
 | lp r l=>
  obtain ⟨q,u⟩:=h
  refine ⟨by rw [d,D];exact q,fun i=>?_⟩
  have I:cl n (l.getD i .und):=YR hc
  exact T I (u i)
 | dead=>trivial
 | unborn=>trivial
theorem z7L {E:Env} {f:FuncId} {args:List IV} {L L':List Blk} {v:IV} (ae:∀i,i<L.length->L'[i]?=L[i]?) (ha:cl.clL L.length args) (hL:∀(s:Nat) (b:Blk),L[s]?=some b->clB L.length b)
  (hp:allN (fun _=>False) v) (h:XT E f args L fun r L2=>r=v/\L2=L):XT E f args L' fun r L2=>r=v/\L2=L':=by
 refine ⟨h.1,fun w Q X vs wf Y hG hl hv=>?_⟩
 let X2:Nat->Prop:=fun b=>X b\/∃s k,L.length<=s/\L'[s]?=some k/\k.alive=true/\(Q s).blk=b
 let C:Ctx:=⟨w,Q,L',X⟩
 let C2:Ctx:=⟨w,Q,L,X2⟩
 have A:∀{s:Nat} {k:Blk},L[s]?=some k->L'[s]?=some k:=fun {s k} hs=>by rw [ae s (List.getElem?_eq_some_iff.1 hs).1];exact hs
 have U:∀{s:Nat} {k:Blk},L[s]?=some k->s<L.length:=fun hs=>(List.getElem?_eq_some_iff.1 hs).1
 have B:∀b,C2.mine b->C.mine b:=fun b ⟨s,k,j,m,O⟩=>⟨s,k,A j,m,O⟩
 have ag:∀b,C2.own b->C.own b:=fun b q=>by
  rcases q with (J | ⟨s,k,_,j,m,O⟩) | S
  ·exact .inl J
  ·exact .inr ⟨s,k,j,m,O⟩
  ·exact .inr (B b S)
 have Z:∀t,t<L.length->C.born t->C2.born t:=fun t V ⟨k,j,m⟩=>⟨k,by show L[t]?=_;rw [<-ae t V];exact j,m⟩
 have ak:∀b,X2 b->¬C2.mine b:=fun b J S=>by
  rcases J with J | ⟨s,k,g0,g1,g2,g3⟩
  ·exact wf.apart b J (B b S)
  ·obtain ⟨s',k',e1,e2,e3⟩:=S
   have:=wf.inj s s' k k' g1 (A e1) g2 e2 (by rw [g3,e3])
   subst this
   exact absurd (U e1) od
 have bu:Wf E.g0 C2:=⟨fun s t k l hs V=>wf.inj s t k l (A hs) (A V),fun b q=>wf.lo b (B b q),ak,fun b q=>by
  rcases q with J | ⟨s,k,_,g1,g2,g3⟩
  ·exact wf.exlo b J
  ·exact ZF Y ⟨s,k,g1,g2,g3⟩,wf.g⟩
 have ax:Sim C2:=fun s k hs=>Zp.dropC (C:=C) (C':=C2) rfl rfl ag Z (hL s k hs) (Y s k (A hs))
 have bg:∀(i:Nat) (x:IV),args[i]?=some x->VR C2 x (vs.getD i undef):=fun i x hi=>
  VR.drop (C:=C) (C':=C2) rfl rfl ag (hv i x hi) (YT Z _ (zQ.1 ha x (List.mem_of_getElem? hi)) (hv i x hi).allN)
 refine (h.2 w Q X2 vs bu ax hG hl bg).mono ?_
 rintro e w' ⟨r,L2,I,u,⟨rfl,rfl⟩,he,bi,ay,d,hr⟩
 let C3:Ctx:=⟨w',I,L2,X2⟩
 let φ2:Nat->Loc:=fun s=>if s<L2.length then I s else Q s
 let C4:Ctx:=⟨w',φ2,L',X⟩
 have G:∀s,C.born s->φ2 s=Q s:=fun s hs=>by
  show (if s<L2.length then I s else Q s)=_
  split
  ·rename_i bn;exact d.slot s (Z s bn hs)
  ·rfl
 have D:∀{k:Blk},k.alive=true->k.born=true:=fun {k} hk=>by cases k<;>first | rfl | cases hk
 have T:∀b,C4.mine b↔C.mine b:=fun b=>by
  constructor
  ·rintro ⟨s,k,j,m,O⟩
   exact ⟨s,k,j,m,by rw [<-O];exact congrArg Loc.blk (G s ⟨k,j,D m⟩).symm⟩
  ·rintro ⟨s,k,j,m,O⟩
   exact ⟨s,k,j,m,by rw [<-O];exact congrArg Loc.blk (G s ⟨k,j,D m⟩)⟩
 have af:Ext C C4:=⟨d.size,fun b q S=>d.frame b q fun m=>S (B b m),fun b q=>.inl ((T b).1 q),G,fun s hs=>hs,Nat.le_refl _,d.cap,rfl,d.os,d.tape,d.output⟩
 have cu:Wf E.g0 C4:=⟨fun s t k l hs V hk bf q=>by
  have e1:φ2 s=Q s:=G s ⟨k,hs,D hk⟩
  have e2:φ2 t=Q t:=G t ⟨l,V,D bf⟩
  have q:(φ2 s).blk=(φ2 t).blk:=q
  rw [e1,e2] at q
  exact wf.inj s t k l hs V hk bf q,fun b q=>wf.lo b ((T b).1 q),fun b J S=>wf.apart b J ((T b).1 S),fun b J=>Nat.lt_of_lt_of_le (wf.exlo b J) d.size,bi.g⟩
 have ai:∀b,C4.own b->C3.own b:=fun b q=>by
  rcases q with J | S
  ·exact .inl (.inl J)
  ·obtain ⟨s,k,j,m,O⟩:=(T b).1 S
   by_cases hs:s<L2.length
   ·refine .inr ⟨s,k,by show L2[s]?=_;rw [<-ae s hs];exact j,m,?_⟩
    rw [<-O]
    exact congrArg Loc.blk (d.slot s (Z s hs ⟨k,j,D m⟩))
   ·exact .inl (.inr ⟨s,k,od,j,m,O⟩)
 have az:∀t,t<L2.length->C3.born t->C4.born t:=fun t V ⟨k,j,m⟩=>⟨k,A j,m⟩
 let C3':Ctx:=⟨w',φ2,L2,X2⟩
 have e3:Ext C3 C3':=⟨Nat.le_refl _,fun _ _ _=>rfl,fun b ⟨s,k,j,m,O⟩=>.inl ⟨s,k,j,m,by
   rw [<-O];show (I s).blk=(if s<L2.length then I s else Q s).blk;rw [if_pos (U j)]⟩,fun s ⟨k,j,_⟩=>by
   show (if s<L2.length then I s else Q s)=_;rw [if_pos (U j)],fun s hs=>hs,Nat.le_refl _,fun b c e fr hh=>⟨c,e,fr,hh,rfl⟩,rfl,rfl,rfl,rfl⟩
 have M:∀b,C4.own b->C3'.own b:=fun b q=>by
  rcases ai b q with J | ⟨s,k,j,m,O⟩
  ·exact .inl J
  ·refine .inr ⟨s,k,j,m,?_⟩
   rw [<-O];show (if s<L2.length then I s else Q s).blk=_;rw [if_pos (U j)]
 have ah:Sim C3':=fun s k hs=>by
  exact Zp.mono e3 hs (ay s k hs) rfl
 have aj:Sim C4:=fun s k hs=>by
  by_cases hlt':s<L2.length
  ·have au:L2[s]?=some k:=by rw [<-ae s hlt'];exact hs
   exact Zp.dropC (C:=C3') (C':=C4) rfl rfl M az (hL s k au) (ah s k au)
  ·by_cases hal:k.alive=true
   ·have bz:¬C2.mine (Q s).blk:=fun S=>ak _ (.inr ⟨s,k,od,hs,hal,rfl⟩) S
    exact Zp.mono af hs (Y s k hs) (d.frame _ (ZF Y ⟨s,k,hs,hal,rfl⟩) bz)
   ·cases k<;>first
     | trivial
     | exact absurd rfl hal
 refine ⟨r,L',φ2,u,⟨rfl,rfl⟩,he,cu,aj,af,?_⟩
 exact (hr.mono e3).drop (C:=C3') (C':=C4) rfl rfl M (Wl (fun t V=>V.elim) _ hp)
inductive RT (α:Type) where
 | nil
 | node (v:α) (l r:RT α)
section
variable {α:Type}
noncomputable def RT.get (d:α):RT α->Nat->α:=
 @RT.rec α (fun _=>Nat->α) (fun _=>d) (fun v _ _ gl gr n=>@Bool.rec (fun _=>α) (@Bool.rec (fun _=>α) (gr (Nat.pred (Nat.div n 2))) (gl (Nat.div n 2)) (Nat.beq (Nat.mod n 2) 1)) v (Nat.beq n 0))
noncomputable def RT.set:RT α->Nat->α->RT α:=
 @RT.rec α (fun _=>Nat->α->RT α) (fun _ _=>.nil) (fun v l r gl gr n x=>@Bool.rec (fun _=>RT α) (@Bool.rec (fun _=>RT α) (.node v l (gr (Nat.pred (Nat.div n 2)) x)) (.node v (gl (Nat.div n 2) x) r) (Nat.beq (Nat.mod n 2) 1)) (.node x l r) (Nat.beq n 0))
noncomputable def RT.mk (d:α) (n:Nat):RT α:=@Nat.rec (fun _=>RT α) .nil (fun _ t=>.node d t t) n
def RT.full:Nat->RT α->Prop
 | 0,_=>True
 | n+1,.node _ l r=>full n l/\full n r
 | _+1,.nil=>False
theorem RT.full_mk (d:α):∀n,(RT.mk d n).full n
 | 0=>trivial
 | n+1=>⟨full_mk d n,full_mk d n⟩
theorem RT.get_mk (d:α):∀n i,(RT.mk d n).get d i=d
 | 0,_=>rfl
 | n+1,i=>by
  show @Bool.rec (fun _=>α) (@Bool.rec (fun _=>α) ((RT.mk d n).get d _) ((RT.mk d n).get d _) _) d _=d
  rw [get_mk d n,get_mk d n]
  cases Nat.beq i 0<;>cases Nat.beq (Nat.mod i 2) 1<;>rfl
theorem zcP {a b:Nat} (h:¬a=b):Nat.beq a b=false:=by
 cases hb:Nat.beq a b with
 | false=>rfl
 | true=>exact absurd (Nat.eq_of_beq_eq_true hb) h
theorem RT.get_odd {d v:α} {l r:RT α} {n:Nat} (h:n%2=1):(RT.node v l r).get d n=l.get d (n / 2):=by
 show @Bool.rec (fun _=>α) (@Bool.rec (fun _=>α) (r.get d _) (l.get d _) (Nat.beq (n%2) 1)) v (Nat.beq n 0)=_
 rw [zcP (a:=n) (b:=0) od,h];rfl
theorem RT.get_even {d v:α} {l r:RT α} {n:Nat} (h:n%2=0) (j:n≠0):(RT.node v l r).get d n=r.get d (n / 2 - 1):=by
 show @Bool.rec (fun _=>α) (@Bool.rec (fun _=>α) (r.get d _) (l.get d _) (Nat.beq (n%2) 1)) v (Nat.beq n 0)=_
 rw [zcP (a:=n) (b:=0) j,h];rfl
theorem RT.set_0 {v x:α} {l r:RT α}:(RT.node v l r).set 0 x=.node x l r:=rfl
theorem RT.set_odd {v x:α} {l r:RT α} {n:Nat} (h:n%2=1):(RT.node v l r).set n x=.node v (l.set (n / 2) x) r:=by
 show @Bool.rec (fun _=>RT α) (@Bool.rec (fun _=>RT α) _ (.node v (l.set _ x) r) (Nat.beq (n%2) 1)) _ (Nat.beq n 0)=_
 rw [zcP (a:=n) (b:=0) od,h];rfl
theorem RT.set_even {v x:α} {l r:RT α} {n:Nat} (h:n%2=0) (d:n≠0):(RT.node v l r).set n x=.node v l (r.set (n / 2 - 1) x):=by
 show @Bool.rec (fun _=>RT α) (@Bool.rec (fun _=>RT α) (.node v l (r.set _ x)) _ (Nat.beq (n%2) 1)) _ (Nat.beq n 0)=_
 rw [zcP (a:=n) (b:=0) d,h];rfl
theorem RT.set_ok (d:α):∀(D:Nat) (t:RT α) (n:Nat) (x:α),t.full D->n+1<2^D->(t.set n x).full D/\∀m,(t.set n x).get d m=if m=n then x else t.get d m
 | 0,_,n,_,_,h=>by simp at h
 | D+1,.nil,_,_,h,_=>h.elim
 | D+1,.node v l r,n,x,hf,hn=>by
  have q:2^(D+1)=2*2^D:=by rw [Nat.pow_succ];omega
  rw [q] at hn
  by_cases h0:n=0
  ·subst h0
   rw [RT.set_0]
   refine ⟨hf,fun m=>?_⟩
   by_cases hm:m=0
   ·subst hm;rw [if_pos rfl];rfl
   ·rw [if_neg hm]
    by_cases h1:m%2=1
    ·rw [RT.get_odd h1,RT.get_odd h1]
    ·rw [RT.get_even od hm,RT.get_even od hm]
  ·by_cases h1:n%2=1
   ·obtain ⟨j,b⟩:=RT.set_ok d D l (n / 2) x hf.1 od
    rw [RT.set_odd h1]
    refine ⟨⟨j,hf.2⟩,fun m=>?_⟩
    by_cases hm:m=0
    ·subst hm;rw [if_neg (Ne.symm h0)];rfl
    ·by_cases h3:m%2=1
     ·rw [RT.get_odd h3,RT.get_odd h3,b]
      by_cases h4:m=n
      ·rw [if_pos h4,if_pos (by rw [h4])]
      ·rw [if_neg h4,if_neg od]
     ·rw [RT.get_even od hm,RT.get_even od hm,if_neg (by rintro rfl;exact h3 h1)]
   ·obtain ⟨j,b⟩:=RT.set_ok d D r (n / 2 - 1) x hf.2 od
    rw [RT.set_even od h0]
    refine ⟨⟨hf.1,j⟩,fun m=>?_⟩
    by_cases hm:m=0
    ·subst hm;rw [if_neg (Ne.symm h0)];rfl
    ·by_cases h3:m%2=1
     ·rw [RT.get_odd h3,RT.get_odd h3,if_neg (by rintro rfl;exact h1 h3)]
     ·rw [RT.get_even od hm,RT.get_even od hm,b]
      by_cases h4:m=n
      ·rw [if_pos h4,if_pos (by rw [h4])]
      ·rw [if_neg h4,if_neg od]
end
def z2T (o:zg):Bool:=zaL o.op
mutual
def codeOk:XC->Bool
 | .ops l | .draw l | .drawE l=>l.all z2T
 | .drawR l=>l.all fun p=>z2T p.1
 | .rngF g _ _ a b=>yj g&&codeOk a&&codeOk b
 | .seq a b=>codeOk a&&codeOk b
 | .cond c t e=>yj c&&codeOk t&&codeOk e
 | .block _ b | .loop b=>codeOk b
 | .scope b ls=>codeOk b&&z3s ls
 | _=>true
def z3s:vI->Bool
 | .nil=>true
 | .cons _ c r=>codeOk c&&z3s r
end
theorem Ju:∀{b:vI} {n:Nat} {c:XC},z3s b=true->b.get n=some c->codeOk c=true
 | .nil,_,_,_,h=>by cases h
 | .cons l x r,n,c,ho,h=>by
  simp only [z3s,Bool.and_eq_true] at ho
  simp only [vI.get] at h
  split at h
  ·cases h;exact ho.1
  ·exact Ju ho.2 h
inductive LS where
 | ready
 | busy
 | done (e:XE)
inductive EB where
 | b (x:Blk)
 | lp (k:Nat) (st:LS)
structure Fr where
 s:Nat
 N:Nat
 ps:List Nat
 xa:XC
 xb:XC
 r:RT IV
inductive An where
 | no
 | val (v:IV) (t:RT EB) (h:Nat)
noncomputable def rho (r:RT IV):Rho:=fun n=>r.get .und n
noncomputable def ofLk (r:RT IV):Nat->List IV->RT IV
 | _,[]=>r
 | i,x::l=>ofLk (r.set i x) (i+1) l
noncomputable def ofL (l:List IV):RT IV:=ofLk (RT.mk .und 10) 0 l
theorem z5O:∀(l:List IV) (i:Nat) (r:RT IV),r.full 10->i+l.length<1023->(ofLk r i l).full 10/\∀n,(ofLk r i l).get .und n=if i<=n/\n<i+l.length then l.getD (n - i) .und else r.get .und n
 | [],i,r,hr,_=>⟨hr,fun n=>by rw [if_neg (by simp)];rfl⟩
 | x::l,i,r,hr,hi=>by
  obtain ⟨j,h⟩:=RT.set_ok .und 10 r i x hr (by simp at hi;omega)
  obtain ⟨d,b⟩:=z5O l (i+1) (r.set i x) j (by simp at hi;omega)
  refine ⟨d,fun n=>?_⟩
  show (ofLk (r.set i x) (i+1) l).get .und n=_
  rw [b,h]
  simp only [llc]
  by_cases hn:n=i
  ·subst hn;rw [if_neg od,if_pos rfl,if_pos od,Nat.sub_self];rfl
  ·rw [if_neg hn]
   by_cases hc:i+1<=n/\n<i+1+l.length
   ·rw [if_pos hc,if_pos od]
    obtain ⟨k,rfl⟩:∃k,n=i+1+k:=⟨n - (i+1),od⟩
    rw [show i+1+k - (i+1)=k by omega,show i+1+k - i=k+1 by omega];rfl
   ·rw [if_neg hc,if_neg od]
theorem z3l {l:List IV} (h:l.length<=1000):(ofL l).full 10/\rho (ofL l)=jY l:=by
 obtain ⟨d,b⟩:=z5O l 0 (RT.mk .und 10) (RT.full_mk _ _) od
 refine ⟨d,funext fun n=>?_⟩
 show (ofLk _ 0 l).get .und n=_
 rw [b,RT.get_mk]
 simp only [jY,List.getD_eq_getElem?_getD]
 by_cases hn:n<l.length
 ·rw [if_pos od,Nat.sub_zero]
 ·rw [if_neg od,List.getElem?_eq_none od];rfl
def codeOf:XE->Go.Code
 | .ret=>.ret
 | .exit i=>.exit i
 | .goto i=>.goto i
 | .normal=>.ret
def LS.at_ (r0:Loop):LS->Loop
 | .ready=>r0
 | .busy=>{ r0 with state:=.busy }
 | .done e=>{ r0 with state:=.done,pending:=some (codeOf e) }
def z2I:List Fr->Nat->Option Fr
 | [],_=>none
 | fr::rest,k=>if k=rest.length then some fr else z2I rest k
theorem z04:∀{cx:List Fr} {k:Nat} {fr:Fr},z2I cx k=some fr->k<cx.length
 | [],_,_,h=>by cases h
 | f::rest,k,fr,h=>by
  unfold z2I at h
  split at h
  ·rename_i b;simp only [llc];omega
  ·have:=z04 h;simp only [llc];omega
theorem VZ {f:Fr} {cx:List Fr} {k:Nat} (h:k<cx.length):z2I (f::cx) k=z2I cx k:=by
 show (if k=cx.length then some f else z2I cx k)=_
 rw [if_neg od]
noncomputable def frRegs (cx:List Fr) (k:Nat):List IV:=match z2I cx k with
 | some fr=>(List.range fr.N).map (rho fr.r)
 | none=>[]
noncomputable def absB (R:Nat->Loop) (cx:List Fr):EB->Blk
 | .b x=>x
 | .lp k st=>.lp (st.at_ (R k)) (frRegs cx k)
noncomputable def absL (R:Nat->Loop) (cx:List Fr) (t:RT EB) (h:Nat):List Blk:=(List.range h).map fun s=>absB R cx (t.get (.b .dead) s)
structure FrG (fr:Fr):Prop where
 N:fr.N<=1000
 r:∃l,l.length=fr.N/\fr.r=ofL l
 xa:codeOk fr.xa=true
 xb:codeOk fr.xb=true
 c:∀i,cl fr.s (fr.r.get .und i)
def EBc (n:Nat):EB->Prop
 | .b x=>clB n x
 | .lp _ _=>True
def EB.in (cx:List Fr) (s:Nat):EB->Prop
 | .b _=>True
 | .lp k _=>∃fr,z2I cx k=some fr/\fr.s=s/\FrG fr
def HOk (cx:List Fr) (t:RT EB) (h:Nat):Prop:=t.full 14/\h<16383/\∀s,(t.get (.b .dead) s).in cx s/\EBc h (t.get (.b .dead) s)
theorem Zw {R:Nat->Loop} {cx:List Fr} {t:RT EB} {h:Nat}:(absL R cx t h).length=h:=by simp [absL]
theorem ZE {R:Nat->Loop} {cx:List Fr} {t:RT EB} {h s:Nat}:(absL R cx t h)[s]?=if s<h then some (absB R cx (t.get (.b .dead) s)) else none:=by
 unfold absL
 rw [List.getElem?_map]
 by_cases hs:s<h
 ·rw [if_pos hs,List.getElem?_range hs];rfl
 ·rw [if_neg hs,List.getElem?_eq_none (by simpa using hs)];rfl
theorem yL {R:Nat->Loop} {cx:List Fr} {t:RT EB} {h s:Nat} {b:EB} (d:HOk cx t h) (hs:s<h) (q:b.in cx s) (hc:EBc h b):HOk cx (t.set s b) h/\absL R cx (t.set s b) h=(absL R cx t h).set s (absB R cx b):=by
 obtain ⟨r,j⟩:=RT.set_ok (.b .dead) 14 t s b d.1 (by have:=d.2.1;omega)
 refine ⟨⟨r,d.2.1,fun m=>?_⟩,?_⟩
 ·rw [j];split
  ·rename_i l;rw [l];exact ⟨q,hc⟩
  ·exact d.2.2 m
 ·apply List.ext_getElem?
  intro i
  rw [List.getElem?_set,ZE,ZE,Zw,j]
  by_cases hi:i=s
  ·subst hi;simp [hs]
  ·rw [if_neg hi,if_neg (Ne.symm hi)]
theorem wO {R:Nat->Loop} {cx:List Fr} {t:RT EB} {h:Nat} {b:EB} (d:HOk cx t h) (hh:h+1<16383) (q:b.in cx h) (hc:EBc (h+1) b):HOk cx (t.set h b) (h+1)/\absL R cx (t.set h b) (h+1)=absL R cx t h++[absB R cx b]:=by
 obtain ⟨r,j⟩:=RT.set_ok (.b .dead) 14 t h b d.1 od
 refine ⟨⟨r,hh,fun m=>?_⟩,?_⟩
 ·rw [j];split
  ·rename_i l;rw [l];exact ⟨q,hc⟩
  ·refine ⟨(d.2.2 m).1,?_⟩
   have:=(d.2.2 m).2
   cases hm:t.get (.b .dead) m with
   | b x=>rw [hm] at this;exact z7q (Nat.le_succ h) this
   | lp=>trivial
 ·apply List.ext_getElem?
  intro i
  rw [List.getElem?_append,ZE,ZE,Zw,j]
  by_cases hi:i<h
  ·rw [if_pos od,if_pos hi,if_pos hi,if_neg od]
  ·rw [if_neg hi]
   by_cases hi':i=h
   ·subst hi';rw [if_pos od,if_pos rfl,Nat.sub_self];rfl
   ·rw [if_neg od,List.getElem?_eq_none (by simp;omega)]
noncomputable def ebB:EB->Option Blk:=@EB.rec (fun _=>Option Blk) (fun x=>some x) (fun _ _=>none)
noncomputable def lkH (t:RT EB) (h:Nat):Lk:=fun s=>@Bool.rec (fun _=>Option Blk) none (ebB (t.get (.b .dead) s)) (Nat.blt s h)
theorem z3i {R:Nat->Loop} {cx:List Fr} {t:RT EB} {h:Nat}:jT (lkH t h) (absL R cx t h):=fun s b d=>by
 unfold lkH at d
 rw [ZE]
 cases hc:Nat.blt s h with
 | false=>rw [hc] at d;cases d
 | true=>
  rw [hc] at d
  rw [if_pos (show s<h from Nat.le_of_ble_eq_true hc)]
  cases he:t.get (.b .dead) s with
  | b x=>rw [he] at d;cases d;rfl
  | lp k st=>rw [he] at d;cases d
noncomputable def frcN (n:Nat) (k:Nat->An):An:=@Nat.rec (fun _=>An) (k 0) (fun m _=>k (Nat.succ m)) n
theorem yO {n:Nat} {k:Nat->An}:frcN n k=k n:=by cases n<;>rfl
noncomputable def chk (b:Bool) (x:An):An:=@Bool.rec (fun _=>An) .no x b
theorem y5 {b:Bool} {x:An} (h:chk b x≠.no):b=true/\chk b x=x:=by
 cases b with
 | false=>exact absurd rfl h
 | true=>exact ⟨rfl,rfl⟩
theorem z4X {cx:List Fr} {t:RT EB} {h:Nat} (j:HOk cx t h):LkC (lkH t h) h:=fun s b d=>by
 unfold lkH at d
 cases hc:Nat.blt s h with
 | false=>rw [hc] at d;cases d
 | true=>
  rw [hc] at d
  refine ⟨Nat.le_of_ble_eq_true hc,?_⟩
  have:=(j.2.2 s).2
  cases he:t.get (.b .dead) s with
  | b x=>rw [he] at d this;cases d;exact this
  | lp k st=>rw [he] at d;cases d
theorem z00 {R:Nat->Loop} {cx:List Fr} {t:RT EB} {h:Nat} (q:HOk cx t h) (s:Nat) (b:Blk) (d:(absL R cx t h)[s]?=some b):clB h b:=by
 rw [ZE] at d
 split at d
 ·rename_i hs
  have j:=q.2.2 s
  cases he:t.get (.b .dead) s with
  | b x=>rw [he] at d j;cases d;exact j.2
  | lp k st=>
   rw [he] at d j;cases d
   obtain ⟨⟨fr,r,u,l⟩,_⟩:=j
   show cl.clL h (frRegs cx k)
   unfold frRegs
   rw [r]
   exact zQ.2 fun x m=>by
    obtain ⟨i,_,rfl⟩:=List.mem_map.1 m
    exact y7 od _ (l.c i)
 ·cases d
def Nx (lo:Nat) (t:RT EB) (h:Nat) (t':RT EB) (h':Nat):Prop:=h<=h'/\∀s,s<lo->t'.get (.b .dead) s=t.get (.b .dead) s
theorem Nx.refl {lo h:Nat} {t:RT EB}:Nx lo t h t h:=⟨Nat.le_refl _,fun _ _=>rfl⟩
theorem Nx.trans {lo h j d:Nat} {t t1 t2:RT EB} (a:Nx lo t h t1 j) (b:Nx lo t1 j t2 d):Nx lo t h t2 d:=⟨Nat.le_trans a.1 b.1,fun s hs=>(b.2 s hs).trans (a.2 s hs)⟩
noncomputable def effM (lo:Nat) (t:RT EB) (h:Nat) (k:RT EB->Nat->An):Eff->An:=@Eff.rec (fun _=>An) (k t h) (fun b=>chk (Nat.blt (Nat.succ h) 16383) (frcN (Nat.succ h) (k (t.set h (.b b))))) (fun s b=>chk (Nat.ble lo s&&Nat.blt s h) (k (t.set s (.b b)) h))
 (fun s b c=>chk (Nat.ble lo s&&Nat.blt s h) (chk (Nat.blt (Nat.succ h) 16383) (frcN (Nat.succ h) (k ((t.set s (.b b)).set h (.b c))))))
theorem z6P {R:Nat->Loop} {lo:Nat} {cx:List Fr} {t:RT EB} {h:Nat} {k:RT EB->Nat->An} {ef:Eff} (j:HOk cx t h) (m:lo<=h) (hc:clE h ef) (r:effM lo t h k ef≠.no) :
  ∃t' q,effM lo t h k ef=k t' q/\HOk cx t' q/\q=ef.up h/\Nx lo t h t' q/\∀R,absL R cx t' q=ef.app (absL R cx t h):=by
 have hg:∀{t:RT EB} {s:Nat} {b:EB},t.full 14->s<16383->lo<=s->∀u,u<lo->(t.set s b).get (.b .dead) u=t.get (.b .dead) u:=fun {t s b} I hs Q u B=>by
  rw [(RT.set_ok (.b .dead) 14 t s b I od).2,if_neg od]
 cases ef with
 | no=>exact ⟨t,h,rfl,j,rfl,Nx.refl,fun _=>rfl⟩
 | push b=>
  obtain ⟨d,l⟩:=y5 r
  have d:h+1<16383:=Nat.le_of_ble_eq_true d
  refine ⟨t.set h (.b b),h+1,l.trans yO,(wO (R:=R) (b:=.b b) j d trivial hc).1,rfl,⟨Nat.le_succ _,hg j.1 j.2.1 m⟩,fun R=>(wO (b:=.b b) j d trivial hc).2⟩
 | set s b=>
  obtain ⟨d,l⟩:=y5 r
  rw [Bool.and_eq_true] at d
  have D:lo<=s:=Nat.le_of_ble_eq_true d.1
  have d:s<h:=Nat.le_of_ble_eq_true d.2
  exact ⟨t.set s (.b b),h,l,(yL (R:=R) (b:=.b b) j d trivial hc).1,rfl,⟨Nat.le_refl _,hg j.1 (by have:=j.2.1;omega) D⟩,fun R=>(yL (b:=.b b) j d trivial hc).2⟩
 | setPush s b c=>
  obtain ⟨d,l⟩:=y5 r
  rw [Bool.and_eq_true] at d
  have D:lo<=s:=Nat.le_of_ble_eq_true d.1
  have d:s<h:=Nat.le_of_ble_eq_true d.2
  have J:chk (Nat.blt (Nat.succ h) 16383) (frcN (Nat.succ h) (k ((t.set s (.b b)).set h (.b c))))≠.no:=fun M=>r (l.trans M)
  obtain ⟨w,O⟩:=y5 J
  have w:h+1<16383:=Nat.le_of_ble_eq_true w
  cases b with
  | dead=>
   have A:=fun R=>yL (R:=R) (cx:=cx) (b:=.b .dead) j d trivial trivial
   have G:=fun R=>wO (R:=R) (cx:=cx) (b:=.b c) (A R).1 w trivial hc.2
   exact ⟨(t.set s (.b .dead)).set h (.b c),h+1,l.trans (O.trans yO),(G R).1,rfl,⟨Nat.le_succ _,fun u B=>(hg (A R).1.1 j.2.1 m u B).trans (hg j.1 (by have:=j.2.1;omega) D u B)⟩,fun R=>by rw [(G R).2,(A R).2];rfl⟩
  | _=>exact hc.1.elim
abbrev Sp:=FuncId->List IV->Lk->Nat->OR
abbrev KV:=IV->RT EB->Nat->An
abbrev KR:=XE->RT IV->RT EB->Nat->An
abbrev RunT:=Nat->List Fr->List Nat->XC->RT IV->RT EB->Nat->KR->An
noncomputable def evO:Opd->RT IV->IV:=@Opd.rec (fun _=>RT IV->IV) (fun n r=>r.get .und n) (fun v _=>v) (fun n _=>.raw (.pointer (some ⟨n,0,none⟩))) (fun n _=>.fn (.func n) [] [])
noncomputable def ev (r:RT IV) (o:Opd):IV:=evO o r
theorem z1l {r:RT IV}:ev r=Opd.ev (rho r):=by funext o;cases o<;>rfl
noncomputable def iFrc:Int->(Int->An)->An:=@Int.rec (fun _=>(Int->An)->An) (fun n k=>frcN n fun m=>k (.ofNat m)) (fun n k=>frcN n fun m=>k (.negSucc m))
theorem zav {n:Int} {k:Int->An}:iFrc n k=k n:=by
 cases n with
 | ofNat a=>exact yO (k:=fun m=>k (.ofNat m))
 | negSucc a=>exact yO (k:=fun m=>k (.negSucc m))
noncomputable def bFrc:Bool->(Bool->An)->An:=@Bool.rec (fun _=>(Bool->An)->An) (fun k=>k false) (fun k=>k true)
theorem z9L {b:Bool} {k:Bool->An}:bFrc b k=k b:=by cases b<;>rfl
noncomputable def frc:IV->(IV->An)->An:=@IV.rec (fun _=>(IV->An)->An) (fun _=>Unit) (fun _=>Unit)
 (fun b k=>bFrc b fun b=>k (.bool b)) (fun kd n k=>iFrc n fun n=>k (.int kd n)) (fun s k=>k (.str s)) (fun v k=>k (.raw v)) (fun k=>k .und)
 (fun s r o k=>frcN r fun r=>frcN o fun o=>k (.ptr s r o)) (fun s o l c k=>frcN o fun o=>frcN l fun l=>frcN c fun c=>k (.sl s o l c)) (fun rs _ k=>k (.isl rs)) (fun rs r o _ k=>k (.iptr rs r o))
 (fun k=>k .esl) (fun k=>k .nsl) (fun cs _ k=>k (.agg cs)) (fun cs _ k=>k (.tup cs)) (fun f a b _ _ k=>k (.fn f a b)) (fun t v _ k=>k (.iface t v)) (fun s k=>k (.mp s)) (fun s k=>k (.yld s))
 () (fun _ _ _ _=>()) () (fun _ _ _ _=>())
theorem zcf {v:IV} {k:IV->An}:frc v k=k v:=by
 cases v with
 | bool b=>exact z9L (k:=fun b=>k (.bool b))
 | int kd n=>exact zav (k:=fun n=>k (.int kd n))
 | ptr s r o=>show frcN r (fun r=>frcN o fun o=>k (.ptr s r o))=_;rw [yO,yO]
 | sl s o l c=>show frcN o (fun o=>frcN l fun l=>frcN c fun c=>k (.sl s o l c))=_;rw [yO,yO,yO]
 | _=>rfl
noncomputable def putF:Option Nat->RT IV->IV->(RT IV->An)->An:=@Option.rec Nat (fun _=>RT IV->IV->(RT IV->An)->An) (fun r _ k=>k r) (fun d r v k=>chk (Nat.blt d 1022) (k (r.set d v)))
theorem z9M {d:Option Nat} {r:RT IV} {v:IV} {k:RT IV->An} (j:r.full 10) (q:putF d r v k≠.no):∃b,putF d r v k=k b/\b.full 10/\rho b=put (rho r) d v:=by
 cases d with
 | none=>exact ⟨r,rfl,j,rfl⟩
 | some d=>
  obtain ⟨h,s⟩:=y5 q
  have h:d<1022:=Nat.le_of_ble_eq_true h
  obtain ⟨m,l⟩:=RT.set_ok .und 10 r d v j od
  exact ⟨r.set d v,s,m,funext fun n=>l n⟩
noncomputable def orF (x:OR) (k:IV->Eff->An):An:=@Option.rec (IV × Eff) (fun _=>An) .no (fun p=>@Prod.rec IV Eff (fun _=>An) k p) x
theorem zcb {x:OR} {k:IV->Eff->An} (b:orF x k≠.no):∃v ef,x=some (v,ef)/\orF x k=k v ef:=by
 cases x with
 | none=>exact absurd rfl b
 | some p=>exact ⟨p.1,p.2,rfl,rfl⟩
structure Kn where
 tab:FuncId->Option (Nat × XFn)
 gl:Nat->Option (List IV)
 sp:Sp
 pr:FuncId->List IV->Option IV
 rd:FuncId->List IV->Lk->Option IV
 df:FuncId->Option (Nat × Nat × List Nat)
def z4h (gl:Nat->Option (List IV)) (g:Nat->IV) (lk:Lk):List jQ->Option (List IV)
 | []=>some []
 | .tmp t::rs=>(z4h gl g lk rs).map (g t::·)
 | .cell1 a::rs=>match wZ gl lk (g a) with
  | some (v,_)=>(z4h gl g lk rs).map (v::·)
  | none=>none
 | .cellN a n::rs=>match Jn gl lk n (g a) with
  | some (v,_)=>(z4h gl g lk rs).map (v::·)
  | none=>none
noncomputable def retF (K:Kn) (F:XFn) (kv:KV):KR:=fun e r t h=>match e with
 | .ret | .normal=>match z4h K.gl (r.get .und) (lkH t h) F.results with
  | some vs=>kv (ZV vs) t h
  | none=>.no
 | _=>.no
def jD:XC->Option (XC × XC)
 | .seq x1 (.seq .bad x3)=>some (x1,x3)
 | _=>none
noncomputable def dfK (K:Kn) (run:RunT) (lo:Nat) (fs:List Fr) (cx:List Nat) (F:XFn) (d k:Nat) (caps:List Nat) (x3:XC) (kv:KV):KR:=fun e r t h=>match e with
 | .normal=>putF (some d) r (.fn (.func k) [] (caps.map (r.get .und))) fun r'=>run lo fs cx x3 r' t h (retF K F kv)
 | _=>.no
noncomputable def bodyG (K:Kn) (run:RunT) (lo:Nat) (fs:List Fr) (cx:List Nat) (f:FuncId) (F:XFn) (args:List IV) (t:RT EB) (h:Nat) (kv:KV):An:=
 match K.df f with
 | none=>run lo fs cx F.body (ofL args) t h (retF K F kv)
 | some (d,k,caps)=>match jD F.body with
  | some (x1,x3)=>run lo fs cx x1 (ofL args) t h (dfK K run lo fs cx F d k caps x3 kv)
  | none=>.no
noncomputable def bodyF (K:Kn) (run:RunT) (lo:Nat) (fs:List Fr) (cx:List Nat) (f:FuncId) (args:List IV) (t:RT EB) (h:Nat) (kv:KV):An:=
 match K.tab f with
 | some (nt,F)=>chk (Nat.ble args.length nt&&Nat.ble args.length 1000) (bodyG K run lo fs cx f F args t h kv)
 | none=>.no
noncomputable def callF (K:Kn) (run:RunT) (lo:Nat) (fs:List Fr) (cx:List Nat) (f:FuncId) (args:List IV) (t:RT EB) (h:Nat) (kv:KV):An:=
 match K.sp f args (lkH t h) h with
 | some (v,ef)=>effM lo t h (fun t' h'=>kv v t' h') ef
 | none=>bodyF K run lo fs cx f args t h kv
noncomputable def ebP:EB->Blk:=@EB.rec (fun _=>Blk) (fun x=>x) (fun _ _=>.dead)
noncomputable def absP (t:RT EB) (h:Nat):List Blk:=(List.range h).map fun s=>ebP (t.get (.b .dead) s)
noncomputable def pcK:KV:=fun v t h=>match conv (absP t h) fuel zW v with
 | some r=>.val r .nil 0
 | none=>.no
noncomputable def pcF (K:Kn) (run:RunT) (f:FuncId) (args:List IV):An:=
 match K.pr f args with
 | some r=>.val r .nil 0
 | none=>bodyF K run 0 [] [] f args (RT.mk (.b .dead) 14) 0 pcK
noncomputable def putR (r:RT IV):List Nat->List IV->RT IV
 | p::ps,x::xs=>putR (r.set p x) ps xs
 | _,_=>r
def zcH:XE->Bool
 | .normal=>true
 | _=>false
noncomputable def yEndF (s k:Nat) (kv:KV):KR:=fun e _ t h=>match t.get (.b .dead) s with
 | .lp k2 .busy=>chk (Nat.beq k2 k&&Nat.blt s h) (match e with
  | .normal=>kv (.bool true) (t.set s (.lp k .ready)) h
  | e=>kv (.bool false) (t.set s (.lp k (.done e))) h)
 | _=>.no
noncomputable def yieldR (run:RunT) (fs:List Fr) (rest:List Nat) (k0:Nat) (fr:Fr) (s:Nat) (args:List IV) (t:RT EB) (h:Nat) (kv:KV):An:=
 chk (Nat.beq s fr.s&&Nat.blt s h&&Nat.beq args.length fr.ps.length&&fr.ps.all (fun p=>Nat.blt p fr.N)&&YF fr.xa&&YF fr.xb) (match t.get (.b .dead) s with
  | .lp k .ready=>chk (Nat.beq k k0) (run 0 fs rest fr.xa (putR fr.r fr.ps args) t h fun e1 r1 t1 h1=>chk (zcH e1&&Nat.blt s h1) (match t1.get (.b .dead) s with
   | .lp k1 .ready=>chk (Nat.beq k1 k) (run 0 fs rest fr.xb r1 (t1.set s (.lp k .busy)) h1 (yEndF s k kv))
   | _=>.no))
  | _=>.no)
noncomputable def yieldF (run:RunT) (fs:List Fr) (cx:List Nat) (s:Nat) (args:List IV) (t:RT EB) (h:Nat) (kv:KV):An:=
 match cx with
 | []=>.no
 | k0::rest=>match z2I fs k0 with
  | some fr=>yieldR run fs rest k0 fr s args t h kv
  | none=>.no
noncomputable def callO (K:Kn) (run:RunT) (lo:Nat) (fs:List Fr) (cx:List Nat) (fv:IV) (args:List IV) (t:RT EB) (h:Nat) (kv:KV):An:=match fv with
 | .fn (.func m) a b=>callF K run lo fs cx m (a++args++b) t h kv
 | .yld s=>chk (Nat.beq lo 0) (yieldF run fs cx s args t h kv)
 | _=>.no
noncomputable def anV (x:An) (k:IV->An):An:=match x with
 | .val v _ _=>k v
 | .no=>.no
noncomputable def roK (h:Nat):KV:=fun v t h'=>match conv (absP t h') fuel (Yf h) v with
 | some r=>.val r .nil 0
 | none=>.no
noncomputable def roF (K:Kn) (run:RunT) (fs:List Fr) (f:FuncId) (args:List IV) (t:RT EB) (h:Nat):An:=match K.rd f args (lkH t h) with
 | some r=>.val r .nil 0
 | none=>bodyF K run h fs [] f args t h (roK h)
noncomputable def pcallO (K:Kn) (run:RunT) (fs:List Fr) (fv:IV) (args:List IV) (t:RT EB) (h:Nat) (k:IV->An):An:=match fv with
 | .fn (.func m) a b=>match zF (conv [] fuel zt) (a++args++b) with
  | some as=>anV (pcF K run m as) fun v=>chk (yX fuel v) (k v)
  | none=>anV (roF K run fs m (a++args++b) t h) fun v=>chk (yX fuel v) (k v)
 | _=>.no
noncomputable def opG (K:Kn) (lo:Nat) (r:RT IV) (t:RT EB) (h:Nat) (kv:KV) (o:XO):An:=orF (opR o K.gl (lkH t h) h (ev r)) fun v ef=>effM lo t h (fun t' h'=>frc v fun v=>kv v t' h') ef
noncomputable def opX:XO->Kn->RunT->Nat->List Fr->List Nat->RT IV->RT EB->Nat->KV->An:=@XO.rec (fun _=>Kn->RunT->Nat->List Fr->List Nat->RT IV->RT EB->Nat->KV->An) (fun x' K _ lo _ _ r t h kv=>opG K lo r t h kv (.mov x')) (fun c' a' b' K _ lo _ _ r t h kv=>opG K lo r t h kv (.pick c' a' b')) (fun z' K _ lo _ _ r t h kv=>opG K lo r t h kv (.alloc z')) (fun x' K _ lo _ _ r t h kv=>opG K lo r t h kv (.box x')) (fun z' p' K _ lo _ _ r t h kv=>opG K lo r t h kv (.build z' p')) (fun s' z' l' p' K _ lo _ _ r t h kv=>opG K lo r t h kv (.bslice s' z' l' p')) (fun a' K _ lo _ _ r t h kv=>opG K lo r t h kv (.load1 a')) (fun n' a' K _ lo _ _ r t h kv=>opG K lo r t h kv (.loadN n' a')) (fun n' a' x' K _ lo _ _ r t h kv=>opG K lo r t h kv (.store n' a' x')) (fun x' K _ lo _ _ r t h kv=>opG K lo r t h kv (.nilck x')) (fun p' x' y' K _ lo _ _ r t h kv=>opG K lo r t h kv (.bin p' x' y')) (fun n' x' y' K _ lo _ _ r t h kv=>opG K lo r t h kv (.eqB n' x' y')) (fun p' x' K _ lo _ _ r t h kv=>opG K lo r t h kv (.un p' x')) (fun n' x' K _ lo _ _ r t h kv=>opG K lo r t h kv (.cvInt n' x')) (fun x' K _ lo _ _ r t h kv=>opG K lo r t h kv (.cvIntStr x')) (fun x' K _ lo _ _ r t h kv=>opG K lo r t h kv (.cvStr x')) (fun n' x' K _ lo _ _ r t h kv=>opG K lo r t h kv (.fldA n' x')) (fun n' m' b' x' K _ lo _ _ r t h kv=>opG K lo r t h kv (.fld n' m' b' x')) (fun n' x' i' K _ lo _ _ r t h kv=>opG K lo r t h kv (.idxS n' x' i')) (fun n' m' x' i' K _ lo _ _ r t h kv=>opG K lo r t h kv (.idxA n' m' x' i')) (fun x' i' K _ lo _ _ r t h kv=>opG K lo r t h kv (.idx x' i')) (fun n' x' l' m' K _ lo _ _ r t h kv=>opG K lo r t h kv (.slice n' x' l' m')) (fun x' l' m' K _ lo _ _ r t h kv=>opG K lo r t h kv (.sliceS x' l' m')) (fun x' K _ lo _ _ r t h kv=>opG K lo r t h kv (.slice0 x')) (fun f' a' b' K _ lo _ _ r t h kv=>opG K lo r t h kv (.mkfn f' a' b')) (fun z' n' l' c' K _ lo _ _ r t h kv=>opG K lo r t h kv (.mkslice z' n' l' c')) (fun x' K _ lo _ _ r t h kv=>opG K lo r t h kv (.len x')) (fun x' K _ lo _ _ r t h kv=>opG K lo r t h kv (.lenS x')) (fun n' m' x' y' K _ lo _ _ r t h kv=>opG K lo r t h kv (.append n' m' x' y')) (fun x' y' K _ lo _ _ r t h kv=>opG K lo r t h kv (.max2 x' y')) (fun x' y' K _ lo _ _ r t h kv=>opG K lo r t h kv (.min2 x' y')) (fun f a K run lo fs cx r t h kv=>callO K run lo fs cx (ev r f) (a.map (ev r)) t h kv) (fun f a K run _ fs _ r t h kv=>pcallO K run fs (ev r f) (a.map (ev r)) t h fun v=>kv v t h) (fun n' m' x' K _ lo _ _ r t h kv=>opG K lo r t h kv (.isNil n' m' x')) (fun x' K _ lo _ _ r t h kv=>opG K lo r t h kv (.rng x')) (fun x' K _ lo _ _ r t h kv=>opG K lo r t h kv (.nxt x')) (fun x' i' K _ lo _ _ r t h kv=>opG K lo r t h kv (.ext x' i')) (fun n' l' K _ lo _ _ r t h kv=>opG K lo r t h kv (.ex n' l'))
noncomputable def opF (K:Kn) (run:RunT) (lo:Nat) (fs:List Fr) (cx:List Nat) (o:XO) (r:RT IV) (t:RT EB) (h:Nat) (kv:KV):An:=opX o K run lo fs cx r t h kv
noncomputable def guV:IV->Bool->An->An->An:=@IV.rec (fun _=>Bool->An->An->An) (fun _=>Unit) (fun _=>Unit) (fun b w g s=>@Bool.rec (fun _=>An) (@Bool.rec (fun _=>An) g s w) (@Bool.rec (fun _=>An) s g w) b) (fun _ _ _ _ _=>.no) (fun _ _ _ _=>.no) (fun _ _ _ _=>.no) (fun _ _ s=>s) (fun _ _ _ _ _ _=>.no) (fun _ _ _ _ _ _ _=>.no) (fun _ _ _ _ _=>.no) (fun _ _ _ _ _ _ _=>.no) (fun _ _ _=>.no) (fun _ _ _=>.no) (fun _ _ _ _ _=>.no) (fun _ _ _ _ _=>.no) (fun _ _ _ _ _ _ _ _=>.no) (fun _ _ _ _ _ _=>.no) (fun _ _ _ _=>.no) (fun _ _ _ _=>.no) () (fun _ _ _ _=>()) () (fun _ _ _ _=>())
noncomputable def guF (g:Option (Nat × Bool)) (r:RT IV) (go skip:An):An:=@Option.rec (Nat × Bool) (fun _=>An) go (fun p=>guV (r.get .und p.1) p.2 go skip) g
noncomputable def opsF (K:Kn) (run:RunT) (lo:Nat) (fs:List Fr) (cx:List Nat) (k:RT IV->RT EB->Nat->An):List zg->RT IV->RT EB->Nat->An:=
 @List.rec zg (fun _=>RT IV->RT EB->Nat->An) k fun o _ ih r t h=>
  guF o.guard r (opF K run lo fs cx o.op r t h fun v t' h'=>putF o.dst r v fun r'=>ih r' t' h') (putF o.dst r .und fun r'=>ih r' t h)
def rdF (o:XO) (e:Opd->IV) (h:Nat):List Nat:=match o with
 | .pcall f as=>match e f with
  | .fn _ a b=>match zF (conv [] fuel zt) (a++as.map e++b) with
   | some _=>[]
   | none=>List.range h
  | _=>[]
 | o=>o.rd e []
def zbD (o:XO) (h h':Nat):List Nat:=match o with
 | .alloc _ | .box _ | .bslice .. | .mkslice ..=>[h]
 | .append ..=>if h'=h then [] else [h]
 | .ex (.appT ..) _=>if h'=h then [] else [h]
 | .ex (.strB _) _=>[h]
 | _=>[]
def apB (r1 w1 r2 w2:List Nat):Bool:=w1.all (fun i=>!r2.contains i&&!w2.contains i)&&w2.all fun i=>!r1.contains i&&!w1.contains i
def zdv (ck r w:List Nat):List (Nat × List Nat × List Nat)->Bool
 | []=>true
 | (i,r1,w1)::lg=>(!ck.contains i||apB r1 w1 r w)&&zdv ck r w lg
noncomputable def opsDF (K:Kn) (run:RunT) (lo:Nat) (fs:List Fr) (cx:List Nat) (k:RT IV->RT EB->Nat->An):List (zg × List Nat × Bool)->Nat->List (Nat × List Nat × List Nat)->RT IV->RT EB->Nat->An
 | [],_,_,r,t,h=>k r t h
 | (o,ck,keep)::l,i,lg,r,t,h=>guF o.guard r
   (opF K run lo fs cx o.op r t h fun v t' h'=>chk (zdv ck (rdF o.op (ev r) h++zbD o.op h h') (o.op.wr (ev r)++zbD o.op h h') lg)
    (putF o.dst r v fun r'=>opsDF K run lo fs cx k l (i+1) (if keep then (i,rdF o.op (ev r) h++zbD o.op h h',o.op.wr (ev r)++zbD o.op h h')::lg else lg) r' t' h'))
   (putF o.dst r .und fun r'=>opsDF K run lo fs cx k l (i+1) lg r' t h)
noncomputable def rngEnd (s k0:Nat) (r:RT IV) (k:KR):KV:=fun _ t h=>match t.get (.b .dead) s with
 | .lp k1 st=>chk (Nat.beq k1 k0&&Nat.blt s h) (match st with
  | .ready=>k .normal r (t.set s (.b .dead)) h
  | .done .normal=>.no
  | .done e=>k e r (t.set s (.b .dead)) h
  | .busy=>.no)
 | .b _=>.no
noncomputable def cdV:IV->An->An->An:=@IV.rec (fun _=>An->An->An) (fun _=>Unit) (fun _=>Unit) (fun b x y=>@Bool.rec (fun _=>An) y x b) (fun _ _ _ _=>.no) (fun _ _ _=>.no) (fun _ _ _=>.no) (fun _ _=>.no) (fun _ _ _ _ _=>.no) (fun _ _ _ _ _ _=>.no) (fun _ _ _ _=>.no) (fun _ _ _ _ _ _=>.no) (fun _ _=>.no) (fun _ _=>.no) (fun _ _ _ _=>.no) (fun _ _ _ _=>.no) (fun _ _ _ _ _ _ _=>.no) (fun _ _ _ _ _=>.no) (fun _ _ _=>.no) (fun _ _ _=>.no) () (fun _ _ _ _=>()) () (fun _ _ _ _=>())
noncomputable def sSeq (run:RunT) (lo:Nat) (fs:List Fr) (cx:List Nat) (b:XC) (k:KR):KR:=fun e r t h=>match e with
 | .normal=>run lo fs cx b r t h k
 | e=>k e r t h
noncomputable def sBlk (id:Nat) (k:KR):KR:=fun e r t h=>match e with
 | .exit i=>match Nat.beq i id with
  | true=>k .normal r t h
  | false=>k (.exit i) r t h
 | e=>k e r t h
noncomputable def sScope (run:RunT) (lo:Nat) (fs:List Fr) (cx:List Nat) (ls:vI) (k:KR):KR:=fun e r t h=>match e with
 | .goto l=>match ls.get l with
  | some c=>run lo fs cx (.scope c ls) r t h k
  | none=>k (.goto l) r t h
 | e=>k e r t h
noncomputable def sRng (K:Kn) (run:RunT) (lo:Nat) (fs:List Fr) (cx:List Nat) (g:Opd) (N:Nat) (ps:List Nat) (asg body:XC) (r:RT IV) (t:RT EB) (h:Nat) (k:KR):An:=match ev r g with
 | .fn (.func gf) [] caps=>chk (Nat.beq lo 0&&Nat.ble N 1000&&Nat.blt (Nat.succ h) 16383) (frcN (Nat.succ h) fun h'=>
   bodyF K run 0 (⟨h,N,ps,asg,body,ofL ((List.range N).map (r.get .und))⟩::fs) (fs.length::cx) gf (.yld h::caps) (t.set h (.lp fs.length .ready)) h' (rngEnd h fs.length r k))
 | _=>.no
noncomputable def stX:XC->Kn->RunT->Nat->List Fr->List Nat->RT IV->RT EB->Nat->KR->An:=@XC.rec (fun _=>Kn->RunT->Nat->List Fr->List Nat->RT IV->RT EB->Nat->KR->An) (fun _=>Unit)
 (fun _ _ _ _ _ r t h k=>k .normal r t h)
 (fun l K run lo fs cx r t h k=>opsF K run lo fs cx (k .normal) l r t h)
 (fun l K run lo fs cx r t h k=>chk (l.all fun o=>o.op.quiet) (opsF K run lo fs cx (k .normal) l r t h))
 (fun l K run lo fs cx r t h k=>opsF K run lo fs cx (k .normal) l r t h)
 (fun l K run lo fs cx r t h k=>opsDF K run lo fs cx (k .normal) l 0 [] r t h)
 (fun _ _ _ _ _ _ _ _ _=>.no)
 (fun g N ps asg body _ _ K run lo fs cx r t h k=>sRng K run lo fs cx g N ps asg body r t h k)
 (fun a b _ _ _ run lo fs cx r t h k=>run lo fs cx a r t h (sSeq run lo fs cx b k))
 (fun c a b _ _ _ run lo fs cx r t h k=>cdV (ev r c) (run lo fs cx a r t h k) (run lo fs cx b r t h k))
 (fun id b _ _ run lo fs cx r t h k=>run lo fs cx b r t h (sBlk id k))
 (fun b _ _ run lo fs cx r t h k=>run lo fs cx b r t h (sSeq run lo fs cx (.loop b) k))
 (fun id _ _ _ _ _ r t h k=>k (.exit id) r t h)
 (fun b ls _ _ _ run lo fs cx r t h k=>run lo fs cx b r t h (sScope run lo fs cx ls k))
 (fun _ _ _ _ _ _ r t h k=>k .normal r t h)
 (fun l _ _ _ _ _ r t h k=>k (.goto l) r t h)
 (fun _ _ _ _ _ r t h k=>k .ret r t h)
 () (fun _ _ _ _ _=>())
noncomputable def rStep (K:Kn) (run:RunT):RunT:=fun lo fs cx c=>stX c K run lo fs cx
noncomputable def runF (K:Kn) (n:Nat):RunT:=@Nat.rec (fun _=>RunT) (fun _ _ _ _ _ _ _ _=>.no) (fun _ ih=>rStep K ih) n
section
variable {E0 E:Env} {R:Nat->Loop} {fs:List Fr} {cx:List Nat}
structure Yd (E0 E:Env):Prop where
 P:E.P=E0.P
 g0:E.g0=E0.g0
 G:E.G=E0.G
 gl:E.gl=E0.gl
theorem Yd.xt {E0 E:Env} (h:Yd E0 E) {f:FuncId} {args:List IV} {L:List Blk} {R:IV->List Blk->Prop} (b:XT E0 f args L R):XT E f args L R:=by
 unfold XT at b ⊢
 rw [h.P,h.g0,h.G]
 exact b
theorem Yd.pan {E0 E:Env} (h:Yd E0 E) {Q:IV->List Blk->Prop}:Yd E0 (E.withPan Q):=⟨h.P,h.g0,h.G,h.gl⟩
theorem Yd.np {E0 E:Env} (h:Yd E0 E):Yd E0 E.noPan:=⟨h.P,h.g0,h.G,h.gl⟩
theorem Yd.defr {E0 E:Env} (h:Yd E0 E) {Q:IV->List Blk->Prop} {lo:Nat} {kept:Nat->Value} {B:List Deferred}:Yd E0 (E.defr Q lo kept B):=⟨h.P,h.g0,h.G,h.gl⟩
def z4F (E0:Env) (f:FuncId) (n:Nat) (rs:List jQ) (x1 x3:XC) (d k:Nat) (caps:List Nat):Prop:=∀E,Yd E0 E->∀(args:List IV) (L:List Blk) (M:Rho->List Blk->Prop) (R:IV->List Blk->Prop),args.length<=n->
 Za (E.defr (fun _ _=>False) 0 (fun _=>undef) []) x1 (entry args) L (zgm M)->
 (∀ρ1 L1,M ρ1 L1->∀lo kept B,Za (E.defr (fun _ _=>False) lo kept B) x3 (put ρ1 (some d) (.fn (.func k) [] (caps.map ρ1))) L1 fun e ρ L'=>(e=.ret\/e=.normal)/\zY E.noPan rs ρ L' fun r=>R r L')->XT E f args L R
structure z3o (K:Kn) (E0:Env):Prop where
 gl:E0.gl=K.gl
 glc:GlC K.gl
 tab : ∀ f n F, K.tab f = some (n, F) → ∃ fn, E0.P.funcs[f]? = some fn ∧ Zz E0.P fn = some F ∧ fn.name ≠ "runtime.NumGoroutine" ∧ fn.ntmps = n ∧ codeOk F.body = true
 sp:∀E,Yd E0 E→∀f args lk n v ef L,K.sp f args lk n=some (v,ef)→jT lk L→n=L.length→(∀(s:Nat) (b:Blk),L[s]?=some b→clB n b)→cl.clL n args→WU E f args L fun v' L'=>v'=v∧L'=ef.app L
 spc:∀f args lk n v ef,K.sp f args lk n=some (v,ef)→LkC lk n→cl.clL n args→cl (ef.up n) v∧clE n ef
 pr:∀f args r,K.pr f args=some r→ZH E0 f args r∧cl 0 r
 rd:∀f args lk r,K.rd f args lk=some r→cl 0 r∧∀L',jT lk L'→XT E0 f args L' fun v L''=>v=r∧L''=L'
 df:∀f n F d k caps x1 x3,K.df f=some (d,k,caps)→K.tab f=some (n,F)→jD F.body=some (x1,x3)→z4F E0 f n F.results x1 x3 d k caps
structure zcy (E0:Env) (R:Nat->Loop) (k:Nat) (fr:Fr):Prop where
 st:(R k).state=.ready
 pe:(R k).pending=none
 lc:JG E0.P fr.N fr.ps fr.xa fr.xb (R k)
def yh (E0:Env) (R:Nat->Loop) (fs:List Fr):List Nat->Env->Prop
 | [],E=>Yd E0 E
 | k::cx,E=>Yd E0 E/\∃fr E1,z2I fs k=some fr/\zcy E0 R k fr/\E.yl=yOf E1 fr.N fr.ps fr.xa fr.xb/\yh E0 R fs cx E1
theorem yh.same (h:yh E0 R fs cx E):Yd E0 E:=by
 cases cx with
 | nil=>exact h
 | cons=>exact h.1
theorem yh.of (h:yh E0 R fs cx E) {E':Env} (hs:Yd E0 E') (j:E'.yl=E.yl):yh E0 R fs cx E':=by
 cases cx with
 | nil=>exact hs
 | cons=>
  obtain ⟨_,fr,E1,m,l,d,b⟩:=h
  exact ⟨hs,fr,E1,m,l,j.trans d,b⟩
theorem yh.pan (h:yh E0 R fs cx E) {Q:IV->List Blk->Prop}:yh E0 R fs cx (E.withPan Q):=h.of h.same.pan rfl
theorem yh.np (h:yh E0 R fs cx E):yh E0 R fs cx E.noPan:=h.of h.same.np rfl
theorem yh.defr (h:yh E0 R fs cx E) {Q:IV->List Blk->Prop} {lo:Nat} {kept:Nat->Value} {B:List Deferred}:yh E0 R fs cx (E.defr Q lo kept B):=h.of h.same.defr rfl
def upR (R:Nat->Loop) (k:Nat) (r0:Loop):Nat->Loop:=fun j=>if j=k then r0 else R j
theorem yh.up {r0:Loop} {fr:Fr}:∀{cx:List Nat} {E:Env},yh E0 R fs cx E->yh E0 (upR R fs.length r0) (fr::fs) cx E
 | [],_,h=>h
 | k::cx,E,⟨h,f,E1,h1,h2,h3,h4⟩=>by
  have d:=z04 h1
  refine ⟨h,f,E1,by rw [VZ d];exact h1,?_,h3,yh.up h4⟩
  have b:upR R fs.length r0 k=R k:=if_neg od
  exact ⟨by rw [b];exact h2.st,by rw [b];exact h2.pe,by rw [b];exact h2.lc⟩
theorem HOk.up {fr:Fr} {t:RT EB} {h:Nat} (d:HOk fs t h):HOk (fr::fs) t h:=⟨d.1,d.2.1,fun s=>by
 have:=d.2.2 s
 cases he:t.get (.b .dead) s with
 | b x=>rw [he] at this;exact ⟨trivial,this.2⟩
 | lp k st=>
  rw [he] at this
  obtain ⟨⟨f,j,l⟩,_⟩:=this
  exact ⟨⟨f,by rw [VZ (z04 j)];exact j,l⟩,trivial⟩⟩
theorem HOk.down {fr:Fr} {t:RT EB} {h:Nat} {b:Blk} (j:HOk (fr::fs) t h) (l:t.get (.b .dead) fr.s=.b b):HOk fs t h:=⟨j.1,j.2.1,fun s=>by
 have:=j.2.2 s
 cases he:t.get (.b .dead) s with
 | b x=>rw [he] at this;exact ⟨trivial,this.2⟩
 | lp k st=>
  rw [he] at this
  obtain ⟨⟨f,d,m⟩,_⟩:=this
  unfold z2I at d
  split at d
  ·cases d;rw [m.1,he] at l;cases l
  ·exact ⟨⟨f,d,m⟩,trivial⟩⟩
theorem z5U {r0:Loop} {fr:Fr} {t:RT EB} {h:Nat} (j:HOk fs t h):absL (upR R fs.length r0) (fr::fs) t h=absL R fs t h:=by
 unfold absL
 refine List.map_congr_left fun s _=>?_
 have:=j.2.2 s
 cases he:t.get (.b .dead) s with
 | b x=>rfl
 | lp k st=>
  rw [he] at this
  obtain ⟨⟨f,l,m⟩,_⟩:=this
  have d:=z04 l
  show Blk.lp (st.at_ (upR R fs.length r0 k)) (frRegs (fr::fs) k)=.lp (st.at_ (R k)) (frRegs fs k)
  unfold frRegs upR
  rw [VZ d,if_neg od]
theorem z03 {gl:Nat->Option (List IV)} {ρ:Rho} {lk:Lk} {L:List Blk} (h:jT lk L) (hg:E.gl=gl):∀{rs:List jQ} {vs:List IV} {K:List IV->Prop},z4h gl ρ lk rs=some vs->K vs->yI E ρ L rs K
 | [],vs,K,hr,hk=>by cases hr;exact hk
 | .tmp t::r,vs,K,hr,hk=>by
  simp only [z4h,oms] at hr
  obtain ⟨l,b,rfl⟩:=hr
  exact z03 h hg (K:=fun vs=>K (_::vs)) b hk
 | .cell1 a::r,vs,K,hr,hk=>by
  simp only [z4h] at hr
  split at hr
  ·rename_i v ef d
   rw [oms] at hr
   obtain ⟨l,b,rfl⟩:=hr
   have j:xop E (.load1 (.t a)) (Opd.ev ρ) L fun v _=>yI E ρ L r fun vs=>K (v::vs):=by
    refine z6e (lk:=lk) (n:=L.length) (ef:=ef) (v:=v) h (.inr rfl) (by rw [hg];exact d) ?_
    exact z03 h hg (K:=fun vs=>K (_::vs)) b hk
   exact j
  ·cases hr
 | .cellN a n::r,vs,K,hr,hk=>by
  simp only [z4h] at hr
  split at hr
  ·rename_i v ef d
   rw [oms] at hr
   obtain ⟨l,b,rfl⟩:=hr
   have j:xop E (.loadN n (.t a)) (Opd.ev ρ) L fun v _=>yI E ρ L r fun vs=>K (v::vs):=by
    refine z6e (lk:=lk) (n:=L.length) (ef:=ef) (v:=v) h (.inr rfl) (by rw [hg];exact d) ?_
    exact z03 h hg (K:=fun vs=>K (_::vs)) b hk
   exact j
  ·cases hr
theorem JI {gl:Nat->Option (List IV)} {n:Nat} {ρ:Rho} {lk:Lk} (j:LkC lk n) (hg:GlC gl) (d:∀i,cl n (ρ i)):∀{rs:List jQ} {vs:List IV},z4h gl ρ lk rs=some vs->cl.clL n vs
 | [],vs,hr=>by cases hr;trivial
 | .tmp t::r,vs,hr=>by
  simp only [z4h,oms] at hr
  obtain ⟨s,h,rfl⟩:=hr
  exact ⟨d t,JI j hg d h⟩
 | .cell1 a::r,vs,hr=>by
  simp only [z4h] at hr
  split at hr
  ·rename_i v ef b
   rw [oms] at hr
   obtain ⟨s,h,rfl⟩:=hr
   have q:=z6l (gl:=gl) (e:=fun _=>ρ a) (o:=.load1 (.t a)) j hg (fun o _=>d a) rfl v ef b
   have l:ef=.no:=by
    unfold wZ at b
    split at b
    ·split at b
     ·cases b;rfl
     ·cases b
    ·cases b
   subst l
   exact ⟨q.1,JI j hg d h⟩
  ·cases hr
 | .cellN a m::r,vs,hr=>by
  simp only [z4h] at hr
  split at hr
  ·rename_i v ef b
   rw [oms] at hr
   obtain ⟨s,h,rfl⟩:=hr
   have q:=z6l (gl:=gl) (e:=fun _=>ρ a) (o:=.loadN m (.t a)) j hg (fun o _=>d a) rfl v ef b
   have l:ef=.no:=by
    unfold Jn at b
    split at b
    ·split at b
     ·cases b;rfl
     ·cases b
    ·cases b
   subst l
   exact ⟨q.1,JI j hg d h⟩
  ·cases hr
theorem z8n {n:Nat} {vs:List IV} (h:cl.clL n vs):cl n (ZV vs):=by
 unfold ZV
 split
 ·exact h.1
 ·exact h
theorem JV {L L':List Blk}:∀{n:Nat} {x:IV},conv L n zt x=conv L' n zt x
 | 0,_=>by simp only [conv]
 | n+1,x=>by
  have b:conv L n zt=conv L' n zt:=funext fun x=>JV
  cases x<;>simp only [conv,zt,b]
theorem jP {L:List Blk} {N M:Nat} (D:∀(s:Nat) (b:Blk),L[s]?=some b->clB N b):∀(k:Nat) (m:Ren) (x y:IV),(∀s t,m s=some (some t)->t<M)->cl N x->conv L k m x=some y->cl M y
 | 0,m,x,y,_,_,h=>by simp only [conv] at h;cases h
 | k+1,m,x,y,j,hx,h=>by
  have L1:∀{M:Nat} {m:Ren} {l B:List IV},(∀s t,m s=some (some t)->t<M)->cl.clL N l->zF (conv L k m) l=some B->cl.clL M B:=fun {M m l B} j I h=>zQ.2 fun y J=>by
   obtain ⟨i,hi⟩:=List.mem_iff_getElem?.1 J
   obtain ⟨z,A,u⟩:=zq h i y hi
   exact jP D k m z y j (zQ.1 I z (List.mem_of_getElem? A)) u
  have L2:∀{m:Ren} {l B:List (List IV)},(∀s t,m.inner s≠some (some t))->cl.clR N l->zF (zF (conv L k m.inner)) l=some B->cl.clR 0 B:=fun {m l B} j I h=>Zg.2 fun y J=>by
   obtain ⟨i,hi⟩:=List.mem_iff_getElem?.1 J
   obtain ⟨z,A,u⟩:=zq h i y hi
   exact L1 (fun s t G=>absurd G (j s t)) (Zg.1 I z (List.mem_of_getElem? A)) u
  have hi:∀s t,m.inner s≠some (some t):=fun s t G=>by
   unfold Ren.inner at G
   split at G<;>cases G
  cases x
  case ptr s r o=>
   simp only [conv] at h
   split at h
   ·rename_i t q;cases h;exact j _ _ q
   ·split at h
    ·rename_i hs
     rw [oms] at h;obtain ⟨rs,d,rfl⟩:=h
     exact L2 hi (D _ _ hs) d
    ·rename_i hs
     rw [oms] at h;obtain ⟨rs,d,rfl⟩:=h
     exact L2 hi (D _ _ hs) d
    ·cases h
   ·cases h
  case sl s o l c=>
   simp only [conv] at h
   split at h
   ·rename_i t q;cases h;exact j _ _ q
   ·split at h
    ·rename_i hs
     split at h
     ·rw [oms] at h;obtain ⟨rs,d,rfl⟩:=h
      exact L2 hi (Yt (Yj (D _ _ hs))) d
     ·cases h
    ·rename_i hs
     split at h
     ·rw [oms] at h;obtain ⟨rs,d,rfl⟩:=h
      exact L2 hi (Yt (Yj (D _ _ hs))) d
     ·cases h
    ·cases h
   ·cases h
  case mp s=>
   simp only [conv] at h
   split at h
   ·rename_i t q;cases h;exact j _ _ q
   ·cases h
  case yld s=>
   simp only [conv] at h
   split at h
   ·rename_i t q;cases h;exact j _ _ q
   ·cases h
  case nsl=>simp only [conv] at h;cases h;trivial
  case esl=>simp only [conv] at h;cases h;trivial
  case agg cs=>simp only [conv,oms] at h;obtain ⟨rs,d,rfl⟩:=h;exact L1 j hx d
  case tup cs=>simp only [conv,oms] at h;obtain ⟨rs,d,rfl⟩:=h;exact L1 j hx d
  case fn f a b=>
   simp only [conv] at h
   split at h
   ·rename_i d O;cases h;exact ⟨L1 j hx.1 d,L1 j hx.2 O⟩
   ·cases h
  case iface t v=>simp only [conv,oms] at h;obtain ⟨w,d,rfl⟩:=h;exact jP D k m v w j hx d
  case isl rows=>simp only [conv] at h;cases h;exact hx
  case iptr rows r o=>simp only [conv] at h;cases h;exact hx
  all_goals (simp only [conv] at h;cases h;trivial)
end
section
variable {E0 E:Env} {R:Nat->Loop} {fs:List Fr} {cx:List Nat} {K:Kn} {run:RunT} {lo:Nat}
def RC (h:Nat) (r:RT IV):Prop:=∀i,cl h (r.get .und i)
theorem RC.mono {h b:Nat} {r:RT IV} (d:RC h r) (hh:h<=b):RC b r:=fun i=>y7 hh _ (d i)
def jm (K:Kn) (E0:Env) (run:RunT):Prop:=∀lo fs cx c r t h k,run lo fs cx c r t h k≠.no->r.full 10->HOk fs t h->RC h r->codeOk c=true->lo<=h->∃e r' t' h',run lo fs cx c r t h k=k e r' t' h'/\r'.full 10/\HOk fs t' h'/\RC h' r'/\Nx lo t h t' h'/\
 ∀E R,yh E0 R fs cx E->Za E c (rho r) (absL R fs t h) fun e' ρ' L'=>e'=e/\ρ'=rho r'/\L'=absL R fs t' h'
def WW (E0:Env) (lo:Nat) (fs:List Fr) (cx:List Nat) (P:Env->List Blk->(IV->List Blk->Prop)->Prop) (t:RT EB) (h:Nat) (x:An) (kv:KV):Prop:=∃v t' h',x=kv v t' h'/\HOk fs t' h'/\cl h' v/\Nx lo t h t' h'/\
 ∀E R,yh E0 R fs cx E->P E (absL R fs t h) fun v' L'=>v'=v/\L'=absL R fs t' h'
theorem z8Q {n:Nat} {l:List IV} (b:l.length<=1000) (h:cl.clL n l):RC n (ofL l):=fun i=>by
 have:rho (ofL l) i=jY l i:=congrFun (z3l b).2 i
 show cl n (rho (ofL l) i)
 rw [this];exact YR h
theorem z5a (m:z3o K E0) {F:XFn} {kv:KV} {e:XE} {r:RT IV} {t:RT EB} {h:Nat} (d:retF K F kv e r t h≠.no) (q:HOk fs t h) (hc:RC h r):∃v,retF K F kv e r t h=kv v t h/\cl h v/\(e=.ret\/e=.normal)/\
  ∀E R,E.gl=K.gl->zY E F.results (rho r) (absL R fs t h) fun j=>j=v:=by
 have key:∀vs,z4h K.gl (r.get .und) (lkH t h) F.results=some vs->cl h (ZV vs)/\∀E R,E.gl=K.gl->zY E F.results (rho r) (absL R fs t h) fun j=>j=ZV vs:=fun vs b=>
  ⟨z8n (JI (z4X q) m.glc hc b),fun E R hg=>z03 (K:=fun l=>ZV l=ZV vs) z3i hg b rfl⟩
 unfold retF at d ⊢
 cases e with
 | exit=>exact absurd rfl d
 | goto=>exact absurd rfl d
 | ret=>
  simp only at d ⊢
  split at d
  ·rename_i vs b;exact ⟨_,rfl,(key vs b).1,.inl trivial,(key vs b).2⟩
  ·exact absurd rfl d
 | normal=>
  simp only at d ⊢
  split at d
  ·rename_i vs b;exact ⟨_,rfl,(key vs b).1,.inr trivial,(key vs b).2⟩
  ·exact absurd rfl d
theorem Y0 {ρ:Rho} {L:List Blk}:∀{rs:List jQ} {Q Q':List IV->Prop},(∀v,Q v->Q' v)->yI E ρ L rs Q->yI E ρ L rs Q'
 | [],_,_,hq,h=>hq _ h
 | .tmp t::rs,Q,Q',hq,h=>Y0 (rs:=rs) (Q:=fun vs=>Q (ρ t::vs)) (Q':=fun vs=>Q' (ρ t::vs)) (fun vs b=>hq _ b) h
 | .cell1 a::rs,Q,Q',hq,h=>ZC (E:=E) (o:=.load1 (.t a)) (e:=Opd.ev ρ) (L:=L) (K:=fun r _=>yI E ρ L rs fun vs=>Q (r::vs)) (K':=fun r _=>yI E ρ L rs fun vs=>Q' (r::vs)) (fun v _ b=>Y0 (fun vs b=>hq (v::vs) b) b) h
 | .cellN a n::rs,Q,Q',hq,h=>ZC (E:=E) (o:=.loadN n (.t a)) (e:=Opd.ev ρ) (L:=L) (K:=fun r _=>yI E ρ L rs fun vs=>Q (r::vs)) (K':=fun r _=>yI E ρ L rs fun vs=>Q' (r::vs)) (fun v _ b=>Y0 (fun vs b=>hq (v::vs) b) b) h
theorem z3K {c x1 x3:XC} (h:jD c=some (x1,x3)):c=.seq x1 (.seq .bad x3):=by
 unfold jD at h
 split at h
 ·cases h;rfl
 ·cases h
theorem VL {d:Option Nat} {r:RT IV} {v:IV} {k:RT IV->An} {h:Nat} (u:r.full 10) (hc:RC h r) (m:cl h v) (l:putF d r v k≠.no):∃b,putF d r v k=k b/\b.full 10/\RC h b/\rho b=put (rho r) d v:=by
 obtain ⟨b,s,q,j⟩:=z9M u l
 refine ⟨b,s,q,fun i=>?_,j⟩
 show cl h (rho b i)
 rw [j]
 cases d with
 | none=>exact hc i
 | some d=>
  show cl h (if i=d then v else rho r i)
  split
  ·exact m
  ·exact hc i
theorem Vl (r:z3o K E0) (Y:jm K E0 run) {f:FuncId} {args:List IV} {t:RT EB} {h:Nat} {kv:KV} (b:bodyF K run lo fs cx f args t h kv≠.no) (ho:HOk fs t h) (ha:cl.clL h args) (l:lo<=h) :
  WW E0 lo fs cx (fun E L Q=>XT E f args L Q) t h (bodyF K run lo fs cx f args t h kv) kv:=by
 unfold bodyF at b ⊢
 split at b
 case h_2=>exact absurd rfl b
 rename_i nt F hT
 obtain ⟨fn,hf,hF,ae,af,j⟩:=r.tab _ _ _ hT
 obtain ⟨M,h2⟩:=y5 b
 rw [h2] at b ⊢
 rw [Bool.and_eq_true] at M
 have ag:args.length<=nt:=Nat.le_of_ble_eq_true M.1
 have hb:args.length<=1000:=Nat.le_of_ble_eq_true M.2
 obtain ⟨h3,h4⟩:=z3l hb
 have s:=z8Q hb ha
 have he:rho (ofL args)=entry args:=by rw [h4];rfl
 unfold bodyG at b ⊢
 split at b
 ·rename_i hd
  obtain ⟨e,r',t',h',T,h6,I,G,D,m⟩:=Y _ _ _ _ _ _ _ _ b h3 ho s j l
  rw [T] at b ⊢
  obtain ⟨v,J,O,X,S⟩:=z5a r b I G
  refine ⟨v,t',h',J,I,O,D,fun E R hc=>?_⟩
  have u:=m (E.withPan fun _ _=>False) R hc.pan
  rw [he] at u
  refine z2H (VS (fn:=fn) (F:=F) (by rw [hc.same.P];exact hf) (by rw [hc.same.P];exact hF) ae od (zn _ ?_ u))
  rintro e' ρ' L' ⟨rfl,rfl,rfl⟩
  exact ⟨X,Y0 (fun vs Z=>⟨Z,rfl⟩) (S _ R (by show E.gl=_;rw [hc.same.gl,r.gl]))⟩
 ·rename_i d k caps hd
  split at b
  case h_2=>exact absurd rfl b
  rename_i x1 x3 hp
  have q:=z3K hp
  rw [q] at j
  simp only [codeOk,Bool.and_eq_true] at j
  obtain ⟨e,r1,t1,w,T,h6,I,G,D,m⟩:=Y _ _ _ _ _ _ _ _ b h3 ho s j.1 l
  rw [T] at b ⊢
  cases e
  case exit=>exact absurd rfl b
  case goto=>exact absurd rfl b
  case ret=>exact absurd rfl b
  case normal=>
  dsimp only [dfK] at b ⊢
  have A:cl w (.fn (.func k) [] (caps.map (r1.get .und))):=⟨trivial,z3c fun x _=>G x⟩
  obtain ⟨r2,g1,g2,g3,g4⟩:=VL h6 G A b
  rw [g1] at b ⊢
  obtain ⟨e2,r3,t3,U,p1,p2,p3,p4,p5,p6⟩:=Y _ _ _ _ _ _ _ _ b g2 I g3 j.2.2 (Nat.le_trans l D.1)
  rw [p1] at b ⊢
  obtain ⟨v,q1,q2,q3,q4⟩:=z5a r b p3 p4
  refine ⟨v,t3,U,q1,p3,q2,D.trans p5,fun E R hc=>?_⟩
  refine r.df f nt F d k caps x1 x3 hd hT hp E hc.same args _ (fun ρ L=>ρ=rho r1/\L=absL R fs t1 w) _ od ?_ ?_
  ·have:=m _ R (hc.defr (Q:=fun _ _=>False) (lo:=0) (kept:=fun _=>undef) (B:=[]))
   rw [he] at this
   refine zn _ ?_ this
   rintro _ _ _ ⟨rfl,rfl,rfl⟩
   exact ⟨rfl,rfl⟩
  ·rintro _ _ ⟨rfl,rfl⟩ V kept B
   have:=p6 _ R (hc.defr (Q:=fun _ _=>False) (lo:=V) (kept:=kept) (B:=B))
   rw [g4] at this
   refine zn _ ?_ this
   rintro _ _ _ ⟨rfl,rfl,rfl⟩
   exact ⟨q3,Y0 (fun vs Z=>⟨Z,rfl⟩) (q4 E.noPan R (by show E.gl=_;rw [hc.same.gl,r.gl]))⟩
theorem z8l (s:z3o K E0) (A:jm K E0 run) {f:FuncId} {args:List IV} {t:RT EB} {h:Nat} {kv:KV} (d:callF K run lo fs cx f args t h kv≠.no) (j:HOk fs t h) (ha:cl.clL h args) (b:lo<=h) :
  WW E0 lo fs cx (fun E L Q=>WU E f args L Q) t h (callF K run lo fs cx f args t h kv) kv:=by
 unfold callF at d ⊢
 split at d
 ·rename_i v ef hs
  obtain ⟨D,B⟩:=s.spc _ _ _ _ _ _ hs (z4X j) ha
  obtain ⟨t',q,m,u,r,l,w⟩:=z6P (R:=fun _=>default) j b B d
  refine ⟨v,t',q,m,u,by rw [r];exact D,l,fun E R hc=>?_⟩
  rw [w R]
  exact s.sp E hc.same _ _ _ _ _ _ _ hs z3i Zw.symm (z00 j) ha
 ·rename_i hs
  obtain ⟨v,t',q,m,u,r,l,w⟩:=Vl s A d j ha b
  exact ⟨v,t',q,m,u,r,l,fun E R hc=>YH (w E R hc) fun _ _ h=>h⟩
theorem zaJ {t:RT EB} {h:Nat} (d:HOk [] t h):absL R [] t h=absP t h:=by
 unfold absL absP
 refine List.map_congr_left fun s _=>?_
 have:=d.2.2 s
 cases he:t.get (.b .dead) s with
 | b x=>rfl
 | lp k st=>rw [he] at this;obtain ⟨⟨f,j,_⟩,_⟩:=this;cases j
theorem za0:HOk [] (RT.mk (.b .dead) 14) 0:=⟨RT.full_mk _ _,od,fun s=>by rw [RT.get_mk];exact ⟨trivial,trivial⟩⟩
theorem z8f {L:List Blk}:Keep none' [] L:=⟨Nat.zero_le _,fun t b=>by cases b⟩
theorem z7t:Yf 0=zW:=by funext s;simp [Yf,zW]
theorem z9b (q:z3o K E0) (A:jm K E0 run) {f:FuncId} {args:List IV} {v:IV} {t:RT EB} {h:Nat} (ha:cl.clL 0 args) (d:pcF K run f args=.val v t h):ZH E0 f args v/\cl 0 v:=by
 unfold pcF at d
 split at d
 ·rename_i r J;cases d;exact q.pr _ _ _ J
 ·have m:bodyF K run 0 [] [] f args (RT.mk (.b .dead) 14) 0 pcK≠.no:=by rw [d];exact An.noConfusion
  obtain ⟨Q,t',S,j,u,D,O,I⟩:=Vl q A m za0 ha (Nat.le_refl _)
  rw [d] at j
  unfold pcK at j
  split at j
  ·rename_i r hc
   cases j
   have w:=I E0 (fun _=>default) ⟨rfl,rfl,rfl,rfl⟩
   have l:absL (fun _=>default) [] (RT.mk (.b .dead) 14) 0=[]:=rfl
   rw [l] at w
   rw [<-zaJ (R:=fun _=>default) u] at hc
   refine ⟨(z2e (R':=fun B=>B=v) w ?_).mono fun r L' hh=>hh,jP (M:=0) (z00 (R:=fun _=>default) u) _ _ _ _ (fun s t G=>by cases G) D hc⟩
   rintro r L' ⟨rfl,rfl⟩
   refine ⟨z8f,v,?_,rfl⟩
   show conv _ fuel (Yf 0) _=_
   rw [z7t];exact hc
  ·cases j
theorem wF {P:Nat->Prop}:∀{n:Nat} {x:IV},yX n x=true->allN P x
 | 0,_,h=>by cases h
 | n+1,x,h=>by
  have d:∀{l:List IV},l.all (yX n)=true->allN.allL P l:=fun {l} d=>Vr.2 fun x j=>wF (by rw [List.all_eq_true] at d;exact d x j)
  cases x<;>simp only [yX] at h<;>first
   | trivial
   | cases h
   | skip
  case agg cs=>exact d h
  case tup cs=>exact d h
  case fn f a b=>rw [Bool.and_eq_true] at h;exact ⟨d h.1,d h.2⟩
  case iface t v=>exact wF (x:=v) h
theorem jw {t:RT EB} {h:Nat}:∀{n:Nat} {m:Ren} {x:IV},conv (absP t h) n m x=conv (absL R fs t h) n m x
 | 0,_,_=>by simp only [conv]
 | n+1,m,x=>by
  have u:∀m,conv (absP t h) n m=conv (absL R fs t h) n m:=fun m=>funext fun x=>jw
  have hs:∀s,(absP t h)[s]?=(absL R fs t h)[s]?\/((absP t h)[s]?=some Blk.dead/\∃r l,(absL R fs t h)[s]?=some (Blk.lp r l)):=fun s=>by
   have q:∀hh:s<h,(absP t h)[s]?=some (ebP (t.get (.b .dead) s)):=fun hh=>by
    unfold absP;rw [List.getElem?_map,List.getElem?_range hh];rfl
   by_cases hh:s<h
   ·cases he:t.get (.b .dead) s with
    | b x=>left;rw [q hh,ZE,if_pos hh,he];rfl
    | lp k st=>right;exact ⟨by rw [q hh,he];rfl,_,_,by rw [ZE,if_pos hh,he];rfl⟩
   ·left
    rw [ZE,if_neg hh]
    unfold absP
    rw [List.getElem?_map,List.getElem?_eq_none (by simpa using hh)];rfl
  cases x<;>simp only [conv,u]
  case ptr s r o=>
   rcases hs s with d | ⟨d,r,l,j⟩
   ·rw [d]
   ·rw [d,j]
  case sl s o l c=>
   rcases hs s with d | ⟨d,r,l,j⟩
   ·rw [d]
   ·rw [d,j]
theorem zbE (O:z3o K E0) (S:jm K E0 run) {f:FuncId} {args:List IV} {v:IV} {t t0:RT EB} {h V:Nat} (Q:HOk fs t h) (ha:cl.clL h args) (Y:yX fuel v=true) (m:roF K run fs f args t h=.val v t0 V) :
  cl h v/\∀E R,Yd E0 E->∀L',(∀i,i<(absL R fs t h).length->L'[i]?=(absL R fs t h)[i]?)->XT E f args L' fun r L''=>r=v/\L''=L':=by
 unfold roF at m
 split at m
 ·rename_i r G;cases m
  obtain ⟨j,I⟩:=O.rd _ _ _ _ G
  refine ⟨y7 (Nat.zero_le _) _ j,fun E R hs L' l=>hs.xt (I L' fun s b B=>?_)⟩
  have q:=z3i (R:=R) (cx:=fs) s b B
  rw [l s (List.getElem?_eq_some_iff.1 q).1];exact q
 ·have J:bodyF K run h fs [] f args t h (roK h)≠.no:=by rw [m];exact An.noConfusion
  obtain ⟨v',t',h',j,I,q,A,X⟩:=Vl O S J Q ha (Nat.le_refl _)
  rw [m] at j
  unfold roK at j
  split at j
  ·rename_i r hc
   cases j
   refine ⟨jP (M:=h) (z00 (R:=fun _=>default) I) _ _ _ _ (fun s t w=>?_) q (by rw [<-jw];exact hc),fun E R hs L' l=>?_⟩
   ·unfold Yf at w
    split at w
    ·cases w;assumption
    ·cases w
   ·have d:(absL R fs t h).length=h:=Zw
    have U:=X E R hs
    have Z:XT E f args (absL R fs t h) fun r L'=>r=v/\L'=absL R fs t h:=by
     refine z2e (R':=fun T=>T=v) U ?_
     rintro r L2 ⟨rfl,rfl⟩
     refine ⟨⟨by rw [Zw,Zw];exact A.1,fun u D _=>?_⟩,v,?_,rfl⟩
     ·rw [d] at D
      have:=A.1
      rw [ZE,ZE,if_pos od,if_pos D,A.2 u D]
     ·rw [d,<-jw];exact hc
    exact z7L l (by rw [d];exact ha) (fun s b B=>by rw [d];exact z00 Q s b B) (wF Y) Z
  ·cases j
theorem z6h {N:Nat} (s:N<=1000):∀(ps:List Nat) (args:List IV) (r:RT IV) (l:List IV),(∀p∈ps,p<N)->l.length=N->r.full 10->rho r=jY l->(putR r ps args).full 10/\rho (putR r ps args)=jY (z5w l ps args)
 | [],args,r,l,_,_,h1,h2=>⟨h1,h2⟩
 | p::ps,[],r,l,_,_,h1,h2=>⟨h1,h2⟩
 | p::ps,x::xs,r,l,hp,hl,h1,h2=>by
  have m:=hp p List.mem_cons_self
  obtain ⟨h,b⟩:=RT.set_ok .und 10 r p x h1 od
  refine z6h s ps xs (r.set p x) (l.set p x) (fun q j=>hp q (List.mem_cons_of_mem _ j)) (by simpa using hl) h (funext fun n=>?_)
  show (r.set p x).get .und n=(l.set p x).getD n .und
  rw [b,List.getD_eq_getElem?_getD,List.getElem?_set]
  have d:r.get .und n=l.getD n .und:=congrFun h2 n
  by_cases hn:n=p
  ·subst hn;rw [if_pos rfl,if_pos rfl,if_pos od];rfl
  ·rw [if_neg hn,if_neg (Ne.symm hn),d,List.getD_eq_getElem?_getD]
theorem VV {k:Nat} {fr:Fr} (h:z2I fs k=some fr):frRegs fs k=(List.range fr.N).map (rho fr.r):=by unfold frRegs;rw [h]
theorem z5u {fr:Fr} (h:FrG fr):rho fr.r=jY ((List.range fr.N).map (rho fr.r))/\fr.r.full 10:=by
 have q:=h.N
 obtain ⟨l,m,j⟩:=h.r
 obtain ⟨b,d⟩:=z3l (l:=l) od
 rw [j]
 refine ⟨funext fun n=>?_,b⟩
 rw [d]
 simp only [jY,List.getD_eq_getElem?_getD,List.getElem?_map]
 by_cases hn:n<fr.N
 ·rw [List.getElem?_range hn];rfl
 ·rw [List.getElem?_eq_none od,List.getElem?_eq_none (by simpa using hn)];rfl
theorem z5M {n:Nat}:∀(ps:List Nat) (args:List IV) (r:RT IV),r.full 10->(∀p∈ps,p<1000)->RC n r->cl.clL n args->RC n (putR r ps args)
 | [],args,r,_,_,hr,_=>hr
 | p::ps,[],r,_,_,hr,_=>hr
 | p::ps,x::xs,r,hf,hp,hr,ha=>by
  have j:=hp p List.mem_cons_self
  obtain ⟨d,b⟩:=RT.set_ok .und 10 r p x hf od
  refine z5M ps xs (r.set p x) d (fun q h=>hp q (List.mem_cons_of_mem _ h)) (fun i=>?_) ha.2
  rw [b]
  split
  ·exact ha.1
  ·exact hr i
theorem z7G (hr:jm K E0 run) {l:List Nat} {k0 s:Nat} {fr:Fr} {args:List IV} {t:RT EB} {h:Nat} {kv:KV} (m:z2I fs k0=some fr) (d:yieldR run fs l k0 fr s args t h kv≠.no) (ho:HOk fs t h) (ha:cl.clL h args) :
  ∃v t' V,yieldR run fs l k0 fr s args t h kv=kv v t' V/\HOk fs t' V/\cl V v/\Nx 0 t h t' V/\∀E1 R,yh E0 R fs l E1->zcy E0 R k0 fr->yOf E1 fr.N fr.ps fr.xa fr.xb s args (absL R fs t h) fun Z L'=>Z=v/\L'=absL R fs t' V:=by
 unfold yieldR at d ⊢
 obtain ⟨h1,h2⟩:=y5 d
 rw [h2] at d ⊢
 simp only [Bool.and_eq_true] at h1
 obtain ⟨⟨⟨⟨⟨X,a2⟩,a3⟩,T⟩,a5⟩,a6⟩:=h1
 have X:s=fr.s:=Nat.eq_of_beq_eq_true X
 have a2:s<h:=Nat.le_of_ble_eq_true a2
 have a3:args.length=fr.ps.length:=Nat.eq_of_beq_eq_true a3
 have T:∀p∈fr.ps,p<fr.N:=fun p hp=>by
  rw [List.all_eq_true] at T
  exact Nat.le_of_ble_eq_true (T p hp)
 have ae:=(ho.2.2 s).1
 split at d
 case h_2=>exact absurd rfl d
 rename_i k hk
 rw [hk] at ae
 obtain ⟨fr',b1,b2,w⟩:=ae
 obtain ⟨c1,c2⟩:=y5 d
 rw [c2] at d ⊢
 have c1:k=k0:=Nat.eq_of_beq_eq_true c1
 subst c1
 rw [m] at b1;cases b1
 obtain ⟨d1,d2⟩:=z5u w
 have dl:((List.range fr.N).map (rho fr.r)).length=fr.N:=by simp
 obtain ⟨d3,d4⟩:=z6h w.N fr.ps args fr.r _ T dl d2 d1
 have bN:=w.N
 have d5:RC h (putR fr.r fr.ps args):=z5M fr.ps args fr.r d2 (fun p hp=>by have:=T p hp;omega) (fun i=>y7 od _ (w.c i)) ha
 obtain ⟨e1,r1,t1,D,f1,f2,f3,f5,f6,f4⟩:=hr _ _ _ _ _ _ _ _ d d3 ho d5 w.xa (Nat.zero_le _)
 rw [f1] at d ⊢
 obtain ⟨g1,g2⟩:=y5 d
 rw [g2] at d ⊢
 rw [Bool.and_eq_true] at g1
 have g3:s<D:=Nat.le_of_ble_eq_true g1.2
 have g4:e1=.normal:=by cases e1<;>first | rfl | cases g1.1
 subst g4
 split at d
 case h_2=>exact absurd rfl d
 rename_i k1 af
 obtain ⟨i1,i2⟩:=y5 d
 rw [i2] at d ⊢
 have i1:k1=k:=Nat.eq_of_beq_eq_true i1
 subst i1
 have G:(EB.lp k1 .busy).in fs s:=⟨fr,m,X.symm,w⟩
 have ag:HOk fs (t1.set s (.lp k1 .busy)) D:=(yL (R:=fun _=>default) f3 g3 G trivial).1
 obtain ⟨e,r2,t2,j,j1,j2,j3,j5,j6,j4⟩:=hr _ _ _ _ _ _ _ _ d f2 ag f5 w.xb (Nat.zero_le _)
 have A:h<=j:=Nat.le_trans f6.1 j6.1
 rw [j1] at d ⊢
 unfold yEndF at d ⊢
 split at d
 case h_2=>exact absurd rfl d
 rename_i k2 ah
 obtain ⟨l1,l2⟩:=y5 d
 rw [l2] at d ⊢
 rw [Bool.and_eq_true] at l1
 have l3:k2=k1:=Nat.eq_of_beq_eq_true l1.1
 have l4:s<j:=Nat.le_of_ble_eq_true l1.2
 subst l3
 have key:∀(v:IV) (st:LS),(∀R,zcy E0 R k2 fr->∀L2,L2=absL R fs t2 j->zdj (R k2) ((List.range fr.N).map (rho fr.r)) s (fun Z L'=>Z=v/\L'=absL R fs (t2.set s (.lp k2 st)) j) e L2)->
   HOk fs (t2.set s (.lp k2 st)) j/\∀E1 R,yh E0 R fs l E1->zcy E0 R k2 fr->yOf E1 fr.N fr.ps fr.xa fr.xb s args (absL R fs t h) fun Z L'=>Z=v/\L'=absL R fs (t2.set s (.lp k2 st)) j:=by
  intro v st Y
  have q:(EB.lp k2 st).in fs s:=⟨fr,m,X.symm,w⟩
  refine ⟨(yL (R:=fun _=>default) j3 l4 q trivial).1,fun E1 R hc I=>?_⟩
  have U:=VV m
  have O:∀{t:RT EB} {h:Nat} {st:LS},s<h->t.get (.b .dead) s=.lp k2 st->(absL R fs t h)[s]?=some (.lp (st.at_ (R k2)) ((List.range fr.N).map (rho fr.r))):=fun {t h st} hs ht=>by
   rw [ZE,if_pos hs,ht];show some (Blk.lp _ (frRegs fs k2))=_;rw [U]
  refine ⟨R k2,(List.range fr.N).map (rho fr.r),O a2 hk,I.st,I.pe,by rw [hc.same.P];exact I.lc,a3,T,a5,a6,dl,?_⟩
  have m1:=f4 E1 R hc
  rw [d4] at m1
  refine zn _ ?_ m1
  rintro _ _ _ ⟨rfl,rfl,rfl⟩
  refine ⟨rfl,O g3 af,?_⟩
  have m2:=j4 E1 R hc
  have m3:absL R fs (t1.set s (.lp k2 .busy)) D=(absL R fs t1 D).set s (.lp { R k2 with state:=.busy } ((List.range fr.N).map (rho fr.r))):=by
   rw [(yL (R:=R) f3 g3 G trivial).2];show List.set _ _ (Blk.lp _ (frRegs fs k2))=_;rw [U];rfl
  rw [m3] at m2
  refine zn _ ?_ m2
  rintro _ _ _ ⟨rfl,rfl,rfl⟩
  exact ⟨O l4 ah,Y R I _ rfl⟩
 have B:∀(R:Nat->Loop) (st:LS),absL R fs (t2.set s (.lp k2 st)) j=(absL R fs t2 j).set s (.lp (st.at_ (R k2)) ((List.range fr.N).map (rho fr.r))):=fun R st=>by
  have q:(EB.lp k2 st).in fs s:=⟨fr,m,X.symm,w⟩
  rw [(yL (R:=R) j3 l4 q trivial).2];show List.set _ _ (Blk.lp _ (frRegs fs k2))=_;rw [VV m]
 cases e with
 | normal=>
  obtain ⟨S,J⟩:=key (.bool true) .ready fun R I L2 Q=>⟨rfl,by rw [B,Q];rfl⟩
  exact ⟨_,_,_,rfl,S,trivial,⟨A,fun u M=>absurd M (Nat.not_lt_zero u)⟩,J⟩
 | ret=>
  obtain ⟨S,J⟩:=key (.bool false) (.done .ret) fun R I L2 Q=>⟨rfl,by rw [B,Q];rfl⟩
  exact ⟨_,_,_,rfl,S,trivial,⟨A,fun u M=>absurd M (Nat.not_lt_zero u)⟩,J⟩
 | exit i=>
  obtain ⟨S,J⟩:=key (.bool false) (.done (.exit i)) fun R I L2 Q=>⟨rfl,by rw [B,Q];rfl⟩
  exact ⟨_,_,_,rfl,S,trivial,⟨A,fun u M=>absurd M (Nat.not_lt_zero u)⟩,J⟩
 | goto i=>
  obtain ⟨S,J⟩:=key (.bool false) (.done (.goto i)) fun R I L2 Q=>⟨rfl,by rw [B,Q];rfl⟩
  exact ⟨_,_,_,rfl,S,trivial,⟨A,fun u M=>absurd M (Nat.not_lt_zero u)⟩,J⟩
theorem zcs (q:z3o K E0) {o:XO} {r:RT IV} {t:RT EB} {h:Nat} {kv:KV} (d:opG K lo r t h kv o≠.no) (s:HOk fs t h) (hc:RC h r) (b:zaL o=true) (j:lo<=h) :
  WW E0 lo fs cx (fun E L Q=>xop E o (Opd.ev (rho r)) L Q) t h (opG K lo r t h kv o) kv:=by
 unfold opG at d ⊢
 obtain ⟨v,ef,A,u⟩:=zcb d
 rw [u] at d
 have m:=zci A
 have I:∀o,yj o=true->cl h (ev r o):=fun o b=>by
  cases o with
  | t n=>exact hc n
  | c v=>exact je b
  | g n=>trivial
  | f n=>exact ⟨trivial,trivial⟩
 obtain ⟨M,G⟩:=z6l (z4X s) q.glc I b v ef m
 obtain ⟨t',B,D,w,O,J,S⟩:=z6P (R:=fun _=>default) s j G d
 refine ⟨v,t',B,by rw [u,D,zcf],w,by rw [O];exact M,J,fun E R l=>?_⟩
 rw [z1l] at m
 exact z6e z3i (.inr Zw.symm) (by rw [l.same.gl,q.gl];exact m) ⟨rfl,(S R).symm⟩
theorem zab {args as:List IV} (h:zF (conv [] fuel zt) args=some as) {n:Nat} (ha:cl.clL n args):cl.clL 0 as:=zQ.2 fun y q=>by
 obtain ⟨i,hi⟩:=List.mem_iff_getElem?.1 q
 obtain ⟨z,j,d⟩:=zq h i y hi
 exact jP (L:=[]) (N:=n) (fun s b l=>by cases l) _ _ _ _ (fun s t m=>by cases m) (zQ.1 ha z (List.mem_of_getElem? j)) d
theorem z8J (V:z3o K E0) (U:jm K E0 run) {o:XO} {r:RT IV} {t:RT EB} {h:Nat} {kv:KV} (d:opF K run lo fs cx o r t h kv≠.no) (G:HOk fs t h) (hc:RC h r) (q:zaL o=true) (M:lo<=h) :
  WW E0 lo fs cx (fun E L Q=>xop E o (Opd.ev (rho r)) L Q) t h (opF K run lo fs cx o r t h kv) kv:=by
 have he:∀o,yj o=true->cl h (ev r o):=fun o q=>by
  cases o with
  | t n=>exact hc n
  | c v=>exact je q
  | g n=>trivial
  | f n=>exact ⟨trivial,trivial⟩
 have hm:∀{l:List Opd},l.all yj=true->cl.clL h (l.map (ev r)):=fun {l} hl=>z3c fun x d=>he x (by rw [List.all_eq_true] at hl;exact hl x d)
 cases o
 case call f args=>
  replace d:callO K run lo fs cx (ev r f) (args.map (ev r)) t h kv≠.no:=d
  show WW E0 lo fs cx _ t h (callO K run lo fs cx (ev r f) (args.map (ev r)) t h kv) kv
  simp only [zaL,Bool.and_eq_true] at q
  have j:=he f q.1
  have w:=hm q.2
  rw [z1l] at d j w ⊢
  unfold callO at d ⊢
  split at d
  ·rename_i m a b A
   rw [A] at j
   obtain ⟨v,t',h',B,D,h3,X,h5⟩:=z8l (kv:=kv) V U d G (WR.2 ⟨WR.2 ⟨j.1,w⟩,j.2⟩) M
   refine ⟨v,t',h',B,D,h3,X,fun E R u=>?_⟩
   simp only [xop,A]
   exact h5 E R u
  ·rename_i s A
   obtain ⟨I,c2⟩:=y5 d
   rw [c2] at d ⊢
   have I:lo=0:=Nat.eq_of_beq_eq_true I
   subst I
   unfold yieldF at d ⊢
   split at d
   ·exact absurd rfl d
   ·rename_i k0 af
    split at d
    ·rename_i fr J
     obtain ⟨v,t',h',B,D,h3,X,h5⟩:=z7G (kv:=kv) U J d G w
     refine ⟨v,t',h',B,D,h3,X,fun E R u=>?_⟩
     simp only [xop,A]
     obtain ⟨_,fr',E1,I,c2,c3,c4⟩:=u
     rw [J] at I;cases I
     rw [c3]
     exact h5 E1 R c4 c2
    ·exact absurd rfl d
  ·exact absurd rfl d
 case pcall f args=>
  replace d:pcallO K run fs (ev r f) (args.map (ev r)) t h (fun v=>kv v t h)≠.no:=d
  show WW E0 lo fs cx _ t h (pcallO K run fs (ev r f) (args.map (ev r)) t h (fun v=>kv v t h)) kv
  simp only [zaL,Bool.and_eq_true] at q
  have j:=he f q.1
  have w:=hm q.2
  rw [z1l] at d j w ⊢
  unfold pcallO at d ⊢
  split at d
  ·rename_i m a b A
   rw [A] at j
   have S:=WR.2 ⟨WR.2 ⟨j.1,w⟩,j.2⟩
   have O:∀R,conv (absL R fs t h) fuel zt=conv [] fuel zt:=fun R=>funext fun x=>JV
   split at d
   ·rename_i as T
    unfold anV at d ⊢
    split at d
    ·rename_i v _ _ hv
     obtain ⟨B,D⟩:=y5 d
     obtain ⟨Y,Z⟩:=z9b V U (zab T S) hv
     refine ⟨v,t,h,D,G,y7 (Nat.zero_le _) _ Z,Nx.refl,fun E R u=>?_⟩
     simp only [xop,A]
     refine .inl ⟨false,as,v,?_,u.same.xt Y,(fun h=>by cases h),fun m=>wC B,rfl,trivial⟩
     rw [<-T]
     show zF (conv _ fuel zt) _=_
     rw [O]
    ·exact absurd rfl d
   ·rename_i ae
    unfold anV at d ⊢
    split at d
    ·rename_i v _ _ hv
     obtain ⟨B,D⟩:=y5 d
     obtain ⟨Y,Z⟩:=zbE V U G S B hv
     refine ⟨v,t,h,D,G,Y,Nx.refl,fun E R u=>?_⟩
     simp only [xop,A]
     refine .inr ⟨v,by rw [O];exact ae,Z E R u.same,rfl,trivial⟩
    ·exact absurd rfl d
  ·exact absurd rfl d
 all_goals exact zcs V d G hc q M
theorem z8T {g:Option (Nat × Bool)} {r:RT IV} {h skip:An} (j:guF g r h skip≠.no):(guF g r h skip=h/\(g=none\/∃t b,g=some (t,b)/\rho r t=.bool b))\/(guF g r h skip=skip/\∃t d,g=some (t,d)/\((∃b,rho r t=.bool b/\b≠d)\/rho r t=.und)):=by
 cases g with
 | none=>exact .inl ⟨rfl,.inl rfl⟩
 | some p=>
  obtain ⟨t,d⟩:=p
  have j:guV (r.get .und t) d h skip≠.no:=j
  show (guV (r.get .und t) d h skip=h/\_)\/(guV (r.get .und t) d h skip=skip/\_)
  cases hb:r.get .und t<;>rw [hb] at j<;>first
   | exact absurd rfl j
   | skip
  case bool b=>
   cases b<;>cases d
   ·exact .inl ⟨rfl,.inr ⟨t,_,rfl,hb⟩⟩
   ·exact .inr ⟨rfl,t,_,rfl,.inl ⟨_,hb,by decide⟩⟩
   ·exact .inr ⟨rfl,t,_,rfl,.inl ⟨_,hb,by decide⟩⟩
   ·exact .inl ⟨rfl,.inr ⟨t,_,rfl,hb⟩⟩
  case und=>exact .inr ⟨rfl,t,d,rfl,.inr hb⟩
def z1w (E0:Env) (lo:Nat) (fs:List Fr) (cx:List Nat) (P:Env->Rho->List Blk->(Rho->List Blk->Prop)->Prop) (r:RT IV) (t:RT EB) (h:Nat) (x:An) (k:RT IV->RT EB->Nat->An):Prop:=∃r' t' h',x=k r' t' h'/\r'.full 10/\HOk fs t' h'/\RC h' r'/\Nx lo t h t' h'/\
 ∀E R,yh E0 R fs cx E->P E (rho r) (absL R fs t h) fun ρ' L'=>ρ'=rho r'/\L'=absL R fs t' h'
theorem jI (J:z3o K E0) (A:jm K E0 run) {k:RT IV->RT EB->Nat->An}:∀{l:List zg} {r:RT IV} {t:RT EB} {h:Nat},opsF K run lo fs cx k l r t h≠.no->r.full 10->HOk fs t h->RC h r->l.all z2T=true->lo<=h->
  z1w E0 lo fs cx (fun E=>Y7 E l) r t h (opsF K run lo fs cx k l r t h) k
 | [],r,t,h,d,hf,ho,hc,hok,hlo=>⟨r,t,h,rfl,hf,ho,hc,Nx.refl,fun E R Z=>⟨rfl,rfl⟩⟩
 | o::l,r,t,h,d,hf,ho,hc,hok,hlo=>by
  simp only [List.all_cons,Bool.and_eq_true] at hok
  have d:guF o.guard r (opF K run lo fs cx o.op r t h fun v t' m=>putF o.dst r v fun j=>opsF K run lo fs cx k l j t' m) (putF o.dst r .und fun j=>opsF K run lo fs cx k l j t h)≠.no:=d
  show z1w E0 lo fs cx _ r t h (guF o.guard r (opF K run lo fs cx o.op r t h fun v t' m=>putF o.dst r v fun j=>opsF K run lo fs cx k l j t' m) (putF o.dst r .und fun j=>opsF K run lo fs cx k l j t h)) k
  rcases z8T d with ⟨w,O⟩ | ⟨w,O⟩
  ·rw [w] at d ⊢
   obtain ⟨v,t1,h3,Y,o1,X,M,s1⟩:=z8J (cx:=cx) J A d ho hc hok.1 hlo
   rw [Y] at d ⊢
   dsimp only at d ⊢
   obtain ⟨r1,s,B,S,u⟩:=VL hf (hc.mono M.1) X d
   rw [s] at d ⊢
   obtain ⟨j,t',m,D,f3,T,q3,G,Q⟩:=jI J A d B o1 S hok.2 (Nat.le_trans hlo M.1)
   refine ⟨j,t',m,D,f3,T,q3,M.trans G,fun E R hc=>?_⟩
   have key:xop E o.op (Opd.ev (rho r)) (absL R fs t h) fun v L'=>Y7 E l (put (rho r) o.dst v) L' fun ρ' L'=>ρ'=rho j/\L'=absL R fs t' m:=by
    refine ZC ?_ (s1 E R hc)
    rintro _ _ ⟨rfl,rfl⟩
    rw [<-u];exact Q E R hc
   simp only [Y7]
   rcases O with hg | ⟨tt,b,hg,q⟩
   ·rw [hg];exact key
   ·rw [hg];simp only [q];exact ⟨fun _=>key,fun I=>absurd rfl I⟩
  ·rw [w] at d ⊢
   obtain ⟨r1,s,B,S,u⟩:=VL (v:=.und) hf hc trivial d
   rw [s] at d ⊢
   obtain ⟨j,t',m,D,f3,T,q3,G,Q⟩:=jI J A d B ho S hok.2 hlo
   refine ⟨j,t',m,D,f3,T,q3,G,fun E R hc=>?_⟩
   have key:=Q E R hc
   rw [u] at key
   obtain ⟨tt,U,hg,q⟩:=O
   simp only [Y7]
   rw [hg]
   rcases q with ⟨b,q,I⟩ | q
   ·simp only [q];exact ⟨fun V=>absurd V I,fun _=>key⟩
   ·simp only [q];exact key
theorem z8Z {o:XO} {e:Opd->IV} {h:Nat} {L:List Blk} (d:L.length=h):rdF o e h=o.rd e L:=by
 cases o
 case ex k xs=>cases k<;>rfl
 case pcall f as=>
  simp only [rdF,XO.rd,show conv L fuel zt=conv [] fuel zt from funext fun x=>JV,d]
  cases e f<;>first
   | rfl
   | (rename_i g a b;cases zF (conv [] fuel zt) (a++as.map e++b)<;>rfl)
 all_goals rfl
theorem z5L {o:XO} {h d:Nat} {L L':List Blk} (j:L.length=h) (b:L'.length=d):zbD o h d=yQ o L L':=by
 subst j;subst b
 cases o<;>rfl
theorem zbB {r1 b r2 d:List Nat} (h:apB r1 b r2 d=true):Ap r1 b r2 d:=by
 simp only [apB,Bool.and_eq_true,List.all_eq_true,Bool.not_eq_true',List.contains_eq_mem,decide_eq_false_iff_not] at h
 exact ⟨fun i hi=>h.1 i hi,fun i hi=>h.2 i hi⟩
theorem z5i {d r w:List Nat}:∀{lg:List (Nat × List Nat × List Nat)},zdv d r w lg=true->z3f d r w lg
 | [],_=>trivial
 | (i,r1,w1)::lg,h=>by
  simp only [zdv,Bool.and_eq_true,Bool.or_eq_true,Bool.not_eq_true',List.contains_eq_mem,decide_eq_false_iff_not] at h
  refine ⟨fun hi=>?_,z5i h.2⟩
  rcases h.1 with b | b
  ·exact absurd hi b
  ·exact zbB b
theorem JY (M:z3o K E0) (s:jm K E0 run) {k:RT IV->RT EB->Nat->An}:∀{l:List (zg × List Nat × Bool)} {i:Nat} {lg:List (Nat × List Nat × List Nat)} {r:RT IV} {t:RT EB} {h:Nat},opsDF K run lo fs cx k l i lg r t h≠.no->r.full 10->HOk fs t h->RC h r->(l.all fun p=>z2T p.1)=true->lo<=h->
  z1w E0 lo fs cx (fun E=>Zo E i lg l) r t h (opsDF K run lo fs cx k l i lg r t h) k
 | [],i,lg,r,t,h,hx,hf,ho,hc,hok,hlo=>⟨r,t,h,rfl,hf,ho,hc,Nx.refl,fun E R ae=>⟨rfl,rfl⟩⟩
 | (o,ck,keep)::l,i,lg,r,t,h,hx,hf,ho,hc,hok,hlo=>by
  simp only [List.all_cons,Bool.and_eq_true] at hok
  unfold opsDF at hx ⊢
  rcases z8T hx with ⟨q,Q⟩ | ⟨q,Q⟩
  ·rw [q] at hx ⊢
   obtain ⟨v,t1,V,e1,o1,u1,O,Y⟩:=z8J (cx:=cx) M s hx ho hc hok.1 hlo
   rw [e1] at hx ⊢
   dsimp only at hx ⊢
   obtain ⟨c1,Z⟩:=y5 hx
   rw [Z] at hx ⊢
   obtain ⟨r1,m,u,T,j⟩:=VL hf (hc.mono O.1) u1 hx
   rw [m] at hx ⊢
   obtain ⟨A,t',G,w,f3,U,q3,D,S⟩:=JY M s hx u o1 T hok.2 (Nat.le_trans hlo O.1)
   refine ⟨A,t',G,w,f3,U,q3,O.trans D,fun E R hc=>?_⟩
   have I:=z5i c1
   rw [z1l,z8Z (L:=absL R fs t h) Zw,z5L (L:=absL R fs t h) (L':=absL R fs t1 V) Zw Zw] at I
   have B:=S E R hc
   rw [z1l,z8Z (L:=absL R fs t h) Zw,z5L (L:=absL R fs t h) (L':=absL R fs t1 V) Zw Zw] at B
   simp only [Zo]
   rcases Q with hg | ⟨tt,b,hg,d⟩
   ·rw [hg]
    refine ZC ?_ (Y E R hc)
    rintro _ _ ⟨rfl,rfl⟩
    rw [<-j];exact ⟨I,B⟩
   ·rw [hg]
    simp only [d]
    refine ⟨fun _=>?_,fun J=>absurd rfl J⟩
    refine ZC ?_ (Y E R hc)
    rintro _ _ ⟨rfl,rfl⟩
    rw [<-j];exact ⟨I,B⟩
  ·rw [q] at hx ⊢
   obtain ⟨r1,m,u,T,j⟩:=VL (v:=.und) hf hc trivial hx
   rw [m] at hx ⊢
   obtain ⟨A,t',G,w,f3,U,q3,D,S⟩:=JY M s hx u ho T hok.2 hlo
   refine ⟨A,t',G,w,f3,U,q3,D,fun E R hc=>?_⟩
   have key:=S E R hc
   rw [j] at key
   obtain ⟨tt,X,hg,d⟩:=Q
   simp only [Zo]
   rw [hg]
   rcases d with ⟨b,d,J⟩ | d
   ·simp only [d];exact ⟨fun he=>absurd he J,fun _=>key⟩
   ·simp only [d];exact key
theorem z5x {s k0:Nat} {r:RT IV} {k:KR} {v:IV} {t:RT EB} {h:Nat} (d:rngEnd s k0 r k v t h≠.no):∃st e,t.get (.b .dead) s=.lp k0 st/\s<h/\rngEnd s k0 r k v t h=k e r (t.set s (.b .dead)) h/\
  ((st=.ready/\e=.normal)\/(st=.done e/\e≠.normal)):=by
 unfold rngEnd at d ⊢
 split at d
 ·rename_i k1 st l
  obtain ⟨j,w⟩:=y5 d
  rw [w] at d ⊢
  rw [Bool.and_eq_true] at j
  have q:k1=k0:=Nat.eq_of_beq_eq_true j.1
  subst q
  refine ⟨st,?_⟩
  split at d
  ·exact ⟨.normal,l,Nat.le_of_ble_eq_true j.2,rfl,.inl ⟨rfl,rfl⟩⟩
  ·exact absurd rfl d
  ·rename_i e u
   exact ⟨e,l,Nat.le_of_ble_eq_true j.2,rfl,.inr ⟨rfl,fun m=>u (by rw [m])⟩⟩
  ·exact absurd rfl d
 ·exact absurd rfl d
theorem zcq {x:IV} {a b:An} (d:cdV x a b≠.no):(x=.bool true/\cdV x a b=a)\/(x=.bool false/\cdV x a b=b):=by
 cases x<;>first
  | exact absurd rfl d
  | skip
 rename_i h
 cases h
 ·exact .inr ⟨rfl,rfl⟩
 ·exact .inl ⟨rfl,rfl⟩
theorem z7E (hk:z3o K E0) (Q:jm K E0 run):jm K E0 (rStep K run):=by
 intro lo fs cx c r t h k U O I hc j w
 cases c
 case skip=>exact ⟨.normal,r,t,h,rfl,O,I,hc,Nx.refl,fun E R d=>⟨rfl,rfl,rfl⟩⟩
 case label=>exact ⟨.normal,r,t,h,rfl,O,I,hc,Nx.refl,fun E R d=>⟨rfl,rfl,rfl⟩⟩
 case exit i=>exact ⟨(.exit i),r,t,h,rfl,O,I,hc,Nx.refl,fun E R d=>⟨rfl,rfl,rfl⟩⟩
 case goto i=>exact ⟨(.goto i),r,t,h,rfl,O,I,hc,Nx.refl,fun E R d=>⟨rfl,rfl,rfl⟩⟩
 case ret=>exact ⟨.ret,r,t,h,rfl,O,I,hc,Nx.refl,fun E R d=>⟨rfl,rfl,rfl⟩⟩
 case bad=>exact absurd rfl U
 case ops l=>
  obtain ⟨S,t',D,A,M,h3,J,h6,h4⟩:=jI (k:=k .normal) hk Q (l:=l) U O I hc j w
  refine ⟨.normal,S,t',D,A,M,h3,J,h6,fun E R d=>ZG ?_ (h4 E R d)⟩
  rintro _ _ ⟨rfl,rfl⟩;first | exact ⟨rfl,rfl,rfl⟩ | exact ⟨trivial,rfl,rfl⟩ | exact ⟨trivial,trivial,rfl⟩ | exact ⟨trivial,trivial,trivial⟩ | exact ⟨rfl,trivial,trivial⟩ | exact ⟨trivial,rfl⟩ | exact ⟨trivial,trivial⟩ | exact ⟨rfl,trivial,rfl⟩
 case drawE l=>
  obtain ⟨S,t',D,A,M,h3,J,h6,h4⟩:=jI (k:=k .normal) hk Q (l:=l) U O I hc j w
  refine ⟨.normal,S,t',D,A,M,h3,J,h6,fun E R d=>?_⟩
  simp only [Za]
  refine ZG ?_ (h4 E R d)
  rintro _ _ ⟨rfl,rfl⟩;first | exact ⟨rfl,rfl,rfl⟩ | exact ⟨trivial,rfl,rfl⟩ | exact ⟨trivial,trivial,rfl⟩ | exact ⟨trivial,trivial,trivial⟩ | exact ⟨rfl,trivial,trivial⟩ | exact ⟨trivial,rfl⟩ | exact ⟨trivial,trivial⟩ | exact ⟨rfl,trivial,rfl⟩
 case draw l=>
  obtain ⟨c1,c2⟩:=y5 U
  have s:opsF K run lo fs cx (k .normal) l r t h≠.no:=by rw [<-c2];exact U
  obtain ⟨S,t',D,A,M,h3,J,h6,h4⟩:=jI (k:=k .normal) hk Q (l:=l) s O I hc j w
  refine ⟨.normal,S,t',D,c2.trans A,M,h3,J,h6,fun E R d=>⟨c1,ZG ?_ (h4 E R d)⟩⟩
  rintro _ _ ⟨rfl,rfl⟩;first | exact ⟨rfl,rfl,rfl⟩ | exact ⟨trivial,rfl,rfl⟩ | exact ⟨trivial,trivial,rfl⟩ | exact ⟨trivial,trivial,trivial⟩ | exact ⟨rfl,trivial,trivial⟩ | exact ⟨trivial,rfl⟩ | exact ⟨trivial,trivial⟩ | exact ⟨rfl,trivial,rfl⟩
 case drawR l=>
  obtain ⟨S,t',D,A,M,h3,J,h6,h4⟩:=JY (k:=k .normal) hk Q (l:=l) U O I hc j w
  refine ⟨.normal,S,t',D,A,M,h3,J,h6,fun E R d=>?_⟩
  simp only [Za]
  refine yB ?_ (h4 E R d)
  rintro _ _ ⟨rfl,rfl⟩;first | exact ⟨rfl,rfl,rfl⟩ | exact ⟨trivial,rfl,rfl⟩ | exact ⟨trivial,trivial,rfl⟩ | exact ⟨trivial,trivial,trivial⟩ | exact ⟨rfl,trivial,trivial⟩ | exact ⟨trivial,rfl⟩ | exact ⟨trivial,trivial⟩ | exact ⟨rfl,trivial,rfl⟩
 case seq a b=>
  simp only [codeOk,Bool.and_eq_true] at j
  have s:run lo fs cx a r t h (sSeq run lo fs cx b k)≠.no:=U
  obtain ⟨e1,r1,t1,A,q1,T,q3,q5,q6,q4⟩:=Q _ _ _ _ _ _ _ _ s O I hc j.1 w
  show ∃e S t' D,run lo fs cx a r t h (sSeq run lo fs cx b k)=_/\_
  rw [q1] at s ⊢
  cases e1
  case normal=>
   obtain ⟨Y,r2,t2,M,Z,p2,p3,p5,p6,p4⟩:=Q _ _ _ _ _ _ _ _ s T q3 q5 j.2 (Nat.le_trans w q6.1)
   refine ⟨Y,r2,t2,M,Z,p2,p3,p5,q6.trans p6,fun E R d=>?_⟩
   simp only [Za]
   refine zn _ ?_ (q4 E R d)
   rintro _ _ _ ⟨rfl,rfl,rfl⟩;exact p4 E R d
  all_goals
   refine ⟨_,r1,t1,A,rfl,T,q3,q5,q6,fun E R d=>?_⟩
   simp only [Za]
   refine zn _ ?_ (q4 E R d)
   rintro _ _ _ ⟨rfl,rfl,rfl⟩;first | exact ⟨rfl,rfl,rfl⟩ | exact ⟨trivial,rfl,rfl⟩ | exact ⟨trivial,trivial,rfl⟩ | exact ⟨trivial,trivial,trivial⟩ | exact ⟨rfl,trivial,trivial⟩ | exact ⟨trivial,rfl⟩ | exact ⟨trivial,trivial⟩ | exact ⟨rfl,trivial,rfl⟩
 case cond q a b=>
  simp only [codeOk,Bool.and_eq_true] at j
  have s:cdV (ev r q) (run lo fs cx a r t h k) (run lo fs cx b r t h k)≠.no:=U
  show ∃e S t' D,cdV (ev r q) (run lo fs cx a r t h k) (run lo fs cx b r t h k)=_/\_
  rcases zcq s with ⟨hb,A⟩ | ⟨hb,A⟩
  ·rw [A] at s ⊢
   rw [z1l] at hb
   obtain ⟨Y,r2,t2,M,Z,p2,p3,p5,p6,p4⟩:=Q _ _ _ _ _ _ _ _ s O I hc j.1.2 w
   refine ⟨Y,r2,t2,M,Z,p2,p3,p5,p6,fun E R d=>?_⟩
   simp only [Za];rw [hb];exact ⟨fun _=>p4 E R d,fun hn=>(by cases hn)⟩
  ·rw [A] at s ⊢
   rw [z1l] at hb
   obtain ⟨Y,r2,t2,M,Z,p2,p3,p5,p6,p4⟩:=Q _ _ _ _ _ _ _ _ s O I hc j.2 w
   refine ⟨Y,r2,t2,M,Z,p2,p3,p5,p6,fun E R d=>?_⟩
   simp only [Za];rw [hb];exact ⟨fun hn=>(by cases hn),fun _=>p4 E R d⟩
 case block id b=>
  simp only [codeOk] at j
  have s:run lo fs cx b r t h (sBlk id k)≠.no:=U
  obtain ⟨e1,r1,t1,A,q1,T,q3,q5,q6,q4⟩:=Q _ _ _ _ _ _ _ _ s O I hc j w
  show ∃e S t' D,run lo fs cx b r t h (sBlk id k)=_/\_
  rw [q1] at s ⊢
  cases e1
  case exit i=>
   dsimp only [sBlk] at s ⊢
   split at s
   ·rename_i hi
    have hi:i=id:=Nat.eq_of_beq_eq_true hi
    refine ⟨.normal,r1,t1,A,rfl,T,q3,q5,q6,fun E R d=>?_⟩
    simp only [Za]
    refine zn _ ?_ (q4 E R d)
    rintro _ _ _ ⟨rfl,rfl,rfl⟩;simp only [XE.inBlock];rw [if_pos hi];first | exact ⟨rfl,rfl,rfl⟩ | exact ⟨trivial,rfl,rfl⟩ | exact ⟨trivial,trivial,rfl⟩ | exact ⟨trivial,trivial,trivial⟩ | exact ⟨rfl,trivial,trivial⟩ | exact ⟨trivial,rfl⟩ | exact ⟨trivial,trivial⟩ | exact ⟨rfl,trivial,rfl⟩
   ·rename_i hi
    have hi:i≠id:=fun he=>by rw [he,Nat.beq_refl] at hi;cases hi
    refine ⟨.exit i,r1,t1,A,rfl,T,q3,q5,q6,fun E R d=>?_⟩
    simp only [Za]
    refine zn _ ?_ (q4 E R d)
    rintro _ _ _ ⟨rfl,rfl,rfl⟩;simp only [XE.inBlock];rw [if_neg hi];first | exact ⟨rfl,rfl,rfl⟩ | exact ⟨trivial,rfl,rfl⟩ | exact ⟨trivial,trivial,rfl⟩ | exact ⟨trivial,trivial,trivial⟩ | exact ⟨rfl,trivial,trivial⟩ | exact ⟨trivial,rfl⟩ | exact ⟨trivial,trivial⟩ | exact ⟨rfl,trivial,rfl⟩
  all_goals
   refine ⟨_,r1,t1,A,rfl,T,q3,q5,q6,fun E R d=>?_⟩
   simp only [Za]
   refine zn _ ?_ (q4 E R d)
   rintro _ _ _ ⟨rfl,rfl,rfl⟩;first | exact ⟨rfl,rfl,rfl⟩ | exact ⟨trivial,rfl,rfl⟩ | exact ⟨trivial,trivial,rfl⟩ | exact ⟨trivial,trivial,trivial⟩ | exact ⟨rfl,trivial,trivial⟩ | exact ⟨trivial,rfl⟩ | exact ⟨trivial,trivial⟩ | exact ⟨rfl,trivial,rfl⟩
 case loop b=>
  have s:run lo fs cx b r t h (sSeq run lo fs cx (.loop b) k)≠.no:=U
  have B:codeOk b=true:=by simpa only [codeOk] using j
  obtain ⟨e1,r1,t1,A,q1,T,q3,q5,q6,q4⟩:=Q _ _ _ _ _ _ _ _ s O I hc B w
  show ∃e S t' D,run lo fs cx b r t h (sSeq run lo fs cx (.loop b) k)=_/\_
  rw [q1] at s ⊢
  cases e1
  case normal=>
   obtain ⟨Y,r2,t2,M,Z,p2,p3,p5,p6,p4⟩:=Q _ _ _ _ _ _ _ _ s T q3 q5 j (Nat.le_trans w q6.1)
   refine ⟨Y,r2,t2,M,Z,p2,p3,p5,q6.trans p6,fun E R d=>?_⟩
   have J:=p4 E R d
   simp only [Za] at J ⊢
   obtain ⟨m,J⟩:=J
   refine ⟨m+1,zn _ ?_ (q4 E R d)⟩
   rintro _ _ _ ⟨rfl,rfl,rfl⟩;exact J
  all_goals
   refine ⟨_,r1,t1,A,rfl,T,q3,q5,q6,fun E R d=>?_⟩
   simp only [Za]
   refine ⟨1,zn _ ?_ (q4 E R d)⟩
   rintro _ _ _ ⟨rfl,rfl,rfl⟩;first | exact ⟨rfl,rfl,rfl⟩ | exact ⟨trivial,rfl,rfl⟩ | exact ⟨trivial,trivial,rfl⟩ | exact ⟨trivial,trivial,trivial⟩ | exact ⟨rfl,trivial,trivial⟩ | exact ⟨trivial,rfl⟩ | exact ⟨trivial,trivial⟩ | exact ⟨rfl,trivial,rfl⟩
 case scope b ls=>
  have B:=j
  simp only [codeOk,Bool.and_eq_true] at B
  have s:run lo fs cx b r t h (sScope run lo fs cx ls k)≠.no:=U
  obtain ⟨e1,r1,t1,A,q1,T,q3,q5,q6,q4⟩:=Q _ _ _ _ _ _ _ _ s O I hc B.1 w
  show ∃e S t' D,run lo fs cx b r t h (sScope run lo fs cx ls k)=_/\_
  rw [q1] at s ⊢
  cases e1
  case goto l=>
   dsimp only [sScope] at s ⊢
   split at s
   ·rename_i c X
    have bg:codeOk (.scope c ls)=true:=by simp only [codeOk,Bool.and_eq_true];exact ⟨Ju B.2 X,B.2⟩
    obtain ⟨Y,r2,t2,M,Z,p2,p3,p5,p6,p4⟩:=Q _ _ _ _ _ _ _ _ s T q3 q5 bg (Nat.le_trans w q6.1)
    refine ⟨Y,r2,t2,M,Z,p2,p3,p5,q6.trans p6,fun E R d=>?_⟩
    have J:=p4 E R d
    simp only [Za] at J ⊢
    obtain ⟨m,J⟩:=J
    refine ⟨m+1,zn _ ?_ (q4 E R d)⟩
    rintro _ _ _ ⟨rfl,rfl,rfl⟩
    unfold yG;rw [z0h,X];exact J
   ·rename_i X
    refine ⟨_,r1,t1,A,rfl,T,q3,q5,q6,fun E R d=>?_⟩
    simp only [Za]
    refine ⟨0,zn _ ?_ (q4 E R d)⟩
    rintro _ _ _ ⟨rfl,rfl,rfl⟩
    unfold yG;rw [z0h,X];first | exact ⟨rfl,rfl,rfl⟩ | exact ⟨trivial,rfl,rfl⟩ | exact ⟨trivial,trivial,rfl⟩ | exact ⟨trivial,trivial,trivial⟩ | exact ⟨rfl,trivial,trivial⟩ | exact ⟨trivial,rfl⟩ | exact ⟨trivial,trivial⟩ | exact ⟨rfl,trivial,rfl⟩
  all_goals
   refine ⟨_,r1,t1,A,rfl,T,q3,q5,q6,fun E R d=>?_⟩
   simp only [Za]
   refine ⟨0,zn _ ?_ (q4 E R d)⟩
   rintro _ _ _ ⟨rfl,rfl,rfl⟩;first | exact ⟨rfl,rfl,rfl⟩ | exact ⟨trivial,rfl,rfl⟩ | exact ⟨trivial,trivial,rfl⟩ | exact ⟨trivial,trivial,trivial⟩ | exact ⟨rfl,trivial,trivial⟩ | exact ⟨trivial,rfl⟩ | exact ⟨trivial,trivial⟩ | exact ⟨rfl,trivial,rfl⟩
 case rngF g N ps ae body=>
  let fr:Fr:=⟨h,N,ps,ae,body,ofL ((List.range N).map (r.get .und))⟩
  simp only [codeOk,Bool.and_eq_true] at j
  have s:sRng K run lo fs cx g N ps ae body r t h k≠.no:=U
  show ∃e S t' D,sRng K run lo fs cx g N ps ae body r t h k=_/\_
  unfold sRng at s ⊢
  have ai:cl h (ev r g):=by
   cases g with
   | t n=>exact hc n
   | c v=>exact je j.1.1
   | g n=>trivial
   | f n=>exact ⟨trivial,trivial⟩
  rw [z1l] at s ai ⊢
  split at s
  case h_2=>exact absurd rfl s
  rename_i gf caps hg
  rw [hg] at ai
  obtain ⟨c1,c2⟩:=y5 s
  rw [c2,yO] at s ⊢
  simp only [Bool.and_eq_true] at c1
  have c0:lo=0:=Nat.eq_of_beq_eq_true c1.1.1
  have c3:N<=1000:=Nat.le_of_ble_eq_true c1.1.2
  have c4:h+1<16383:=Nat.le_of_ble_eq_true c1.2
  have hl:((List.range N).map (r.get .und)).length=N:=by simp
  have bu:cl.clL h ((List.range N).map (r.get .und)):=z3c fun x _=>hc x
  have hG:FrG fr:=⟨c3,⟨_,hl,rfl⟩,j.1.2,j.2,z8Q od bu⟩
  have ah:z2I (fr::fs) fs.length=some fr:=if_pos rfl
  have bi:(EB.lp fs.length .ready).in (fr::fs) h:=⟨fr,ah,rfl,hG⟩
  have ax:=fun R=>wO (R:=R) (HOk.up (fr:=fr) I) c4 bi trivial
  obtain ⟨v,t',D,d1,d2,d3,d4,d7⟩:=Vl hk Q s (ax (fun _=>default)).1 ⟨Nat.lt_succ_self _,yz (Nat.le_succ _) _ ai.2⟩ (Nat.zero_le _)
  rw [d1] at s ⊢
  obtain ⟨st,e,f1,f2,f3,f4⟩:=z5x s
  have ag:=fun R=>yL (R:=R) (b:=.b .dead) d2 f2 trivial trivial
  have aj:(t'.set h (.b .dead)).get (.b .dead) h=.b .dead:=by
   rw [(RT.set_ok (.b .dead) 14 t' h (.b .dead) d2.1 (by have:=d2.2.1;omega)).2,if_pos rfl]
  have bf:HOk fs (t'.set h (.b .dead)) D:=HOk.down (fr:=fr) (ag (fun _=>default)).1 aj
  have af:frRegs (fr::fs) fs.length=(List.range N).map (rho r):=by
   rw [VV ah]
   show (List.range N).map (rho (ofL ((List.range N).map (r.get .und))))=_
   rw [(z3l (l:=(List.range N).map (r.get .und)) od).2]
   apply List.ext_getElem?
   intro i
   simp only [List.getElem?_map]
   by_cases hi:i<N
   ·rw [List.getElem?_range hi]
    simp only [Option.map_some,jY,List.getD_eq_getElem?_getD,List.getElem?_map,List.getElem?_range hi];rfl
   ·rw [List.getElem?_eq_none (by simpa using hi)];rfl
  refine ⟨e,r,t'.set h (.b .dead),D,f3,O,bf,hc.mono (Nat.le_trans (Nat.le_succ h) d4.1),⟨Nat.le_trans (Nat.le_succ h) d4.1,fun u hu=>absurd hu od⟩,fun E R d=>?_⟩
  simp only [Za,hg]
  intro r0 s1 s2 s3
  let R':=upR R fs.length r0
  have V:R' fs.length=r0:=if_pos rfl
  have bn:zcy E0 R' fs.length fr:=⟨by rw [V];exact s1,by rw [V];exact s2,by rw [V,<-d.same.P];exact s3⟩
  have az:yh E0 R' (fr::fs) (fs.length::cx) ((E.withY N ps ae body).withPan fun _ _=>False):=⟨⟨d.same.P,d.same.g0,d.same.G,d.same.gl⟩,fr,E.noPan,ah,bn,rfl,d.np.up⟩
  have hL:absL R fs t h++[.lp r0 ((List.range N).map (rho r))]=absL R' (fr::fs) (t.set h (.lp fs.length .ready)) (h+1):=by
   rw [(ax R').2,z5U I]
   show _=_++[Blk.lp (R' fs.length) (frRegs (fr::fs) fs.length)]
   rw [V,af]
  have au:(absL R fs t h).length=h:=Zw
  have h9:=d7 _ R' az
  show XT E gf (.yld (absL R fs t h).length::caps) _ _
  rw [au,hL]
  refine XT.mono (E:=E) h9 ?_
  rintro S L' ⟨_,rfl⟩
  have ay:(absL R' (fr::fs) t' D)[h]?=some (.lp (st.at_ r0) ((List.range N).map (rho r))):=by
   rw [ZE,if_pos f2,f1]
   show some (Blk.lp (st.at_ (R' fs.length)) (frRegs (fr::fs) fs.length))=_
   rw [V,af]
  have ak:(absL R' (fr::fs) t' D).set h .dead=absL R fs (t'.set h (.b .dead)) D:=by
   rw [<-z5U (r0:=r0) (fr:=fr) bf]
   exact ((ag R').2).symm
  refine ⟨_,ay,?_⟩
  rw [ak]
  rcases f4 with ⟨rfl,rfl⟩ | ⟨rfl,hn⟩
  ·simp only [LS.at_,s1,s2]
   refine ⟨by decide,?_⟩
   first | exact ⟨rfl,rfl,rfl⟩ | exact ⟨trivial,rfl,rfl⟩ | exact ⟨trivial,trivial,rfl⟩ | exact ⟨trivial,trivial,trivial⟩ | exact ⟨rfl,trivial,trivial⟩ | exact ⟨trivial,rfl⟩ | exact ⟨trivial,trivial⟩ | exact ⟨rfl,trivial,rfl⟩
  ·refine ⟨by simp [LS.at_],?_⟩
   cases e with
   | normal=>exact absurd rfl hn
   | ret=>first | exact ⟨rfl,rfl,rfl⟩ | exact ⟨trivial,rfl,rfl⟩ | exact ⟨trivial,trivial,rfl⟩ | exact ⟨trivial,trivial,trivial⟩ | exact ⟨rfl,trivial,trivial⟩ | exact ⟨trivial,rfl⟩ | exact ⟨trivial,trivial⟩ | exact ⟨rfl,trivial,rfl⟩
   | exit i=>first | exact ⟨rfl,rfl,rfl⟩ | exact ⟨trivial,rfl,rfl⟩ | exact ⟨trivial,trivial,rfl⟩ | exact ⟨trivial,trivial,trivial⟩ | exact ⟨rfl,trivial,trivial⟩ | exact ⟨trivial,rfl⟩ | exact ⟨trivial,trivial⟩ | exact ⟨rfl,trivial,rfl⟩
   | goto i=>first | exact ⟨rfl,rfl,rfl⟩ | exact ⟨trivial,rfl,rfl⟩ | exact ⟨trivial,trivial,rfl⟩ | exact ⟨trivial,trivial,trivial⟩ | exact ⟨rfl,trivial,trivial⟩ | exact ⟨trivial,rfl⟩ | exact ⟨trivial,trivial⟩ | exact ⟨rfl,trivial,rfl⟩
theorem z4U (b:z3o K E0):∀n,jm K E0 (runF K n)
 | 0=>fun _ _ _ _ _ _ _ _ d _ _ _ _ _=>absurd rfl d
 | n+1=>z7E b (z4U b n)
theorem z5B (b:z3o K E0) {n:Nat} {f:FuncId} {args:List IV} {v:IV} {t:RT EB} {h:Nat} (ha:cl.clL 0 args) (d:pcF K (runF K n) f args=.val v t h):ZH E0 f args v:=(z9b b (z4U b n) ha d).1
end
structure zi (P:Program) (f:FuncId) (p:Nat × XFn):Prop where
 ok : ∃ fn, P.funcs[f]? = some fn ∧ Zz P fn = some p.2 ∧ fn.name ≠ "runtime.NumGoroutine" ∧ fn.ntmps = p.1 ∧ codeOk p.2.body = true
def RT.All {α:Type} (p:Nat->α->Prop):(Nat->Nat)->RT (Option α)->Prop
 | _,.nil=>True
 | g,.node v l r=>(∀x,v=some x->p (g 0) x)/\All p (fun i=>g (2*i+1)) l/\All p (fun i=>g (2*i+2)) r
theorem RT.all_get {α:Type} {p:Nat->α->Prop}:∀{t:RT (Option α)} {g:Nat->Nat},t.All p g->∀(n:Nat) (x:α),t.get none n=some x->p (g n) x
 | .nil,_,_,_,_,h=>by cases h
 | .node v l r,g,ha,n,x,h=>by
  by_cases h0:n=0
  ·subst h0;exact ha.1 x h
  ·by_cases h1:n%2=1
   ·rw [RT.get_odd h1] at h
    have:=all_get ha.2.1 _ _ h
    rw [show 2*(n / 2)+1=n by omega] at this
    exact this
   ·rw [RT.get_even od h0] at h
    have:=all_get ha.2.2 _ _ h
    rw [show 2*(n / 2 - 1)+2=n by omega] at this
    exact this
theorem zf {P:Program} {f:Nat} {p:Nat × XFn} (h:zi P f p):∀x,some p=some x->zi P f x:=fun x b=>by cases b;exact h
theorem z8R {P : Program} {t : RT (Option (Nat × XFn))} (h : t.All (zi P) id) {E0 : Env} (d : E0.P = P) : ∀ f n F, t.get none f = some (n, F) → ∃ fn, E0.P.funcs[f]? = some fn ∧ Zz E0.P fn = some F ∧ fn.name ≠ "runtime.NumGoroutine" ∧ fn.ntmps = n ∧ codeOk F.body = true := fun f n F b => by
 rw [d];exact (RT.all_get h f _ b).ok
theorem VR.move {C C':Ctx} {N:Nat} (I:C'.w=C.w) (q:∀t,t<N->C'.φ t=C.φ t) (O:∀t,t<N->C.born t->C'.born t) (B:∀b,C'.own b->C.own b) {x:IV} {v:Value} (h:VR C x v):cl N x->VR C' x v:=by
 induction h with
 | bool b=>exact fun _=>.bool b
 | int k n=>exact fun _=>.int k n
 | str s=>exact fun _=>.str s
 | raw v h=>exact fun _=>.raw v h
 | und=>exact fun _=>.und
 | ptr s r o hs=>intro d;rw [<-q s d];exact .ptr s r o (O s d hs)
 | sl s off len cap a cap' hs J hc ha X=>intro d;refine .sl s off len cap a cap' (O s d hs) J hc ?_ X;rw [q s d,I];exact ha
 | isl rows a cap' sz vals M hsz G ha Q u=>
  intro d
  refine .isl rows a cap' sz vals M hsz G ?_ fun i l hi j x A=>u i l hi j x A (y7 (Nat.zero_le _) _ (zQ.1 (Zg.1 d l (List.mem_of_getElem? hi)) x (List.mem_of_getElem? A)))
  rcases ha with h0 | ⟨b,o,ha,m,T,hc⟩
  ·exact .inl h0
  ·exact .inr ⟨b,o,ha,by rw [I];exact m,fun h=>T (B b h),fun i l hi j x A=>by rw [I];exact hc i l hi j x A⟩
 | iptr rows r o b base sz vals hsz G m D ha Q u=>
  intro d
  exact .iptr rows r o b base sz vals hsz G (by rw [I];exact m) (fun h=>D (B b h)) (fun i l hi j x A=>by rw [I];exact ha i l hi j x A) fun i l hi j x A=>u i l hi j x A (y7 (Nat.zero_le _) _ (zQ.1 (Zg.1 d l (List.mem_of_getElem? hi)) x (List.mem_of_getElem? A)))
 | esl a=>exact fun _=>.esl a
 | nsl=>exact fun _=>.nsl
 | agg cs vs J Q u=>exact fun d=>.agg cs vs J fun i x hi=>u i x hi (zQ.1 d x (List.mem_of_getElem? hi))
 | tup cs vs J Q u=>exact fun d=>.tup cs vs J fun i x hi=>u i x hi (zQ.1 d x (List.mem_of_getElem? hi))
 | fn f as bs Z vb ha m Y V U S=>exact fun d=>.fn f as bs Z vb ha m (fun i x hi=>U i x hi (zQ.1 d.1 x (List.mem_of_getElem? hi))) fun i x hi=>S i x hi (zQ.1 d.2 x (List.mem_of_getElem? hi))
 | iface t x v Q u=>exact fun d=>.iface t x v (u d)
 | mp s hs=>intro d;rw [<-q s d];exact .mp s (O s d hs)
 | yld s hs=>intro d;rw [<-q s d];exact .yld s (O s d hs)
theorem Zp.move {C C':Ctx} {N s s':Nat} (B:C'.w=C.w) (hs:C'.φ s'=C.φ s) (G:∀t,t<N->C'.φ t=C.φ t) (V:∀t,t<N->C.born t->C'.born t) (D:∀b,C'.own b->C.own b) {k:Blk} (hc:clB N k) (h:Zp C s k):Zp C' s' k:=by
 have S:∀{x:IV} {v:Value},cl N x->VR C x v->VR C' x v:=fun Y T=>T.move B G V D Y
 have cells:∀{Q:Bool} {sz:Nat} {rows:List (List IV)},cl.clR N rows->Z9 Q C s sz rows->Z9 Q C' s' sz rows:=fun {Q sz rows} hr h=>by
  obtain ⟨d,c,e,fr,q,O,I,U⟩:=h
  refine ⟨by rw [hs];exact d,c,e,fr,by rw [hs,B];exact q,O,by rw [hs];exact I,fun i u hi=>⟨(U i u hi).1,fun j x X=>?_⟩⟩
  obtain ⟨v,T,M⟩:=(U i u hi).2 j x X
  exact ⟨v,by rw [hs];exact T,S (zQ.1 (Zg.1 hr u (List.mem_of_getElem? hi)) x (List.mem_of_getElem? X)) M⟩
 cases k with
 | cells sz rows=>exact cells hc h
 | tcells ty sz rows=>
  obtain ⟨d,c,fr,q⟩:=h.2
  exact ⟨cells hc h.1,by rw [hs];exact d,c,fr,by rw [hs,B];exact q⟩
 | siter t pos=>obtain ⟨d,q⟩:=h;exact ⟨by rw [hs];exact d,by rw [hs,B];exact q⟩
 | map es c=>
  obtain ⟨ms,d,q,I⟩:=h
  refine ⟨ms,by rw [hs,B];exact d,q,fun i e hi=>?_⟩
  obtain ⟨m,g1,Z,g3,g4⟩:=I i e hi
  exact ⟨m,g1,Z,S (hc e (List.mem_of_getElem? hi)).2 g3,g4⟩
 | mit m=>
  obtain ⟨d,hm,A,J,q⟩:=h
  exact ⟨by rw [hs];exact d,V m hc hm,A,J,by rw [hs,B,G m hc];exact q⟩
 | lp r l=>
  obtain ⟨d,q⟩:=h
  refine ⟨by rw [hs,B];exact d,fun i=>?_⟩
  have I:cl N (l.getD i .und):=YR hc
  exact S I (q i)
 | dead=>trivial
 | unborn=>trivial
theorem zcE {E:Env} {f:FuncId} {args:List IV} {L:List Blk} {R:IV->List Blk->Prop} {kb n:Nat} {b:Blk} (bn:kb<L.length) (af:b.alive=true) (ai:clB 0 b) (hL:∀(s:Nat) (b:Blk),L[s]?=some b->clB L.length b) (h:XT E f args L R)
  (hc:∀r L',R r L'->∃g,r=.sl g 0 n n/\L'[g]?=some b/\(g=kb\/L.length<=g)/\Keep (fun t=>t=kb) L L'):XT E f args L fun r L'=>r=.sl L.length 0 n n/\L'=L.set kb .dead++[b]:=by
 refine ⟨h.1,fun w φ X vs wf au hG hl hv=>(h.2 w φ X vs wf au hG hl hv).mono fun e w' ⟨r,L',q,v,j,he,G,M,ext',hr⟩=>?_⟩
 obtain ⟨g,rfl,hg,Z,hk⟩:=hc r L' j
 let φ2:Nat->Loc:=fun s=>if s=L.length then q g else q s
 let L2:List Blk:=L.set kb .dead++[b]
 let C':Ctx:=⟨w',q,L',X⟩
 let C2:Ctx:=⟨w',φ2,L2,X⟩
 have O:(L.set kb .dead).length=L.length:=lls
 have Q:∀{s:Nat} {k:Blk},L2[s]?=some k->(s<L.length/\s≠kb/\L[s]?=some k/\L'[s]?=some k)\/(s=kb/\k=.dead)\/(s=L.length/\k=b):=fun {s k} hs=>by
  by_cases A:s<L.length
  ·have j:(L.set kb .dead)[s]?=some k:=by rw [<-hs];exact (List.getElem?_append_left od).symm
   rw [List.getElem?_set] at j
   by_cases B:kb=s
   ·rw [if_pos B,if_pos od] at j;cases j;exact .inr (.inl ⟨B.symm,rfl⟩)
   ·rw [if_neg B] at j
    exact .inl ⟨A,Ne.symm B,j,by rw [hk.2 s A (Ne.symm B)];exact j⟩
  ·have j:[b][s - L.length]?=some k:=by
    rw [<-hs];show _=(L.set kb .dead++[b])[s]?;rw [List.getElem?_append_right od,O]
   have B:s - L.length<1:=(List.getElem?_eq_some_iff.1 j).1
   have h3:s=L.length:=by omega
   subst h3
   rw [Nat.sub_self] at j;cases j;exact .inr (.inr ⟨rfl,rfl⟩)
 have T:∀{s:Nat} {k:Blk},L2[s]?=some k->k.alive=true->∃u,L'[u]?=some k/\φ2 s=q u/\((s<L.length/\u=s/\s≠kb)\/(s=L.length/\u=g)):=fun {s k} hs J=>by
  rcases Q hs with ⟨A,j,_,B⟩ | ⟨_,rfl⟩ | ⟨rfl,rfl⟩
  ·exact ⟨s,B,if_neg od,.inl ⟨A,rfl,j⟩⟩
  ·cases J
  ·exact ⟨g,hg,if_pos rfl,.inr ⟨rfl,rfl⟩⟩
 have d:∀x,C2.mine x->C'.mine x:=fun x ⟨s,k,g1,V,g3⟩=>by
  obtain ⟨u,B,h3,_⟩:=T g1 V
  exact ⟨u,k,B,V,by rw [<-g3];exact congrArg Loc.blk h3.symm⟩
 have S:∀x,C2.own x->C'.own x:=fun x U=>U.imp (fun h=>h) (d x)
 have ay:∀t,t<L.length->Ctx.born ⟨w,φ,L,X⟩ t->C2.born t:=fun t I ⟨k,g1,V⟩=>by
  by_cases A:t=kb
  ·subst A
   exact ⟨.dead,by show (L.set t .dead++[b])[t]?=_;rw [List.getElem?_append_left od,List.getElem?_set,if_pos rfl,if_pos I],rfl⟩
  ·exact ⟨k,by show (L.set kb .dead++[b])[t]?=_;rw [List.getElem?_append_left od,List.getElem?_set,if_neg (Ne.symm A)];exact g1,V⟩
 have D:∀s,s<L.length->φ2 s=q s:=fun s hs=>if_neg od
 have Y:Ext ⟨w,φ,L,X⟩ C2:=⟨ext'.size,ext'.frame,fun x U=>ext'.sub x (d x U),fun s hs=>by rw [<-ext'.slot s hs];exact D s hs.lt,fun s hs=>ay s hs.lt hs,by show _<=(L.set kb .dead++[b]).length;simp,ext'.cap,rfl,ext'.os,ext'.tape,ext'.output⟩
 have bf:∀t,t<L.length->C'.born t->C2.born t:=fun t I aj=>by
  by_cases A:t=kb
  ·subst A
   exact ⟨.dead,by show (L.set t .dead++[b])[t]?=_;rw [List.getElem?_append_left od,List.getElem?_set,if_pos rfl,if_pos I],rfl⟩
  ·obtain ⟨k,g1,V⟩:=aj
   refine ⟨k,?_,V⟩
   show (L.set kb .dead++[b])[t]?=_
   rw [List.getElem?_append_left od,List.getElem?_set,if_neg (Ne.symm A),<-hk.2 t I A];exact g1
 have bz:C'.born g:=⟨b,hg,by cases b<;>first | rfl | cases af⟩
 have bg:Wf E.g0 C2:=⟨fun s t k l hs I J ah m=>by
  obtain ⟨u,u1,u2,u3⟩:=T hs J
  obtain ⟨u',v1,v2,v3⟩:=T I ah
  have m:(φ2 s).blk=(φ2 t).blk:=m
  rw [u2,v2] at m
  have:=G.inj u u' k l u1 v1 J ah m
  rcases u3 with ⟨a1,a2,a3⟩ | ⟨a1,a2⟩<;>rcases v3 with ⟨b1,b2,b3⟩ | ⟨b1,b2⟩
  ·omega
  ·exfalso;rcases Z with h9 | h9<;>omega
  ·exfalso;rcases Z with h9 | h9<;>omega
  ·omega,fun x U=>G.lo x (d x U),fun x U hm=>G.apart x U (d x hm),G.exlo,G.g⟩
 have ae:Sim C2:=fun s k hs=>by
  rcases Q hs with ⟨A,j,B,h3⟩ | ⟨_,rfl⟩ | ⟨rfl,rfl⟩
  ·exact Zp.move (C:=C') (C':=C2) (N:=L.length) rfl (D s A) D bf S (hL s k B) (M s k h3)
  ·trivial
  ·exact Zp.move (C:=C') (C':=C2) (N:=0) (s:=g) rfl (if_pos rfl) (fun t I=>absurd I (Nat.not_lt_zero t)) (fun t I=>absurd I (Nat.not_lt_zero t)) S ai (M g _ hg)
 refine ⟨.sl L.length 0 n n,L2,φ2,v,⟨rfl,rfl⟩,he,bg,ae,Y,?_⟩
 have ag:φ2 L.length=q g:=if_pos rfl
 cases hr with
 | sl s off len cap a cap' bu ax az bi ak=>
  refine .sl L.length 0 n n a cap' ⟨b,by show (L.set kb .dead++[b])[L.length]?=_;rw [List.getElem?_append_right od,O,Nat.sub_self];rfl,by cases b<;>first | rfl | cases af⟩ ax az ?_ ak
  show _\/(a=some ⟨(φ2 L.length).blk,(φ2 L.length).base+0*(φ2 L.length).sz,none⟩/\∃c e fr,w'.heap[(φ2 L.length).blk]?=some (.cells c e fr)/\(φ2 L.length).base+(0+cap')*(φ2 L.length).sz<=c.size)
  rw [ag];exact bi
def oa (d:Nat) (x:XO):zg:=⟨some d,x,none⟩
def ob (x:XO):zg:=⟨none,x,none⟩
def oc (d:Nat) (x:XO) (t:Nat) (b:Bool):zg:=⟨some d,x,some (t,b)⟩
def ov (d n:Nat):zg:=⟨some d,.mov (.t n),none⟩
def ol (d n:Nat):zg:=⟨some d,.load1 (.t n),none⟩
def og (d n:Nat):zg:=⟨some d,.nilck (.t n),none⟩
def oe (d k n:Nat):zg:=⟨some d,.fldA k (.t n),none⟩
def ox (d n k:Nat):zg:=⟨some d,.ext (.t n) k,none⟩
def oj (d:Nat) (x:IV):zg:=⟨some d,.mov (.c x),none⟩
def xs1 (a b:Nat):XO:=.store 1 (.t a) (.t b)
def xca (n:Nat) (l:List Opd):XO:=.call (.f n) l
def xcp (n:Nat) (l:List Opd):XO:=.pcall (.f n) l
def xmw (n:Nat):XO:=.mov (.t n)
def xld (n:Nat):XO:=.load1 (.t n)
def xfa (k n:Nat):XO:=.fldA k (.t n)
def xnk (n:Nat):XO:=.nilck (.t n)
def xln (k n:Nat):XO:=.loadN k (.t n)
def xbi (o:BinOp) (a b:Nat):XO:=.bin o (.t a) (.t b)
def xbc (o:BinOp) (a:Nat) (x:IV):XO:=.bin o (.t a) (.c x)
def xix (k a b:Nat):XO:=.idxS k (.t a) (.t b)
def iI (n:Int):IV:=.int .i64 n
def iS:IV:=.str []
def iT:IV:=.bool true
def iF:IV:=.bool false
def cq (l:List zg) (x:XC):XC:=.seq (.ops l) x
def cn (t:Nat) (a b:XC):XC:=.cond (.t t) a b
noncomputable def pq (P:Program) (fn:Func) (x:XC):Nat × XFn:=(fn.ntmps,⟨fn.ntmps,(zF (ZY P) fn.results.toList).getD [],x⟩)
theorem trq {P : Program} {f : FuncId} {x : XC} (fn : Func) (d : P.funcs[f]? = some fn) (b : Zz P fn = some (pq P fn x).2) (j : fn.name ≠ "runtime.NumGoroutine") (h : codeOk x = true) : zi P f (pq P fn x) := ⟨fn, d, b, j, rfl, h⟩
end Go.X
end
