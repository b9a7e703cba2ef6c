/- Parts of the proof: XRow, XData, XSel, XHeap, XFreeze, XDrop, XCut, Xrd0, Xrn0, Xqh, Xrd1, XDropN. -/
import Derived.Test.YtnmhhmbeljlndaaGreatDoorXP8
import Derived.Carry
import Derived.Deep.Strs
import Derived.ChangeSame
import Derived.ChangeOld
import Derived.WideShapes
import Derived.Deep.DeepHandedRow
import Derived.Lay
set_option linter.unusedVariables false
set_option linter.unusedSimpArgs false
set_option linter.unusedSectionVars false
section
namespace Go.X
open Go Go.ChangeShapes Go.WideShapes Go.RowKit
def zdt (P:Program) (W:World) (gl:Nat->Option (List IV))
  (hgl:∀(n:Nat) (cs:List IV),gl n=some cs->∀(j:Nat) (y:IV),cs[j]?=some y->∃u,W.cell? ⟨n,j,none⟩=some u/\∀C:Ctx,VR C y u):Env where
 pan:=fun _ _=>False
 P:=P
 g0:=W.heap.size
 G:=fun w=>∀b,b<W.heap.size->w.heap[b]?=W.heap[b]?
 hG:=fun w w' h hG b hb=>(h b hb).trans (hG b hb)
 gl:=gl
 hgl:=fun w n cs hG hn j y hy=>by
  obtain ⟨u,h1,h2⟩:=hgl n cs hn j y hy
  refine ⟨u,?_,h2⟩
  have hb:n<W.heap.size:=by
   simp only [World.cell?] at h1
   cases hb:W.heap[n]? with
   | none=>rw [hb] at h1;cases h1
   | some o=>exact (Array.getElem?_eq_some_iff.1 hb).1
  rw [cell_of_heap (hG n hb)];exact h1
 yl:=fun _ _ _ _=>False
 hylm:=fun _ _ _ _ _ _ h=>h
 hyl:=fun _ _ _ _ _ _ _ _ _ _ h=>h.elim
def zdd (W:World):Ctx:=⟨W,fun _=>⟨0,0,0⟩,[],fun _=>False⟩
theorem zeZ {W:World} {b:Nat}:¬(zdd W).own b:=by
 rintro (h | ⟨s,k,d,_⟩)
 ·exact h
 ·simp [zdd] at d
theorem z9k {P:Program} {W:World} {gl:Nat->Option (List IV)} {hgl} {f:FuncId} {args:List IV} {vs:List Value} (h:zD (zdt P W gl hgl) f args (.bool true)) (q:args.length=vs.length)
  (j:∀(i:Nat) (x:IV),args[i]?=some x->VR (zdd W) x (vs.getD i undef)):Calls P f vs.toArray W fun e W'=>e=.returned (.bool true)/\Below W.heap.size W W':=by
 have wf:Wf (zdt P W gl hgl).g0 ⟨W,fun _=>⟨0,0,0⟩,[],fun _=>False⟩:=
  ⟨fun s t k l m=>by simp at m,fun b h=>absurd (.inr h) zeZ,fun b h=>h.elim,fun b h=>h.elim,Nat.le_refl _⟩
 have d:Sim ⟨W,fun _=>⟨0,0,0⟩,[],fun _=>False⟩:=fun s k m=>by simp at m
 refine (h.2 W (fun _=>⟨0,0,0⟩) (fun _=>False) vs wf d (fun b _=>rfl) q j).mono ?_
 rintro e W' ⟨r,L',p,v,⟨rfl,rfl⟩,rfl,_,_,ext,j⟩
 cases j
 exact ⟨rfl,⟨ext.os,ext.tape,ext.output,ext.size,fun b w=>ext.frame b w (fun u=>zeZ (.inr u))⟩⟩
theorem z2d {W W':World} {p:MemPlace->Prop} (b:Below W.heap.size W W'):W.keptBut W' p:=by
 refine ⟨b.os,b.output,fun i hi=>?_⟩
 rw [b.block i hi]
 cases W.heap[i]? with
 | none=>rfl
 | some o=>cases o<;>first | rfl | exact ⟨rfl,rfl,rfl,fun _ _=>rfl⟩ | exact .inr ⟨rfl,rfl⟩
theorem z3l {W W':World} (b:Below W.heap.size W W') {a:Addr} (ha:a.block<W.heap.size):W'.frozen? a=W.frozen? a:=by
 unfold World.frozen?
 rw [b.block _ ha]
theorem VB {H:Type} {enc:TypeId × Value->H} {P:Program} (m:laidOutB P=true) {W W':World} (r:Below W.heap.size W W') (sp:Nat->Bool) :
  ∀{j:List TypeId} {vs:List Value} {l:List (DataW H)} {ps:List MemPlace},j.all (fun t=>P.readableRec t&&decide (t<P.types.size))=true->(∀p∈ps,sp p.block=true)->(∀p∈ps,p.block<W.heap.size)->
   DataW.TrodAll enc P W 0 (fun _=>true) true j vs l ps->DataW.TrodAll enc P W' 0 sp true j vs l ps
 | [],[],[],_,_,_,_,h=>h
 | [],[],_::_,_,_,_,_,h=>h.elim
 | [],_::_,_,_,_,_,_,h=>(by cases ‹List (DataW H)›<;>exact h.elim)
 | _::_,[],_,_,_,_,_,h=>(by cases ‹List (DataW H)›<;>exact h.elim)
 | _::_,_::_,[],_,_,_,_,h=>h.elim
 | t::j,v::vs,d::l,ps,ht,hs,hlt,h=>by
  obtain ⟨p,q,h1,h2,rfl⟩:=h
  simp only [List.all_cons,Bool.and_eq_true,decide_eq_true_eq] at ht
  exact ⟨p,q,WideElems.Trod_stays m ht.1.1 ht.1.2 h1 (fun x b=>r.same (hlt x (List.mem_append_left _ b))) (fun x b=>hs x (List.mem_append_left _ b)),
   VB m r sp ht.2 (fun x b=>hs x (List.mem_append_right _ b)) (fun x b=>hlt x (List.mem_append_right _ b)) h2,rfl⟩
theorem z8S {H:Type} {enc:TypeId × Value->H} {P:Program} {f:Func} {s:ChangeSpec} {apart m j u:Bool} {W W':World} {args:Array Value} {v R:List (DataW H)} {d:List MemPlace} {t0:TypeId}
  (S:laidOutB P=true) (B:f.params.toList.all (fun t=>P.readableRec t&&decide (t<P.types.size))=true) (I:s.vars=[]) (A:f.resultTypes=#[t0]) (Z:P.underlying t0=some .bool)
  (X:s.fn H v={ results:=[.lit (.bool true)],args:=v }) (hW:DataW.Whole enc P f.params.toList s.vars apart W args.toList v R d) (T:Below W.heap.size W W') :
  s.post enc P f apart m j u W args (.bool true) W':=by
 have r:∀p∈d,p.block<W.heap.size:=fun p Q=>by simpa using hW.lt p Q
 obtain ⟨p,q,Y,O,rfl,J,D⟩:=hW
 have V:R=[]/\q=[]:=by
  rw [I] at O
  cases R with
  | nil=>exact ⟨rfl,O⟩
  | cons=>exact O.elim
 obtain ⟨rfl,rfl⟩:=V
 have h:s.fn H (v++[])={ results:=[.lit (.bool true)],args:=v }:=by rw [List.append_nil];exact X
 have w:∀sp:Nat->Bool,(∀x∈p,sp x.block=true)->DataW.TrodAll enc P W' 0 sp true f.params.toList args.toList v p:=fun sp U=>
  VB S T sp B U (fun x M=>r x (by simpa using M)) Y
 have l:∀(b:Nat) (sp:Nat->Bool) (hd:Bool),DataW.TrodAll enc P W' b sp hd f.resultTypes.toList ((Value.bool true).resultList f.resultTypes.size) [.lit (.bool true)] []:=fun b sp hd=>by
  rw [A]
  exact ⟨[],[],shut_bool Z _,rfl,rfl⟩
 have G:∀sp:Nat->Bool,DataW.TrodVars enc P W' sp s.vars ([]:List (DataW H)) []:=fun sp=>by rw [I];rfl
 refine ⟨v,[],p++[],[],p,[],⟨p,[],Y,O,rfl,J,D⟩,?_,?_,?_,z2d T,fun _=>?_⟩
 ·rw [h];exact l _ _ _
 ·rw [h];exact w _ (fun x M=>by simpa using r x (by simpa using M))
 ·rw [h];exact G _
 ·refine ⟨ok_one A rfl (okWide_bool_mk Z _),_,_,p++[],⟨[]++p,[],trodAll_append (w _ (fun _ _=>rfl)) (l 0 (fun _=>true) true),G _,by simp,?_,?_⟩,?_⟩
  ·intro b off Q
   rw [z3l T (r _ Q)]
   exact J b off Q
  ·exact D
  ·intro x M _;simpa using M
theorem zah (C:Ctx) (b:ByteArray):VR C (.str b.data.toList) (.string b):=by
 have:=VR.str (C:=C) b.data.toList
 simpa using this
theorem z3s {W:World} {a:Addr} {v:Value} (h:W.cell? a=some v):a=⟨a.block,a.off,none⟩/\a.block<W.heap.size:=by
 unfold World.cell? at h
 split at h
 ·rename_i d
  split at h
  ·cases h
  ·rename_i hs
   refine ⟨?_,(Array.getElem?_eq_some_iff.1 d).1⟩
   obtain ⟨b,o,sp⟩:=a
   cases sp with
   | none=>rfl
   | some s=>simp at hs
 ·cases h
theorem zcc {b o i:Nat}:(⟨b,o,none⟩:Addr).add i=⟨b,o+i,none⟩:=by unfold Addr.add;split<;>simp_all
theorem zcl {W:World} {a:Addr} {len cap sz:Nat} {rows:List (List IV)} {vals:Nat->Nat->Value} (h:rows.length=len) (l:len<=cap) (b:0<sz)
  (hsz:∀row∈rows,row.length=sz) (q:∀row∈rows,closed.closedL row=true)
  (hc:∀i j,i<len->j<sz->W.cell? (a.add (i*sz+j))=some (vals i j)) (s:∀(i:Nat) (row:List IV),rows[i]?=some row->∀(j:Nat) (x:IV),row[j]?=some x->VR (zdd W) x (vals i j)) :
  VR (zdd W) (.isl rows) (.slice (some a) len cap):=by
 subst h
 refine .isl rows (some a) cap sz vals l (fun i row hi=>hsz row (List.mem_of_getElem? hi)) (fun i row hi=>q row (List.mem_of_getElem? hi)) ?_ s
 by_cases h0:rows=[]
 ·exact .inl h0
 ·have d:0<rows.length:=List.length_pos_iff.2 h0
  have h1:=hc 0 0 d b
  have ha:a.add (0*sz+0)=a:=by simp [Addr.add]
  rw [ha] at h1
  obtain ⟨h2,v⟩:=z3s h1
  refine .inr ⟨a.block,a.off,by rw [<-h2],v,zeZ,fun i row hi j x u=>?_⟩
  have m:=zf hi
  have p:j<sz:=by rw [<-hsz row (List.mem_of_getElem? hi)];exact zf u
  have r:=hc i j m p
  rw [h2,zcc,<-Nat.add_assoc] at r
  exact r
theorem z4X {H:Type} {enc:TypeId × Value->H} {C:Checked} {os:Os} {f:FuncId} {fn:Func} {s:OpenSpec} {conds:List PathCond} {apart:Bool} {laid:List (String × DataW Unit)} (modest:Bool) (w0:World) (args:Array Value) (hos:w0.os=os)
  (hv:(w0.forCall (fun _ _=>0) ⟨#[],args,[]⟩).variablesZipB C.prog=true)
  (hr:((w0.forCall (fun _ _=>0) ⟨#[],args,[]⟩).heap.toList.drop C.prog.globals.size).take ((begin C.prog (fun _ _=>0) default).world.heap.size - C.prog.globals.size) =
   (begin C.prog (fun _ _=>0) default).world.heap.toList.drop C.prog.globals.size)
  (hok:Input.okWideB C.prog (w0.forCall (fun _ _=>0) ⟨#[],args,[]⟩) f ⟨#[],args,[]⟩=true)
  (hrow:s.preRow enc C.prog fn conds apart laid (w0.forCall (fun _ _=>0) ⟨#[],args,[]⟩).memory args) :
  ∃(w:World) (tape:Tape) (i:Input),w.os=os/\(w.forCall tape i).Shaped C.prog/\i.vars=[]/\Input.okWide C.prog (w.forCall tape i) .any w.heap.size f i/\
   s.preRow enc C.prog fn conds apart laid (w.forCall tape i).memory i.args/\({ modest:=modest }:Assume).holds C.prog (lone (Frame.enter C.prog f i.args .normal) [] (w.forCall tape i)):=
 ⟨w0,fun _ _=>0,⟨#[],args,[]⟩,hos,World.shaped_of_ZipB hv hr,(Input.okWide_of_okWideB (base:=0) hok).1,(Input.okWide_of_okWideB hok).2,hrow,by
  simp only [Assume.holds]
  exact ⟨by simp,by simp,fun _=>Modest.zero,by simp,by simp⟩⟩
inductive Ty where
 | bool
 | int (k:IntKind)
 | str
 | slice (e:Ty)
 | struct (fs:List Ty)
 deriving Inhabited
mutual
def Ty.size:Ty->Nat
 | .struct fs=>Ty.sizes fs
 | _=>1
def Ty.sizes:List Ty->Nat
 | []=>0
 | t::r=>t.size+Ty.sizes r
end
mutual
def Ty.fits (P:Program):Ty->TypeId->Bool
 | .bool,t=>match P.underlying t with | some .bool=>true | _=>false
 | .int k,t=>match P.underlying t with | some (.int k')=>decide (k'=k) | _=>false
 | .str,t=>match P.underlying t with | some .string=>true | _=>false
 | .slice e,t=>match P.underlying t with | some (.slice u)=>e.fits P u&&decide (P.cellsOf u=e.size)&&decide (0<e.size) | _=>false
 | .struct fs,t=>match P.underlying t with | some (.struct us)=>Ty.fitsAll P fs us.toList 0&&decide (P.cellsOf t=Ty.sizes fs) | _=>false
def Ty.fitsAll (P:Program):List Ty->List Field->Nat->Bool
 | [],[],_=>true
 | f::fs,u::us,o=>f.fits P u.type&&decide (u.offset=o)&&decide (P.cellsOf u.type=f.size)&&Ty.fitsAll P fs us (o+f.size)
 | _,_,_=>false
end
mutual
def Ty.Of:Ty->List IV->Prop
 | .bool,c=>∃b,c=[.bool b]
 | .int k,c=>∃n,c=[.int k n]/\(Lit.int k n).wf=true
 | .str,c=>∃s:List UInt8,c=[.str s]/\s.length<=9223372036854775807
 | .slice e,c=>∃rows:List (List IV),c=[.isl rows]/\rows.length<=9223372036854775807/\∀row∈rows,e.Of row
 | .struct fs,c=>Ty.OfAll fs c
def Ty.OfAll:List Ty->List IV->Prop
 | [],c=>c=[]
 | f::fs,c=>∃a b,c=a++b/\f.Of a/\Ty.OfAll fs b
end
theorem z0k {a b:List IV}:closed.closedL (a++b)=(closed.closedL a&&closed.closedL b):=by
 induction a with
 | nil=>simp [closed.closedL]
 | cons x a d=>simp [closed.closedL,d,Bool.and_assoc]
mutual
theorem Ty.closed:∀(t:Ty) (c:List IV),t.Of c->Go.X.closed.closedL c=true/\c.length=t.size
 | .bool,c,h=>by obtain ⟨b,rfl⟩:=h;exact ⟨rfl,rfl⟩
 | .int k,c,h=>by obtain ⟨b,rfl,_⟩:=h;exact ⟨rfl,rfl⟩
 | .str,c,h=>by obtain ⟨b,rfl,_⟩:=h;exact ⟨rfl,rfl⟩
 | .slice e,c,h=>by obtain ⟨b,rfl,_⟩:=h;exact ⟨rfl,rfl⟩
 | .struct fs,c,h=>Ty.closedAll fs c h
theorem Ty.closedAll:∀(t:List Ty) (c:List IV),Ty.OfAll t c->Go.X.closed.closedL c=true/\c.length=Ty.sizes t
 | [],c,h=>by cases h;exact ⟨rfl,rfl⟩
 | f::fs,c,h=>by
  obtain ⟨a,b,rfl,h1,h2⟩:=h
  obtain ⟨j,m⟩:=Ty.closed f a h1
  obtain ⟨d,l⟩:=Ty.closedAll fs b h2
  exact ⟨by rw [z0k,j,d];rfl,by rw [lla,m,l];rfl⟩
end
section
variable {H:Type} {enc:TypeId × Value->H} {P:Program} {W:World} {sp:Nat->Bool} {hd:Bool}
theorem maxLen_eq:maxLen=9223372036854775807:=by decide
def Told (W:World) (ivs:List IV) (cs:List Value):Prop:=ivs.length=cs.length/\∀(j:Nat) (x:IV),ivs[j]?=some x->VR (zdd W) x (cs.getD j undef)
theorem Vq {x:IV} {v:Value} (h:VR (zdd W) x v):Told W [x] [v]:=⟨rfl,fun j y b=>by
 cases j with
 | zero=>simp at b;subst b;exact h
 | succ j=>simp at b⟩
mutual
theorem JZ:∀(ty:Ty) {fuel:Nat} {t:TypeId} {cs:List Value} {x:DataW H × List MemPlace},ty.fits P t=true->DataW.trod enc P W 0 sp hd fuel t cs=some x->∃l,ty.Of l/\Told W l cs
 | .bool,fuel,t,cs,x,hf,h=>by
  unfold Ty.fits at hf
  split at hf
  ·rename_i d
   obtain ⟨b,rfl,_⟩:=DataW.trod_bool d h
   exact ⟨[.bool b],⟨b,rfl⟩,Vq (.bool b)⟩
  ·cases hf
 | .int k,fuel,t,cs,x,hf,h=>by
  unfold Ty.fits at hf
  split at hf
  ·rename_i X d
   obtain rfl:=of_decide_eq_true hf
   obtain ⟨n,rfl,_,hw⟩:=DataW.trod_int d h
   exact ⟨[.int X n],⟨n,rfl,hw⟩,Vq (.int X n)⟩
  ·cases hf
 | .str,fuel,t,cs,x,hf,h=>by
  unfold Ty.fits at hf
  split at hf
  ·rename_i d
   obtain ⟨s,rfl,_,hs⟩:=DataW.trod_string d h
   rw [maxLen_eq] at hs
   exact ⟨[.str s.data.toList],⟨_,rfl,by rw [Array.length_toList];exact hs⟩,Vq (zah _ s)⟩
  ·cases hf
 | .slice e,fuel,t,cs,x,hf,h=>by
  unfold Ty.fits at hf
  split at hf
  ·rename_i u d
   simp only [Bool.and_eq_true,decide_eq_true_eq] at hf
   obtain ⟨⟨R,U⟩,G⟩:=hf
   rcases Deep.open_slice d h with ⟨rfl,_⟩ | ⟨a,len,cap,m,n,D,Pl,rfl,_,J,hm,T,_,V⟩
   ·exact ⟨[.isl []],⟨[],rfl,by simp,by simp⟩,Vq (.isl [] none 0 1 (fun _ _=>undef) (Nat.le_refl _) (fun i row hi=>by simp at hi) (fun i row hi=>by simp at hi) (.inl rfl) (fun i row hi=>by simp at hi))⟩
   ·have Z:len<=m:=by rw [T];split<;>omega
    rw [maxLen_eq] at hm
    have v:∀i,i<len->∃q:List IV × List Value,e.Of q.1/\Told W q.1 q.2/\∀j,j<e.size->W.cell? (a.add (i*e.size+j))=q.2[j]?:=fun i hi=>by
     obtain ⟨M,h1,h2⟩:=V i od
     obtain ⟨_,p,hc⟩:=World.cells?_some h1
     obtain ⟨l,r,Y⟩:=JZ e R h2
     refine ⟨(l,M),r,Y,fun j B=>?_⟩
     rw [U] at hc
     have:=hc j B
     rw [Addr.add_add] at this
     exact this
    obtain ⟨q,I⟩:=Deep.choose_lt v
    refine ⟨[.isl ((List.range len).map fun i=>(q i).1)],⟨_,rfl,by simp;omega,fun row w=>?_⟩,Vq ?_⟩
    ·obtain ⟨i,hi,rfl⟩:=List.mem_map.1 w
     exact (I i (List.mem_range.1 hi)).1
    ·refine zcl (sz:=e.size) (vals:=fun i j=>(q i).2.getD j undef) (by simp) J G (fun row w=>?_) (fun row w=>?_) (fun i j hi B=>?_) (fun i row hi j x B=>?_)
     ·obtain ⟨i,hi,rfl⟩:=List.mem_map.1 w
      exact (Ty.closed e _ (I i (List.mem_range.1 hi)).1).2
     ·obtain ⟨i,hi,rfl⟩:=List.mem_map.1 w
      exact (Ty.closed e _ (I i (List.mem_range.1 hi)).1).1
     ·obtain ⟨h1,h2,r⟩:=I i hi
      have Y:(q i).2.length=e.size:=by rw [<-h2.1];exact (Ty.closed e _ h1).2
      rw [r j B,List.getD_eq_getElem?_getD,List.getElem?_eq_getElem od]
      rfl
     ·simp only [List.getElem?_map,oms] at hi
      obtain ⟨k,S,rfl⟩:=hi
      have A:i<len:=by have:=zf S;simpa using this
      rw [List.getElem?_range A] at S
      cases S
      exact (I i A).2.1.2 j x B
  ·cases hf
 | .struct fs,fuel,t,cs,x,hf,h=>by
  unfold Ty.fits at hf
  split at hf
  ·rename_i us d
   simp only [Bool.and_eq_true,decide_eq_true_eq] at hf
   obtain ⟨Q,hc⟩:=hf
   obtain ⟨xs,n,_,_,J,p,V⟩:=DataW.trod_struct d h
   rw [hc] at J
   have h2:=jH fs (us:=us.toList) (o:=0) (cs:=cs) (n:=n) (by rw [J];omega) Q (fun i f hi=>by
    have r:=V i f (by simpa using hi)
    have O:i<xs.length:=by rw [p];have:=zf hi;simpa using this
    rw [List.getElem?_eq_getElem O] at r
    exact ⟨_,r⟩)
   rw [List.drop_zero] at h2
   simp only [Ty.Of]
   exact h2
  ·cases hf
theorem jH:∀(l:List Ty) {us:List Field} {o n:Nat} {cs:List Value},o+Ty.sizes l=cs.length->Ty.fitsAll P l us o=true->
  (∀(i:Nat) (f:Field),us[i]?=some f->∃y,DataW.trod enc P W 0 sp hd n f.type ((cs.drop f.offset).take (P.cellsOf f.type))=some y)->∃m,Ty.OfAll l m/\Told W m (cs.drop o)
 | [],[],o,n,cs,hl,hf,h=>⟨[],rfl,by rw [List.drop_of_length_le (by simp only [Ty.sizes] at hl;omega)];exact ⟨rfl,fun j x d=>by simp at d⟩⟩
 | [],_::_,o,n,cs,hl,hf,h=>by simp [Ty.fitsAll] at hf
 | _::_,[],o,n,cs,hl,hf,h=>by simp [Ty.fitsAll] at hf
 | f::l,u::us,o,n,cs,hl,hf,h=>by
  simp only [Ty.fitsAll,Bool.and_eq_true,decide_eq_true_eq] at hf
  obtain ⟨⟨⟨p,v⟩,hc⟩,q⟩:=hf
  obtain ⟨y,r⟩:=h 0 u rfl
  rw [v,hc] at r
  obtain ⟨a,ha,h1,h2⟩:=JZ f p r
  simp only [Ty.sizes] at hl
  obtain ⟨b,A,B,w⟩:=jH l (us:=us) (o:=o+f.size) (n:=n) (cs:=cs) od q (fun i g hi=>h (i+1) g (by simpa using hi))
  refine ⟨a++b,⟨a,b,rfl,ha,A⟩,?_,fun j x d=>?_⟩
  ·rw [lla,h1,B];simp only [List.length_take,List.length_drop];omega
  ·have s:a.length=f.size:=(Ty.closed f a ha).2
   by_cases hj':j<a.length
   ·rw [List.getElem?_append_left hj'] at d
    have:=h2 j x d
    rw [List.getD_eq_getElem?_getD,List.getElem?_take,if_pos od] at this
    rw [List.getD_eq_getElem?_getD];exact this
   ·rw [List.getElem?_append_right od] at d
    have:=w _ x d
    rw [List.getD_eq_getElem?_getD,List.getElem?_drop] at this
    rw [List.getD_eq_getElem?_getD,List.getElem?_drop]
    have e:o+f.size+(j - a.length)=o+j:=by omega
    rw [e] at this;exact this
end
theorem Jf {e:Ty} {t u:TypeId} {r:Reach} {j:Nat} {v:Value} {d:DataW H} {ps:List MemPlace} (l:(Ty.slice e).fits P t=true) (p:P.underlying t=some (.slice u)) (b:Value.okWide P W r j t v) (h:DataW.Trod enc P W 0 sp hd t v d ps) :
  ∃rows:List (List IV),VR (zdd W) (.isl rows) v/\rows.length<=9223372036854775807/\∀row∈rows,e.Of row:=by
 obtain ⟨a,len,cap,rfl⟩:=okWide_slice p b
 obtain ⟨fuel,h⟩:=h
 obtain ⟨q,⟨rows,rfl,h1,h2⟩,s,m⟩:=JZ (.slice e) l h
 exact ⟨rows,by simpa [Value.cells] using m 0 (.isl rows) rfl,h1,h2⟩
end
end Go.X
end
section
namespace Go.X
open Go
section
variable {E:Env} {ρ:Rho} {L:List Blk} {K:IV->List Blk->Prop}
theorem YK (bs:List UInt8):zJ byteOf (zk bs)=some bs:=by
 induction bs with
 | nil=>rfl
 | cons b l d=>
  show zJ byteOf ([.int .u8 b.toNat]::zk l)=_
  rw [zJ,z2v,d]
@[go_sem] theorem yB (bs:List UInt8):(zk bs).length=bs.length:=by simp [zk]
@[go_sem high] theorem zhP {ty:Nat} {s:List UInt8} {KV:IV->List Blk->Prop}:xop E (.ex (.strB ty) [.c (.str s)]) cev L KV=(s.length<=9223372036854775807/\KV (.sl L.length 0 s.length s.length) (L++[.tcells ty 1 (zk s)])):=by
 show (_/\KV _ (Z4 _ _ _))=_
 rw [Zw]
end
def Keep (F:Nat->Prop) (L L':List Blk):Prop:=L.length<=L'.length/\∀t,t<L.length->¬F t->L'[t]?=L[t]?
def Grown (F F':Nat->Prop) (L L':List Blk):Prop:=∀t,F' t->F t\/(L.length<=t/\t<L'.length)
def none':Nat->Prop:=fun _=>False
theorem Keep.refl {F:Nat->Prop} {L:List Blk}:Keep F L L:=⟨Nat.le_refl _,fun _ _ _=>rfl⟩
theorem Keep.get {F:Nat->Prop} {L L':List Blk} {t:Nat} {k:Blk} (h:Keep F L L') (b:L[t]?=some k) (d:¬F t):L'[t]?=some k:=by rw [h.2 t (zf b) d];exact b
theorem Keep.mono {F F':Nat->Prop} {L L':List Blk} (h:Keep F L L') (d:∀t,t<L.length->F t->F' t):Keep F' L L':=⟨h.1,fun t b j=>h.2 t b fun h=>j (d t b h)⟩
theorem Keep.trans {F F':Nat->Prop} {L L1 L2:List Blk} (h:Keep F L L1) (d:Keep F' L1 L2) (l:∀t,t<L.length->F' t->F t):Keep F L L2:=
 ⟨Nat.le_trans h.1 d.1,fun t b j=>(d.2 t (Nat.lt_of_lt_of_le b h.1) fun h=>j (l t b h)).trans (h.2 t b j)⟩
theorem Keep.set {F:Nat->Prop} {L L':List Blk} {s:Nat} {k:Blk} (h:Keep F L L') (hs:s<L.length->F s):Keep F L (L'.set s k):=
 ⟨by rw [lls];exact h.1,fun t b d=>by
  by_cases hst:s=t
  ·subst hst;exact absurd (hs b) d
  ·rw [List.getElem?_set_ne hst];exact h.2 t b d⟩
theorem Keep.app {F:Nat->Prop} {L L':List Blk} {k:Blk} (h:Keep F L L'):Keep F L (L'++[k]):=
 ⟨by rw [lla];exact Nat.le_trans h.1 (Nat.le_add_right _ _),fun t b d=>by rw [List.getElem?_append_left (Nat.lt_of_lt_of_le b h.1)];exact h.2 t b d⟩
theorem Grown.refl {F:Nat->Prop} {L L':List Blk}:Grown F F L L':=fun _ h=>.inl h
theorem Grown.trans {F F1 F2:Nat->Prop} {L L1 L2:List Blk} (h:Grown F F1 L L1) (j:Grown F1 F2 L1 L2) (h1:L.length<=L1.length) (h2:L1.length<=L2.length):Grown F F2 L L2:=fun t l=>by
 rcases j t l with d | ⟨d,m⟩
 ·rcases h t d with b | ⟨b,p⟩
  ·exact .inl b
  ·exact .inr ⟨b,od⟩
 ·exact .inr ⟨od,m⟩
theorem Grown.out {F F':Nat->Prop} {L L':List Blk} (h:Grown F F' L L') {t:Nat} (j:t<L.length) (d:¬F t):¬F' t:=fun b=>by
 rcases h t b with h1 | ⟨h1,_⟩
 ·exact d h1
 ·omega
theorem Zu {L:List Blk} {s:Nat} {k b:Blk} (h:L[s]?=some k):(L++[b])[s]?=some k:=Zz h
theorem zo {L:List Blk} {s t:Nat} {k l:Blk} (h:L[s]?=some k) (d:L[t]?=some l) (b:k≠l):(s=t)=False:=eq_false fun j=>by subst j;rw [h] at d;exact b (Option.some.inj d)
@[go_sem] theorem zmd {M:List Blk} {n:Nat} {x:Blk} (h:M.length=n):(M++[x])[n]?=some x:=by subst h;simp
@[go_sem] theorem znG {M:List Blk} {s:Nat} {b:Blk} (h:s<M.length):(M++[b])[s]?=M[s]?:=List.getElem?_append_left h
@[go_sem] theorem znN {M:List Blk} {s t:Nat} {b:Blk} (h:¬s=t):(M.set s b)[t]?=M[t]?:=List.getElem?_set_ne h
@[go_sem] theorem zmm {M:List Blk} {s:Nat} {b:Blk} (h:s<M.length):(M.set s b)[s]?=some b:=List.getElem?_set_self h
@[go_sem] theorem ziA {M:List Blk} {s:Nat} {b:Blk} (h:s<M.length):(s<(M++[b]).length)=True:=eq_true (by rw [lla];exact Nat.lt_of_lt_of_le h (Nat.le_add_right _ _))
@[go_sem] theorem zhH {M:List Blk} {n:Nat} {b:Blk} (h:M.length=n):(n<(M++[b]).length)=True:=eq_true (by subst h;simp)
@[go_sem] theorem zmE {M:List Blk} {s:Nat} (h:s<M.length):(M.length=s)=False:=fO
@[go_sem] theorem zmM {M:List Blk} {s:Nat} (h:s<M.length):(s=M.length)=False:=fO
attribute [go_sem] lls
theorem zg {L:List Blk} {s:Nat} {k:Blk} (h:L[s]?=some k):(s<L.length)=True:=eq_true (zf h)
section
variable {E:Env} {L:List Blk} {K:IV->List Blk->Prop}
theorem xtl {f : FuncId} {fn : Func} {n : Nat} {rs : List z2p} {c : XC} {args : List IV} {R Q : IV → List Blk → Prop} (l : E.P.funcs[f]? = some fn) (j : wo E.P fn = some ⟨n, rs, c⟩) (d : fn.name ≠ "runtime.NumGoroutine")
  (b:args.length≤fn.ntmps) (h:Zg (E.withPan Q) c (entry args) L (z1E fun ρ L'=>Zq (E.withPan Q) rs ρ L' fun r=>R r L')):XTP E f args L R Q:=by
 refine z5b l j d b (zK _ (fun e ρ L h=>?_) h)
 cases e with
 | normal=>exact ⟨Or.inr rfl,h⟩
 | ret=>exact ⟨Or.inl rfl,h⟩
 | exit=>exact h.elim
 | goto=>exact h.elim
theorem zI {f : FuncId} {fn : Func} {n : Nat} {rs : List z2p} {c : XC} {args : List IV} {R : IV → List Blk → Prop} (l : E.P.funcs[f]? = some fn) (j : wo E.P fn = some ⟨n, rs, c⟩) (d : fn.name ≠ "runtime.NumGoroutine")
  (b:args.length≤fn.ntmps) (h:Zg E.noPan c (entry args) L (z1E fun ρ L'=>Zq E.noPan rs ρ L' fun r=>R r L')):XT E f args L R:=zdh (xtl (Q:=fun _ _=>False) l j d b h)
theorem zh {f:FuncId} {args:List IV} {R:IV->List Blk->Prop} (h:XT E f args L R) (b:∀r L',R r L'->K r L'):vJ E f args L K:=.inr (.inr (.inr (.inl (zfm (h.mono b)))))
theorem J8 {f:FuncId} {args:List IV} {R Q:IV->List Blk->Prop} (h:XTP E f args L R Q) (d:∀r L',R r L'->K r L') (b:∀r L',Q r L'->E.pan r L'):vJ E f args L K:=.inr (.inr (.inr (.inl (h.mono d b))))
theorem zeM {f:FuncId} {args:List IV} (h:XTX E f args L K):vJ E f args L K:=.inr (.inr (.inr (.inr h)))
@[go_sem] theorem zlO {g sz:Nat} {d x:IV}:xex E (.copy sz) [d,x] g L K=z3y sz d x L K:=nr rfl
@[go_sem] theorem znm {g sz s off len cap:Nat} {j d b:IntKind} {l h m:Int}:xex E (.sl3 sz) [.sl s off len cap,.int j l,.int d h,.int b m] g L K=(Yk L s=some sz/\0<=l/\l<=h/\h<=m/\m<=cap/\K (.sl s (off+l.toNat) (h - l).toNat (m - l).toNat) L):=nr rfl
theorem zfU {g n s l:Nat} {k:IntKind} {row:List IV} (h:L[s]?=some (.cells n [row])) (hi:∀c∈row,∃k v,c=.int k v) (b:row.length=n) (j:l<=n) (d:K (.isl ((row.drop l).map fun c=>[c])) (L.set s .dead)):xex E (.sla n) [.ptr s 0 0,.int k l] g L K:=by
 simp only [xex,h]
 exact ⟨trivial,hi,b,od,od,by simpa using d⟩
theorem z2X {z:List IV} {g t off len cap:Nat} {rows:List (List IV)} (l:L[t]?=some (.cells z.length rows)) (b:z.all zG=true) (j:len≠0) (d:off+len<=rows.length)
  (m:K (.tup []) (L.set t (.cells z.length (splice rows off (List.replicate len z))))):xex E (.clr z) [.sl t off len cap] g L K:=by
 simp only [xex]
 unfold zh3
 simp only [l]
 exact ⟨fun h=>absurd h j,fun _=>⟨trivial,b,d,m⟩⟩
theorem z9I {ty sz t off len cap:Nat} {x:IV} {rs rows:List (List IV)} (r:rowsOf L x=some rs) (d:L[t]?=some (.tcells ty sz rows)) (j:yz sz rs) (l:rs.length<=len) (q:off+rs.length<=rows.length)
  (b:K (.int .i64 rs.length) (L.set t (.tcells ty sz (splice rows off rs)))):z3y sz (.sl t off len cap) x L K:=by
 unfold z3y
 simp only [r,d]
 refine ⟨l,j,fun m=>?_,fun _=>⟨trivial,q,b⟩⟩
 subst m
 have e1:splice rows off []=rows:=by simp [splice]
 have p:L.set t (.tcells ty sz rows)=L:=by
  apply List.ext_getElem? 
  intro i
  by_cases h:t=i
  ·subst h;rw [List.getElem?_set_self (zf d),d]
  ·rw [List.getElem?_set_ne h]
 rw [e1,p] at b
 exact b
@[go_sem] theorem zhD {sz t off len cap:Nat}:z3y sz (.sl t off len cap) .nsl L K=K (.int .i64 0) L:=by
 unfold z3y
 simp [rowsOf,yz]
@[go_sem] theorem zkf {m s off len cap:Nat} {KV:IV->List Blk->Prop}:xop E (.slice m (.c (.sl s off len cap)) none none) cev L KV=(Yk L s=some m/\len<=cap/\KV (.sl s off len cap) L):=by simp [xop,Z9,bnd]
@[go_sem] theorem zko {m s off len cap:Nat} {k:IntKind} {l:Int} {KV:IV->List Blk->Prop}:xop E (.slice m (.c (.sl s off len cap)) (some (.c (.int k l))) none) cev L KV =
  (Yk L s=some m/\0<=l/\l.toNat<=len/\len<=cap/\KV (.sl s (off+l.toNat) (len - l.toNat) (cap - l.toNat)) L):=by simp [xop,Z9,bnd]
@[go_sem] theorem zkh {m s off len cap:Nat} {k:IntKind} {h:Int} {KV:IV->List Blk->Prop}:xop E (.slice m (.c (.sl s off len cap)) none (some (.c (.int k h)))) cev L KV =
  (Yk L s=some m/\0<=h/\h.toNat<=cap/\KV (.sl s off h.toNat cap) L):=by simp [xop,Z9,bnd]
@[go_sem] theorem zkp {m s off len cap:Nat} {k b:IntKind} {l h:Int} {KV:IV->List Blk->Prop}:xop E (.slice m (.c (.sl s off len cap)) (some (.c (.int k l))) (some (.c (.int b h)))) cev L KV =
  (Yk L s=some m/\0<=l/\0<=h/\l.toNat<=h.toNat/\h.toNat<=cap/\KV (.sl s (off+l.toNat) (h.toNat - l.toNat) (cap - l.toNat)) L):=by
 simp only [xop,Z9,bnd,Option.map_some]
@[go_sem] theorem zn1 {z b:IV} {KV:IV->List Blk->Prop} (d:cellsOf b=[b]):xop E (.bslice 1 [z] 1 [(0,.c b)]) cev L KV=KV (.sl L.length 0 1 1) (L++[.cells 1 [[b]]]):=by simp [xop,Zn,Z9,d,List.replicate]
@[go_sem] theorem zmZ {z b d:IV} {KV:IV->List Blk->Prop} (h:cellsOf b=[b]) (h1:cellsOf d=[d]):xop E (.bslice 1 [z] 2 [(0,.c b),(1,.c d)]) cev L KV=KV (.sl L.length 0 2 2) (L++[.cells 1 [[b],[d]]]):=by simp [xop,Zn,Z9,h,h1,List.replicate]
@[go_sem] theorem zmS {z b d h:IV} {KV:IV->List Blk->Prop} (j:cellsOf b=[b]) (h1:cellsOf d=[d]) (h2:cellsOf h=[h]):xop E (.bslice 1 [z] 3 [(0,.c b),(1,.c d),(2,.c h)]) cev L KV=KV (.sl L.length 0 3 3) (L++[.cells 1 [[b],[d],[h]]]):=by simp [xop,Zn,Z9,j,h1,h2,List.replicate]
@[go_sem] theorem znC {z b d j h:IV} {KV:IV->List Blk->Prop} (m:cellsOf b=[b]) (h1:cellsOf d=[d]) (h2:cellsOf j=[j]) (l:cellsOf h=[h]):xop E (.bslice 1 [z] 4 [(0,.c b),(1,.c d),(2,.c j),(3,.c h)]) cev L KV=KV (.sl L.length 0 4 4) (L++[.cells 1 [[b],[d],[j],[h]]]):=by simp [xop,Zn,Z9,m,h1,h2,l,List.replicate]
@[go_sem] theorem zng {ρ:Rho} {K:IV->Prop}:Zq E [] ρ L K=K (.tup []):=nr rfl
@[go_sem] theorem znh {ρ:Rho} {t:Nat} {K:IV->Prop}:Zq E [.tmp t] ρ L K=K (ρ t):=nr rfl
@[go_sem] theorem zkV {ρ:Rho} {t t':Nat} {K:IV->Prop}:Zq E [.tmp t,.tmp t'] ρ L K=K (.tup [ρ t,ρ t']):=nr rfl
@[go_sem] theorem zkz {ρ:Rho} {t t' b:Nat} {K:IV->Prop}:Zq E [.tmp t,.tmp t',.tmp b] ρ L K=K (.tup [ρ t,ρ t',ρ b]):=nr rfl
theorem Y6 {rs:List z2p} {ρ:Rho} {K:IV->Prop}:Zq E rs ρ L K=WL E ρ L rs fun vs=>K (VJ vs):=nr rfl
theorem WH {ρ:Rho} {t:Nat} {rs:List z2p} {K:List IV->Prop}:WL E ρ L (.tmp t::rs) K=WL E ρ L rs fun vs=>K (ρ t::vs):=nr rfl
theorem ZJ {ρ:Rho} {K:List IV->Prop}:WL E ρ L [] K=K []:=nr rfl
theorem YQ {ρ:Rho} {t:Nat} {rs:List z2p} {K:List IV->Prop}:WL E ρ L (.cell1 t::rs) K=xop E (.load1 (.c (ρ t))) cev L fun r _=>WL E ρ L rs fun vs=>K (r::vs):=nr rfl
theorem Zk {ρ:Rho} {t n:Nat} {rs:List z2p} {K:List IV->Prop}:WL E ρ L (.cellN t n::rs) K=xop E (.loadN n (.c (ρ t))) cev L fun r _=>WL E ρ L rs fun vs=>K (r::vs):=nr rfl
@[go_sem] theorem zk7 {g:Nat} {f:FloatKind} {k:IntKind} {n:Int}:xex E (.itof f) [.int k n] g L K=K (.raw (.float f (floatOfInt f n))) L:=nr rfl
@[go_sem] theorem znv {g:Nat} {k:FloatKind} {a b:Nat}:xex E .cpx [.raw (.float k a),.raw (.float k b)] g L K=K (.raw (.complex k a b)) L:=by simp [xex]
@[go_sem] theorem zjr {g:Nat} {vs:List IV}:xex E .mmake vs g L K=K (.mp g) (Z4 L g (.map [] 0)):=nr rfl
@[go_sem] theorem zif {g s:Nat} {st ok:Bool} {z k:IV}:xex E (.mlook st z ok) [.mp s,k] g L K=jB st z ok (.mp s) k L K:=nr rfl
@[go_sem] theorem zlz {g s:Nat} {st:Bool} {k v:IV}:xex E (.mset st) [.mp s,k,v] g L K=zcL st (.mp s) k v L K:=nr rfl
def z0A (b:Option Blk) (K:List (IV × IV × Nat)->Nat->Prop):Prop:=
 match b with
 | some (.map es c)=>K es c
 | _=>False
@[congr] theorem zfb {b b':Option Blk} {K:List (IV × IV × Nat)->Nat->Prop} (h:same b=b'):z0A b K=z0A b' K:=by rw [<-h];rfl
@[go_sem] theorem zgC {b:List (IV × IV × Nat)} {c:Nat} {K:List (IV × IV × Nat)->Nat->Prop}:z0A (some (.map b c)) K=K b c:=nr rfl
def Wi (r:Option (Option Nat)) (K1:Nat->Prop) (K2:Prop):Prop:=
 match r with
 | some (some i)=>K1 i
 | some none=>K2
 | none=>False
@[congr] theorem zdz {r r':Option (Option Nat)} {K1:Nat->Prop} {K2:Prop} (h:same r=r'):Wi r K1 K2=Wi r' K1 K2:=by rw [<-h];rfl
@[go_sem] theorem zhQ {i:Nat} {K1:Nat->Prop} {K2:Prop}:Wi (some (some i)) K1 K2=K1 i:=nr rfl
@[go_sem] theorem zhc {K1:Nat->Prop} {K2:Prop}:Wi (some none) K1 K2=K2:=nr rfl
@[go_sem] theorem zin {k:IntKind} {n:Int}:isKey false (.int k n)=true:=nr rfl
@[go_sem] theorem ziB {s:List UInt8}:isKey true (.str s)=true:=nr rfl
@[go_sem] theorem znf {k:IntKind} {a b:Int}:kEq (.int k a) (.int k b)=some (decide (a=b)):=by simp [kEq]
@[go_sem] theorem zmD {a b:List UInt8}:kEq (.str a) (.str b)=some (decide (a=b)):=nr rfl
@[go_sem] theorem zly {k:IV} {i:Nat}:yR k [] i=some none:=nr rfl
@[go_sem] theorem zmz {k:IV} {e:IV × IV × Nat} {r:List (IV × IV × Nat)} {i:Nat} (h:kEq k e.1=some true):yR k (e::r) i=some (some i):=by simp [yR,h]
@[go_sem] theorem zhX {k:IV} {e:IV × IV × Nat} {r:List (IV × IV × Nat)} {i:Nat} (h:kEq k e.1=some false):yR k (e::r) i=yR k r (i+1):=by simp [yR,h]
theorem z4C {st:Bool} {s:Nat} {k:IV} {F:Nat->List (IV × IV × Nat)->Nat->Option Nat->Prop}:vT st (.mp s) k L F=(isKey st k=true/\z0A L[s]? fun b c=>Wi (yR k b 0) (fun i=>F s b c (some i)) (F s b c none)):=by
 simp only [vT,eq_iff_iff]
 refine and_congr_right fun _=>?_
 cases hL:L[s]? with
 | none=>exact Iff.rfl
 | some q=>
  cases q with
  | map b c=>
   show (match yR k b 0 with | some r=>F s b c r | none=>False)↔Wi (yR k b 0) _ _
   cases hm:yR k b 0 with
   | none=>exact Iff.rfl
   | some r=>cases r<;>exact Iff.rfl
  | _=>exact Iff.rfl
@[go_sem] theorem ziC {st ok:Bool} {s:Nat} {z k:IV}:jB st z ok (.mp s) k L K=(isKey st k=true/\z0A L[s]? fun b _=>Wi (yR k b 0) (fun i=>K (wK ok (b.getD i default).2.1 true) L) (K (wK ok z false) L)):=z4C
@[go_sem] theorem zjW {st:Bool} {s:Nat} {k v:IV}:zcL st (.mp s) k v L K=(isKey st k=true/\z0A L[s]? fun b c=>Wi (yR k b 0) (fun i=>K .und (L.set s (.map (b.set i (k,v,(b.getD i default).2.2)) c))) (K .und (L.set s (.map (b++[(k,v,c)]) (c+1))))):=z4C
@[go_sem] theorem zeQ {m:Nat}:cellsOf (.mp m)=[.mp m]:=nr rfl
theorem z5X {ρ:Rho} {K:XE->Rho->List Blk->Prop} {g:Opd} {N:Nat} {ps:List Nat} {b d:XC} {gf:FuncId} {caps:List IV} (hg:g.ev ρ=.fn (.func gf) [] caps)
  (h:∀r0:Loop,r0.state=.ready->r0.pending=none->z1V E.P N ps b d r0->
   XT E gf (.yld L.length::caps) (L++[.lp r0 ((List.range N).map ρ)]) fun _ L'=>∃r1,L'[L.length]?=some (.lp r1 ((List.range N).map ρ))/\r1.state≠.busy/\
     match r1.pending with
     | none=>K .normal ρ (L'.set L.length .dead)
     | some .ret=>K .ret ρ (L'.set L.length .dead)
     | some (.exit i)=>K (.exit i) ρ (L'.set L.length .dead)
     | some (.goto l)=>K (.goto l) ρ (L'.set L.length .dead)
     | _=>False):Zg E (.rngF g N ps b d) ρ L K:=by
 simp only [Zg,hg]
 exact h
def band (k:IntKind) (a b:Int):Int:=k.wrap (BitVec.ofInt k.bits a&&&BitVec.ofInt k.bits b).toNat
def bor (k:IntKind) (a b:Int):Int:=k.wrap (BitVec.ofInt k.bits a|||BitVec.ofInt k.bits b).toNat
def zdm (k:IntKind) (a b:Int):Int:=k.wrap (BitVec.ofInt k.bits a^^^BitVec.ofInt k.bits b).toNat
def zie (k:IntKind) (n:Int):Int:=k.wrap (BitVec.ofInt k.bits (if k.signed then -1 else k.max)^^^BitVec.ofInt k.bits n).toNat
def zav (k:IntKind) (a b:Int):Int:=a.fdiv (2^min b.toNat k.bits)
def zez (k:IntKind) (a b:Int):Int:=k.wrap (a*2^min b.toNat k.bits)
@[go_sem] theorem zkd {k:IntKind} {a b:Int} {KV:IV->List Blk->Prop}:xop E (.bin .and (.c (.int k a)) (.c (.int k b))) cev L KV=KV (.int k (band k a b)) L:=by simp only [xop,VM,Z9,true_and,band]
@[go_sem] theorem zmV {k:IntKind} {a b:Int} {KV:IV->List Blk->Prop}:xop E (.bin .or (.c (.int k a)) (.c (.int k b))) cev L KV=KV (.int k (bor k a b)) L:=by simp only [xop,VM,Z9,true_and,bor]
@[go_sem] theorem zky {k:IntKind} {a b:Int} {KV:IV->List Blk->Prop}:xop E (.bin .xor (.c (.int k a)) (.c (.int k b))) cev L KV=KV (.int k (zdm k a b)) L:=by simp only [xop,VM,Z9,true_and,zdm]
@[go_sem] theorem zkB {k d:IntKind} {a b:Int} {KV:IV->List Blk->Prop}:xop E (.bin .shr (.c (.int k a)) (.c (.int d b))) cev L KV=(0<=b/\KV (.int k (zav k a b)) L):=nr rfl
@[go_sem] theorem zlv {k d:IntKind} {a b:Int} {KV:IV->List Blk->Prop}:xop E (.bin .shl (.c (.int k a)) (.c (.int d b))) cev L KV=(0<=b/\KV (.int k (zez k a b)) L):=nr rfl
@[go_sem] theorem zke {k:IntKind} {n:Int} {KV:IV->List Blk->Prop}:xop E (.un .xor (.c (.int k n))) cev L KV=KV (.int k (zie k n)) L:=nr rfl
theorem YF {n:Int} (h1 : -9223372036854775808<=n) (h2:n<=9223372036854775807):IntKind.i64.wrap n=n:=by unfold IntKind.wrap;simp [IntKind.bits,IntKind.signed]<;>omega
theorem wu8 {n:Int} (h1:0<=n) (h2:n<=255):IntKind.u8.wrap n=n:=by unfold IntKind.wrap;simp [IntKind.bits,IntKind.signed]<;>omega
theorem wu64 {n:Int} (h1:0<=n) (h2:n<=18446744073709551615):IntKind.u64.wrap n=n:=by unfold IntKind.wrap;simp [IntKind.bits,IntKind.signed]<;>omega
def zhL (b:Option Blk) (K:Nat->Prop):Prop:=
 match b with
 | some (.mit s)=>K s
 | _=>False
@[congr] theorem zf5 {b b':Option Blk} {K:Nat->Prop} (h:same b=b'):zhL b K=zhL b' K:=by rw [<-h];rfl
@[go_sem] theorem zgp {s:Nat} {K:Nat->Prop}:zhL (some (.mit s)) K=K s:=nr rfl
def zdL (es:List (IV × IV × Nat)) (K:Prop):Prop:=
 match es with
 | []=>K
 | _=>False
@[go_sem] theorem zfl {K:Prop}:zdL [] K=K:=nr rfl
@[go_sem] theorem zlG {g s:Nat}:xex E .mrng [.mp s] g L K=z0A L[s]? fun _ _=>K (.ptr g 0 0) (Z4 L g (.mit s)):=by
 simp only [xex]
 cases hL:L[s]? with
 | none=>rfl
 | some q=>cases q<;>rfl
@[go_sem] theorem zk2 {g t:Nat}:xex E .mnxt [.ptr t 0 0] g L K=zhL L[t]? fun s=>z0A L[s]? fun b _=>zdL b (K (.tup [.bool false]) L):=by
 simp only [xex]
 cases hL:L[t]? with
 | none=>rfl
 | some q=>
  cases q with
  | mit s=>
   show (match L[s]? with | some (.map [] _)=>K (.tup [.bool false]) L | _=>False)=z0A L[s]? fun b _=>zdL b (K (.tup [.bool false]) L)
   cases hL':L[s]? with
   | none=>rfl
   | some q=>
    cases q with
    | map b c=>cases b<;>rfl
    | _=>rfl
  | _=>rfl
@[go_sem] theorem ziN {M:List Blk} {n:Nat} {k:Blk} (h:M.length=n):Z4 M n k=M++[k]:=by subst h;exact Zw _ _
@[go_sem] theorem zii {r:IV} {b:Bool}:wK true r b=.tup [r,.bool b]:=nr rfl
@[go_sem] theorem zjt {r:IV} {b:Bool}:wK false r b=r:=nr rfl
@[go_sem] theorem zhG {st ok:Bool} {z:IV} {vs:List Opd} {L L':List Blk}:YT (XO.ex (.mlook st z ok) vs) L L'=[]:=nr rfl
@[go_sem] theorem zfC {st ok:Bool} {z:IV} {m:Nat} {k:IntKind} {n:Int} {L L':List Blk}:YE (XO.ex (.mlook st z ok) [.c (.mp m),.c (.int k n)]) L L'=[m]:=nr rfl
@[go_sem] theorem zgu {st ok:Bool} {z:IV} {m:Nat} {t:List UInt8} {L L':List Blk}:YE (XO.ex (.mlook st z ok) [.c (.mp m),.c (.str t)]) L L'=[m]:=nr rfl
@[go_sem] theorem zhg {ty b:Nat} {x:Opd} {L L':List Blk}:YT (XO.ex (.appT ty b) [.c .nsl,x]) L L'=if L'.length=L.length then [] else [L.length]:=nr rfl
@[go_sem] theorem zgH {ty b t o l c:Nat} {x:Opd} {L L':List Blk}:YT (XO.ex (.appT ty b) [.c (.sl t o l c),x]) L L'=t::if L'.length=L.length then [] else [L.length]:=nr rfl
theorem zt {x:IV} {n:Nat} (h:lenOf x=some n):xop E (.len (.c x)) cev L K=K (.int .i64 n) L:=by simp only [xop,Z9,h]
theorem JB {ty bytes g:Nat} {x:IV} {rs:List (List IV)} (hg:L.length=g) (d:rowsOf L x=some rs) (m:yz 1 rs) (b:rs≠[]) (j:rs.length*bytes<=70368744177664)
  (l:K (.sl g 0 rs.length rs.length) (L++[.tcells ty 1 rs])):Yj ty bytes .nsl x g L K:=by
 subst hg
 unfold Yj
 rw [d]
 exact ⟨m,fun h=>absurd h b,fun _=>⟨j,by rw [Zw];exact l⟩⟩
theorem vz {ty bytes g t n:Nat} {x:IV} {rs rows:List (List IV)} (hg:L.length=g) (p:L[t]?=some (.tcells ty 1 rows)) (j:rows.length=n) (q:rowsOf L x=some rs) (d:yz 1 rs) (b:rs≠[]) (m:(n+rs.length)*bytes<=70368744177664)
  (l:K (.sl g 0 (n+rs.length) (n+rs.length)) (L.set t .dead++[.tcells ty 1 (rows++rs)])):Yj ty bytes (.sl t 0 n n) x g L K:=by
 subst hg;subst j
 unfold Yj
 rw [q]
 refine ⟨d,rfl,rfl,?_⟩
 simp only [p]
 refine ⟨trivial,trivial,trivial,fun h=>absurd h b,fun _=>⟨m,?_⟩⟩
 have e1:Z4 (L.set t Blk.dead) L.length (.tcells ty 1 (rows++rs))=L.set t .dead++[.tcells ty 1 (rows++rs)]:=by unfold Z4;rw [if_pos (by rw [lls])]
 rw [e1];exact l
theorem Wy {ty bytes g t n:Nat} {x:IV} {rs rows:List (List IV)} (hg:L.length=g) (b:L[t]?=some (.cells 1 rows)\/L[t]?=some (.tcells ty 1 rows)) (l:rows.length=n) (j:rowsOf L x=some rs) (h:yz 1 rs) (d:rs≠[]) (p:(n+rs.length)*bytes<=70368744177664)
  (m:∀k:Blk,k=.cells 1 (rows++rs)\/k=.tcells ty 1 (rows++rs)->K (.sl g 0 (n+rs.length) (n+rs.length)) (L.set t .dead++[k])):Yj ty bytes (.sl t 0 n n) x g L K:=by
 rcases b with b | b
 ·subst hg;subst l
  have q:0<rs.length:=List.length_pos_iff.2 d
  unfold Yj
  rw [j]
  refine ⟨h,rfl,rfl,?_⟩
  simp only [b]
  unfold ZP
  rw [j]
  refine ⟨h,?_⟩
  simp only [b]
  refine ⟨trivial,od,?_⟩
  rw [if_neg od]
  refine ⟨p,?_⟩
  have e1:Z4 (L.set t Blk.dead) L.length (.cells 1 ((rows.drop 0).take rows.length++rs))=L.set t .dead++[.cells 1 (rows++rs)]:=by unfold Z4;rw [if_pos (by rw [lls])];simp
  rw [e1]
  exact m _ (.inl rfl)
 ·exact vz hg b l j h d p (m _ (.inr rfl))
end
attribute [go_sem] Nat.reduceEqDiff reduceIte Nat.reduceAdd Nat.reduceLT Nat.reduceLeDiff Nat.reduceSub Nat.reduceMul Int.reduceLT Int.reduceLE Int.reduceToNat Int.reduceSub Int.reduceAdd Int.reduceNeg Int.reduceEq
abbrev oM (d s : Nat) : zq := ⟨some d, .mov (.t s), none⟩
abbrev oL (d s : Nat) : zq := ⟨some d, .load1 (.t s), none⟩
abbrev oN (d s : Nat) : zq := ⟨some d, .nilck (.t s), none⟩
abbrev oF (d k s : Nat) : zq := ⟨some d, .fldA k (.t s), none⟩
abbrev oO (d : Nat) (o : XO) : zq := ⟨some d, o, none⟩
abbrev oU (o : XO) : zq := ⟨none, o, none⟩
abbrev oG (d g : Nat) (b : Bool) (o : XO) : zq := ⟨some d, o, some (g, b)⟩
abbrev oX (d i s : Nat) : zq := ⟨some d, .ext (.t s) i, none⟩
theorem xtA {E : Env} {L : List Blk} {f : FuncId} {P : Program} {fn : Func} {rs : List z2p} {c : XC} {args : List IV} {R : IV → List Blk → Prop} (hP : E.P = P) (hf : P.funcs[f]? = some fn) (hF : wo P fn = some ⟨fn.ntmps, rs, c⟩) (hnm : fn.name ≠ "runtime.NumGoroutine") (ha : args.length ≤ fn.ntmps)
    (h : ∀ ρ : Rho, (∀ (i : Nat) (v : IV), args[i]? = some v → ρ i = v) → Zg E.noPan c ρ L (z1E fun ρ L' => Zq E.noPan rs ρ L' fun r => R r L')) : XT E f args L R :=
  zI (by rw [hP]; exact hf) (by rw [hP]; exact hF) hnm ha (h _ fun i v hv => by simp [entry, List.getD_eq_getElem?_getD, hv])
abbrev oi (n:Int):Opd:=.c (.int .i64 n)
abbrev oz:Opd:=.c (.raw (.pointer none))
abbrev oC (d f:Nat) (a:List Opd):zq:=⟨some d,.call (.f f) a,none⟩
abbrev oQ (d f:Nat) (a:List Opd):zq:=⟨some d,.pcall (.f f) a,none⟩
abbrev oI (d:Nat) (n:Int):zq:=⟨some d,.mov (.c (.int .i64 n)),none⟩
abbrev oV (d:Nat) (v:IV):zq:=⟨some d,.mov (.c v),none⟩
abbrev oY (d s:Nat):zq:=⟨some d,.len (.t s),none⟩
abbrev oB (d:Nat) (o:BinOp) (a b:Nat):zq:=⟨some d,.bin o (.t a) (.t b),none⟩
abbrev oK (d:Nat) (o:BinOp) (a:Nat) (n:Int):zq:=⟨some d,.bin o (.t a) (.c (.int .i64 n)),none⟩
abbrev oS (a b:Nat):zq:=⟨none,.store 1 (.t a) (.t b),none⟩
abbrev sO (l:List zq) (c:XC):XC:=.seq (.ops l) c
abbrev cT (g:Nat) (a b:XC):XC:=.cond (.t g) a b
attribute [go_sem] decide_true decide_false
theorem xt1 {E:Env} {L:List Blk} {f:FuncId} {P:Program} {fn:Func} {rs:List z2p} {c:XC} {a0:IV} {R:IV→List Blk→Prop} (hP:E.P=P) (h:∀ρ:Rho,ρ 0=a0→Zg E.noPan c ρ L (z1E fun ρ L'=>Zq E.noPan rs ρ L' fun r=>R r L')) (hf:P.funcs[f]?=some fn:=by rfl) (hF:wo P fn=some ⟨fn.ntmps,rs,c⟩:=by kernel_rfl) (hnm:fn.name≠ "runtime.NumGoroutine":=by decide) (ha:1≤fn.ntmps:=by exact Nat.le_of_ble_eq_true rfl):XT E f [a0] L R:=xtA hP hf hF hnm ha fun ρ e=>h ρ (e 0 _ rfl)
theorem xt2 {E:Env} {L:List Blk} {f:FuncId} {P:Program} {fn:Func} {rs:List z2p} {c:XC} {a0 a1:IV} {R:IV→List Blk→Prop} (hP:E.P=P) (h:∀ρ:Rho,ρ 0=a0→ρ 1=a1→Zg E.noPan c ρ L (z1E fun ρ L'=>Zq E.noPan rs ρ L' fun r=>R r L')) (hf:P.funcs[f]?=some fn:=by rfl) (hF:wo P fn=some ⟨fn.ntmps,rs,c⟩:=by kernel_rfl) (hnm:fn.name≠ "runtime.NumGoroutine":=by decide) (ha:2≤fn.ntmps:=by exact Nat.le_of_ble_eq_true rfl):XT E f [a0,a1] L R:=xtA hP hf hF hnm ha fun ρ e=>h ρ (e 0 _ rfl) (e 1 _ rfl)
theorem xt3 {E:Env} {L:List Blk} {f:FuncId} {P:Program} {fn:Func} {rs:List z2p} {c:XC} {a0 a1 a2:IV} {R:IV→List Blk→Prop} (hP:E.P=P) (h:∀ρ:Rho,ρ 0=a0→ρ 1=a1→ρ 2=a2→Zg E.noPan c ρ L (z1E fun ρ L'=>Zq E.noPan rs ρ L' fun r=>R r L')) (hf:P.funcs[f]?=some fn:=by rfl) (hF:wo P fn=some ⟨fn.ntmps,rs,c⟩:=by kernel_rfl) (hnm:fn.name≠ "runtime.NumGoroutine":=by decide) (ha:3≤fn.ntmps:=by exact Nat.le_of_ble_eq_true rfl):XT E f [a0,a1,a2] L R:=xtA hP hf hF hnm ha fun ρ e=>h ρ (e 0 _ rfl) (e 1 _ rfl) (e 2 _ rfl)
theorem xt4 {E:Env} {L:List Blk} {f:FuncId} {P:Program} {fn:Func} {rs:List z2p} {c:XC} {a0 a1 a2 a3:IV} {R:IV→List Blk→Prop} (hP:E.P=P) (h:∀ρ:Rho,ρ 0=a0→ρ 1=a1→ρ 2=a2→ρ 3=a3→Zg E.noPan c ρ L (z1E fun ρ L'=>Zq E.noPan rs ρ L' fun r=>R r L')) (hf:P.funcs[f]?=some fn:=by rfl) (hF:wo P fn=some ⟨fn.ntmps,rs,c⟩:=by kernel_rfl) (hnm:fn.name≠ "runtime.NumGoroutine":=by decide) (ha:4≤fn.ntmps:=by exact Nat.le_of_ble_eq_true rfl):XT E f [a0,a1,a2,a3] L R:=xtA hP hf hF hnm ha fun ρ e=>h ρ (e 0 _ rfl) (e 1 _ rfl) (e 2 _ rfl) (e 3 _ rfl)
theorem xt5 {E:Env} {L:List Blk} {f:FuncId} {P:Program} {fn:Func} {rs:List z2p} {c:XC} {a0 a1 a2 a3 a4:IV} {R:IV→List Blk→Prop} (hP:E.P=P) (h:∀ρ:Rho,ρ 0=a0→ρ 1=a1→ρ 2=a2→ρ 3=a3→ρ 4=a4→Zg E.noPan c ρ L (z1E fun ρ L'=>Zq E.noPan rs ρ L' fun r=>R r L')) (hf:P.funcs[f]?=some fn:=by rfl) (hF:wo P fn=some ⟨fn.ntmps,rs,c⟩:=by kernel_rfl) (hnm:fn.name≠ "runtime.NumGoroutine":=by decide) (ha:5≤fn.ntmps:=by exact Nat.le_of_ble_eq_true rfl):XT E f [a0,a1,a2,a3,a4] L R:=xtA hP hf hF hnm ha fun ρ e=>h ρ (e 0 _ rfl) (e 1 _ rfl) (e 2 _ rfl) (e 3 _ rfl) (e 4 _ rfl)
theorem xu1 {E:Env} {f:FuncId} {P:Program} {fn:Func} {t:Nat} {c:XC} {a0 r:IV} (hP:E.P=P) (h:∀ρ:Rho,ρ 0=a0→Zg E.noPan c ρ [] (z1E fun ρ L'=>conv L' fuel zF (ρ t)=some r)) (hf:P.funcs[f]?=some fn:=by rfl) (hF:wo P fn=some ⟨fn.ntmps,[.tmp t],c⟩:=by kernel_rfl) (hnm:fn.name≠ "runtime.NumGoroutine":=by decide) (ha:1≤fn.ntmps:=by exact Nat.le_of_ble_eq_true rfl):zD E f [a0] r:=yu (by rw [hP];exact hf) (by rw [hP];exact hF) hnm ha (h _ rfl)
theorem xu2 {E:Env} {f:FuncId} {P:Program} {fn:Func} {t:Nat} {c:XC} {a0 a1 r:IV} (hP:E.P=P) (h:∀ρ:Rho,ρ 0=a0→ρ 1=a1→Zg E.noPan c ρ [] (z1E fun ρ L'=>conv L' fuel zF (ρ t)=some r)) (hf:P.funcs[f]?=some fn:=by rfl) (hF:wo P fn=some ⟨fn.ntmps,[.tmp t],c⟩:=by kernel_rfl) (hnm:fn.name≠ "runtime.NumGoroutine":=by decide) (ha:2≤fn.ntmps:=by exact Nat.le_of_ble_eq_true rfl):zD E f [a0,a1] r:=yu (by rw [hP];exact hf) (by rw [hP];exact hF) hnm ha (h _ rfl rfl)
theorem xu3 {E:Env} {f:FuncId} {P:Program} {fn:Func} {t:Nat} {c:XC} {a0 a1 a2 r:IV} (hP:E.P=P) (h:∀ρ:Rho,ρ 0=a0→ρ 1=a1→ρ 2=a2→Zg E.noPan c ρ [] (z1E fun ρ L'=>conv L' fuel zF (ρ t)=some r)) (hf:P.funcs[f]?=some fn:=by rfl) (hF:wo P fn=some ⟨fn.ntmps,[.tmp t],c⟩:=by kernel_rfl) (hnm:fn.name≠ "runtime.NumGoroutine":=by decide) (ha:3≤fn.ntmps:=by exact Nat.le_of_ble_eq_true rfl):zD E f [a0,a1,a2] r:=yu (by rw [hP];exact hf) (by rw [hP];exact hF) hnm ha (h _ rfl rfl rfl)
theorem xw2 {E:Env} {f:FuncId} {P:Program} {fn:Func} {t t':Nat} {c:XC} {a0 a1 r r':IV} (hP:E.P=P) (h:∀ρ:Rho,ρ 0=a0→ρ 1=a1→Zg E.noPan c ρ [] (z1E fun ρ L'=>conv L' 11 zF (ρ t)=some r∧conv L' 11 zF (ρ t')=some r')) (hf:P.funcs[f]?=some fn:=by rfl) (hF:wo P fn=some ⟨fn.ntmps,[.tmp t,.tmp t'],c⟩:=by kernel_rfl) (hnm:fn.name≠ "runtime.NumGoroutine":=by decide) (ha:2≤fn.ntmps:=by exact Nat.le_of_ble_eq_true rfl):zD E f [a0,a1] (.tup [r,r']):=z9L (by rw [hP];exact hf) (by rw [hP];exact hF) hnm ha (h _ rfl rfl)
theorem xw3 {E:Env} {f:FuncId} {P:Program} {fn:Func} {t t':Nat} {c:XC} {a0 a1 a2 r r':IV} (hP:E.P=P) (h:∀ρ:Rho,ρ 0=a0→ρ 1=a1→ρ 2=a2→Zg E.noPan c ρ [] (z1E fun ρ L'=>conv L' 11 zF (ρ t)=some r∧conv L' 11 zF (ρ t')=some r')) (hf:P.funcs[f]?=some fn:=by rfl) (hF:wo P fn=some ⟨fn.ntmps,[.tmp t,.tmp t'],c⟩:=by kernel_rfl) (hnm:fn.name≠ "runtime.NumGoroutine":=by decide) (ha:3≤fn.ntmps:=by exact Nat.le_of_ble_eq_true rfl):zD E f [a0,a1,a2] (.tup [r,r']):=z9L (by rw [hP];exact hf) (by rw [hP];exact hF) hnm ha (h _ rfl rfl rfl)
theorem kP {F:Nat→Prop} {L L':List Blk} (h:Keep F L L':=by (repeat' first | exact Keep.refl | apply Keep.app | apply Keep.set)<;>(intro hh;first | rfl | (exfalso;first | omega | (simp only [lla,lls,llc,lln] at hh;omega)))):Keep F L L':=h
theorem kQ {F:Nat→Prop} {L L':List Blk} (h:Keep F L L':=by (repeat' first | exact Keep.refl | apply Keep.app | apply Keep.set)<;>(intro hh;first | rfl | exact .inl rfl | exact .inr rfl | exact .inr (.inl rfl) | exact .inr (.inr rfl) | exact .inr (.inr (.inl rfl)) | exact .inr (.inr (.inr rfl)) | (exfalso;first | omega | (simp only [lla,lls,llc,lln] at hh;omega)))):Keep F L L':=h
theorem wR {n m:Int} (h:n=m∧(-9223372036854775808≤n∧n≤9223372036854775807):=by omega):IntKind.i64.wrap n=m:=by rw [wrap64 h.2.1 h.2.2,h.1]
section
variable {E:Env}
theorem z9S {f:FuncId} {args args':List IV} {L:List Blk} {R:IV->List Blk->Prop} {t:Nat} {k:Blk} (D:L[t]?=some k) (ha:k.alive=true) (hc:zJ (conv L fuel (WT t)) args=some args')
  (h:XT E f args' (L.set t .dead) R):XT E f args L R:=by
 refine ⟨h.1,fun w q X vs wf b hG B A=>?_⟩
 obtain ⟨s,d,l,j,m⟩:=z1h wf b D ha
 refine (h.2 w q X vs s d hG (by rw [zQ hc];exact B) fun i y M=>?_).mono fun e w' ⟨r,L',p,v,h1,h2,J,G,I,u⟩=>⟨r,L',p,v,h1,h2,J,G,l.trans I,u⟩
 obtain ⟨x,h1,h2⟩:=zW hc i y M
 exact ZA (C:=⟨w,q,L,X⟩) (C':=⟨w,q,L.set t .dead,X⟩) rfl b j fuel _ x y _ m h2 (A i x h1)
end
def allN (P:Nat->Prop):IV->Prop
 | .ptr s _ _ | .sl s _ _ _ | .mp s | .yld s=>P s
 | .agg cs | .tup cs=>allL cs
 | .fn _ a b=>allL a/\allL b
 | .iface _ v=>allN P v
 | _=>True
 where allL:List IV->Prop
 | []=>True
 | x::r=>allN P x/\allL r
theorem z1y {P:Nat->Prop}:∀{l:List IV},allN.allL P l↔∀x∈l,allN P x
 | []=>by simp [allN.allL]
 | x::r=>by
  simp only [allN.allL,List.mem_cons,forall_eq_or_imp,z1y (l:=r)]
theorem z1O {P:Nat->Prop} {l:List IV} (h:∀(i:Nat) (x:IV),l[i]?=some x->allN P x):allN.allL P l:=z1y.2 fun x b=>by
 obtain ⟨i,hi⟩:=List.mem_iff_getElem?.1 b
 exact h i x hi
theorem Jc {P:Nat->Prop} {l:List IV} (h:allN.allL P l) {i:Nat} {x:IV} (hi:l[i]?=some x):allN P x:=z1y.1 h x (List.mem_of_getElem? hi)
theorem VR.allN {C:Ctx} {x:IV} {v:Value} (h:VR C x v):Go.X.allN C.born x:=by
 induction h with
 | ptr s r o hs=>exact hs
 | sl s off len cap a cap' hs m hc ha=>exact hs
 | agg cs vs m l b=>exact z1O b
 | tup cs vs m l b=>exact z1O b
 | fn f as bs u A ha w q p j d=>exact ⟨z1O j,z1O d⟩
 | iface t x v l b=>exact b
 | mp s hs=>exact hs
 | yld s hs=>exact hs
 | _=>trivial
theorem wH {P:Nat->Prop}:∀(x:IV),closed x=true->Go.X.allN P x
 | .agg cs,h=>closedL_allL cs (by simpa [closed] using h)
 | .tup cs,h=>closedL_allL cs (by simpa [closed] using h)
 | .fn _ a b,h=>by
  simp only [closed,Bool.and_eq_true] at h
  exact ⟨closedL_allL a h.1,closedL_allL b h.2⟩
 | .iface _ v,h=>wH v (by simpa [closed] using h)
 | .bool _,_ | .int _ _,_ | .str _,_ | .raw _,_ | .und,_ | .isl _,_ | .iptr _ _ _,_ | .esl,_ | .nsl,_=>trivial
 | .ptr _ _ _,h | .sl _ _ _ _,h | .mp _,h | .yld _,h=>by simp [closed] at h
 where
 closedL_allL {P:Nat->Prop}:∀(l:List IV),closed.closedL l=true->Go.X.allN.allL P l
  | [],_=>trivial
  | x::r,h=>by
   simp only [closed.closedL,Bool.and_eq_true] at h
   exact ⟨wH x h.1,closedL_allL r h.2⟩
theorem VR.drop {C C':Ctx} (G:C'.w=C.w) (q:C'.φ=C.φ) (u:∀b,C'.own b->C.own b) {x:IV} {v:Value} (h:VR C x v):Go.X.allN C'.born x->VR C' x v:=by
 induction h with
 | bool b=>exact fun _=>.bool b
 | int k n=>exact fun _=>.int k n
 | str s=>exact fun _=>.str s
 | raw v h=>exact fun _=>.raw v h
 | und=>exact fun _=>.und
 | ptr s r o hs=>intro d;rw [<-q];exact .ptr s r o d
 | sl s off len cap a cap' hs B hc ha U=>intro d;refine .sl s off len cap a cap' d B hc ?_ U;rw [q,G];exact ha
 | isl rows a cap' sz vals I hsz l ha J m=>
  intro _
  refine .isl rows a cap' sz vals I hsz l ?_ fun i row hi j x p=>m i row hi j x p (wH x (ZI.1 (l i row hi) _ _ p))
  rcases ha with T | ⟨b,o,ha,D,d,hc⟩
  ·exact .inl T
  ·exact .inr ⟨b,o,ha,by rw [G];exact D,fun h=>d (u b h),fun i row hi j x p=>by rw [G];exact hc i row hi j x p⟩
 | iptr rows r o b base sz vals hsz l D A ha J m=>
  intro _
  exact .iptr rows r o b base sz vals hsz l (by rw [G];exact D) (fun h=>A (u b h)) (fun i row hi j x p=>by rw [G];exact ha i row hi j x p) fun i row hi j x p=>m i row hi j x p (wH x (ZI.1 (l i row hi) _ _ p))
 | esl a=>exact fun _=>.esl a
 | nsl=>exact fun _=>.nsl
 | agg cs vs B J m=>exact fun d=>.agg cs vs B fun i x hi=>m i x hi (Jc d hi)
 | tup cs vs B J m=>exact fun d=>.tup cs vs B fun i x hi=>m i x hi (Jc d hi)
 | fn f as bs S V ha D R Q O M=>exact fun d=>.fn f as bs S V ha D (fun i x hi=>O i x hi (Jc d.1 hi)) fun i x hi=>M i x hi (Jc d.2 hi)
 | iface t x v J m=>exact fun d=>.iface t x v (m d)
 | mp s hs=>intro d;rw [<-q];exact .mp s d
 | yld s hs=>intro d;rw [<-q];exact .yld s d
theorem JH {P Q:Nat->Prop} (h:∀t,P t->Q t):∀(x:IV),Go.X.allN P x->Go.X.allN Q x
 | .agg cs,hx=>allL_mono h cs hx
 | .tup cs,hx=>allL_mono h cs hx
 | .fn _ a b,hx=>⟨allL_mono h a hx.1,allL_mono h b hx.2⟩
 | .iface _ v,hx=>JH h v hx
 | .bool _,_ | .int _ _,_ | .str _,_ | .raw _,_ | .und,_ | .isl _,_ | .iptr _ _ _,_ | .esl,_ | .nsl,_=>trivial
 | .ptr s _ _,hx | .sl s _ _ _,hx | .mp s,hx | .yld s,hx=>h s hx
 where
 allL_mono {P Q:Nat->Prop} (h:∀t,P t->Q t):∀(l:List IV),Go.X.allN.allL P l->Go.X.allN.allL Q l
  | [],_=>trivial
  | x::r,hx=>⟨JH h x hx.1,allL_mono h r hx.2⟩
theorem Ws.drop {C0 C C':Ctx} (q:C'.w=C.w) (d:C'.φ=C.φ) (p:∀b,C'.own b->C.own b) (Y:∀t,C0.born t->C'.born t) {s:Nat} {k:Blk} (A:Ws C0 s k) (h:Ws C s k):Ws C' s k:=by
 have J:∀{x:IV} {U:Value},VR C0 x U->allN C'.born x:=fun hx=>JH Y _ hx.allN
 have cells:∀{G:Bool} {sz:Nat} {rows:List (List IV)},yS G C0 s sz rows->yS G C s sz rows->yS G C' s sz rows:=fun {G sz rows} A h=>by
  obtain ⟨_,c0,_,_,_,_,_,M⟩:=A
  obtain ⟨h1,c,e,Q,h2,T,R,X⟩:=h
  refine ⟨by rw [d];exact h1,c,e,Q,by rw [d,q];exact h2,T,by rw [d];exact R,fun i row hi=>⟨(X i row hi).1,fun j x V=>?_⟩⟩
  obtain ⟨U,_,B⟩:=(M i row hi).2 j x V
  obtain ⟨v,hv,O⟩:=(X i row hi).2 j x V
  exact ⟨v,by rw [d];exact hv,O.drop q d p (J B)⟩
 cases k with
 | cells sz rows=>exact cells A h
 | tcells ty sz rows=>
  obtain ⟨h1,c,Q,h2⟩:=h.2
  exact ⟨cells A.1 h.1,by rw [d];exact h1,c,Q,by rw [d,q];exact h2⟩
 | siter t pos=>obtain ⟨h1,h2⟩:=h;exact ⟨by rw [d];exact h1,by rw [d,q];exact h2⟩
 | map es c=>
  obtain ⟨ae,_,_,I⟩:=A
  obtain ⟨ms,h1,h2,R⟩:=h
  refine ⟨ms,by rw [d,q];exact h1,h2,fun i e hi=>?_⟩
  obtain ⟨m0,_,_,B,_⟩:=I i e hi
  obtain ⟨m,g1,g2,Z,g4⟩:=R i e hi
  exact ⟨m,g1,g2,Z.drop q d p (J B),g4⟩
 | mit m=>
  obtain ⟨_,hm,_⟩:=A
  obtain ⟨h1,_,u,D,h2⟩:=h
  exact ⟨by rw [d];exact h1,Y m hm,u,D,by rw [d,q];exact h2⟩
 | lp r l=>
  obtain ⟨_,S⟩:=A
  obtain ⟨h1,h2⟩:=h
  exact ⟨by rw [d,q];exact h1,fun n=>(h2 n).drop q d p (J (S n))⟩
 | dead=>trivial
 | unborn=>trivial
def Zv (n:Nat):Ren:=fun s=>if s<n then some (some s) else some none
theorem zU {E:Env} {f:FuncId} {args:List IV} {L:List Blk} {R:IV->List Blk->Prop} {R':IV->Prop} (h:XT E f args L R)
  (hc:∀r L',R r L'->Keep none' L L'/\∃I,conv L' fuel (Zv L.length) r=some I/\R' I):XT E f args L fun r L'=>R' r/\L'=L:=by
 refine ⟨h.1,fun w O X vs wf D hG hl hv=>(h.2 w O X vs wf D hG hl hv).mono fun e w' ⟨r,L',d,v,h1,h2,B,Z,p,h6⟩=>?_⟩
 obtain ⟨Y,I,U,hR⟩:=hc r L' h1
 have l:∀{s:Nat} {k:Blk},L[s]?=some k->L'[s]?=some k:=fun hs=>Y.get hs fun h=>h
 have j:∀b,Ctx.mine ⟨w',d,L,X⟩ b->Ctx.mine ⟨w',d,L',X⟩ b:=fun b ⟨s,k,h,h1,h2⟩=>⟨s,k,l h,h1,h2⟩
 have m:∀b,Ctx.own ⟨w',d,L,X⟩ b->Ctx.own ⟨w',d,L',X⟩ b:=fun b h=>h.imp (fun h=>h) (j b)
 have M:∀s,Ctx.born ⟨w,O,L,X⟩ s->Ctx.born ⟨w',d,L,X⟩ s:=fun s h=>h
 have G:Ext ⟨w,O,L,X⟩ ⟨w',d,L,X⟩:=⟨p.size,p.frame,fun b A=>p.sub b (j b A),p.slot,M,Nat.le_refl _,p.cap,rfl,p.os,p.tape,p.output⟩
 refine ⟨I,L,d,v,⟨hR,rfl⟩,h2,⟨fun s u k1 T hs hu=>B.inj s u k1 T (l hs) (l hu),fun b A=>B.lo b (j b A),fun b V A=>B.apart b V (j b A),B.exlo,B.g⟩,fun s k hs=>?_,G,?_⟩
 ·exact Ws.drop (C0:=⟨w,O,L,X⟩) (C:=⟨w',d,L',X⟩) (C':=⟨w',d,L,X⟩) rfl rfl m M (D s k hs) (Z s k (l hs))
 ·refine ZA (C:=⟨w',d,L',X⟩) (C':=⟨w',d,L,X⟩) rfl Z m fuel (Zv L.length) r I v (fun s k hs=>⟨fun S ha=>?_,fun t J=>?_⟩) U h6
  ·have Q:¬s<L.length:=by
    intro q
    unfold Zv at S
    rw [if_pos q] at S
    cases S
   rintro (V | ⟨u,T,g1,g2,g3⟩)
   ·exact B.apart _ V ⟨s,k,hs,ha,rfl⟩
   ·have:=B.inj u s T k (l g1) hs g2 ha g3
    subst this
    exact Q (zf g1)
  ·unfold Zv at J
   split at J
   ·rename_i q
    simp only [sij] at J
    subst J
    refine ⟨fun A=>⟨k,?_,A⟩,rfl⟩
    show L[s]?=some k
    have:=Y.2 s q (fun h=>h)
    rw [<-this];exact hs
   ·simp at J
theorem zaj {w:World} {b:Nat} {o:Obj} (h:w.heap[b]?=some o):setW w b o=w:=by
 unfold setW
 have:w.heap.setIfInBounds b o=w.heap:=by
  apply Array.ext_getElem?
  intro j
  rw [Array.getElem?_setIfInBounds]
  by_cases hj:b=j
  ·subst hj;rw [if_pos rfl,if_pos (Array.getElem?_eq_some_iff.1 h).1,h]
  ·rw [if_neg hj]
 rw [this]
theorem zfu {E:Env} {f:FuncId} {args:List IV} {L:List Blk} {R R':IV->List Blk->Prop} (h:XT E f args L R)
  (hc:∀r L',R r L'->∃g n c sz rows,r=.sl g 0 n c/\L'[g]?=some (.cells sz rows)/\n<=rows.length/\R' (.sl g 0 n n) (L'.set g (.cells sz (rows.take n)))):XT E f args L R':=by
 refine ⟨h.1,fun w Q X vs wf j hG u J=>(h.2 w Q X vs wf j hG u J).mono fun e w' ⟨r,L',b,v,h1,h2,U,B,T,I⟩=>?_⟩
 obtain ⟨g,n,c,sz,rows,rfl,hg,hn,G⟩:=hc r L' h1
 obtain ⟨hsz,a,ty,fr,hh,s,m,d⟩:=B g _ hg
 have p:Flat ⟨w',b,L',X⟩ a (b g).base sz (rows.take n):=by
  have A:(rows.take n).length*sz<=rows.length*sz:=Nat.mul_le_mul_right _ (by rw [List.length_take];omega)
  refine ⟨by simp only at m;omega,fun i row hi=>d i row ?_⟩
  rw [List.getElem?_take] at hi
  split at hi
  ·exact hi
  ·cases hi
 have l:=VR.mono (jf (k:=.cells sz (rows.take n)) hg rfl hh rfl) I
 have D:=vC (E:=E) (C:=⟨w',b,L',X⟩) (rows':=rows.take n) (r:=.sl g 0 n n) (K:=R') (v:=v) (c':=a) U B hg hh s rfl p (by
  cases l with
  | sl _ _ _ _ Y cap' hs u hc ha A=>exact .sl g 0 n n Y cap' hs (Nat.le_refl _) od ha A) G
 rw [zaj hh] at D
 obtain ⟨r2,L2,q,M,V,S,Z,O⟩:=D
 exact ⟨r2,L2,q,v,M,h2,V,S,T.trans Z,O⟩
end Go.X
end
section
open Go Go.X
namespace Go.X.TryzW
def zN (z l:IV):List IV:=[.int .i64 3,.int .i64 1,.int .i64 0,l,z,z,z,z,z,z,z,z,z,z,z,z,z,z,z,z,z,z,.int .i64 0,.int .i64 0,.int .i64 0,.int .i64 0,.int .i64 0,.int .i64 0,.int .i64 0,.int .i64 0,.int .i64 0,.int .i64 0,.int .i64 0,.int .i64 0,.int .i64 0,.int .i64 0,.int .i64 0,.int .i64 0,
 .int .i64 0,.int .i64 0,.int .i64 0,.int .i64 0,.int .i64 0,.int .i64 0,.int .i64 0,.int .i64 0,.int .i64 0,.int .i64 0,.int .i64 0,.int .i64 0,.int .i64 0,.int .i64 0,.int .i64 0,.int .i64 0,.raw (.complex .f64 0 0)]
def z3K (l:IV):IV:=.iptr [zN (.isl []) l] 0 0
def knR (kn:List (List UInt8 × List UInt8)):List (List IV):=kn.map fun p=>[.str p.1,.str p.2]
def Y2 (f:List UInt8) (kn:List (List UInt8 × List UInt8)):List IV:=[.str f,.str [],.str f,.str [],.str [],.int .i64 0,.str [],.isl [],.isl [],.int .i64 0,.isl [],.isl (knR kn)]
def Zh (f:List UInt8):Option (List (List UInt8 × List UInt8))->List (List IV)
 | none=>[]
 | some kn=>[Y2 f kn]
def yH (f:List UInt8) (o:Option (List (List UInt8 × List UInt8))):IV:=z3K (.isl (Zh f o))
section
variable {E:Env}
theorem WQ {c:XC} {ρ:Rho} {L:List Blk} {K:XE->Rho->List Blk->Prop} (M:Rho->List Blk->Prop) (h1:Zg E c ρ L (zeb M)) (h2:∀ρ L,M ρ L->K .normal ρ L):Zg E c ρ L K:=by
 refine zK c (fun e ρ L h=>?_) h1
 cases e with
 | normal=>exact h2 ρ L h
 | exit=>exact h.elim
 | goto=>exact h.elim
 | ret=>exact h.elim
@[go_sem ↓] theorem zdK {M:Rho->List Blk->Prop} {ρ:Rho} {L:List Blk}:zeb M .normal ρ L=M ρ L:=nr rfl
end
def unH (c:UInt8):Nat:=if c.toNat<=57 then c.toNat - 48 else c.toNat - 87
def isH (c:UInt8):Prop:=(48<=c.toNat/\c.toNat<=57)\/(97<=c.toNat/\c.toNat<=102)
def YL (l:List UInt8):Nat:=l.foldl (fun n c=>16*n+unH c) 0
theorem z2C (l:List UInt8) (c:UInt8):YL (l++[c])=16*YL l+unH c:=by simp [YL]
theorem VA:∀(l:List UInt8) (n:Nat),l.foldl (fun n c=>16*n+unH c) n=n*16^l.length+YL l
 | [],n=>by simp [YL]
 | c::r,n=>by
  have h1:=VA r (16*n+unH c)
  have h2:=VA r (16*0+unH c)
  unfold YL
  simp only [List.foldl_cons,llc] at h1 h2 ⊢
  rw [h1,h2,Nat.pow_succ,Nat.add_mul,Nat.mul_zero,Nat.zero_add]
  have:16*n*16^r.length=n*(16^r.length*16):=by rw [Nat.mul_comm 16 n,Nat.mul_assoc,Nat.mul_comm 16]
  omega
theorem Vg (c:UInt8) (r:List UInt8):YL (c::r)=unH c*16^r.length+YL r:=by
 have:=VA r (16*0+unH c)
 rw [Nat.mul_zero,Nat.zero_add] at this
 rw [<-this]
 simp [YL]
theorem z6A (a b:List UInt8):YL (a++b)=YL a*16^b.length+YL b:=by
 rw [<-VA b (YL a)]
 simp [YL]
theorem jy (l:List UInt8) (k:Nat):YL (l.take k)<=YL l:=by
 conv=>rhs;rw [<-List.take_append_drop k l,z6A]
 have:1<=16^(l.drop k).length:=Nat.pow_pos (by decide)
 have:=Nat.mul_le_mul_left (YL (l.take k)) this
 omega
theorem zdc {c:UInt8} (h:isH c):unH c<16:=by
 unfold isH at h
 unfold unH
 split<;>omega
theorem z1o:∀{l:List UInt8},(∀c∈l,isH c)->YL l<16^l.length
 | [],_=>by simp [YL]
 | c::r,h=>by
  have h1:=z1o fun c hc=>h c (List.mem_cons_of_mem _ hc)
  have h2:=zdc (h c List.mem_cons_self)
  rw [Vg,llc,Nat.pow_succ]
  have b:unH c*16^r.length<=15*16^r.length:=Nat.mul_le_mul_right _ od
  omega
def yf (k:List (List UInt8 × List UInt8)) (rq an:List UInt8):List (List UInt8 × List UInt8):=
 let f:=(k.filter fun p=>decide (¬p.1=rq))++[(rq,an)]
 if 64<f.length then f.drop 1 else f
def wF (z:IV) (f rq an:List UInt8):List IV:=[.str f,.int .i64 0,z,.str [],.str f,.str [],.str [],.int .i64 0,.str [],z,z,.int .i64 0,z,.str rq,.str an,.int .i64 0,.int .i64 0]
def JG (f:List UInt8) (ev kv:IV):List IV:=[.str f,.str [],.str f,.str [],.str [],.int .i64 0,.str [],.isl [],.isl [],.int .i64 0,ev,kv]
end Go.X.TryzW
end
section
namespace Go.X
open Go
theorem Yq {l:List IV} (h:closed.closedL l=true):∀(i:Nat) (x:IV),l[i]?=some x->closed x=true:=by
 induction l with
 | nil=>intro i x b;simp at b
 | cons a l d=>
  simp only [closed.closedL,Bool.and_eq_true] at h
  intro i x b
  cases i with
  | zero=>simp at b;subst b;exact h.1
  | succ i=>exact d h.2 i x (by simpa using b)
theorem VR.less {C C':Ctx} (D:C'.w=C.w) (p:∀b,C'.own b->C.own b) {x:IV} {v:Value} (h:VR C x v):closed x=true->VR C' x v:=by
 induction h with
 | bool b=>intro _;exact .bool b
 | int k n=>intro _;exact .int k n
 | str s=>intro _;exact .str s
 | raw v h=>intro _;exact .raw v h
 | und=>intro _;exact .und
 | ptr s r o hs=>intro h;cases h
 | sl s off len cap a cap' hs B hc ha T=>intro h;cases h
 | isl rows a cap' sz vals u hsz d ha A l=>
  intro _
  refine .isl rows a cap' sz vals u hsz d ?_ fun i row hi j x m=>l i row hi j x m (Yq (d i row hi) j x m)
  rcases ha with R | ⟨b,o,ha,q,G,hc⟩
  ·exact .inl R
  ·exact .inr ⟨b,o,ha,by rw [D];exact q,fun h=>G (p b h),fun i row hi j x m=>by rw [D];exact hc i row hi j x m⟩
 | iptr rows r o b base sz vals hsz d q G ha A l=>
  intro _
  exact .iptr rows r o b base sz vals hsz d (by rw [D];exact q) (fun h=>G (p b h)) (fun i row hi j x m=>by rw [D];exact ha i row hi j x m) fun i row hi j x m=>l i row hi j x m (Yq (d i row hi) j x m)
 | esl a=>intro _;exact .esl a
 | nsl=>intro _;exact .nsl
 | agg cs vs B A l=>intro h;exact .agg cs vs B fun i x hi=>l i x hi (Yq h i x hi)
 | tup cs vs B A l=>intro h;exact .tup cs vs B fun i x hi=>l i x hi (Yq h i x hi)
 | fn f as bs Q S ha q O M J I=>
  intro h
  simp only [closed,Bool.and_eq_true] at h
  exact .fn f as bs Q S ha q (fun i x hi=>J i x hi (Yq h.1 i x hi)) fun i x hi=>I i x hi (Yq h.2 i x hi)
 | iface t x v A l=>intro h;exact .iface t x v (l h)
 | mp s hs=>intro h;cases h
 | yld s hs=>intro h;cases h
theorem za1 {E:Env} {f:FuncId} {args:List IV} {L:List Blk} {R:IV->List Blk->Prop} {R':IV->Prop} (h:XT E f args L R)
  (hc:∀r L',R r L'->Keep none' L L'/\closed r=true/\R' r):XT E f args L fun r L'=>R' r/\L'=L:=by
 refine ⟨h.1,fun w I X vs wf q hG T O=>(h.2 w I X vs wf q hG T O).mono fun e w' ⟨r,L',d,v,h1,h2,D,Y,p,M⟩=>?_⟩
 obtain ⟨V,Q,J⟩:=hc r L' h1
 have l:∀{s:Nat} {k:Blk},L[s]?=some k->L'[s]?=some k:=fun hs=>V.get hs fun h=>h
 have j:∀b,Ctx.mine ⟨w',d,L,X⟩ b->Ctx.mine ⟨w',d,L',X⟩ b:=fun b ⟨s,k,h,h1,h2⟩=>⟨s,k,l h,h1,h2⟩
 have m:∀b,Ctx.own ⟨w',d,L,X⟩ b->Ctx.own ⟨w',d,L',X⟩ b:=fun b h=>h.imp (fun h=>h) (j b)
 have G:∀s,Ctx.born ⟨w,I,L,X⟩ s->Ctx.born ⟨w',d,L,X⟩ s:=fun s h=>h
 have A:Ext ⟨w,I,L,X⟩ ⟨w',d,L,X⟩:=⟨p.size,p.frame,fun b B=>p.sub b (j b B),p.slot,G,Nat.le_refl _,p.cap,rfl,p.os,p.tape,p.output⟩
 refine ⟨r,L,d,v,⟨J,rfl⟩,h2,⟨fun s u S Z hs U=>D.inj s u S Z (l hs) (l U),fun b B=>D.lo b (j b B),fun b hx B=>D.apart b hx (j b B),D.exlo,D.g⟩,fun s k hs=>?_,A,VR.less (C:=⟨w',d,L',X⟩) (C':=⟨w',d,L,X⟩) rfl m M Q⟩
 exact Ws.drop (C0:=⟨w,I,L,X⟩) (C:=⟨w',d,L',X⟩) (C':=⟨w',d,L,X⟩) rfl rfl m G (q s k hs) (Y s k (l hs))
end Go.X
end
