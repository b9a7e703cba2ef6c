/- Parts of the proof: XRow, XData, XSel, XHeap, XFreeze, XDrop. -/
import Derived.Test.YtnmhhmbeljlndaaGreatDoorXP8
import Derived.Carry
import Derived.Deep.Strs
import Derived.ChangeSame
import Derived.ChangeOld
import Derived.WideShapes
import Derived.Deep.DeepHandedRow
import Derived.Lay
set_option linter.unusedVariables false
set_option linter.unusedSimpArgs false
set_option linter.unusedSectionVars false
section
namespace Go.X
open Go Go.ChangeShapes Go.WideShapes Go.RowKit

def zce (P:Program) (W:World) (gl:Nat->Option (List IV))
  (hgl:∀(n:Nat) (cs:List IV),gl n=some cs->∀(j:Nat) (y:IV),cs[j]?=some y->∃u,W.cell? ⟨n,j,none⟩=some u/\∀C:Ctx,VR C y u):Env where
 pan:=fun _ _=>False
 P:=P
 g0:=W.heap.size
 G:=fun w=>∀b,b<W.heap.size->w.heap[b]?=W.heap[b]?
 hG:=fun w w' h hG b hb=>(h b hb).trans (hG b hb)
 gl:=gl
 hgl:=fun w n cs hG hn j y hy=>by
  obtain ⟨u,h1,h2⟩:=hgl n cs hn j y hy
  refine ⟨u,?_,h2⟩
  have hb:n<W.heap.size:=by
   simp only [World.cell?] at h1
   cases hb:W.heap[n]? with
   | none=>rw [hb] at h1;cases h1
   | some o=>exact (Array.getElem?_eq_some_iff.1 hb).1
  rw [cell_of_heap (hG n hb)];exact h1
 yl:=fun _ _ _ _=>False
 hylm:=fun _ _ _ _ _ _ h=>h
 hyl:=fun _ _ _ _ _ _ _ _ _ _ h=>h.elim
def ctx0 (W:World):Ctx:=⟨W,fun _=>⟨0,0,0⟩,[],fun _=>False⟩
theorem own0 {W:World} {b:Nat}:¬(ctx0 W).own b:=by
 rintro (h | ⟨s,k,hk,_⟩)
 ·exact h
 ·simp [ctx0] at hk
theorem z9b {P:Program} {W:World} {gl:Nat->Option (List IV)} {hgl} {f:FuncId} {args:List IV} {vs:List Value} (h:zI (zce P W gl hgl) f args (.bool true)) (hl:args.length=vs.length)
  (hv:∀(i:Nat) (x:IV),args[i]?=some x->VR (ctx0 W) x (vs.getD i undef)):Calls P f vs.toArray W fun e W'=>e=.returned (.bool true)/\Below W.heap.size W W':=by
 have wf:Wf (zce P W gl hgl).g0 ⟨W,fun _=>⟨0,0,0⟩,[],fun _=>False⟩:=
  ⟨fun s t k l hk=>by simp at hk,fun b h=>absurd (.inr h) own0,fun b h=>h.elim,fun b h=>h.elim,Nat.le_refl _⟩
 have sim:Sim ⟨W,fun _=>⟨0,0,0⟩,[],fun _=>False⟩:=fun s k hk=>by simp at hk
 refine (h.2 W (fun _=>⟨0,0,0⟩) (fun _=>False) vs wf sim (fun b _=>rfl) hl hv).mono ?_
 rintro e W' ⟨r,L',φ',v,⟨rfl,rfl⟩,rfl,_,_,ext,hv⟩
 cases hv
 exact ⟨rfl,⟨ext.os,ext.tape,ext.output,ext.size,fun b hb=>ext.frame b hb (fun hm=>own0 (.inr hm))⟩⟩
theorem z1m {W W':World} {p:MemPlace->Prop} (hb:Below W.heap.size W W'):W.keptBut W' p:=by
 refine ⟨hb.os,hb.output,fun i hi=>?_⟩
 rw [hb.block i hi]
 cases W.heap[i]? with
 | none=>rfl
 | some o=>cases o<;>first | rfl | exact ⟨rfl,rfl,rfl,fun _ _=>rfl⟩ | exact .inr ⟨rfl,rfl⟩
theorem z2L {W W':World} (hb:Below W.heap.size W W') {a:Addr} (ha:a.block<W.heap.size):W'.frozen? a=W.frozen? a:=by
 unfold World.frozen?
 rw [hb.block _ ha]
theorem jh {H:Type} {enc:TypeId × Value->H} {P:Program} (hl:laidOutB P=true) {W W':World} (hb:Below W.heap.size W W') (sp:Nat->Bool) :
  ∀{ts:List TypeId} {vs:List Value} {ds:List (DataW H)} {ps:List MemPlace},ts.all (fun t=>P.readableRec t&&decide (t<P.types.size))=true->(∀p∈ps,sp p.block=true)->(∀p∈ps,p.block<W.heap.size)->
   DataW.TrodAll enc P W 0 (fun _=>true) true ts vs ds ps->DataW.TrodAll enc P W' 0 sp true ts vs ds ps
 | [],[],[],_,_,_,_,h=>h
 | [],[],_::_,_,_,_,_,h=>h.elim
 | [],_::_,_,_,_,_,_,h=>(by cases ‹List (DataW H)›<;>exact h.elim)
 | _::_,[],_,_,_,_,_,h=>(by cases ‹List (DataW H)›<;>exact h.elim)
 | _::_,_::_,[],_,_,_,_,h=>h.elim
 | t::ts,v::vs,d::ds,ps,ht,hs,hlt,h=>by
  obtain ⟨p,q,h1,h2,rfl⟩:=h
  simp only [List.all_cons,Bool.and_eq_true,decide_eq_true_eq] at ht
  exact ⟨p,q,WideElems.Trod_stays hl ht.1.1 ht.1.2 h1 (fun x hx=>hb.same (hlt x (List.mem_append_left _ hx))) (fun x hx=>hs x (List.mem_append_left _ hx)),
   jh hl hb sp ht.2 (fun x hx=>hs x (List.mem_append_right _ hx)) (fun x hx=>hlt x (List.mem_append_right _ hx)) h2,rfl⟩
theorem z7w {H:Type} {enc:TypeId × Value->H} {P:Program} {f:Func} {s:ChangeSpec} {apart fresh handsOn again:Bool} {W W':World} {args:Array Value} {ds gs:List (DataW H)} {before:List MemPlace} {t0:TypeId}
  (hlo:laidOutB P=true) (hpar:f.params.toList.all (fun t=>P.readableRec t&&decide (t<P.types.size))=true) (hsv:s.vars=[]) (hrt:f.resultTypes=#[t0]) (ht:P.underlying t0=some .bool)
  (hfn:s.fn H ds={ results:=[.lit (.bool true)],args:=ds }) (hW:DataW.Whole enc P f.params.toList s.vars apart W args.toList ds gs before) (hb:Below W.heap.size W W') :
  s.post enc P f apart fresh handsOn again W args (.bool true) W':=by
 have hlt:∀p∈before,p.block<W.heap.size:=fun p hp=>by simpa using hW.lt p hp
 obtain ⟨p,q,hA,hV,rfl,hfz,hnd⟩:=hW
 have hgs:gs=[]/\q=[]:=by
  rw [hsv] at hV
  cases gs with
  | nil=>exact ⟨rfl,hV⟩
  | cons=>exact hV.elim
 obtain ⟨rfl,rfl⟩:=hgs
 have hfn':s.fn H (ds++[])={ results:=[.lit (.bool true)],args:=ds }:=by rw [List.append_nil];exact hfn
 have hA':∀sp:Nat->Bool,(∀x∈p,sp x.block=true)->DataW.TrodAll enc P W' 0 sp true f.params.toList args.toList ds p:=fun sp hsp=>
  jh hlo hb sp hpar hsp (fun x hx=>hlt x (by simpa using hx)) hA
 have hres:∀(b:Nat) (sp:Nat->Bool) (hd:Bool),DataW.TrodAll enc P W' b sp hd f.resultTypes.toList ((Value.bool true).resultList f.resultTypes.size) [.lit (.bool true)] []:=fun b sp hd=>by
  rw [hrt]
  exact ⟨[],[],shut_bool ht _,rfl,rfl⟩
 have hV':∀sp:Nat->Bool,DataW.TrodVars enc P W' sp s.vars ([]:List (DataW H)) []:=fun sp=>by rw [hsv];rfl
 refine ⟨ds,[],p++[],[],p,[],⟨p,[],hA,hV,rfl,hfz,hnd⟩,?_,?_,?_,z1m hb,fun _=>?_⟩
 ·rw [hfn'];exact hres _ _ _
 ·rw [hfn'];exact hA' _ (fun x hx=>by simpa using hlt x (by simpa using hx))
 ·rw [hfn'];exact hV' _
 ·refine ⟨ok_one hrt rfl (okWide_bool_mk ht _),_,_,p++[],⟨[]++p,[],trodAll_append (hA' _ (fun _ _=>rfl)) (hres 0 (fun _=>true) true),hV' _,by simp,?_,?_⟩,?_⟩
  ·intro b off hp
   rw [z2L hb (hlt _ hp)]
   exact hfz b off hp
  ·exact hnd
  ·intro x hx _;simpa using hx
theorem z2m (C:Ctx) (b:ByteArray):VR C (.str b.data.toList) (.string b):=by
 have:=VR.str (C:=C) b.data.toList
 simpa using this
theorem z3o {W:World} {a:Addr} {v:Value} (h:W.cell? a=some v):a=⟨a.block,a.off,none⟩/\a.block<W.heap.size:=by
 unfold World.cell? at h
 split at h
 ·rename_i hb
  split at h
  ·cases h
  ·rename_i hs
   refine ⟨?_,(Array.getElem?_eq_some_iff.1 hb).1⟩
   obtain ⟨b,o,sp⟩:=a
   cases sp with
   | none=>rfl
   | some s=>simp at hs
 ·cases h
theorem za2 {b o i:Nat}:(⟨b,o,none⟩:Addr).add i=⟨b,o+i,none⟩:=by unfold Addr.add;split<;>simp_all
theorem z5x {W:World} {a:Addr} {len cap sz:Nat} {rows:List (List IV)} {vals:Nat->Nat->Value} (hlen:rows.length=len) (hcap:len<=cap) (hsz0:0<sz)
  (hsz:∀row∈rows,row.length=sz) (hcl:∀row∈rows,closed.closedL row=true)
  (hc:∀i j,i<len->j<sz->W.cell? (a.add (i*sz+j))=some (vals i j)) (hv:∀(i:Nat) (row:List IV),rows[i]?=some row->∀(j:Nat) (x:IV),row[j]?=some x->VR (ctx0 W) x (vals i j)) :
  VR (ctx0 W) (.isl rows) (.slice (some a) len cap):=by
 subst hlen
 refine .isl rows (some a) cap sz vals hcap (fun i row hi=>hsz row (List.mem_of_getElem? hi)) (fun i row hi=>hcl row (List.mem_of_getElem? hi)) ?_ hv
 by_cases h0:rows=[]
 ·exact .inl h0
 ·have hpos:0<rows.length:=List.length_pos_iff.2 h0
  have h1:=hc 0 0 hpos hsz0
  have ha:a.add (0*sz+0)=a:=by simp [Addr.add]
  rw [ha] at h1
  obtain ⟨h2,h3⟩:=z3o h1
  refine .inr ⟨a.block,a.off,by rw [<-h2],h3,own0,fun i row hi j x hj=>?_⟩
  have hi':=zf hi
  have hj':j<sz:=by rw [<-hsz row (List.mem_of_getElem? hi)];exact zf hj
  have h4:=hc i j hi' hj'
  rw [h2,za2,<-Nat.add_assoc] at h4
  exact h4
theorem z4e {H:Type} {enc:TypeId × Value->H} {C:Checked} {os:Os} {f:FuncId} {fn:Func} {s:OpenSpec} {conds:List PathCond} {apart:Bool} {laid:List (String × DataW Unit)} (modest:Bool) (w0:World) (args:Array Value) (hos:w0.os=os)
  (hv:(w0.forCall (fun _ _=>0) ⟨#[],args,[]⟩).variablesZipB C.prog=true)
  (hr:((w0.forCall (fun _ _=>0) ⟨#[],args,[]⟩).heap.toList.drop C.prog.globals.size).take ((begin C.prog (fun _ _=>0) default).world.heap.size - C.prog.globals.size) =
   (begin C.prog (fun _ _=>0) default).world.heap.toList.drop C.prog.globals.size)
  (hok:Input.okWideB C.prog (w0.forCall (fun _ _=>0) ⟨#[],args,[]⟩) f ⟨#[],args,[]⟩=true)
  (hrow:s.preRow enc C.prog fn conds apart laid (w0.forCall (fun _ _=>0) ⟨#[],args,[]⟩).memory args) :
  ∃(w:World) (tape:Tape) (i:Input),w.os=os/\(w.forCall tape i).Shaped C.prog/\i.vars=[]/\Input.okWide C.prog (w.forCall tape i) .any w.heap.size f i/\
   s.preRow enc C.prog fn conds apart laid (w.forCall tape i).memory i.args/\({ modest:=modest }:Assume).holds C.prog (lone (Frame.enter C.prog f i.args .normal) [] (w.forCall tape i)):=
 ⟨w0,fun _ _=>0,⟨#[],args,[]⟩,hos,World.shaped_of_ZipB hv hr,(Input.okWide_of_okWideB (base:=0) hok).1,(Input.okWide_of_okWideB hok).2,hrow,by
  simp only [Assume.holds]
  exact ⟨by simp,by simp,fun _=>Modest.zero,by simp,by simp⟩⟩
end Go.X
end
section
namespace Go.X
open Go Go.ChangeShapes Go.WideShapes Go.RowKit

inductive Ty where
 | bool
 | int (k:IntKind)
 | str
 | slice (e:Ty)
 | struct (fs:List Ty)
 deriving Inhabited
mutual
def Ty.size:Ty->Nat
 | .struct fs=>Ty.sizes fs
 | _=>1
def Ty.sizes:List Ty->Nat
 | []=>0
 | t::r=>t.size+Ty.sizes r
end

mutual
def Ty.fits (P:Program):Ty->TypeId->Bool
 | .bool,t=>match P.underlying t with | some .bool=>true | _=>false
 | .int k,t=>match P.underlying t with | some (.int k')=>decide (k'=k) | _=>false
 | .str,t=>match P.underlying t with | some .string=>true | _=>false
 | .slice e,t=>match P.underlying t with | some (.slice u)=>e.fits P u&&decide (P.cellsOf u=e.size)&&decide (0<e.size) | _=>false
 | .struct fs,t=>match P.underlying t with | some (.struct us)=>Ty.fitsAll P fs us.toList 0&&decide (P.cellsOf t=Ty.sizes fs) | _=>false
def Ty.fitsAll (P:Program):List Ty->List Field->Nat->Bool
 | [],[],_=>true
 | f::fs,u::us,o=>f.fits P u.type&&decide (u.offset=o)&&decide (P.cellsOf u.type=f.size)&&Ty.fitsAll P fs us (o+f.size)
 | _,_,_=>false
end

mutual
def Ty.Of:Ty->List IV->Prop
 | .bool,c=>∃b,c=[.bool b]
 | .int k,c=>∃n,c=[.int k n]/\(Lit.int k n).wf=true
 | .str,c=>∃s:List UInt8,c=[.str s]/\s.length<=9223372036854775807
 | .slice e,c=>∃rows:List (List IV),c=[.isl rows]/\rows.length<=9223372036854775807/\∀row∈rows,e.Of row
 | .struct fs,c=>Ty.OfAll fs c
def Ty.OfAll:List Ty->List IV->Prop
 | [],c=>c=[]
 | f::fs,c=>∃a b,c=a++b/\f.Of a/\Ty.OfAll fs b
end

theorem z0s {a b:List IV}:closed.closedL (a++b)=(closed.closedL a&&closed.closedL b):=by
 induction a with
 | nil=>simp [closed.closedL]
 | cons x a ih=>simp [closed.closedL,ih,Bool.and_assoc]
mutual
theorem Ty.closed:∀(t:Ty) (c:List IV),t.Of c->Go.X.closed.closedL c=true/\c.length=t.size
 | .bool,c,h=>by obtain ⟨b,rfl⟩:=h;exact ⟨rfl,rfl⟩
 | .int k,c,h=>by obtain ⟨b,rfl,_⟩:=h;exact ⟨rfl,rfl⟩
 | .str,c,h=>by obtain ⟨b,rfl,_⟩:=h;exact ⟨rfl,rfl⟩
 | .slice e,c,h=>by obtain ⟨b,rfl,_⟩:=h;exact ⟨rfl,rfl⟩
 | .struct fs,c,h=>Ty.closedAll fs c h
theorem Ty.closedAll:∀(t:List Ty) (c:List IV),Ty.OfAll t c->Go.X.closed.closedL c=true/\c.length=Ty.sizes t
 | [],c,h=>by cases h;exact ⟨rfl,rfl⟩
 | f::fs,c,h=>by
  obtain ⟨a,b,rfl,h1,h2⟩:=h
  obtain ⟨h3,h4⟩:=Ty.closed f a h1
  obtain ⟨h5,h6⟩:=Ty.closedAll fs b h2
  exact ⟨by rw [z0s,h3,h5];rfl,by rw [lla,h4,h6];rfl⟩
end

section
variable {H:Type} {enc:TypeId × Value->H} {P:Program} {W:World} {sp:Nat->Bool} {hd:Bool}
theorem maxLen_eq:maxLen=9223372036854775807:=by decide
def Told (W:World) (ivs:List IV) (cs:List Value):Prop:=ivs.length=cs.length/\∀(j:Nat) (x:IV),ivs[j]?=some x->VR (ctx0 W) x (cs.getD j undef)
theorem vX {x:IV} {v:Value} (h:VR (ctx0 W) x v):Told W [x] [v]:=⟨rfl,fun j y hj=>by
 cases j with
 | zero=>simp at hj;subst hj;exact h
 | succ j=>simp at hj⟩
mutual
theorem vK:∀(ty:Ty) {fuel:Nat} {t:TypeId} {cs:List Value} {x:DataW H × List MemPlace},ty.fits P t=true->DataW.trod enc P W 0 sp hd fuel t cs=some x->∃ivs,ty.Of ivs/\Told W ivs cs
 | .bool,fuel,t,cs,x,hf,h=>by
  unfold Ty.fits at hf
  split at hf
  ·rename_i ht
   obtain ⟨b,rfl,_⟩:=DataW.trod_bool ht h
   exact ⟨[.bool b],⟨b,rfl⟩,vX (.bool b)⟩
  ·cases hf
 | .int k,fuel,t,cs,x,hf,h=>by
  unfold Ty.fits at hf
  split at hf
  ·rename_i k' ht
   obtain rfl:=of_decide_eq_true hf
   obtain ⟨n,rfl,_,hw⟩:=DataW.trod_int ht h
   exact ⟨[.int k' n],⟨n,rfl,hw⟩,vX (.int k' n)⟩
  ·cases hf
 | .str,fuel,t,cs,x,hf,h=>by
  unfold Ty.fits at hf
  split at hf
  ·rename_i ht
   obtain ⟨s,rfl,_,hs⟩:=DataW.trod_string ht h
   rw [maxLen_eq] at hs
   exact ⟨[.str s.data.toList],⟨_,rfl,by rw [Array.length_toList];exact hs⟩,vX (z2m _ s)⟩
  ·cases hf
 | .slice e,fuel,t,cs,x,hf,h=>by
  unfold Ty.fits at hf
  split at hf
  ·rename_i u ht
   simp only [Bool.and_eq_true,decide_eq_true_eq] at hf
   obtain ⟨⟨hfe,hce⟩,hpos⟩:=hf
   rcases Deep.open_slice ht h with ⟨rfl,_⟩ | ⟨a,len,cap,m,n,D,Pl,rfl,_,hl,hm,hmm,_,hx⟩
   ·exact ⟨[.isl []],⟨[],rfl,by simp,by simp⟩,vX (.isl [] none 0 1 (fun _ _=>undef) (Nat.le_refl _) (fun i row hi=>by simp at hi) (fun i row hi=>by simp at hi) (.inl rfl) (fun i row hi=>by simp at hi))⟩
   ·have hlm:len<=m:=by rw [hmm];split<;>omega
    rw [maxLen_eq] at hm
    have each:∀i,i<len->∃q:List IV × List Value,e.Of q.1/\Told W q.1 q.2/\∀j,j<e.size->W.cell? (a.add (i*e.size+j))=q.2[j]?:=fun i hi=>by
     obtain ⟨cs',h1,h2⟩:=hx i (by omega)
     obtain ⟨_,hlen,hc⟩:=World.cells?_some h1
     obtain ⟨ivs,h3,h4⟩:=vK e hfe h2
     refine ⟨(ivs,cs'),h3,h4,fun j hj=>?_⟩
     rw [hce] at hc
     have:=hc j hj
     rw [Addr.add_add] at this
     exact this
    obtain ⟨q,hq⟩:=Deep.choose_lt each
    refine ⟨[.isl ((List.range len).map fun i=>(q i).1)],⟨_,rfl,by simp;omega,fun row hr=>?_⟩,vX ?_⟩
    ·obtain ⟨i,hi,rfl⟩:=List.mem_map.1 hr
     exact (hq i (List.mem_range.1 hi)).1
    ·refine z5x (sz:=e.size) (vals:=fun i j=>(q i).2.getD j undef) (by simp) hl hpos (fun row hr=>?_) (fun row hr=>?_) (fun i j hi hj=>?_) (fun i row hi j x hj=>?_)
     ·obtain ⟨i,hi,rfl⟩:=List.mem_map.1 hr
      exact (Ty.closed e _ (hq i (List.mem_range.1 hi)).1).2
     ·obtain ⟨i,hi,rfl⟩:=List.mem_map.1 hr
      exact (Ty.closed e _ (hq i (List.mem_range.1 hi)).1).1
     ·obtain ⟨h1,h2,h3⟩:=hq i hi
      have h4:(q i).2.length=e.size:=by rw [<-h2.1];exact (Ty.closed e _ h1).2
      rw [h3 j hj,List.getD_eq_getElem?_getD,List.getElem?_eq_getElem (by omega)]
      rfl
     ·simp only [List.getElem?_map,oms] at hi
      obtain ⟨k,hk,rfl⟩:=hi
      have hlt:i<len:=by have:=zf hk;simpa using this
      rw [List.getElem?_range hlt] at hk
      cases hk
      exact (hq i hlt).2.1.2 j x hj
  ·cases hf
 | .struct fs,fuel,t,cs,x,hf,h=>by
  unfold Ty.fits at hf
  split at hf
  ·rename_i us ht
   simp only [Bool.and_eq_true,decide_eq_true_eq] at hf
   obtain ⟨hfa,hc⟩:=hf
   obtain ⟨xs,n,_,_,hl,hlen,hx⟩:=DataW.trod_struct ht h
   rw [hc] at hl
   have h2:=jT fs (us:=us.toList) (o:=0) (cs:=cs) (n:=n) (by rw [hl];omega) hfa (fun i f hi=>by
    have h3:=hx i f (by simpa using hi)
    have hi':i<xs.length:=by rw [hlen];have:=zf hi;simpa using this
    rw [List.getElem?_eq_getElem hi'] at h3
    exact ⟨_,h3⟩)
   rw [List.drop_zero] at h2
   simp only [Ty.Of]
   exact h2
  ·cases hf
theorem jT:∀(fs:List Ty) {us:List Field} {o n:Nat} {cs:List Value},o+Ty.sizes fs=cs.length->Ty.fitsAll P fs us o=true->
  (∀(i:Nat) (f:Field),us[i]?=some f->∃y,DataW.trod enc P W 0 sp hd n f.type ((cs.drop f.offset).take (P.cellsOf f.type))=some y)->∃ivs,Ty.OfAll fs ivs/\Told W ivs (cs.drop o)
 | [],[],o,n,cs,hl,hf,h=>⟨[],rfl,by rw [List.drop_of_length_le (by simp only [Ty.sizes] at hl;omega)];exact ⟨rfl,fun j x hj=>by simp at hj⟩⟩
 | [],_::_,o,n,cs,hl,hf,h=>by simp [Ty.fitsAll] at hf
 | _::_,[],o,n,cs,hl,hf,h=>by simp [Ty.fitsAll] at hf
 | f::fs,u::us,o,n,cs,hl,hf,h=>by
  simp only [Ty.fitsAll,Bool.and_eq_true,decide_eq_true_eq] at hf
  obtain ⟨⟨⟨hfu,ho⟩,hc⟩,hfr⟩:=hf
  obtain ⟨y,hy⟩:=h 0 u rfl
  rw [ho,hc] at hy
  obtain ⟨a,ha,h1,h2⟩:=vK f hfu hy
  simp only [Ty.sizes] at hl
  obtain ⟨b,hb,h3,h4⟩:=jT fs (us:=us) (o:=o+f.size) (n:=n) (cs:=cs) (by omega) hfr (fun i g hi=>h (i+1) g (by simpa using hi))
  refine ⟨a++b,⟨a,b,rfl,ha,hb⟩,?_,fun j x hj=>?_⟩
  ·rw [lla,h1,h3];simp only [List.length_take,List.length_drop];omega
  ·have hal:a.length=f.size:=(Ty.closed f a ha).2
   by_cases hj':j<a.length
   ·rw [List.getElem?_append_left hj'] at hj
    have:=h2 j x hj
    rw [List.getD_eq_getElem?_getD,List.getElem?_take,if_pos (by omega)] at this
    rw [List.getD_eq_getElem?_getD];exact this
   ·rw [List.getElem?_append_right (by omega)] at hj
    have:=h4 _ x hj
    rw [List.getD_eq_getElem?_getD,List.getElem?_drop] at this
    rw [List.getD_eq_getElem?_getD,List.getElem?_drop]
    have e:o+f.size+(j - a.length)=o+j:=by omega
    rw [e] at this;exact this
end

theorem wS {e:Ty} {t u:TypeId} {r:Reach} {b0:Nat} {v:Value} {d:DataW H} {ps:List MemPlace} (hf:(Ty.slice e).fits P t=true) (ht:P.underlying t=some (.slice u)) (hval:Value.okWide P W r b0 t v) (h:DataW.Trod enc P W 0 sp hd t v d ps) :
  ∃rows:List (List IV),VR (ctx0 W) (.isl rows) v/\rows.length<=9223372036854775807/\∀row∈rows,e.Of row:=by
 obtain ⟨a,len,cap,rfl⟩:=okWide_slice ht hval
 obtain ⟨fuel,h⟩:=h
 obtain ⟨ivs,⟨rows,rfl,h1,h2⟩,h3,h4⟩:=vK (.slice e) hf h
 exact ⟨rows,by simpa [Value.cells] using h4 0 (.isl rows) rfl,h1,h2⟩
end
end Go.X
end
section
namespace Go.X
open Go
section
variable {E:Env} {ρ:Rho} {L:List Blk} {K:IV->List Blk->Prop}
theorem Yr (bs:List UInt8):mapO byteOf (zi bs)=some bs:=by
 induction bs with
 | nil=>rfl
 | cons b l ih=>
  show mapO byteOf ([.int .u8 b.toNat]::zi l)=_
  rw [mapO,z2W,ih]
@[go_sem] theorem Zf (bs:List UInt8):(zi bs).length=bs.length:=by simp [zi]
@[go_sem high] theorem ze3 {ty:Nat} {z:List IV} {KV:IV->List Blk->Prop}:xop E (.ex (.allocT ty z) []) cev L KV=KV (.ptr L.length 0 0) (L++[.tcells ty z.length [z]]):=by
 show KV _ (zK _ _ _)=_
 rw [Zb]
@[go_sem high] theorem zfo {ty:Nat} {s:List UInt8} {KV:IV->List Blk->Prop}:xop E (.ex (.strB ty) [.c (.str s)]) cev L KV=(s.length<=9223372036854775807/\KV (.sl L.length 0 s.length s.length) (L++[.tcells ty 1 (zi s)])):=by
 show (_/\KV _ (zK _ _ _))=_
 rw [Zb]
end
end Go.X
end
section
namespace Go.X
open Go

def Keep (F:Nat->Prop) (L L':List Blk):Prop:=L.length<=L'.length/\∀t,t<L.length->¬F t->L'[t]?=L[t]?
def Grown (F F':Nat->Prop) (L L':List Blk):Prop:=∀t,F' t->F t\/(L.length<=t/\t<L'.length)
def none':Nat->Prop:=fun _=>False
theorem Keep.refl {F:Nat->Prop} {L:List Blk}:Keep F L L:=⟨Nat.le_refl _,fun _ _ _=>rfl⟩
theorem Keep.get {F:Nat->Prop} {L L':List Blk} {t:Nat} {k:Blk} (h:Keep F L L') (hk:L[t]?=some k) (hn:¬F t):L'[t]?=some k:=by rw [h.2 t (zf hk) hn];exact hk
theorem Keep.mono {F F':Nat->Prop} {L L':List Blk} (h:Keep F L L') (hf:∀t,t<L.length->F t->F' t):Keep F' L L':=⟨h.1,fun t ht hn=>h.2 t ht fun h=>hn (hf t ht h)⟩
theorem Keep.trans {F F':Nat->Prop} {L L1 L2:List Blk} (h:Keep F L L1) (h':Keep F' L1 L2) (hf:∀t,t<L.length->F' t->F t):Keep F L L2:=
 ⟨Nat.le_trans h.1 h'.1,fun t ht hn=>(h'.2 t (Nat.lt_of_lt_of_le ht h.1) fun h=>hn (hf t ht h)).trans (h.2 t ht hn)⟩
theorem Keep.set {F:Nat->Prop} {L L':List Blk} {s:Nat} {k:Blk} (h:Keep F L L') (hs:s<L.length->F s):Keep F L (L'.set s k):=
 ⟨by rw [lls];exact h.1,fun t ht hn=>by
  by_cases hst:s=t
  ·subst hst;exact absurd (hs ht) hn
  ·rw [List.getElem?_set_ne hst];exact h.2 t ht hn⟩
theorem Keep.app {F:Nat->Prop} {L L':List Blk} {k:Blk} (h:Keep F L L'):Keep F L (L'++[k]):=
 ⟨by rw [lla];exact Nat.le_trans h.1 (Nat.le_add_right _ _),fun t ht hn=>by rw [List.getElem?_append_left (Nat.lt_of_lt_of_le ht h.1)];exact h.2 t ht hn⟩
theorem Grown.refl {F:Nat->Prop} {L L':List Blk}:Grown F F L L':=fun _ h=>.inl h
theorem Grown.trans {F F1 F2:Nat->Prop} {L L1 L2:List Blk} (h:Grown F F1 L L1) (h':Grown F1 F2 L1 L2) (h1:L.length<=L1.length) (h2:L1.length<=L2.length):Grown F F2 L L2:=fun t ht=>by
 rcases h' t ht with h3 | ⟨h3,h4⟩
 ·rcases h t h3 with h5 | ⟨h5,h6⟩
  ·exact .inl h5
  ·exact .inr ⟨h5,by omega⟩
 ·exact .inr ⟨by omega,h4⟩
theorem Grown.out {F F':Nat->Prop} {L L':List Blk} (h:Grown F F' L L') {t:Nat} (ht:t<L.length) (hn:¬F t):¬F' t:=fun h'=>by
 rcases h t h' with h1 | ⟨h1,_⟩
 ·exact hn h1
 ·omega
theorem Zl {L:List Blk} {s:Nat} {k b:Blk} (h:L[s]?=some k):(L++[b])[s]?=some k:=yM h
theorem zo {L:List Blk} {s t:Nat} {k l:Blk} (h:L[s]?=some k) (h':L[t]?=some l) (hne:k≠l):(s=t)=False:=eq_false fun h0=>by subst h0;rw [h] at h';exact hne (Option.some.inj h')
@[go_sem] theorem zi6 {M:List Blk} {n:Nat} {x:Blk} (h:M.length=n):(M++[x])[n]?=some x:=by subst h;simp
@[go_sem] theorem h_lt {M:List Blk} {s:Nat} {b:Blk} (h:s<M.length):(M++[b])[s]?=M[s]?:=List.getElem?_append_left h
@[go_sem] theorem h_ne {M:List Blk} {s t:Nat} {b:Blk} (h:¬s=t):(M.set s b)[t]?=M[t]?:=List.getElem?_set_ne h
@[go_sem] theorem zhK {M:List Blk} {s:Nat} {b:Blk} (h:s<M.length):(M.set s b)[s]?=some b:=List.getElem?_set_self h
@[go_sem] theorem zgU {M:List Blk} {s:Nat} {b:Blk} (h:s<M.length):(s<(M++[b]).length)=True:=eq_true (by rw [lla];exact Nat.lt_of_lt_of_le h (Nat.le_add_right _ _))
@[go_sem] theorem zfE {M:List Blk} {n:Nat} {b:Blk} (h:M.length=n):(n<(M++[b]).length)=True:=eq_true (by subst h;simp)
@[go_sem] theorem zk9 {M:List Blk} {s:Nat} (h:s<M.length):(M.length=s)=False:=eq_false (by omega)
@[go_sem] theorem zjK {M:List Blk} {s:Nat} (h:s<M.length):(s=M.length)=False:=eq_false (by omega)
attribute [go_sem] lls
theorem zg {L:List Blk} {s:Nat} {k:Blk} (h:L[s]?=some k):(s<L.length)=True:=eq_true (zf h)
section
variable {E:Env} {L:List Blk} {K:IV->List Blk->Prop}
theorem xtl {f : FuncId} {fn : Func} {n : Nat} {rs : List XRes} {c : XC} {args : List IV} {R Q : IV → List Blk → Prop} (hf : E.P.funcs[f]? = some fn) (hF : Y3 E.P fn = some ⟨n, rs, c⟩) (hnm : fn.name ≠ "runtime.NumGoroutine")
  (hargs:args.length≤fn.ntmps) (h:xrun (E.withPan Q) c (entry args) L (z01 fun ρ L'=>Zg (E.withPan Q) rs ρ L' fun r=>R r L')):XTP E f args L R Q:=by
 refine z4r hf hF hnm hargs (zB _ (fun e ρ L h=>?_) h)
 cases e with
 | normal=>exact ⟨Or.inr rfl,h⟩
 | ret=>exact ⟨Or.inl rfl,h⟩
 | exit=>exact h.elim
 | goto=>exact h.elim
theorem xtl' {f : FuncId} {fn : Func} {n : Nat} {rs : List XRes} {c : XC} {args : List IV} {R : IV → List Blk → Prop} (hf : E.P.funcs[f]? = some fn) (hF : Y3 E.P fn = some ⟨n, rs, c⟩) (hnm : fn.name ≠ "runtime.NumGoroutine")
  (hargs:args.length≤fn.ntmps) (h:xrun E.noPan c (entry args) L (z01 fun ρ L'=>Zg E.noPan rs ρ L' fun r=>R r L')):XT E f args L R:=zbj (xtl (Q:=fun _ _=>False) hf hF hnm hargs h)
theorem zh {f:FuncId} {args:List IV} {R:IV->List Blk->Prop} (h:XT E f args L R) (hk:∀r L',R r L'->K r L'):YW E f args L K:=.inr (.inr (.inr (.inl (zb7 (h.mono hk)))))
theorem J9 {f:FuncId} {args:List IV} {R Q:IV->List Blk->Prop} (h:XTP E f args L R Q) (hk:∀r L',R r L'->K r L') (hq:∀r L',Q r L'->E.pan r L'):YW E f args L K:=.inr (.inr (.inr (.inl (h.mono hk hq))))
theorem zbM {f:FuncId} {args:List IV} (h:XTX E f args L K):YW E f args L K:=.inr (.inr (.inr (.inr h)))
@[go_sem] theorem zid {g sz:Nat} {d x:IV}:xex E (.copy sz) [d,x] g L K=z0u sz d x L K:=nr rfl
@[go_sem] theorem zjk {g sz s off len cap:Nat} {k1 k2 k3:IntKind} {l h m:Int}:xex E (.sl3 sz) [.sl s off len cap,.int k1 l,.int k2 h,.int k3 m] g L K=(szOf L s=some sz/\0<=l/\l<=h/\h<=m/\m<=cap/\K (.sl s (off+l.toNat) (h - l).toNat (m - l).toNat) L):=nr rfl
theorem zeD {g n s l:Nat} {k:IntKind} {row:List IV} (h:L[s]?=some (.cells n [row])) (hi:∀c∈row,∃k v,c=.int k v) (hn:row.length=n) (hl:l<=n) (hk:K (.isl ((row.drop l).map fun c=>[c])) (L.set s .dead)):xex E (.sla n) [.ptr s 0 0,.int k l] g L K:=by
 simp only [xex,h]
 exact ⟨trivial,hi,hn,by omega,by omega,by simpa using hk⟩
theorem z7H {ty sz t off len cap:Nat} {x:IV} {rs rows:List (List IV)} (hx:rowsOf L x=some rs) (hL:L[t]?=some (.tcells ty sz rows)) (hr:yj sz rs) (hl:rs.length<=len) (hf:off+rs.length<=rows.length)
  (hk:K (.int .i64 rs.length) (L.set t (.tcells ty sz (splice rows off rs)))):z0u sz (.sl t off len cap) x L K:=by
 unfold z0u
 simp only [hx,hL]
 refine ⟨hl,hr,fun h0=>?_,fun _=>⟨trivial,hf,hk⟩⟩
 subst h0
 have e1:splice rows off []=rows:=by simp [splice]
 have e2:L.set t (.tcells ty sz rows)=L:=by
  apply List.ext_getElem? 
  intro i
  by_cases h:t=i
  ·subst h;rw [List.getElem?_set_self (zf hL),hL]
  ·rw [List.getElem?_set_ne h]
 rw [e1,e2] at hk
 exact hk
@[go_sem] theorem zfw {sz t off len cap:Nat}:z0u sz (.sl t off len cap) .nsl L K=K (.int .i64 0) L:=by
 unfold z0u
 simp [rowsOf,yj]
@[go_sem] theorem zii {m s off len cap:Nat} {KV:IV->List Blk->Prop}:xop E (.slice m (.c (.sl s off len cap)) none none) cev L KV=(szOf L s=some m/\len<=cap/\KV (.sl s off len cap) L):=by simp [xop,zU,bnd]
@[go_sem] theorem ziA {m s off len cap:Nat} {k:IntKind} {l:Int} {KV:IV->List Blk->Prop}:xop E (.slice m (.c (.sl s off len cap)) (some (.c (.int k l))) none) cev L KV =
  (szOf L s=some m/\0<=l/\l.toNat<=len/\len<=cap/\KV (.sl s (off+l.toNat) (len - l.toNat) (cap - l.toNat)) L):=by simp [xop,zU,bnd]
@[go_sem] theorem zhU {m s off len cap:Nat} {k:IntKind} {h:Int} {KV:IV->List Blk->Prop}:xop E (.slice m (.c (.sl s off len cap)) none (some (.c (.int k h)))) cev L KV =
  (szOf L s=some m/\0<=h/\h.toNat<=cap/\KV (.sl s off h.toNat cap) L):=by simp [xop,zU,bnd]
@[go_sem] theorem ziu {m s off len cap:Nat} {k k':IntKind} {l h:Int} {KV:IV->List Blk->Prop}:xop E (.slice m (.c (.sl s off len cap)) (some (.c (.int k l))) (some (.c (.int k' h)))) cev L KV =
  (szOf L s=some m/\0<=l/\0<=h/\l.toNat<=h.toNat/\h.toNat<=cap/\KV (.sl s (off+l.toNat) (h.toNat - l.toNat) (cap - l.toNat)) L):=by
 simp only [xop,zU,bnd,Option.map_some]
@[go_sem] theorem zjr {z v0:IV} {KV:IV->List Blk->Prop} (h0:cellsOf v0=[v0]):xop E (.bslice 1 [z] 1 [(0,.c v0)]) cev L KV=KV (.sl L.length 0 1 1) (L++[.cells 1 [[v0]]]):=by simp [xop,Zi,zU,h0,List.replicate]
@[go_sem] theorem zk5 {z v0 v1:IV} {KV:IV->List Blk->Prop} (h0:cellsOf v0=[v0]) (h1:cellsOf v1=[v1]):xop E (.bslice 1 [z] 2 [(0,.c v0),(1,.c v1)]) cev L KV=KV (.sl L.length 0 2 2) (L++[.cells 1 [[v0],[v1]]]):=by simp [xop,Zi,zU,h0,h1,List.replicate]
@[go_sem] theorem zjD {z v0 v1 v2:IV} {KV:IV->List Blk->Prop} (h0:cellsOf v0=[v0]) (h1:cellsOf v1=[v1]) (h2:cellsOf v2=[v2]):xop E (.bslice 1 [z] 3 [(0,.c v0),(1,.c v1),(2,.c v2)]) cev L KV=KV (.sl L.length 0 3 3) (L++[.cells 1 [[v0],[v1],[v2]]]):=by simp [xop,Zi,zU,h0,h1,h2,List.replicate]
@[go_sem] theorem zjX {z v0 v1 v2 v3:IV} {KV:IV->List Blk->Prop} (h0:cellsOf v0=[v0]) (h1:cellsOf v1=[v1]) (h2:cellsOf v2=[v2]) (h3:cellsOf v3=[v3]):xop E (.bslice 1 [z] 4 [(0,.c v0),(1,.c v1),(2,.c v2),(3,.c v3)]) cev L KV=KV (.sl L.length 0 4 4) (L++[.cells 1 [[v0],[v1],[v2],[v3]]]):=by simp [xop,Zi,zU,h0,h1,h2,h3,List.replicate]
@[go_sem] theorem zji {ρ:Rho} {K:IV->Prop}:Zg E [] ρ L K=K (.tup []):=nr rfl
@[go_sem] theorem zka {ρ:Rho} {t:Nat} {K:IV->Prop}:Zg E [.tmp t] ρ L K=K (ρ t):=nr rfl
@[go_sem] theorem zj9 {ρ:Rho} {t t':Nat} {K:IV->Prop}:Zg E [.tmp t,.tmp t'] ρ L K=K (.tup [ρ t,ρ t']):=nr rfl
@[go_sem] theorem ziz {ρ:Rho} {t t' t'':Nat} {K:IV->Prop}:Zg E [.tmp t,.tmp t',.tmp t''] ρ L K=K (.tup [ρ t,ρ t',ρ t'']):=nr rfl
theorem Y4 {rs:List XRes} {ρ:Rho} {K:IV->Prop}:Zg E rs ρ L K=wW E ρ L rs fun vs=>K (je vs):=nr rfl
theorem jE {ρ:Rho} {t:Nat} {rs:List XRes} {K:List IV->Prop}:wW E ρ L (.tmp t::rs) K=wW E ρ L rs fun vs=>K (ρ t::vs):=nr rfl
theorem ZO {ρ:Rho} {K:List IV->Prop}:wW E ρ L [] K=K []:=nr rfl
theorem Yt {ρ:Rho} {t:Nat} {rs:List XRes} {K:List IV->Prop}:wW E ρ L (.cell1 t::rs) K=xop E (.load1 (.c (ρ t))) cev L fun r _=>wW E ρ L rs fun vs=>K (r::vs):=nr rfl
theorem Zw {ρ:Rho} {t n:Nat} {rs:List XRes} {K:List IV->Prop}:wW E ρ L (.cellN t n::rs) K=xop E (.loadN n (.c (ρ t))) cev L fun r _=>wW E ρ L rs fun vs=>K (r::vs):=nr rfl
@[go_sem] theorem ziE {g:Nat} {f:FloatKind} {k:IntKind} {n:Int}:xex E (.itof f) [.int k n] g L K=K (.raw (.float f (floatOfInt f n))) L:=nr rfl
@[go_sem] theorem zjs {g:Nat} {k:FloatKind} {a b:Nat}:xex E .cpx [.raw (.float k a),.raw (.float k b)] g L K=K (.raw (.complex k a b)) L:=by simp [xex]
@[go_sem] theorem zgQ {g:Nat} {vs:List IV}:xex E .mmake vs g L K=K (.mp g) (zK L g (.map [] 0)):=nr rfl
@[go_sem] theorem zhp {g s:Nat} {st ok:Bool} {z k:IV}:xex E (.mlook st z ok) [.mp s,k] g L K=wz st z ok (.mp s) k L K:=nr rfl
@[go_sem] theorem zjd {g s:Nat} {st:Bool} {k v:IV}:xex E (.mset st) [.mp s,k,v] g L K=z3l st (.mp s) k v L K:=nr rfl
def mapB (b:Option Blk) (K:List (IV × IV × Nat)->Nat->Prop):Prop:=
 match b with
 | some (.map es c)=>K es c
 | _=>False
@[congr] theorem zcF {b b':Option Blk} {K:List (IV × IV × Nat)->Nat->Prop} (h:same b=b'):mapB b K=mapB b' K:=by rw [<-h];rfl
@[go_sem] theorem ze9 {es:List (IV × IV × Nat)} {c:Nat} {K:List (IV × IV × Nat)->Nat->Prop}:mapB (some (.map es c)) K=K es c:=nr rfl
def WH (r:Option (Option Nat)) (K1:Nat->Prop) (K2:Prop):Prop:=
 match r with
 | some (some i)=>K1 i
 | some none=>K2
 | none=>False
@[congr] theorem zcc {r r':Option (Option Nat)} {K1:Nat->Prop} {K2:Prop} (h:same r=r'):WH r K1 K2=WH r' K1 K2:=by rw [<-h];rfl
@[go_sem] theorem zf8 {i:Nat} {K1:Nat->Prop} {K2:Prop}:WH (some (some i)) K1 K2=K1 i:=nr rfl
@[go_sem] theorem zfJ {K1:Nat->Prop} {K2:Prop}:WH (some none) K1 K2=K2:=nr rfl
@[go_sem] theorem zhr {k:IntKind} {n:Int}:isKey false (.int k n)=true:=nr rfl
@[go_sem] theorem zgm {s:List UInt8}:isKey true (.str s)=true:=nr rfl
@[go_sem] theorem zjx {k:IntKind} {a b:Int}:kEq (.int k a) (.int k b)=some (decide (a=b)):=by simp [kEq]
@[go_sem] theorem zjt {a b:List UInt8}:kEq (.str a) (.str b)=some (decide (a=b)):=nr rfl
@[go_sem] theorem ziq {k:IV} {i:Nat}:yc k [] i=some none:=nr rfl
@[go_sem] theorem zhL {k:IV} {e:IV × IV × Nat} {r:List (IV × IV × Nat)} {i:Nat} (h:kEq k e.1=some true):yc k (e::r) i=some (some i):=by simp [yc,h]
@[go_sem] theorem zhe {k:IV} {e:IV × IV × Nat} {r:List (IV × IV × Nat)} {i:Nat} (h:kEq k e.1=some false):yc k (e::r) i=yc k r (i+1):=by simp [yc,h]
theorem z8v {st:Bool} {s:Nat} {k:IV} {F:Nat->List (IV × IV × Nat)->Nat->Option Nat->Prop}:Yx st (.mp s) k L F=(isKey st k=true/\mapB L[s]? fun es c=>WH (yc k es 0) (fun i=>F s es c (some i)) (F s es c none)):=by
 simp only [Yx,eq_iff_iff]
 refine and_congr_right fun _=>?_
 cases hL:L[s]? with
 | none=>exact Iff.rfl
 | some q=>
  cases q with
  | map es c=>
   show (match yc k es 0 with | some r=>F s es c r | none=>False)↔WH (yc k es 0) _ _
   cases hm:yc k es 0 with
   | none=>exact Iff.rfl
   | some r=>cases r<;>exact Iff.rfl
  | _=>exact Iff.rfl
@[go_sem] theorem zgE {st ok:Bool} {s:Nat} {z k:IV}:wz st z ok (.mp s) k L K=(isKey st k=true/\mapB L[s]? fun es _=>WH (yc k es 0) (fun i=>K (YT ok (es.getD i default).2.1 true) L) (K (YT ok z false) L)):=z8v
@[go_sem] theorem ziC {st:Bool} {s:Nat} {k v:IV}:z3l st (.mp s) k v L K=(isKey st k=true/\mapB L[s]? fun es c=>WH (yc k es 0) (fun i=>K .und (L.set s (.map (es.set i (k,v,(es.getD i default).2.2)) c))) (K .und (L.set s (.map (es++[(k,v,c)]) (c+1))))):=z8v
@[go_sem] theorem zd1 {m:Nat}:cellsOf (.mp m)=[.mp m]:=nr rfl
theorem z4Z {ρ:Rho} {K:XE->Rho->List Blk->Prop} {g:Opd} {N:Nat} {ps:List Nat} {xa xb:XC} {gf:FuncId} {caps:List IV} (hg:g.ev ρ=.fn (.func gf) [] caps)
  (h:∀r0:Loop,r0.state=.ready->r0.pending=none->Jd E.P N ps xa xb r0->
   XT E gf (.yld L.length::caps) (L++[.lp r0 ((List.range N).map ρ)]) fun _ L'=>∃r1,L'[L.length]?=some (.lp r1 ((List.range N).map ρ))/\r1.state≠.busy/\
     match r1.pending with
     | none=>K .normal ρ (L'.set L.length .dead)
     | some .ret=>K .ret ρ (L'.set L.length .dead)
     | some (.exit i)=>K (.exit i) ρ (L'.set L.length .dead)
     | some (.goto l)=>K (.goto l) ρ (L'.set L.length .dead)
     | _=>False):xrun E (.rngF g N ps xa xb) ρ L K:=by
 simp only [xrun,hg]
 exact h
def band (k:IntKind) (a b:Int):Int:=k.wrap (BitVec.ofInt k.bits a&&&BitVec.ofInt k.bits b).toNat
def bor (k:IntKind) (a b:Int):Int:=k.wrap (BitVec.ofInt k.bits a|||BitVec.ofInt k.bits b).toNat
def bxor (k:IntKind) (a b:Int):Int:=k.wrap (BitVec.ofInt k.bits a^^^BitVec.ofInt k.bits b).toNat
def bnot (k:IntKind) (n:Int):Int:=k.wrap (BitVec.ofInt k.bits (if k.signed then -1 else k.max)^^^BitVec.ofInt k.bits n).toNat
def bshr (k:IntKind) (a b:Int):Int:=a.fdiv (2^min b.toNat k.bits)
def bshl (k:IntKind) (a b:Int):Int:=k.wrap (a*2^min b.toNat k.bits)
@[go_sem] theorem ziU {k:IntKind} {a b:Int} {KV:IV->List Blk->Prop}:xop E (.bin .and (.c (.int k a)) (.c (.int k b))) cev L KV=KV (.int k (band k a b)) L:=by simp only [xop,xbin,zU,true_and,band]
@[go_sem] theorem zjG {k:IntKind} {a b:Int} {KV:IV->List Blk->Prop}:xop E (.bin .or (.c (.int k a)) (.c (.int k b))) cev L KV=KV (.int k (bor k a b)) L:=by simp only [xop,xbin,zU,true_and,bor]
@[go_sem] theorem zhR {k:IntKind} {a b:Int} {KV:IV->List Blk->Prop}:xop E (.bin .xor (.c (.int k a)) (.c (.int k b))) cev L KV=KV (.int k (bxor k a b)) L:=by simp only [xop,xbin,zU,true_and,bxor]
@[go_sem] theorem zi5 {k k':IntKind} {a b:Int} {KV:IV->List Blk->Prop}:xop E (.bin .shr (.c (.int k a)) (.c (.int k' b))) cev L KV=(0<=b/\KV (.int k (bshr k a b)) L):=nr rfl
@[go_sem] theorem ziD {k k':IntKind} {a b:Int} {KV:IV->List Blk->Prop}:xop E (.bin .shl (.c (.int k a)) (.c (.int k' b))) cev L KV=(0<=b/\KV (.int k (bshl k a b)) L):=nr rfl
@[go_sem] theorem zhY {k:IntKind} {n:Int} {KV:IV->List Blk->Prop}:xop E (.un .xor (.c (.int k n))) cev L KV=KV (.int k (bnot k n)) L:=nr rfl
theorem wi64 {n:Int} (h1 : -9223372036854775808<=n) (h2:n<=9223372036854775807):IntKind.i64.wrap n=n:=by unfold IntKind.wrap;simp [IntKind.bits,IntKind.signed]<;>omega
theorem wu8 {n:Int} (h1:0<=n) (h2:n<=255):IntKind.u8.wrap n=n:=by unfold IntKind.wrap;simp [IntKind.bits,IntKind.signed]<;>omega
theorem wu64 {n:Int} (h1:0<=n) (h2:n<=18446744073709551615):IntKind.u64.wrap n=n:=by unfold IntKind.wrap;simp [IntKind.bits,IntKind.signed]<;>omega
def mitB (b:Option Blk) (K:Nat->Prop):Prop:=
 match b with
 | some (.mit s)=>K s
 | _=>False
@[congr] theorem zcK {b b':Option Blk} {K:Nat->Prop} (h:same b=b'):mitB b K=mitB b' K:=by rw [<-h];rfl
@[go_sem] theorem zdw {s:Nat} {K:Nat->Prop}:mitB (some (.mit s)) K=K s:=nr rfl
def zbt (es:List (IV × IV × Nat)) (K:Prop):Prop:=
 match es with
 | []=>K
 | _=>False
@[go_sem] theorem zec {K:Prop}:zbt [] K=K:=nr rfl
@[go_sem] theorem ziB {g s:Nat}:xex E .mrng [.mp s] g L K=mapB L[s]? fun _ _=>K (.ptr g 0 0) (zK L g (.mit s)):=by
 simp only [xex]
 cases hL:L[s]? with
 | none=>rfl
 | some q=>cases q<;>rfl
@[go_sem] theorem zie {g t:Nat}:xex E .mnxt [.ptr t 0 0] g L K=mitB L[t]? fun s=>mapB L[s]? fun es _=>zbt es (K (.tup [.bool false]) L):=by
 simp only [xex]
 cases hL:L[t]? with
 | none=>rfl
 | some q=>
  cases q with
  | mit s=>
   show (match L[s]? with | some (.map [] _)=>K (.tup [.bool false]) L | _=>False)=mapB L[s]? fun es _=>zbt es (K (.tup [.bool false]) L)
   cases hL':L[s]? with
   | none=>rfl
   | some q=>
    cases q with
    | map es c=>cases es<;>rfl
    | _=>rfl
  | _=>rfl
@[go_sem] theorem zh4 {M:List Blk} {n:Nat} {k:Blk} (h:M.length=n):zK M n k=M++[k]:=by subst h;exact Zb _ _
@[go_sem] theorem zgV {r:IV} {b:Bool}:YT true r b=.tup [r,.bool b]:=nr rfl
@[go_sem] theorem zgI {r:IV} {b:Bool}:YT false r b=r:=nr rfl
@[go_sem] theorem zfD {st ok:Bool} {z:IV} {vs:List Opd} {L L':List Blk}:Yz (XO.ex (.mlook st z ok) vs) L L'=[]:=nr rfl
@[go_sem] theorem zew {st ok:Bool} {z:IV} {m:Nat} {k:IntKind} {n:Int} {L L':List Blk}:Y0 (XO.ex (.mlook st z ok) [.c (.mp m),.c (.int k n)]) L L'=[m]:=nr rfl
@[go_sem] theorem zdH {st ok:Bool} {z:IV} {m:Nat} {t:List UInt8} {L L':List Blk}:Y0 (XO.ex (.mlook st z ok) [.c (.mp m),.c (.str t)]) L L'=[m]:=nr rfl
@[go_sem] theorem zfB {ty b:Nat} {x:Opd} {L L':List Blk}:Yz (XO.ex (.appT ty b) [.c .nsl,x]) L L'=if L'.length=L.length then [] else [L.length]:=nr rfl
@[go_sem] theorem zfQ {ty b t o l c:Nat} {x:Opd} {L L':List Blk}:Yz (XO.ex (.appT ty b) [.c (.sl t o l c),x]) L L'=t::if L'.length=L.length then [] else [L.length]:=nr rfl
theorem zC {x:IV} {n:Nat} (h:lenOf x=some n):xop E (.len (.c x)) cev L K=K (.int .i64 n) L:=by simp only [xop,zU,h]
theorem z2T {ty bytes g:Nat} {x:IV} {rs:List (List IV)} (hg:L.length=g) (hx:rowsOf L x=some rs) (hr:yj 1 rs) (hne:rs≠[]) (hb:rs.length*bytes<=70368744177664)
  (hk:K (.sl g 0 rs.length rs.length) (L++[.tcells ty 1 rs])):Y1 ty bytes .nsl x g L K:=by
 subst hg
 unfold Y1
 rw [hx]
 exact ⟨hr,fun h=>absurd h hne,fun _=>⟨hb,by rw [Zb];exact hk⟩⟩
theorem WA {ty bytes g t n:Nat} {x:IV} {rs rows:List (List IV)} (hg:L.length=g) (hL:L[t]?=some (.tcells ty 1 rows)) (hn:rows.length=n) (hx:rowsOf L x=some rs) (hr:yj 1 rs) (hne:rs≠[]) (hb:(n+rs.length)*bytes<=70368744177664)
  (hk:K (.sl g 0 (n+rs.length) (n+rs.length)) (L.set t .dead++[.tcells ty 1 (rows++rs)])):Y1 ty bytes (.sl t 0 n n) x g L K:=by
 subst hg;subst hn
 unfold Y1
 rw [hx]
 refine ⟨hr,rfl,rfl,?_⟩
 simp only [hL]
 refine ⟨trivial,trivial,trivial,fun h=>absurd h hne,fun _=>⟨hb,?_⟩⟩
 have e1:zK (L.set t Blk.dead) L.length (.tcells ty 1 (rows++rs))=L.set t .dead++[.tcells ty 1 (rows++rs)]:=by unfold zK;rw [if_pos (by rw [lls])]
 rw [e1];exact hk
theorem ja {ty bytes g t n:Nat} {x:IV} {rs rows:List (List IV)} (hg:L.length=g) (hL:L[t]?=some (.cells 1 rows)\/L[t]?=some (.tcells ty 1 rows)) (hn:rows.length=n) (hx:rowsOf L x=some rs) (hr:yj 1 rs) (hne:rs≠[]) (hb:(n+rs.length)*bytes<=70368744177664)
  (hk:∀k:Blk,k=.cells 1 (rows++rs)\/k=.tcells ty 1 (rows++rs)->K (.sl g 0 (n+rs.length) (n+rs.length)) (L.set t .dead++[k])):Y1 ty bytes (.sl t 0 n n) x g L K:=by
 rcases hL with hL | hL
 ·subst hg;subst hn
  have hpos:0<rs.length:=List.length_pos_iff.2 hne
  unfold Y1
  rw [hx]
  refine ⟨hr,rfl,rfl,?_⟩
  simp only [hL]
  unfold ZQ
  rw [hx]
  refine ⟨hr,?_⟩
  simp only [hL]
  refine ⟨trivial,by omega,?_⟩
  rw [if_neg (by omega)]
  refine ⟨hb,?_⟩
  have e1:zK (L.set t Blk.dead) L.length (.cells 1 ((rows.drop 0).take rows.length++rs))=L.set t .dead++[.cells 1 (rows++rs)]:=by unfold zK;rw [if_pos (by rw [lls])];simp
  rw [e1]
  exact hk _ (.inl rfl)
 ·exact WA hg hL hn hx hr hne hb (hk _ (.inr rfl))
end
abbrev oM (d s : Nat) : zk := ⟨some d, .mov (.t s), none⟩
abbrev oL (d s : Nat) : zk := ⟨some d, .load1 (.t s), none⟩
abbrev oN (d s : Nat) : zk := ⟨some d, .nilck (.t s), none⟩
abbrev oF (d k s : Nat) : zk := ⟨some d, .fldA k (.t s), none⟩
abbrev oO (d : Nat) (o : XO) : zk := ⟨some d, o, none⟩
abbrev oU (o : XO) : zk := ⟨none, o, none⟩
abbrev oG (d g : Nat) (b : Bool) (o : XO) : zk := ⟨some d, o, some (g, b)⟩
abbrev oX (d i s : Nat) : zk := ⟨some d, .ext (.t s) i, none⟩
theorem xtA {E : Env} {L : List Blk} {f : FuncId} {P : Program} {fn : Func} {rs : List XRes} {c : XC} {args : List IV} {R : IV → List Blk → Prop} (hP : E.P = P) (hf : P.funcs[f]? = some fn) (hF : Y3 P fn = some ⟨fn.ntmps, rs, c⟩) (hnm : fn.name ≠ "runtime.NumGoroutine") (ha : args.length ≤ fn.ntmps)
    (h : ∀ ρ : Rho, (∀ (i : Nat) (v : IV), args[i]? = some v → ρ i = v) → xrun E.noPan c ρ L (z01 fun ρ L' => Zg E.noPan rs ρ L' fun r => R r L')) : XT E f args L R :=
  xtl' (by rw [hP]; exact hf) (by rw [hP]; exact hF) hnm ha (h _ fun i v hv => by simp [entry, List.getD_eq_getElem?_getD, hv])
abbrev oi (n:Int):Opd:=.c (.int .i64 n)
abbrev oz:Opd:=.c (.raw (.pointer none))
abbrev oC (d f:Nat) (a:List Opd):zk:=⟨some d,.call (.f f) a,none⟩
abbrev oQ (d f:Nat) (a:List Opd):zk:=⟨some d,.pcall (.f f) a,none⟩
abbrev oI (d:Nat) (n:Int):zk:=⟨some d,.mov (.c (.int .i64 n)),none⟩
abbrev oV (d:Nat) (v:IV):zk:=⟨some d,.mov (.c v),none⟩
abbrev oY (d s:Nat):zk:=⟨some d,.len (.t s),none⟩
abbrev oB (d:Nat) (o:BinOp) (a b:Nat):zk:=⟨some d,.bin o (.t a) (.t b),none⟩
abbrev oK (d:Nat) (o:BinOp) (a:Nat) (n:Int):zk:=⟨some d,.bin o (.t a) (.c (.int .i64 n)),none⟩
abbrev oS (a b:Nat):zk:=⟨none,.store 1 (.t a) (.t b),none⟩
abbrev sO (l:List zk) (c:XC):XC:=.seq (.ops l) c
abbrev cT (g:Nat) (a b:XC):XC:=.cond (.t g) a b
attribute [go_sem] decide_true decide_false
theorem xt1 {E:Env} {L:List Blk} {f:FuncId} {P:Program} {fn:Func} {rs:List XRes} {c:XC} {a0:IV} {R:IV→List Blk→Prop} (hP:E.P=P) (h:∀ρ:Rho,ρ 0=a0→xrun E.noPan c ρ L (z01 fun ρ L'=>Zg E.noPan rs ρ L' fun r=>R r L')) (hf:P.funcs[f]?=some fn:=by rfl) (hF:Y3 P fn=some ⟨fn.ntmps,rs,c⟩:=by kernel_rfl) (hnm:fn.name≠ "runtime.NumGoroutine":=by decide) (ha:1≤fn.ntmps:=by exact Nat.le_of_ble_eq_true rfl):XT E f [a0] L R:=xtA hP hf hF hnm ha fun ρ e=>h ρ (e 0 _ rfl)
theorem xt2 {E:Env} {L:List Blk} {f:FuncId} {P:Program} {fn:Func} {rs:List XRes} {c:XC} {a0 a1:IV} {R:IV→List Blk→Prop} (hP:E.P=P) (h:∀ρ:Rho,ρ 0=a0→ρ 1=a1→xrun E.noPan c ρ L (z01 fun ρ L'=>Zg E.noPan rs ρ L' fun r=>R r L')) (hf:P.funcs[f]?=some fn:=by rfl) (hF:Y3 P fn=some ⟨fn.ntmps,rs,c⟩:=by kernel_rfl) (hnm:fn.name≠ "runtime.NumGoroutine":=by decide) (ha:2≤fn.ntmps:=by exact Nat.le_of_ble_eq_true rfl):XT E f [a0,a1] L R:=xtA hP hf hF hnm ha fun ρ e=>h ρ (e 0 _ rfl) (e 1 _ rfl)
theorem xt3 {E:Env} {L:List Blk} {f:FuncId} {P:Program} {fn:Func} {rs:List XRes} {c:XC} {a0 a1 a2:IV} {R:IV→List Blk→Prop} (hP:E.P=P) (h:∀ρ:Rho,ρ 0=a0→ρ 1=a1→ρ 2=a2→xrun E.noPan c ρ L (z01 fun ρ L'=>Zg E.noPan rs ρ L' fun r=>R r L')) (hf:P.funcs[f]?=some fn:=by rfl) (hF:Y3 P fn=some ⟨fn.ntmps,rs,c⟩:=by kernel_rfl) (hnm:fn.name≠ "runtime.NumGoroutine":=by decide) (ha:3≤fn.ntmps:=by exact Nat.le_of_ble_eq_true rfl):XT E f [a0,a1,a2] L R:=xtA hP hf hF hnm ha fun ρ e=>h ρ (e 0 _ rfl) (e 1 _ rfl) (e 2 _ rfl)
theorem xt4 {E:Env} {L:List Blk} {f:FuncId} {P:Program} {fn:Func} {rs:List XRes} {c:XC} {a0 a1 a2 a3:IV} {R:IV→List Blk→Prop} (hP:E.P=P) (h:∀ρ:Rho,ρ 0=a0→ρ 1=a1→ρ 2=a2→ρ 3=a3→xrun E.noPan c ρ L (z01 fun ρ L'=>Zg E.noPan rs ρ L' fun r=>R r L')) (hf:P.funcs[f]?=some fn:=by rfl) (hF:Y3 P fn=some ⟨fn.ntmps,rs,c⟩:=by kernel_rfl) (hnm:fn.name≠ "runtime.NumGoroutine":=by decide) (ha:4≤fn.ntmps:=by exact Nat.le_of_ble_eq_true rfl):XT E f [a0,a1,a2,a3] L R:=xtA hP hf hF hnm ha fun ρ e=>h ρ (e 0 _ rfl) (e 1 _ rfl) (e 2 _ rfl) (e 3 _ rfl)
theorem xt5 {E:Env} {L:List Blk} {f:FuncId} {P:Program} {fn:Func} {rs:List XRes} {c:XC} {a0 a1 a2 a3 a4:IV} {R:IV→List Blk→Prop} (hP:E.P=P) (h:∀ρ:Rho,ρ 0=a0→ρ 1=a1→ρ 2=a2→ρ 3=a3→ρ 4=a4→xrun E.noPan c ρ L (z01 fun ρ L'=>Zg E.noPan rs ρ L' fun r=>R r L')) (hf:P.funcs[f]?=some fn:=by rfl) (hF:Y3 P fn=some ⟨fn.ntmps,rs,c⟩:=by kernel_rfl) (hnm:fn.name≠ "runtime.NumGoroutine":=by decide) (ha:5≤fn.ntmps:=by exact Nat.le_of_ble_eq_true rfl):XT E f [a0,a1,a2,a3,a4] L R:=xtA hP hf hF hnm ha fun ρ e=>h ρ (e 0 _ rfl) (e 1 _ rfl) (e 2 _ rfl) (e 3 _ rfl) (e 4 _ rfl)
end Go.X
end
section
namespace Go.X
open Go
section
variable {E:Env}
theorem z8k {f:FuncId} {args args':List IV} {L:List Blk} {R:IV->List Blk->Prop} {t:Nat} {k:Blk} (hk:L[t]?=some k) (ha:k.alive=true) (hc:mapO (conv L fuel (yZ t)) args=some args')
  (h:XT E f args' (L.set t .dead) R):XT E f args L R:=by
 refine ⟨h.1,fun w φ X vs wf sim hG hl hv=>?_⟩
 obtain ⟨wf',sim',hext,hown,hren⟩:=z0A wf sim hk ha
 refine (h.2 w φ X vs wf' sim' hG (by rw [zG hc];exact hl) fun i y hy=>?_).mono fun e w' ⟨r,L',φ',v,h1,h2,h3,h4,h5,h6⟩=>⟨r,L',φ',v,h1,h2,h3,h4,hext.trans h5,h6⟩
 obtain ⟨x,h1,h2⟩:=zM hc i y hy
 exact Zu (C:=⟨w,φ,L,X⟩) (C':=⟨w,φ,L.set t .dead,X⟩) rfl sim hown fuel _ x y _ hren h2 (hv i x h1)
end
end Go.X
end
section
namespace Go.X
open Go

def allN (P:Nat->Prop):IV->Prop
 | .ptr s _ _ | .sl s _ _ _ | .mp s | .yld s=>P s
 | .agg cs | .tup cs=>allL cs
 | .fn _ a b=>allL a/\allL b
 | .iface _ v=>allN P v
 | _=>True
 where allL:List IV->Prop
 | []=>True
 | x::r=>allN P x/\allL r
theorem z2f {P:Nat->Prop}:∀{l:List IV},allN.allL P l↔∀x∈l,allN P x
 | []=>by simp [allN.allL]
 | x::r=>by
  simp only [allN.allL,List.mem_cons,forall_eq_or_imp,z2f (l:=r)]
theorem z1K {P:Nat->Prop} {l:List IV} (h:∀(i:Nat) (x:IV),l[i]?=some x->allN P x):allN.allL P l:=z2f.2 fun x hx=>by
 obtain ⟨i,hi⟩:=List.mem_iff_getElem?.1 hx
 exact h i x hi
theorem Jj {P:Nat->Prop} {l:List IV} (h:allN.allL P l) {i:Nat} {x:IV} (hi:l[i]?=some x):allN P x:=z2f.1 h x (List.mem_of_getElem? hi)
theorem VR.allN {C:Ctx} {x:IV} {v:Value} (h:VR C x v):Go.X.allN C.born x:=by
 induction h with
 | ptr s r o hs=>exact hs
 | sl s off len cap a cap' hs hl hc ha=>exact hs
 | agg cs vs hl hv ih=>exact z1K ih
 | tup cs vs hl hv ih=>exact z1K ih
 | fn f as bs va vb ha hb hva hvb iha ihb=>exact ⟨z1K iha,z1K ihb⟩
 | iface t x v hv ih=>exact ih
 | mp s hs=>exact hs
 | yld s hs=>exact hs
 | _=>trivial
theorem YV {P:Nat->Prop}:∀(x:IV),closed x=true->Go.X.allN P x
 | .agg cs,h=>closedL_allL cs (by simpa [closed] using h)
 | .tup cs,h=>closedL_allL cs (by simpa [closed] using h)
 | .fn _ a b,h=>by
  simp only [closed,Bool.and_eq_true] at h
  exact ⟨closedL_allL a h.1,closedL_allL b h.2⟩
 | .iface _ v,h=>YV v (by simpa [closed] using h)
 | .bool _,_ | .int _ _,_ | .str _,_ | .raw _,_ | .und,_ | .isl _,_ | .iptr _ _ _,_ | .esl,_ | .nsl,_=>trivial
 | .ptr _ _ _,h | .sl _ _ _ _,h | .mp _,h | .yld _,h=>by simp [closed] at h
 where
 closedL_allL {P:Nat->Prop}:∀(l:List IV),closed.closedL l=true->Go.X.allN.allL P l
  | [],_=>trivial
  | x::r,h=>by
   simp only [closed.closedL,Bool.and_eq_true] at h
   exact ⟨YV x h.1,closedL_allL r h.2⟩
theorem VR.drop {C C':Ctx} (hw:C'.w=C.w) (hφ:C'.φ=C.φ) (hown:∀b,C'.own b->C.own b) {x:IV} {v:Value} (h:VR C x v):Go.X.allN C'.born x->VR C' x v:=by
 induction h with
 | bool b=>exact fun _=>.bool b
 | int k n=>exact fun _=>.int k n
 | str s=>exact fun _=>.str s
 | raw v h=>exact fun _=>.raw v h
 | und=>exact fun _=>.und
 | ptr s r o hs=>intro hn;rw [<-hφ];exact .ptr s r o hn
 | sl s off len cap a cap' hs hl hc ha hm=>intro hn;refine .sl s off len cap a cap' hn hl hc ?_ hm;rw [hφ,hw];exact ha
 | isl rows a cap' sz vals hcap hsz hcl ha hv ih=>
  intro _
  refine .isl rows a cap' sz vals hcap hsz hcl ?_ fun i row hi j x hj=>ih i row hi j x hj (YV x (Zy.1 (hcl i row hi) _ _ hj))
  rcases ha with h0 | ⟨b,o,ha,hb,hn,hc⟩
  ·exact .inl h0
  ·exact .inr ⟨b,o,ha,by rw [hw];exact hb,fun h=>hn (hown b h),fun i row hi j x hj=>by rw [hw];exact hc i row hi j x hj⟩
 | iptr rows r o b base sz vals hsz hcl hb hown' ha hv ih=>
  intro _
  exact .iptr rows r o b base sz vals hsz hcl (by rw [hw];exact hb) (fun h=>hown' (hown b h)) (fun i row hi j x hj=>by rw [hw];exact ha i row hi j x hj) fun i row hi j x hj=>ih i row hi j x hj (YV x (Zy.1 (hcl i row hi) _ _ hj))
 | esl a=>exact fun _=>.esl a
 | nsl=>exact fun _=>.nsl
 | agg cs vs hl hv ih=>exact fun hn=>.agg cs vs hl fun i x hi=>ih i x hi (Jj hn hi)
 | tup cs vs hl hv ih=>exact fun hn=>.tup cs vs hl fun i x hi=>ih i x hi (Jj hn hi)
 | fn f as bs va vb ha hb hva hvb iha ihb=>exact fun hn=>.fn f as bs va vb ha hb (fun i x hi=>iha i x hi (Jj hn.1 hi)) fun i x hi=>ihb i x hi (Jj hn.2 hi)
 | iface t x v hv ih=>exact fun hn=>.iface t x v (ih hn)
 | mp s hs=>intro hn;rw [<-hφ];exact .mp s hn
 | yld s hs=>intro hn;rw [<-hφ];exact .yld s hn
theorem z04 {P Q:Nat->Prop} (h:∀t,P t->Q t):∀(x:IV),Go.X.allN P x->Go.X.allN Q x
 | .agg cs,hx=>allL_mono h cs hx
 | .tup cs,hx=>allL_mono h cs hx
 | .fn _ a b,hx=>⟨allL_mono h a hx.1,allL_mono h b hx.2⟩
 | .iface _ v,hx=>z04 h v hx
 | .bool _,_ | .int _ _,_ | .str _,_ | .raw _,_ | .und,_ | .isl _,_ | .iptr _ _ _,_ | .esl,_ | .nsl,_=>trivial
 | .ptr s _ _,hx | .sl s _ _ _,hx | .mp s,hx | .yld s,hx=>h s hx
 where
 allL_mono {P Q:Nat->Prop} (h:∀t,P t->Q t):∀(l:List IV),Go.X.allN.allL P l->Go.X.allN.allL Q l
  | [],_=>trivial
  | x::r,hx=>⟨z04 h x hx.1,allL_mono h r hx.2⟩
theorem wH.drop {C0 C C':Ctx} (hw:C'.w=C.w) (hφ:C'.φ=C.φ) (hown:∀b,C'.own b->C.own b) (hb:∀t,C0.born t->C'.born t) {s:Nat} {k:Blk} (h0:wH C0 s k) (h:wH C s k):wH C' s k:=by
 have hn:∀{x:IV} {v0:Value},VR C0 x v0->allN C'.born x:=fun hx=>z04 hb _ hx.allN
 have cells:∀{tc:Bool} {sz:Nat} {rows:List (List IV)},ZX tc C0 s sz rows->ZX tc C s sz rows->ZX tc C' s sz rows:=fun {tc sz rows} h0 h=>by
  obtain ⟨_,c0,_,_,_,_,_,h04⟩:=h0
  obtain ⟨h1,c,e,fr,h2,hfr,h3,h4⟩:=h
  refine ⟨by rw [hφ];exact h1,c,e,fr,by rw [hφ,hw];exact h2,hfr,by rw [hφ];exact h3,fun i row hi=>⟨(h4 i row hi).1,fun j x hj=>?_⟩⟩
  obtain ⟨v0,_,hv0⟩:=(h04 i row hi).2 j x hj
  obtain ⟨v,hv,hvr⟩:=(h4 i row hi).2 j x hj
  exact ⟨v,by rw [hφ];exact hv,hvr.drop hw hφ hown (hn hv0)⟩
 cases k with
 | cells sz rows=>exact cells h0 h
 | tcells ty sz rows=>
  obtain ⟨h1,c,fr,h2⟩:=h.2
  exact ⟨cells h0.1 h.1,by rw [hφ];exact h1,c,fr,by rw [hφ,hw];exact h2⟩
 | siter t pos=>obtain ⟨h1,h2⟩:=h;exact ⟨by rw [hφ];exact h1,by rw [hφ,hw];exact h2⟩
 | map es c=>
  obtain ⟨ms0,_,_,h03⟩:=h0
  obtain ⟨ms,h1,h2,h3⟩:=h
  refine ⟨ms,by rw [hφ,hw];exact h1,h2,fun i e hi=>?_⟩
  obtain ⟨m0,_,_,hv0,_⟩:=h03 i e hi
  obtain ⟨m,g1,g2,g3,g4⟩:=h3 i e hi
  exact ⟨m,g1,g2,g3.drop hw hφ hown (hn hv0),g4⟩
 | mit m=>
  obtain ⟨_,hm,_⟩:=h0
  obtain ⟨h1,_,since,last,h2⟩:=h
  exact ⟨by rw [hφ];exact h1,hb m hm,since,last,by rw [hφ,hw];exact h2⟩
 | lp r l=>
  obtain ⟨_,h02⟩:=h0
  obtain ⟨h1,h2⟩:=h
  exact ⟨by rw [hφ,hw];exact h1,fun n=>(h2 n).drop hw hφ hown (hn (h02 n))⟩
 | dead=>trivial
 | unborn=>trivial
def y7 (n:Nat):Ren:=fun s=>if s<n then some (some s) else some none
theorem Z7 {E:Env} {f:FuncId} {args:List IV} {L:List Blk} {R:IV->List Blk->Prop} {R':IV->Prop} (h:XT E f args L R)
  (hc:∀r L',R r L'->Keep none' L L'/\∃r',conv L' fuel (y7 L.length) r=some r'/\R' r'):XT E f args L fun r L'=>R' r/\L'=L:=by
 refine ⟨h.1,fun w φ X vs wf sim hG hl hv=>(h.2 w φ X vs wf sim hG hl hv).mono fun e w' ⟨r,L',φ',v,h1,h2,h3,h4,h5,h6⟩=>?_⟩
 obtain ⟨hk,r',hr',hR⟩:=hc r L' h1
 have hget:∀{s:Nat} {k:Blk},L[s]?=some k->L'[s]?=some k:=fun hs=>hk.get hs fun h=>h
 have hmine:∀b,Ctx.mine ⟨w',φ',L,X⟩ b->Ctx.mine ⟨w',φ',L',X⟩ b:=fun b ⟨s,k,h,h1,h2⟩=>⟨s,k,hget h,h1,h2⟩
 have hown:∀b,Ctx.own ⟨w',φ',L,X⟩ b->Ctx.own ⟨w',φ',L',X⟩ b:=fun b h=>h.imp (fun h=>h) (hmine b)
 have hbo:∀s,Ctx.born ⟨w,φ,L,X⟩ s->Ctx.born ⟨w',φ',L,X⟩ s:=fun s h=>h
 have hext:Ext ⟨w,φ,L,X⟩ ⟨w',φ',L,X⟩:=⟨h5.size,h5.frame,fun b hb=>h5.sub b (hmine b hb),h5.slot,hbo,Nat.le_refl _,h5.cap,rfl,h5.os,h5.tape,h5.output⟩
 refine ⟨r',L,φ',v,⟨hR,rfl⟩,h2,⟨fun s u k1 k2 hs hu=>h3.inj s u k1 k2 (hget hs) (hget hu),fun b hb=>h3.lo b (hmine b hb),fun b hx hb=>h3.apart b hx (hmine b hb),h3.exlo,h3.g⟩,fun s k hs=>?_,hext,?_⟩
 ·exact wH.drop (C0:=⟨w,φ,L,X⟩) (C:=⟨w',φ',L',X⟩) (C':=⟨w',φ',L,X⟩) rfl rfl hown hbo (sim s k hs) (h4 s k (hget hs))
 ·refine Zu (C:=⟨w',φ',L',X⟩) (C':=⟨w',φ',L,X⟩) rfl h4 hown fuel (y7 L.length) r r' v (fun s k hs=>⟨fun hm ha=>?_,fun t ht=>?_⟩) hr' h6
  ·have hge:¬s<L.length:=by
    intro hlt
    unfold y7 at hm
    rw [if_pos hlt] at hm
    cases hm
   rintro (hx | ⟨u,k2,g1,g2,g3⟩)
   ·exact h3.apart _ hx ⟨s,k,hs,ha,rfl⟩
   ·have:=h3.inj u s k2 k (hget g1) hs g2 ha g3
    subst this
    exact hge (zf g1)
  ·unfold y7 at ht
   split at ht
   ·rename_i hlt
    simp only [sij] at ht
    subst ht
    refine ⟨fun hb=>⟨k,?_,hb⟩,rfl⟩
    show L[s]?=some k
    have:=hk.2 s hlt (fun h=>h)
    rw [<-this];exact hs
   ·simp at ht
end Go.X
end
