/- Parts of the proof: XShelf. -/
import Derived.Test.YtjliemjcailckaaGreatDoorXP12
import Derived.Below
import Derived.Sort.Grow
set_option linter.unusedVariables false
set_option linter.unusedSimpArgs false
set_option linter.unusedSectionVars false
section
namespace Go.X
open Go Go.RowKit Go.Sort
section
variable {E:Env}
theorem z5m {C:Ctx} {w':World} (l:C.L=[]) (h:Below C.w.heap.size C.w w'):Ext C ⟨w',C.φ,[],C.X⟩ where
 size:=h.size
 frame:=fun b d _=>h.block b d
 sub:=fun b ⟨s,k,j,_⟩=>by simp at j
 slot:=fun _ _=>rfl
 bo:=fun s ⟨k,j,_⟩=>by rw [l] at j;simp at j
 len:=by rw [l];exact Nat.le_refl _
 cap:=fun b c e fr d=>⟨c,e,fr,by rw [<-d];exact h.block b (Array.getElem?_eq_some_iff.1 d).1,rfl⟩
 ex:=rfl
 os:=h.os
 tape:=h.tape
 output:=h.output
theorem z1U {f:FuncId} {args:List IV} {r:IV} (J:vY E.P f)
  (h:∀(C:Ctx) (vs:List Value),C.L=[]->E.G C.w->E.g0<=C.w.heap.size->(∀b,C.own b->b<C.w.heap.size)->args.length=vs.length->
   (∀(i:Nat) (x:IV),args[i]?=some x->VR C x (vs.getD i undef))->Calls E.P f vs.toArray C.w fun e w'=>∃v,e=.returned v/\Below C.w.heap.size C.w w'/\VR ⟨w',C.φ,[],C.X⟩ r v):ZH E f args r:=by
 refine ⟨J,fun w m X vs wf B hG I D=>?_⟩
 have l:∀b,(⟨w,m,[],X⟩:Ctx).own b->b<w.heap.size:=by
  rintro b (q | ⟨s,k,j,_⟩)
  ·exact wf.exlo b q
  ·simp at j
 refine (h ⟨w,m,[],X⟩ vs rfl hG wf.g l I D).mono fun e w' ⟨v,A,d,u⟩=>?_
 refine ⟨r,[],m,v,⟨rfl,rfl⟩,A,?_,fun s k j=>by simp at j,z5m (C:=⟨w,m,[],X⟩) rfl d,u⟩
 exact ⟨fun s t M O hs=>by simp at hs,fun b ⟨s,k,j,_⟩=>by simp at j,fun b _ ⟨s,k,j,_⟩=>by simp at j,fun b q=>Nat.lt_of_lt_of_le (wf.exlo b q) d.size,Nat.le_trans wf.g d.size⟩
end
end Go.X
end
