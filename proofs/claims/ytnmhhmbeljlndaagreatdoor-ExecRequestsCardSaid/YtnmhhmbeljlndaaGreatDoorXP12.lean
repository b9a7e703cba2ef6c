/- Parts of the proof: XShelf. -/
import Derived.Test.YtnmhhmbeljlndaaGreatDoorXP11
import Derived.Below
import Derived.Sort.Grow
set_option linter.unusedVariables false
set_option linter.unusedSimpArgs false
set_option linter.unusedSectionVars false
section
namespace Go.X
open Go Go.RowKit Go.Sort
section
variable {E:Env}
theorem z9Z {C:Ctx} {w':World} (l:C.L=[]) (h:Below C.w.heap.size C.w w'):Ext C ⟨w',C.φ,[],C.X⟩ where
 size:=h.size
 frame:=fun b d _=>h.block b d
 sub:=fun b ⟨s,k,j,_⟩=>by simp at j
 slot:=fun _ _=>rfl
 bo:=fun s ⟨k,j,_⟩=>by rw [l] at j;simp at j
 len:=by rw [l];exact Nat.le_refl _
 cap:=fun b c e m d=>⟨c,e,m,by rw [<-d];exact h.block b (Array.getElem?_eq_some_iff.1 d).1,rfl⟩
 ex:=rfl
 os:=h.os
 tape:=h.tape
 output:=h.output
theorem z5z {f:FuncId} {args:List IV} {r:IV} (I:Jo E.P f)
  (h:∀(C:Ctx) (vs:List Value),C.L=[]->E.G C.w->E.g0<=C.w.heap.size->(∀b,C.own b->b<C.w.heap.size)->args.length=vs.length->
   (∀(i:Nat) (x:IV),args[i]?=some x->VR C x (vs.getD i undef))->Calls E.P f vs.toArray C.w fun e w'=>∃v,e=.returned v/\Below C.w.heap.size C.w w'/\VR ⟨w',C.φ,[],C.X⟩ r v):zD E f args r:=by
 refine ⟨I,fun w m X vs wf A hG D B=>?_⟩
 have l:∀b,(⟨w,m,[],X⟩:Ctx).own b->b<w.heap.size:=by
  rintro b (q | ⟨s,k,d,_⟩)
  ·exact wf.exlo b q
  ·simp at d
 refine (h ⟨w,m,[],X⟩ vs rfl hG wf.g l D B).mono fun e w' ⟨v,u,j,p⟩=>?_
 refine ⟨r,[],m,v,⟨rfl,rfl⟩,u,?_,fun s k d=>by simp at d,z9Z (C:=⟨w,m,[],X⟩) rfl j,p⟩
 exact ⟨fun s t ks J hs=>by simp at hs,fun b ⟨s,k,d,_⟩=>by simp at d,fun b _ ⟨s,k,d,_⟩=>by simp at d,fun b q=>Nat.lt_of_lt_of_le (wf.exlo b q) j.size,Nat.le_trans wf.g j.size⟩
end
end Go.X
end
