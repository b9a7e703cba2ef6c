/- Parts of the proof: XShelf. -/
import Derived.Test.YtnmhhmbeljlndaaGreatDoorXP11
import Derived.Below
import Derived.Sort.Grow
set_option linter.unusedVariables false
set_option linter.unusedSimpArgs false
set_option linter.unusedSectionVars false
section
namespace Go.X
open Go Go.RowKit Go.Sort
section
variable {E:Env}
theorem z7W {C:Ctx} {w':World} (hL:C.L=[]) (h:Below C.w.heap.size C.w w'):Ext C ⟨w',C.φ,[],C.X⟩ where
 size:=h.size
 frame:=fun b hb _=>h.block b hb
 sub:=fun b ⟨s,k,hk,_⟩=>by simp at hk
 slot:=fun _ _=>rfl
 bo:=fun s ⟨k,hk,_⟩=>by rw [hL] at hk;simp at hk
 len:=by rw [hL];exact Nat.le_refl _
 cap:=fun b c e fr hb=>⟨c,e,fr,by rw [<-hb];exact h.block b (Array.getElem?_eq_some_iff.1 hb).1,rfl⟩
 ex:=rfl
 os:=h.os
 tape:=h.tape
 output:=h.output
theorem z4B {f:FuncId} {args:List IV} {r:IV} (hb:jR E.P f)
  (h:∀(C:Ctx) (vs:List Value),C.L=[]->E.G C.w->E.g0<=C.w.heap.size->(∀b,C.own b->b<C.w.heap.size)->args.length=vs.length->
   (∀(i:Nat) (x:IV),args[i]?=some x->VR C x (vs.getD i undef))->Calls E.P f vs.toArray C.w fun e w'=>∃v,e=.returned v/\Below C.w.heap.size C.w w'/\VR ⟨w',C.φ,[],C.X⟩ r v):zI E f args r:=by
 refine ⟨hb,fun w φ X vs wf sim hG hl hv=>?_⟩
 have hown:∀b,(⟨w,φ,[],X⟩:Ctx).own b->b<w.heap.size:=by
  rintro b (hx | ⟨s,k,hk,_⟩)
  ·exact wf.exlo b hx
  ·simp at hk
 refine (h ⟨w,φ,[],X⟩ vs rfl hG wf.g hown hl hv).mono fun e w' ⟨v,he,hbl,hvr⟩=>?_
 refine ⟨r,[],φ,v,⟨rfl,rfl⟩,he,?_,fun s k hk=>by simp at hk,z7W (C:=⟨w,φ,[],X⟩) rfl hbl,hvr⟩
 exact ⟨fun s t ks kt hs=>by simp at hs,fun b ⟨s,k,hk,_⟩=>by simp at hk,fun b _ ⟨s,k,hk,_⟩=>by simp at hk,fun b hx=>Nat.lt_of_lt_of_le (wf.exlo b hx) hbl.size,Nat.le_trans wf.g hbl.size⟩
end
end Go.X
end
