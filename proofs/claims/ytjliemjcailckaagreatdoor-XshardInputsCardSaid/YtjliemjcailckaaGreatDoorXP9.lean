/- Parts of the proof: XMnz. -/
import Derived.Test.YtjliemjcailckaaGreatDoorXP8
import Derived.Lib.MakeNoZero
set_option linter.unusedVariables false
set_option linter.unusedSimpArgs false
set_option linter.unusedSectionVars false
section
namespace Go.X
open Go
section
variable {E:Env} {L:List Blk} {K:IV->List Blk->Prop}
theorem z0S:∀(n t:Nat) (b:Array Value),(∀i,i<b.size->∃v,b[i]?=some (.int .u8 v))->∀i,i<(Extern.BytealgMakeNoZero.digits n t b).size->∃v,(Extern.BytealgMakeNoZero.digits n t b)[i]?=some (.int .u8 v)
 | 0,_,b,h=>h
 | n+1,t,b,h=>by
  rw [Extern.BytealgMakeNoZero.digits]
  refine z0S n _ _ fun i hi=>?_
  rw [Array.getElem?_push]
  split
  ·exact ⟨_,rfl⟩
  ·refine h i ?_
   rw [Array.size_push] at hi;omega
theorem z9z {P:Program} (w:World) (ps:Array TypeId) (t e:TypeId) (d:P.underlying t=some (.slice e)) (n:Nat) (j:n≤281474976710656) :
  ∃cs:Array Value,(Extern.BytealgMakeNoZero.makeNoZero ps #[t] #[.int .i64 n]).run P w=.ok (.slice (some ⟨w.heap.size,0,none⟩) n cs.size) (w.drew.drew.alloc (.cells cs e))∧(n≤cs.size∧cs.size≤9223372036854775807)∧∀i,i<cs.size→∃v,cs[i]?=some (.int .u8 v):=by
 have h:¬(n:Int)<0:=by omega
 have b:¬(281474976710656:Int)<(n:Int):=by omega
 refine ⟨Extern.BytealgMakeNoZero.digits (grownCap w n 0 e) ((Question.extern "internal/bytealg.MakeNoZero.bytes" 0).cut (w.tape (w.drawn + 1) (.extern "internal/bytealg.MakeNoZero.bytes" 0))) #[], ?_, ?_, z0S _ _ _ (by simp)⟩
 ·change Sem.run P (underlying t >>= _) w=_
  simp [run_underlying d,h,b,Question.forced,newRow,Lib.size_digits,grownCap]
 ·rw [Lib.size_digits]
  refine ⟨by simpa using grownCap_ge w n 0 e,?_⟩
  have:grownCap w n 0 e≤9223372036854775807:=grownCap_le_maxLen w n 0 e (by show _≤2^63 - 1;omega)
  simpa using this
def u8V:Option Value->IV
 | some (.int .u8 v)=>.int .u8 v
 | _=>.und
theorem z9Z {f : FuncId} {fn : Func} {t b : TypeId} {ps : Array TypeId} (S : E.P.funcs[f]? = some fn) (q : (fn.name == "runtime.NumGoroutine") = false) (T : fn.body.isNone = true) (J : Extern.findNext fn = none)
  (he:Extern.find fn=some (Extern.BytealgMakeNoZero.makeNoZero ps #[t])) (U:E.P.underlying t=some (.slice b)) (n:Nat) (Z:n≤281474976710656)
  (h:∀rows:List (List IV),rows.length=n→(∀r∈rows,∃v:Int,r=[.int .u8 v])→K (.sl L.length 0 n n) (L++[.tcells b 1 rows])):XTX E f [.int .i64 n] L K:=by
 intro w M X vs wf D hG hl u
 match vs,hl with
 | [v],_=>
 have O:=u 0 _ rfl
 change VR _ (.int .i64 n) v at O
 cases O
 obtain ⟨cs,B,⟨s,I⟩,hu⟩:=z9z (P:=E.P) w ps t b U n Z
 let C1:Ctx:=ZZ (ZZ ⟨w,M,L,X⟩)
 have e1:Ext ⟨w,M,L,X⟩ C1:=(zA _).trans (zA _)
 have G:Wf E.g0 C1:=Zu (Zu wf)
 have m:Sim C1:=Zc (Zc D)
 have hg:Free C1.L L.length:=.inl rfl
 let rows:List (List IV):=(List.range n).map fun i=>[u8V cs[i]?]
 have l:∀i,i<n→∃v:Int,cs[i]?=some (.int .u8 v)∧rows[i]?=some [.int .u8 v]:=fun i hi=>by
  obtain ⟨v,u⟩:=hu i od
  refine ⟨v,u,?_⟩
  simp only [rows,List.getElem?_map,List.getElem?_range hi,Option.map_some,u,u8V]
 have d:rows.length=n:=by simp [rows]
 refine ⟨.sl L.length 0 n n,L++[.tcells b 1 rows],newφ C1 L.length 1,.slice (some ⟨w.heap.size,0,none⟩) n cs.size,Zm C1.w (.cells cs b),?_,?_,?_,?_,?_,?_⟩
 ·rw [run_callFunc_extern S q T J he,B];rfl
 ·refine h rows d fun r B=>?_
  obtain ⟨i,hi,rfl⟩:=List.getElem_of_mem B
  obtain ⟨v,_,A⟩:=l i od
  rw [List.getElem?_eq_getElem hi] at A
  exact ⟨v,Option.some.inj A⟩
 all_goals rw [←zB]
 ·exact jH (o:=.cells cs b) (k:=.tcells b 1 rows) (sz:=1) hg G m
 ·refine wB (o:=.cells cs b) (k:=.tcells b 1 rows) (sz:=1) hg m ?_
  have hh:(y8 C1 L.length (.cells cs b) (.tcells b 1 rows) 1).w.heap[((y8 C1 L.length (.cells cs b) (.tcells b 1 rows) 1).φ L.length).blk]?=some (.cells cs b):=by
   simp only [y8,newφ,if_true];exact zX
  refine ⟨⟨by simp [y8,newφ],cs,b,(0,0),hh,.inl rfl,?_,fun i Y hi=>?_⟩,by simp [y8,newφ],cs,(0,0),hh⟩
  ·simp [y8,newφ,d];exact s
  ·obtain ⟨v,V,A⟩:=l i (by rw [←d];exact zl hi)
   rw [A] at hi
   cases hi
   refine ⟨rfl,fun j x Q=>?_⟩
   cases j with
   | zero=>cases Q;exact ⟨.int .u8 v,by simpa [y8,newφ] using V,.int _ _⟩
   | succ j=>simp at Q
 ·exact e1.trans (yN hg (.cells cs b) (.tcells b 1 rows) 1)
 ·exact YK (C:=C1) hg (Nat.le_refl _) s (by simp) I
end
end Go.X
end
