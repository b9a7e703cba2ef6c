/- Parts of the proof: XMnz. -/
import Derived.Test.YtnmhhmbeljlndaaGreatDoorXP9
import Derived.Lib.MakeNoZero
set_option linter.unusedVariables false
set_option linter.unusedSimpArgs false
set_option linter.unusedSectionVars false
section
namespace Go.X
open Go
section
variable {E:Env} {L:List Blk} {K:IV->List Blk->Prop}
theorem z2Y:∀(n t:Nat) (b:Array Value),(∀i,i<b.size->∃v,b[i]?=some (.int .u8 v))->∀i,i<(Extern.BytealgMakeNoZero.digits n t b).size->∃v,(Extern.BytealgMakeNoZero.digits n t b)[i]?=some (.int .u8 v)
 | 0,_,b,h=>h
 | n+1,t,b,h=>by
  rw [Extern.BytealgMakeNoZero.digits]
  refine z2Y n _ _ fun i hi=>?_
  rw [Array.getElem?_push]
  split
  ·exact ⟨_,rfl⟩
  ·refine h i ?_
   rw [Array.size_push] at hi;omega
theorem ze9 {P:Program} (w:World) (ps:Array TypeId) (t e:TypeId) (b:P.underlying t=some (.slice e)) (n:Nat) (d:n≤281474976710656) :
  ∃cs:Array Value,(Extern.BytealgMakeNoZero.makeNoZero ps #[t] #[.int .i64 n]).run P w=.ok (.slice (some ⟨w.heap.size,0,none⟩) n cs.size) (w.drew.drew.alloc (.cells cs e))∧(n≤cs.size∧cs.size≤9223372036854775807)∧∀i,i<cs.size→∃v,cs[i]?=some (.int .u8 v):=by
 have h1:¬(n:Int)<0:=by omega
 have h2:¬(281474976710656:Int)<(n:Int):=by omega
 refine ⟨Extern.BytealgMakeNoZero.digits (grownCap w n 0 e) ((Question.extern "internal/bytealg.MakeNoZero.bytes" 0).cut (w.tape (w.drawn + 1) (.extern "internal/bytealg.MakeNoZero.bytes" 0))) #[], ?_, ?_, z2Y _ _ _ (by simp)⟩
 ·change Sem.run P (underlying t >>= _) w=_
  simp [run_underlying b,h1,h2,Question.forced,newRow,Lib.size_digits,grownCap]
 ·rw [Lib.size_digits]
  refine ⟨by simpa using grownCap_ge w n 0 e,?_⟩
  have:grownCap w n 0 e≤9223372036854775807:=grownCap_le_maxLen w n 0 e (by show _≤2^63 - 1;omega)
  simpa using this
def u8V:Option Value->IV
 | some (.int .u8 v)=>.int .u8 v
 | _=>.und
theorem zeq {f : FuncId} {fn : Func} {t b : TypeId} {ps : Array TypeId} (T : E.P.funcs[f]? = some fn) (p : (fn.name == "runtime.NumGoroutine") = false) (U : fn.body.isNone = true) (B : Extern.findNext fn = none)
  (O:Extern.find fn=some (Extern.BytealgMakeNoZero.makeNoZero ps #[t])) (V:E.P.underlying t=some (.slice b)) (n:Nat) (Q:n≤281474976710656)
  (h:∀rows:List (List IV),rows.length=n→(∀r∈rows,∃v:Int,r=[.int .u8 v])→K (.sl L.length 0 n n) (L++[.tcells b 1 rows])):XTX E f [.int .i64 n] L K:=by
 intro w I X vs wf u hG R s
 match vs,R with
 | [v],_=>
 have J:=s 0 _ rfl
 change VR _ (.int .i64 n) v at J
 cases J
 obtain ⟨cs,A,⟨q,G⟩,S⟩:=ze9 (P:=E.P) w ps t b V n Q
 let C1:Ctx:=yP (yP ⟨w,I,L,X⟩)
 have e1:Ext ⟨w,I,L,X⟩ C1:=(Ze _).trans (Ze _)
 have D:Wf E.g0 C1:=y9 (y9 wf)
 have m:Sim C1:=ZE (ZE u)
 have hg:Free C1.L L.length:=.inl rfl
 let rows:List (List IV):=(List.range n).map fun i=>[u8V cs[i]?]
 have l:∀i,i<n→∃v:Int,cs[i]?=some (.int .u8 v)∧rows[i]?=some [.int .u8 v]:=fun i hi=>by
  obtain ⟨v,s⟩:=S i od
  refine ⟨v,s,?_⟩
  simp only [rows,List.getElem?_map,List.getElem?_range hi,Option.map_some,s,u8V]
 have d:rows.length=n:=by simp [rows]
 refine ⟨.sl L.length 0 n n,L++[.tcells b 1 rows],newφ C1 L.length 1,.slice (some ⟨w.heap.size,0,none⟩) n cs.size,yK C1.w (.cells cs b),?_,?_,?_,?_,?_,?_⟩
 ·rw [run_callFunc_extern T p U B O,A];rfl
 ·refine h rows d fun r A=>?_
  obtain ⟨i,hi,rfl⟩:=List.getElem_of_mem A
  obtain ⟨v,_,h2⟩:=l i od
  rw [List.getElem?_eq_getElem hi] at h2
  exact ⟨v,Option.some.inj h2⟩
 all_goals rw [←Zw]
 ·exact z0u (o:=.cells cs b) (k:=.tcells b 1 rows) (sz:=1) hg D m
 ·refine VQ (o:=.cells cs b) (k:=.tcells b 1 rows) (sz:=1) hg m ?_
  have hh:(Yf C1 L.length (.cells cs b) (.tcells b 1 rows) 1).w.heap[((Yf C1 L.length (.cells cs b) (.tcells b 1 rows) 1).φ L.length).blk]?=some (.cells cs b):=by
   simp only [Yf,newφ,if_true];exact ZB
  refine ⟨⟨by simp [Yf,newφ],cs,b,(0,0),hh,.inl rfl,?_,fun i row hi=>?_⟩,by simp [Yf,newφ],cs,(0,0),hh⟩
  ·simp [Yf,newφ,d];exact q
  ·obtain ⟨v,h1,h2⟩:=l i (by rw [←d];exact zx hi)
   rw [h2] at hi
   cases hi
   refine ⟨rfl,fun j x M=>?_⟩
   cases j with
   | zero=>cases M;exact ⟨.int .u8 v,by simpa [Yf,newφ] using h1,.int _ _⟩
   | succ j=>simp at M
 ·exact e1.trans (wV hg (.cells cs b) (.tcells b 1 rows) 1)
 ·exact WN (C:=C1) hg (Nat.le_refl _) q (by simp) G
end
end Go.X
end
