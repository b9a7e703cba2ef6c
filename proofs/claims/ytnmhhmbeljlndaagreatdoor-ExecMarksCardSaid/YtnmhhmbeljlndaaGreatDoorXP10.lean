/- Parts of the proof: XMnz. -/
import Derived.Test.YtnmhhmbeljlndaaGreatDoorXP9
import Derived.Lib.MakeNoZero
set_option linter.unusedVariables false
set_option linter.unusedSimpArgs false
set_option linter.unusedSectionVars false
section
namespace Go.X
open Go
theorem z3n:∀(n t:Nat) (acc:Array Value),(∀i,i<acc.size->∃v,acc[i]?=some (.int .u8 v))->∀i,i<(Extern.BytealgMakeNoZero.digits n t acc).size->∃v,(Extern.BytealgMakeNoZero.digits n t acc)[i]?=some (.int .u8 v)
 | 0,_,acc,h=>h
 | n+1,t,acc,h=>by
  rw [Extern.BytealgMakeNoZero.digits]
  refine z3n n _ _ fun i hi=>?_
  rw [Array.getElem?_push]
  split
  ·exact ⟨_,rfl⟩
  ·refine h i ?_
   rw [Array.size_push] at hi;omega
theorem zc6 {P:Program} (w:World) (ps:Array TypeId) (t e:TypeId) (ht:P.underlying t=some (.slice e)) (n:Nat) (hn:n≤281474976710656) :
  ∃cs:Array Value,(Extern.BytealgMakeNoZero.makeNoZero ps #[t] #[.int .i64 n]).run P w=.ok (.slice (some ⟨w.heap.size,0,none⟩) n cs.size) (w.drew.drew.alloc (.cells cs e))∧(n≤cs.size∧cs.size≤9223372036854775807)∧∀i,i<cs.size→∃v,cs[i]?=some (.int .u8 v):=by
 have h1:¬(n:Int)<0:=by omega
 have h2:¬(281474976710656:Int)<(n:Int):=by omega
 refine ⟨Extern.BytealgMakeNoZero.digits (grownCap w n 0 e) ((Question.extern "internal/bytealg.MakeNoZero.bytes" 0).cut (w.tape (w.drawn + 1) (.extern "internal/bytealg.MakeNoZero.bytes" 0))) #[], ?_, ?_, z3n _ _ _ (by simp)⟩
 ·change Sem.run P (underlying t >>= _) w=_
  simp [run_underlying ht,h1,h2,Question.forced,newRow,Lib.size_digits,grownCap]
 ·rw [Lib.size_digits]
  refine ⟨by simpa using grownCap_ge w n 0 e,?_⟩
  have:grownCap w n 0 e≤9223372036854775807:=grownCap_le_maxLen w n 0 e (by show _≤2^63 - 1;omega)
  simpa using this
def u8V:Option Value->IV
 | some (.int .u8 v)=>.int .u8 v
 | _=>.und
section
variable {E:Env} {L:List Blk} {K:IV->List Blk->Prop}
theorem zbw {f : FuncId} {fn : Func} {t el : TypeId} {ps : Array TypeId} (hf : E.P.funcs[f]? = some fn) (hname : (fn.name == "runtime.NumGoroutine") = false) (hb : fn.body.isNone = true) (hnx : Extern.findNext fn = none)
  (he:Extern.find fn=some (Extern.BytealgMakeNoZero.makeNoZero ps #[t])) (ht:E.P.underlying t=some (.slice el)) (n:Nat) (hn:n≤281474976710656)
  (h:∀rows:List (List IV),rows.length=n→(∀r∈rows,∃v:Int,r=[.int .u8 v])→K (.sl L.length 0 n n) (L++[.tcells el 1 rows])):XTX E f [.int .i64 n] L K:=by
 intro w φ X vs wf sim hG hl hv
 match vs,hl with
 | [v],_=>
 have h0:=hv 0 _ rfl
 change VR _ (.int .i64 n) v at h0
 cases h0
 obtain ⟨cs,hr,⟨hcs,hcm⟩,hu⟩:=zc6 (P:=E.P) w ps t el ht n hn
 let C1:Ctx:=yA (yA ⟨w,φ,L,X⟩)
 have e1:Ext ⟨w,φ,L,X⟩ C1:=(Z8 _).trans (Z8 _)
 have wf1:Wf E.g0 C1:=y8 (y8 wf)
 have sim1:Sim C1:=Zv (Zv sim)
 have hg:Free C1.L L.length:=.inl rfl
 let rows:List (List IV):=(List.range n).map fun i=>[u8V cs[i]?]
 have hrow:∀i,i<n→∃v:Int,cs[i]?=some (.int .u8 v)∧rows[i]?=some [.int .u8 v]:=fun i hi=>by
  obtain ⟨v,hv⟩:=hu i (by omega)
  refine ⟨v,hv,?_⟩
  simp only [rows,List.getElem?_map,List.getElem?_range hi,Option.map_some,hv,u8V]
 have hlen:rows.length=n:=by simp [rows]
 refine ⟨.sl L.length 0 n n,L++[.tcells el 1 rows],newφ C1 L.length 1,.slice (some ⟨w.heap.size,0,none⟩) n cs.size,ZT C1.w (.cells cs el),?_,?_,?_,?_,?_,?_⟩
 ·rw [run_callFunc_extern hf hname hb hnx he,hr];rfl
 ·refine h rows hlen fun r hr=>?_
  obtain ⟨i,hi,rfl⟩:=List.getElem_of_mem hr
  obtain ⟨v,_,h2⟩:=hrow i (by omega)
  rw [List.getElem?_eq_getElem hi] at h2
  exact ⟨v,Option.some.inj h2⟩
 all_goals rw [←Zb]
 ·exact z0i (o:=.cells cs el) (k:=.tcells el 1 rows) (sz:=1) hg wf1 sim1
 ·refine WX (o:=.cells cs el) (k:=.tcells el 1 rows) (sz:=1) hg sim1 ?_
  have hh:(newC C1 L.length (.cells cs el) (.tcells el 1 rows) 1).w.heap[((newC C1 L.length (.cells cs el) (.tcells el 1 rows) 1).φ L.length).blk]?=some (.cells cs el):=by
   simp only [newC,newφ,if_true];exact Zm
  refine ⟨⟨by simp [newC,newφ],cs,el,(0,0),hh,.inl rfl,?_,fun i row hi=>?_⟩,by simp [newC,newφ],cs,(0,0),hh⟩
  ·simp [newC,newφ,hlen];exact hcs
  ·obtain ⟨v,h1,h2⟩:=hrow i (by rw [←hlen];exact zu hi)
   rw [h2] at hi
   cases hi
   refine ⟨rfl,fun j x hj=>?_⟩
   cases j with
   | zero=>cases hj;exact ⟨.int .u8 v,by simpa [newC,newφ] using h1,.int _ _⟩
   | succ j=>simp at hj
 ·exact e1.trans (Yu hg (.cells cs el) (.tcells el 1 rows) 1)
 ·exact YF (C:=C1) hg (Nat.le_refl _) hcs (by simp) hcm
end
end Go.X
end
