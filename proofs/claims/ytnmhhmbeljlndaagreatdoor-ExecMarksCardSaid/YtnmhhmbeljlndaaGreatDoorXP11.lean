/- Parts of the proof: XKvSpec. -/
import Derived.Test.YtnmhhmbeljlndaaGreatDoorXP10
import Derived.Sort.Walk0
set_option linter.unusedVariables false
set_option linter.unusedSimpArgs false
set_option linter.unusedSectionVars false
section
namespace Go.X
open Go
abbrev KV:=List (List UInt8 × List UInt8)
theorem vJ {a b:List UInt8}:Op.bytesLess a b=true↔a<b:=by rw [Go.Proofs.bytesLess_eq];simp
theorem jU {a:List UInt8}:Op.bytesLess a a=false:=by
 cases h:Op.bytesLess a a with
 | false=>rfl
 | true=>exact absurd (vJ.1 h) (List.lt_irrefl a)
theorem ww {a b c:List UInt8} (h:Op.bytesLess a b=true) (h':Op.bytesLess b c=true):Op.bytesLess a c=true:=vJ.2 (List.lt_trans (vJ.1 h) (vJ.1 h'))
theorem z1D {a b:List UInt8} (h:Op.bytesLess a b=false) (hne:a≠b):Op.bytesLess b a=true:=by
 refine vJ.2 ?_
 have h1:¬a<b:=fun h2=>by rw [vJ.2 h2] at h;cases h
 have h2:b<=a:=List.not_lt.1 h1
 rcases Classical.em (b<a) with h3 | h3
 ·exact h3
 ·exact absurd (List.le_antisymm (List.not_lt.1 h3) h2) hne
def KV.get:KV->List UInt8->Option (List UInt8)
 | [],_=>none
 | p::r,k=>if p.1=k then some p.2 else KV.get r k
def KV.rank:KV->List UInt8->Nat
 | [],_=>0
 | p::r,k=>if Op.bytesLess p.1 k then KV.rank r k+1 else 0
def KV.put:KV->List UInt8->List UInt8->KV
 | [],k,v=>[(k,v)]
 | p::r,k,v=>if Op.bytesLess p.1 k then p::KV.put r k v else if p.1=k then (k,v)::r else (k,v)::p::r
def KV.sorted (m:KV):Prop:=m.Pairwise fun a b=>Op.bytesLess a.1 b.1=true
def KV.keys (m:KV):List (List UInt8):=m.map (·.1)
theorem KV.rank_le:∀(m:KV) (k:List UInt8),KV.rank m k<=m.length
 | [],_=>Nat.le_refl _
 | p::r,k=>by
  unfold KV.rank
  have:=KV.rank_le r k
  split<;>simp<;>omega
theorem KV.get_put:∀(m:KV) (k v k':List UInt8),KV.get (KV.put m k v) k'=if k'=k then some v else KV.get m k'
 | [],k,v,k'=>by
  simp only [KV.put,KV.get]
  by_cases h:k=k'
  ·rw [if_pos h,if_pos h.symm]
  ·rw [if_neg h,if_neg (Ne.symm h)]
 | p::r,k,v,k'=>by
  unfold KV.put
  split
  ·rename_i h
   unfold KV.get
   rw [KV.get_put r k v k']
   by_cases h1:p.1=k'
   ·rw [if_pos h1]
    have hne:k'≠k:=fun h2=>by rw [h1,h2,jU] at h;cases h
    rw [if_neg hne,if_pos h1]
   ·rw [if_neg h1]
    split<;>rfl
  ·split
   ·rename_i h h2
    simp only [KV.get]
    by_cases h1:k=k'
    ·rw [if_pos h1,if_pos h1.symm]
    ·rw [if_neg h1,if_neg (Ne.symm h1),if_neg (by rw [h2];exact h1)]
   ·simp only [KV.get]
    by_cases h1:k=k'
    ·rw [if_pos h1,if_pos h1.symm]
    ·rw [if_neg h1,if_neg (Ne.symm h1)]
theorem KV.mem_put:∀(m:KV) (k v:List UInt8) (q:List UInt8 × List UInt8),q∈KV.put m k v->q=(k,v)\/q∈m
 | [],k,v,q,h=>by simp only [KV.put,List.mem_singleton] at h;exact .inl h
 | p::r,k,v,q,h=>by
  unfold KV.put at h
  split at h
  ·rcases List.mem_cons.1 h with rfl | h
   ·exact .inr List.mem_cons_self
   ·exact (KV.mem_put r k v q h).imp id (List.mem_cons_of_mem _)
  ·split at h
   ·rcases List.mem_cons.1 h with rfl | h
    ·exact .inl rfl
    ·exact .inr (List.mem_cons_of_mem _ h)
   ·rcases List.mem_cons.1 h with rfl | h
    ·exact .inl rfl
    ·exact .inr h
theorem KV.sorted_put:∀(m:KV) (k v:List UInt8),KV.sorted m->KV.sorted (KV.put m k v)
 | [],k,v,_=>by simp [KV.put,KV.sorted]
 | p::r,k,v,h=>by
  have h':=List.pairwise_cons.1 h
  unfold KV.put
  split
  ·rename_i hlt
   refine List.pairwise_cons.2 ⟨fun q hq=>?_,KV.sorted_put r k v h'.2⟩
   rcases KV.mem_put r k v q hq with rfl | hq
   ·exact hlt
   ·exact h'.1 q hq
  ·rename_i hlt
   have hlt:Op.bytesLess p.1 k=false:=by simpa using hlt
   split
   ·rename_i he
    refine List.pairwise_cons.2 ⟨fun q hq=>?_,h'.2⟩
    rw [<-he];exact h'.1 q hq
   ·rename_i hne
    refine List.pairwise_cons.2 ⟨fun q hq=>?_,h⟩
    have hkp:=z1D hlt hne
    rcases List.mem_cons.1 hq with rfl | hq
    ·exact hkp
    ·exact ww hkp (h'.1 q hq)
theorem KV.rank_lt:∀(m:KV) (k:List UInt8) (j:Nat) (x:List UInt8),j<KV.rank m k->(KV.keys m)[j]?=some x->Op.bytesLess x k=true
 | [],_,_,_,h,_=>by simp [KV.rank] at h
 | p::r,k,j,x,h,hx=>by
  unfold KV.rank at h
  split at h
  ·rename_i hlt
   cases j with
   | zero=>simp [KV.keys] at hx;subst hx;exact hlt
   | succ j=>exact KV.rank_lt r k j x (by omega) (by simpa [KV.keys] using hx)
  ·omega
theorem KV.rank_ge:∀(m:KV) (k:List UInt8),KV.sorted m->∀(j:Nat) (x:List UInt8),KV.rank m k<=j->(KV.keys m)[j]?=some x->Op.bytesLess x k=false
 | [],_,_,j,x,_,hx=>by simp [KV.keys] at hx
 | p::r,k,hs,j,x,h,hx=>by
  have hs':=List.pairwise_cons.1 hs
  unfold KV.rank at h
  split at h
  ·cases j with
   | zero=>omega
   | succ j=>exact KV.rank_ge r k hs'.2 j x (by omega) (by simpa [KV.keys] using hx)
  ·rename_i hlt
   have hlt:Op.bytesLess p.1 k=false:=by simpa using hlt
   cases j with
   | zero=>simp [KV.keys] at hx;subst hx;exact hlt
   | succ j=>
    have hx':(r.map (·.1))[j]?=some x:=by simpa [KV.keys] using hx
    rw [List.getElem?_map,oms] at hx'
    obtain ⟨q,hq,rfl⟩:=hx'
    have h1:=hs'.1 q (List.mem_of_getElem? hq)
    cases h2:Op.bytesLess q.1 k with
    | false=>rfl
    | true=>rw [ww h1 h2] at hlt;cases hlt
theorem KV.rank_get:∀(m:KV) (k:List UInt8),KV.sorted m->((KV.keys m)[KV.rank m k]?=some k↔(KV.get m k).isSome=true)
 | [],k,_=>by simp [KV.keys,KV.get]
 | p::r,k,hs=>by
  have hs':=List.pairwise_cons.1 hs
  unfold KV.rank KV.get
  split
  ·rename_i hlt
   have hne:p.1≠k:=fun h=>by rw [h,jU] at hlt;cases hlt
   rw [if_neg hne]
   have:=KV.rank_get r k hs'.2
   simpa [KV.keys] using this
  ·rename_i hlt
   have hlt:Op.bytesLess p.1 k=false:=by simpa using hlt
   by_cases he:p.1=k
   ·rw [if_pos he];simp [KV.keys,he]
   ·rw [if_neg he]
    have hn:KV.get r k=none:=by
     have hkp:=z1D hlt he
     have:∀(r:KV),(∀q∈r,Op.bytesLess p.1 q.1=true)->KV.get r k=none:=fun r=>by
      induction r with
      | nil=>intro _;rfl
      | cons q r ih=>
       intro hq
       unfold KV.get
       rw [if_neg,ih fun q' hq'=>hq q' (List.mem_cons_of_mem _ hq')]
       intro h
       have:=ww hkp (hq q List.mem_cons_self)
       rw [h,jU] at this
       cases this
     exact this r hs'.1
    rw [hn]
    simp [KV.keys,he]
theorem KV.keys_put_new:∀(m:KV) (k v:List UInt8),KV.get m k=none->KV.keys (KV.put m k v)=(KV.keys m).take (KV.rank m k)++k::(KV.keys m).drop (KV.rank m k)
 | [],k,v,_=>by simp [KV.put,KV.keys,KV.rank]
 | p::r,k,v,h=>by
  unfold KV.get at h
  split at h
  ·cases h
  ·rename_i hne
   unfold KV.put KV.rank
   split
   ·have:=KV.keys_put_new r k v h
    simp only [KV.keys,List.map_cons] at this ⊢
    rw [this];simp
   ·simp [KV.keys]
theorem KV.keys_put_old:∀(m:KV) (k v:List UInt8),KV.sorted m->(KV.get m k).isSome=true->KV.keys (KV.put m k v)=KV.keys m
 | [],k,v,_,h=>by simp [KV.get] at h
 | p::r,k,v,hs,h=>by
  have hs':=List.pairwise_cons.1 hs
  unfold KV.put
  split
  ·rename_i hlt
   have hne:p.1≠k:=fun h=>by rw [h,jU] at hlt;cases hlt
   unfold KV.get at h
   rw [if_neg hne] at h
   have:=KV.keys_put_old r k v hs'.2 h
   simp only [KV.keys,List.map_cons] at this ⊢
   rw [this]
  ·rename_i hlt
   split
   ·rename_i he;simp [KV.keys,he]
   ·rename_i hne
    have h1:=(KV.rank_get (p::r) k hs).2 h
    unfold KV.rank at h1
    rw [if_neg hlt] at h1
    simp [KV.keys] at h1
    exact absurd h1 hne
end Go.X
end
