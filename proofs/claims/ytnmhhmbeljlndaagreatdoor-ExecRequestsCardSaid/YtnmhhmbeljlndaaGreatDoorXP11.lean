/- Parts of the proof: XKvSpec, XSimp. -/
import Derived.Test.YtnmhhmbeljlndaaGreatDoorXP10
import Derived.Sort.Walk0
set_option linter.unusedVariables false
set_option linter.unusedSimpArgs false
set_option linter.unusedSectionVars false
section
namespace Go.X
open Go
abbrev KV:=List (List UInt8 × List UInt8)
theorem V3 {a b:List UInt8}:Op.bytesLess a b=true↔a<b:=by rw [Go.Proofs.bytesLess_eq];simp
theorem YY {a:List UInt8}:Op.bytesLess a a=false:=by
 cases h:Op.bytesLess a a with
 | false=>rfl
 | true=>exact absurd (V3.1 h) (List.lt_irrefl a)
theorem vw {a b c:List UInt8} (h:Op.bytesLess a b=true) (d:Op.bytesLess b c=true):Op.bytesLess a c=true:=V3.2 (List.lt_trans (V3.1 h) (V3.1 d))
theorem z2g {a b:List UInt8} (h:Op.bytesLess a b=false) (j:a≠b):Op.bytesLess b a=true:=by
 refine V3.2 ?_
 have h1:¬a<b:=fun h2=>by rw [V3.2 h2] at h;cases h
 have h2:b<=a:=List.not_lt.1 h1
 rcases Classical.em (b<a) with d | d
 ·exact d
 ·exact absurd (List.le_antisymm (List.not_lt.1 d) h2) j
def KV.get:KV->List UInt8->Option (List UInt8)
 | [],_=>none
 | p::r,k=>if p.1=k then some p.2 else KV.get r k
def KV.rank:KV->List UInt8->Nat
 | [],_=>0
 | p::r,k=>if Op.bytesLess p.1 k then KV.rank r k+1 else 0
def KV.put:KV->List UInt8->List UInt8->KV
 | [],k,v=>[(k,v)]
 | p::r,k,v=>if Op.bytesLess p.1 k then p::KV.put r k v else if p.1=k then (k,v)::r else (k,v)::p::r
def KV.sorted (m:KV):Prop:=m.Pairwise fun a b=>Op.bytesLess a.1 b.1=true
def KV.keys (m:KV):List (List UInt8):=m.map (·.1)
theorem KV.rank_le:∀(m:KV) (k:List UInt8),KV.rank m k<=m.length
 | [],_=>Nat.le_refl _
 | p::r,k=>by
  unfold KV.rank
  have:=KV.rank_le r k
  split<;>simp<;>omega
theorem KV.get_put:∀(m:KV) (k v b:List UInt8),KV.get (KV.put m k v) b=if b=k then some v else KV.get m b
 | [],k,v,b=>by
  simp only [KV.put,KV.get]
  by_cases h:k=b
  ·rw [if_pos h,if_pos h.symm]
  ·rw [if_neg h,if_neg (Ne.symm h)]
 | p::r,k,v,b=>by
  unfold KV.put
  split
  ·rename_i h
   unfold KV.get
   rw [KV.get_put r k v b]
   by_cases h1:p.1=b
   ·rw [if_pos h1]
    have d:b≠k:=fun h2=>by rw [h1,h2,YY] at h;cases h
    rw [if_neg d,if_pos h1]
   ·rw [if_neg h1]
    split<;>rfl
  ·split
   ·rename_i h h2
    simp only [KV.get]
    by_cases h1:k=b
    ·rw [if_pos h1,if_pos h1.symm]
    ·rw [if_neg h1,if_neg (Ne.symm h1),if_neg (by rw [h2];exact h1)]
   ·simp only [KV.get]
    by_cases h1:k=b
    ·rw [if_pos h1,if_pos h1.symm]
    ·rw [if_neg h1,if_neg (Ne.symm h1)]
theorem KV.mem_put:∀(m:KV) (k v:List UInt8) (q:List UInt8 × List UInt8),q∈KV.put m k v->q=(k,v)\/q∈m
 | [],k,v,q,h=>by simp only [KV.put,List.mem_singleton] at h;exact .inl h
 | p::r,k,v,q,h=>by
  unfold KV.put at h
  split at h
  ·rcases List.mem_cons.1 h with rfl | h
   ·exact .inr List.mem_cons_self
   ·exact (KV.mem_put r k v q h).imp id (List.mem_cons_of_mem _)
  ·split at h
   ·rcases List.mem_cons.1 h with rfl | h
    ·exact .inl rfl
    ·exact .inr (List.mem_cons_of_mem _ h)
   ·rcases List.mem_cons.1 h with rfl | h
    ·exact .inl rfl
    ·exact .inr h
theorem KV.sorted_put:∀(m:KV) (k v:List UInt8),KV.sorted m->KV.sorted (KV.put m k v)
 | [],k,v,_=>by simp [KV.put,KV.sorted]
 | p::r,k,v,h=>by
  have l:=List.pairwise_cons.1 h
  unfold KV.put
  split
  ·rename_i b
   refine List.pairwise_cons.2 ⟨fun q d=>?_,KV.sorted_put r k v l.2⟩
   rcases KV.mem_put r k v q d with rfl | d
   ·exact b
   ·exact l.1 q d
  ·rename_i b
   have b:Op.bytesLess p.1 k=false:=by simpa using b
   split
   ·rename_i u
    refine List.pairwise_cons.2 ⟨fun q d=>?_,l.2⟩
    rw [<-u];exact l.1 q d
   ·rename_i s
    refine List.pairwise_cons.2 ⟨fun q d=>?_,h⟩
    have j:=z2g b s
    rcases List.mem_cons.1 d with rfl | d
    ·exact j
    ·exact vw j (l.1 q d)
theorem KV.rank_lt:∀(m:KV) (k:List UInt8) (j:Nat) (x:List UInt8),j<KV.rank m k->(KV.keys m)[j]?=some x->Op.bytesLess x k=true
 | [],_,_,_,h,_=>by simp [KV.rank] at h
 | p::r,k,j,x,h,hx=>by
  unfold KV.rank at h
  split at h
  ·rename_i b
   cases j with
   | zero=>simp [KV.keys] at hx;subst hx;exact b
   | succ j=>exact KV.rank_lt r k j x od (by simpa [KV.keys] using hx)
  ·omega
theorem KV.rank_ge:∀(m:KV) (k:List UInt8),KV.sorted m->∀(j:Nat) (x:List UInt8),KV.rank m k<=j->(KV.keys m)[j]?=some x->Op.bytesLess x k=false
 | [],_,_,j,x,_,hx=>by simp [KV.keys] at hx
 | p::r,k,hs,j,x,h,hx=>by
  have d:=List.pairwise_cons.1 hs
  unfold KV.rank at h
  split at h
  ·cases j with
   | zero=>omega
   | succ j=>exact KV.rank_ge r k d.2 j x od (by simpa [KV.keys] using hx)
  ·rename_i b
   have b:Op.bytesLess p.1 k=false:=by simpa using b
   cases j with
   | zero=>simp [KV.keys] at hx;subst hx;exact b
   | succ j=>
    have l:(r.map (·.1))[j]?=some x:=by simpa [KV.keys] using hx
    rw [List.getElem?_map,oms] at l
    obtain ⟨q,s,rfl⟩:=l
    have h1:=d.1 q (List.mem_of_getElem? s)
    cases h2:Op.bytesLess q.1 k with
    | false=>rfl
    | true=>rw [vw h1 h2] at b;cases b
theorem KV.rank_get:∀(m:KV) (k:List UInt8),KV.sorted m->((KV.keys m)[KV.rank m k]?=some k↔(KV.get m k).isSome=true)
 | [],k,_=>by simp [KV.keys,KV.get]
 | p::r,k,hs=>by
  have d:=List.pairwise_cons.1 hs
  unfold KV.rank KV.get
  split
  ·rename_i b
   have j:p.1≠k:=fun h=>by rw [h,YY] at b;cases b
   rw [if_neg j]
   have:=KV.rank_get r k d.2
   simpa [KV.keys] using this
  ·rename_i b
   have b:Op.bytesLess p.1 k=false:=by simpa using b
   by_cases he:p.1=k
   ·rw [if_pos he];simp [KV.keys,he]
   ·rw [if_neg he]
    have A:KV.get r k=none:=by
     have l:=z2g b he
     have:∀(r:KV),(∀q∈r,Op.bytesLess p.1 q.1=true)->KV.get r k=none:=fun r=>by
      induction r with
      | nil=>intro _;rfl
      | cons q r v=>
       intro u
       unfold KV.get
       rw [if_neg,v fun w s=>u w (List.mem_cons_of_mem _ s)]
       intro h
       have:=vw l (u q List.mem_cons_self)
       rw [h,YY] at this
       cases this
     exact this r d.1
    rw [A]
    simp [KV.keys,he]
theorem KV.keys_put_new:∀(m:KV) (k v:List UInt8),KV.get m k=none->KV.keys (KV.put m k v)=(KV.keys m).take (KV.rank m k)++k::(KV.keys m).drop (KV.rank m k)
 | [],k,v,_=>by simp [KV.put,KV.keys,KV.rank]
 | p::r,k,v,h=>by
  unfold KV.get at h
  split at h
  ·cases h
  ·rename_i b
   unfold KV.put KV.rank
   split
   ·have:=KV.keys_put_new r k v h
    simp only [KV.keys,List.map_cons] at this ⊢
    rw [this];simp
   ·simp [KV.keys]
theorem KV.keys_put_old:∀(m:KV) (k v:List UInt8),KV.sorted m->(KV.get m k).isSome=true->KV.keys (KV.put m k v)=KV.keys m
 | [],k,v,_,h=>by simp [KV.get] at h
 | p::r,k,v,hs,h=>by
  have j:=List.pairwise_cons.1 hs
  unfold KV.put
  split
  ·rename_i b
   have d:p.1≠k:=fun h=>by rw [h,YY] at b;cases b
   unfold KV.get at h
   rw [if_neg d] at h
   have:=KV.keys_put_old r k v j.2 h
   simp only [KV.keys,List.map_cons] at this ⊢
   rw [this]
  ·rename_i b
   split
   ·rename_i l;simp [KV.keys,l]
   ·rename_i d
    have h1:=(KV.rank_get (p::r) k hs).2 h
    unfold KV.rank at h1
    rw [if_neg b] at h1
    simp [KV.keys] at h1
    exact absurd h1 d
def KV.del:KV->List UInt8->KV
 | [],_=>[]
 | p::r,k=>if p.1=k then r else p::KV.del r k
theorem KV.del_sub:∀(m:KV) (k:List UInt8),(KV.del m k).Sublist m
 | [],_=>List.Sublist.slnil
 | p::r,k=>by
  unfold KV.del
  split
  ·exact List.sublist_cons_self _ _
  ·exact (KV.del_sub r k).cons_cons _
theorem KV.sorted_del (m:KV) (k:List UInt8) (h:KV.sorted m):KV.sorted (KV.del m k):=List.Pairwise.sublist (KV.del_sub m k) h
theorem KV.get_none:∀{m:KV} {k:List UInt8},(∀q∈m,q.1≠k)->KV.get m k=none
 | [],_,_=>rfl
 | p::r,k,h=>by
  unfold KV.get
  rw [if_neg (h p List.mem_cons_self)]
  exact KV.get_none fun q b=>h q (List.mem_cons_of_mem _ b)
theorem KV.get_del:∀(m:KV) (k b:List UInt8),KV.sorted m->KV.get (KV.del m k) b=if b=k then none else KV.get m b
 | [],k,b,_=>by simp [KV.del,KV.get]
 | p::r,k,b,h=>by
  have j:=List.pairwise_cons.1 h
  unfold KV.del
  by_cases h1:p.1=k
  ·rw [if_pos h1]
   by_cases h2:b=k
   ·rw [if_pos h2]
    refine KV.get_none fun q l d=>?_
    have:=j.1 q l
    rw [d,h2,h1,YY] at this
    cases this
   ·rw [if_neg h2]
    conv=>rhs;unfold KV.get
    rw [if_neg (fun d=>h2 (d.symm.trans h1))]
  ·rw [if_neg h1]
   unfold KV.get
   rw [KV.get_del r k b j.2]
   by_cases h2:p.1=b
   ·rw [if_pos h2,if_pos h2,if_neg (fun d=>h1 (h2.trans d))]
   ·rw [if_neg h2,if_neg h2]
theorem KV.keys_del:∀(m:KV) (k:List UInt8),KV.sorted m->(KV.get m k).isSome=true->KV.keys (KV.del m k)=(KV.keys m).take (KV.rank m k)++(KV.keys m).drop (KV.rank m k+1)
 | [],k,_,h=>by simp [KV.get] at h
 | p::r,k,hs,h=>by
  have b:=List.pairwise_cons.1 hs
  unfold KV.del KV.rank
  by_cases h1:p.1=k
  ·rw [if_pos h1,h1,YY]
   simp [KV.keys]
  ·rw [if_neg h1]
   unfold KV.get at h
   rw [if_neg h1] at h
   have d:Op.bytesLess p.1 k=true:=by
    have:∀(r:KV),(∀q∈r,Op.bytesLess p.1 q.1=true)->(KV.get r k).isSome=true->Op.bytesLess p.1 k=true:=fun r=>by
     induction r with
     | nil=>intro _ h;simp [KV.get] at h
     | cons q r s=>
      intro l h
      unfold KV.get at h
      by_cases h2:q.1=k
      ·rw [<-h2];exact l q List.mem_cons_self
      ·rw [if_neg h2] at h
       exact s (fun u j=>l u (List.mem_cons_of_mem _ j)) h
    exact this r b.1 h
   rw [if_pos d]
   have:=KV.keys_del r k b.2 h
   simp only [KV.keys,List.map_cons] at this ⊢
   rw [this]
   simp
end Go.X
end
section
namespace Go.X
section
variable {E:Env} {L:List Blk} {KV:IV->List Blk->Prop}
@[go_sem] theorem zha {z:List IV}:xop E (.build z []) cev L KV=KV (.agg z) L:=nr rfl
@[go_sem] theorem zgS {z:List IV} {off n:Nat} {x:IV} {r:List (Nat × Nat × Opd)} (h1:(cellsOf x).length=n) (h2:off+n<=z.length) :
  xop E (.build z ((off,n,.c x)::r)) cev L KV=xop E (.build (splice z off (cellsOf x)) r) cev L KV:=by
 simp only [xop,List.map_cons,Z9,z0i]
 rw [if_pos ⟨h1,h2⟩]
end
attribute [go_sem] Bool.false_eq_true Bool.not_true Bool.not_false Bool.and_true Bool.true_and Bool.or_false Bool.false_or Bool.and_false Bool.false_and Bool.or_true Bool.true_or true_and and_true eq_self not_false_eq_true List.map_cons List.map_nil List.nil_append List.append_nil decide_true decide_false llc lln List.getD_cons_zero List.getD_cons_succ Int.cast_ofNat_Int Int.toNat_natCast Int.natCast_nonneg List.getElem?_cons_zero List.getElem?_cons_succ List.cons_append List.set_cons_zero List.set_cons_succ List.take_zero List.take_succ_cons List.drop_zero List.drop_succ_cons List.drop_nil List.take_nil List.all_cons List.all_nil Nat.zero_add Nat.zero_lt_one Nat.le_refl
end Go.X
end
