/- Parts of the proof: XiIns. -/
import Derived.Test.YtjliemjcailckaaGreatDoorXP14
import Derived.Shelf.Spec.SlicesInsert
import Derived.Shelf.Spec.SlicesInsertGrow
import Derived.Test.YtjliemjcailckaaGreatDoorProg
set_option linter.unusedVariables false
set_option linter.unusedSimpArgs false
set_option linter.unusedSectionVars false
section
namespace Go.Proofs
open Go.Shelf
def Tryz.laysNm222_ren:Go.Shelf.Ren:=⟨fun | 22=>98 | 29=>166 | 30=>167 | 36=>243 | 17=>297 | n=>n,fun | 24=>33 | 9=>9 | 3=>3 | 4=>4 | 0=>0 | n=>n,fun | n=>n⟩
theorem Tryz.laysNm222:Go.Proofs.Lays2.n22 Tryz.prog Tryz.laysNm222_ren:={
 mixed:=by kernel_rfl
 f17:=Tryz.func297.trans (congrArg some (by kernel_rfl))
 f22:=Tryz.func98.trans (congrArg some (by kernel_rfl))
 f29:=Tryz.func166.trans (congrArg some (by kernel_rfl))
 f30:=Tryz.func167.trans (congrArg some (by kernel_rfl))
 f36:=Tryz.func243.trans (congrArg some (by kernel_rfl))
 t0:=Tryz.underlying0
 a0:=Tryz.isAgg0
 z0:=Tryz.sizeOf0
 v0:=Tryz.zeroValue0
 t3:=Tryz.underlying3
 a3:=Tryz.isAgg3
 z3:=Tryz.sizeOf3
 v3:=Tryz.zeroValue3
 t4:=Tryz.underlying4
 a4:=Tryz.isAgg4
 z4:=Tryz.sizeOf4
 v4:=Tryz.zeroValue4
 t9:=Tryz.underlying9
 a9:=Tryz.isAgg9
 z9:=Tryz.sizeOf9
 v9:=Tryz.zeroValue9
 t24:=Tryz.underlying33
 a24:=Tryz.isAgg33
 z24:=Tryz.sizeOf33
 v24:=Tryz.zeroValue33
 i9:=by kernel_rfl }
end Go.Proofs
open Go Go.X Go.Proofs
set_option maxRecDepth 100000
set_option maxHeartbeats 4000000

namespace Go.X.TryzW
section
variable {E:Env} {ρ:Rho} {L:List Blk} {K:IV->List Blk->Prop}
theorem z8C (b:List (List UInt8)):(Z8 b).length=b.length:=by simp [Z8]
def z3j (c:Array Value):Nat->List Value->Array Value
 | _,[]=>c
 | o,v::r=>z3j (c.setIfInBounds o v) (o+1) r
theorem y9:∀(vs:List Value) (c:Array Value) (o:Nat),(z3j c o vs).size=c.size
 | [],_,_=>rfl
 | v::r,c,o=>by rw [z3j,y9 r];simp
theorem YW:∀(vs:List Value) (c:Array Value) (o k:Nat),o+vs.length<=c.size->(z3j c o vs)[k]?=if o<=k/\k<o+vs.length then vs[k - o]? else c[k]?
 | [],c,o,k,_=>by rw [z3j,if_neg];simp
 | v::r,c,o,k,h=>by
  simp only [llc] at h
  rw [z3j,YW r _ _ _ (by simp;omega)]
  by_cases h1:o+1<=k/\k<o+1+r.length
  ·rw [if_pos h1,if_pos (by simp;omega),show k - o=(k - (o+1))+1 by omega,List.getElem?_cons_succ]
  ·rw [if_neg h1]
   by_cases h2:k=o
   ·subst h2
    rw [if_pos (by simp),Nat.sub_self,List.getElem?_cons_zero,Array.getElem?_setIfInBounds_self_of_lt od]
   ·rw [if_neg (by simp;omega),Array.getElem?_setIfInBounds_ne (Ne.symm h2)]
theorem z1g {w:World} {b:Nat} {x y:Obj}:setW (setW w b x) b y=setW w b y:=by
 simp [setW,Array.setIfInBounds_setIfInBounds]
theorem ZB {b:Nat} {e:TypeId} {fr:Nat × Nat}:∀(vs:List Value) (o:Nat) (w:World) (c:Array Value),w.heap[b]?=some (.cells c e fr)->w.setCells b o vs=setW w b (.cells (z3j c o vs) e fr)
 | [],o,w,c,h=>by
  show w=setW w b (.cells c e fr)
  have:w.heap.setIfInBounds b (.cells c e fr)=w.heap:=by
   apply Array.ext_getElem?
   intro j
   rw [Array.getElem?_setIfInBounds]
   by_cases hj:b=j
   ·subst hj;rw [if_pos rfl,if_pos (Array.getElem?_eq_some_iff.1 h).1,h]
   ·rw [if_neg hj]
  unfold setW
  rw [this]
 | v::r,o,w,c,h=>by
  have d:w.setCell ⟨b,o,none⟩ v=setW w b (.cells (c.setIfInBounds o v) e fr):=by
   unfold World.setCell setW
   congr 1
   apply Array.ext_getElem?
   intro j
   rw [Array.getElem?_modify,Array.getElem?_setIfInBounds]
   by_cases hj:b=j
   ·subst hj
    rw [if_pos rfl,if_pos rfl,if_pos (Array.getElem?_eq_some_iff.1 h).1,h]
    rfl
   ·rw [if_neg hj,if_neg hj]
  show (w.setCell ⟨b,o,none⟩ v).setCells b (o+1) r=_
  rw [d,ZB r (o+1) _ (c.setIfInBounds o v) (zo (Array.getElem?_eq_some_iff.1 h).1),z1g]
  rfl
def wK (k:List UInt8):Value:=.string ⟨k.toArray⟩
def ins (ks:List (List UInt8)) (i:Nat) (x:List UInt8):List (List UInt8):=ks.take i++x::ks.drop i
theorem JR {b:List (List UInt8)} {i:Nat} {x:List UInt8} (hi:i<=b.length) (j:Nat):(ins b i x)[j]?=if j<i then b[j]? else if j=i then some x else b[j - 1]?:=by
 unfold ins
 have d:(b.take i).length=i:=by simp;omega
 by_cases h1:j<i
 ·rw [if_pos h1,List.getElem?_append_left od,List.getElem?_take,if_pos h1]
 ·rw [if_neg h1,List.getElem?_append_right od,d]
  by_cases h2:j=i
  ·subst h2;simp
  ·rw [if_neg h2,show j - i=(j - i - 1)+1 by omega,List.getElem?_cons_succ,List.getElem?_drop]
   congr 1
   omega
theorem z9x {b:List (List UInt8)} {i:Nat} {x:List UInt8} (hi:i<=b.length):(ins b i x).length=b.length+1:=by unfold ins;simp;omega
theorem z0G {C:Ctx} {c:Array Value} {base:Nat} {b:List (List UInt8)} (q:base+b.length<=c.size) (l:∀(j:Nat) (k:List UInt8),b[j]?=some k->c[base+j]?=some (wK k)):Flat C c base 1 (Z8 b):=by
 refine ⟨by rw [z8C];omega,fun i m hi=>?_⟩
 simp only [Z8,List.getElem?_map,oms] at hi
 obtain ⟨k,h,rfl⟩:=hi
 refine ⟨rfl,fun j x d=>?_⟩
 cases j with
 | zero=>
  simp at d;subst d
  exact ⟨wK k,by rw [Nat.mul_one,Nat.add_zero];exact l i k h,.str k⟩
 | succ j=>simp at d
theorem WE {w:World} {b o:Nat} {c:Array Value} {e:TypeId} {fr:Nat × Nat} {v:Value} (h:w.heap[b]?=some (.cells c e fr)) (d:c[o]?=some v):w.cell? ⟨b,o,none⟩=some v:=by
 simp only [World.cell?,h];exact d
theorem zbX {b o j:Nat}:(⟨b,o,none⟩:Addr).add j=⟨b,o+j,none⟩:=by
 unfold Addr.add
 split
 ·rename_i h;subst h;rfl
 ·rfl
theorem z7z {a:Array Obj} {x y:Obj}:(a.push x).setIfInBounds a.size y=a.push y:=by
 apply Array.ext_getElem?
 intro j
 rw [Array.getElem?_setIfInBounds,Array.getElem?_push,Array.getElem?_push]
 by_cases hj:a.size=j
 ·subst hj;simp
 ·rw [if_neg hj]
  by_cases h2:j=a.size
  ·exact absurd h2.symm hj
  ·rw [if_neg h2,if_neg h2]
theorem z2x (k:List UInt8):(wK k).oneCell'=true:=rfl
theorem z6S (hP:E.P=Tryz.prog) {ks:List (List UInt8)} {x:List UInt8} {i kb vb:Nat} (hk:L[kb]?=some (.cells 1 (Z8 ks))) (hv:L[vb]?=some (.cells 1 [[.str x]])) (hne:¬kb=vb) (hi:i<=ks.length) (h0:0<ks.length) (hN:ks.length<=1000000) :
  XT E 98 [.sl kb 0 ks.length ks.length,.int .i64 i,.sl vb 0 1 1] L fun r L'=>∃g,r=.sl g 0 (ks.length+1) (ks.length+1)/\L'[g]?=some (.cells 1 (Z8 (ins ks i x)))/\(g=kb\/g=L.length)/\Keep (fun t=>t=kb) L L':=by
 refine ⟨⟨Tryz.f98,by rw [hP];rfl,by decide,by rfl⟩,fun w φ X vs wf sim hG hl hvs=>?_⟩
 match vs,hl with
 | [a0,a1,a2],_=>
 have hv0:=hvs 0 _ rfl
 have hv1:=hvs 1 _ rfl
 have hv2:=hvs 2 _ rfl
 change VR _ _ a0 at hv0
 change VR _ _ a1 at hv1
 change VR _ _ a2 at hv2
 cases hv1
 cases hv0 with
 | sl _ _ _ _ b0 c0 hs0 hl0 hc0 ha0 hm0=>
 cases hv2 with
 | sl _ _ _ _ b2 c2 hs2 hl2 hc2 ha2 hm2=>
 obtain ⟨rfl,cA,eA,frA,hhA,hleA⟩:=ha0.resolve_left od
 obtain ⟨rfl,cB,eB,frB,hhB,hleB⟩:=ha2.resolve_left od
 obtain ⟨szA,cA',eA',frA',hA1,hA2,hA3,hA4⟩:=sim kb _ hk
 obtain ⟨szB,cB',eB',frB',hB1,hB2,hB3,hB4⟩:=sim vb _ hv
 simp only at hhA hhB hA1 hB1 szA szB hleA hleB hA3 hB3 hA4 hB4
 rw [hhA] at hA1
 rw [hhB] at hB1
 obtain ⟨rfl,rfl,rfl⟩:cA=cA'/\eA=eA'/\frA=frA':=by simpa using hA1
 obtain ⟨rfl,rfl,rfl⟩:cB=cB'/\eB=eB'/\frB=frB':=by simpa using hB1
 obtain rfl:frA=(0,0):=by
  rcases hA2 with h | ⟨h,_⟩
  ·exact h
  ·cases h
 obtain rfl:frB=(0,0):=by
  rcases hB2 with h | ⟨h,_⟩
  ·exact h
  ·cases h
 rw [szA] at hleA ⊢
 rw [szB] at hleB ⊢
 have hbne:(φ vb).blk≠(φ kb).blk:=fun h=>hne (wf.inj kb vb _ _ hk hv rfl rfl h.symm)
 have eoA:(φ kb).base+0*1=(φ kb).base:=by omega
 have eoB:(φ vb).base+0*1=(φ vb).base:=by omega
 rw [eoA,eoB]
 have hcs:∀(j:Nat) (k:List UInt8),ks[j]?=some k->cA[(φ kb).base+j]?=some (wK k):=fun j k hj=>by
  have hrow:(Z8 ks)[j]?=some [.str k]:=by simp [Z8,hj]
  obtain ⟨v,h1,h2⟩:=(hA4 j _ hrow).2 0 _ rfl
  cases h2
  rw [Nat.mul_one,Nat.add_zero] at h1
  exact h1
 have hx:cB[(φ vb).base]?=some (wK x):=by
  obtain ⟨v,h1,h2⟩:=(hB4 0 _ rfl).2 0 _ rfl
  cases h2
  have e9:(φ vb).base+0*1+0=(φ vb).base:=by omega
  rw [e9] at h1
  exact h1
 have g1:∀j v,(ks.map wK)[j]?=some v->w.cell? ⟨(φ kb).blk,(φ kb).base+j,none⟩=some v:=fun j v hj=>by
  rw [List.getElem?_map,oms] at hj
  obtain ⟨k,hk',rfl⟩:=hj
  exact WE hhA (hcs j k hk')
 have g2:∀j v,[wK x][j]?=some v->w.cell? ⟨(φ vb).blk,(φ vb).base+j,none⟩=some v:=fun j v hj=>by
  cases j with
  | zero=>simp at hj;subst hj;exact WE hhB hx
  | succ j=>simp at hj
 have g3:∀v∈ks.map wK,v.oneCell'=true:=fun v hv'=>by
  obtain ⟨k,_,rfl⟩:=List.mem_map.1 hv'
  exact z2x k
 have g4:∀v∈[wK x],v.oneCell'=true:=fun v hv'=>by
  rw [List.mem_singleton] at hv';subst hv';exact z2x x
 have hszA:(φ kb).base+c0<=cA.size:=by omega
 have hfrz:∀o,w.frozen? ⟨(φ kb).blk,o,none⟩=false:=fun o=>by simp [World.frozen?,hhA]
 have hfrzB:∀o,w.frozen? ⟨(φ vb).blk,o,none⟩=false:=fun o=>by simp [World.frozen?,hhB]
 have hcell:∀o,o<cA.size->(w.cell? ⟨(φ kb).blk,o,none⟩).isSome=true:=fun o ho=>by
  simp only [World.cell?,hhA]
  rw [Array.getElem?_eq_getElem ho];rfl
 have hlins:=z9x (x:=x) hi
 rw [hP]
 show Calls Tryz.prog 98 #[.slice (some ⟨(φ kb).blk,(φ kb).base,none⟩) ks.length c0,.int .i64 i,.slice (some ⟨(φ vb).blk,(φ vb).base,none⟩) 1 c2] w _
 let R:IV->List Blk->Prop:=fun r L'=>∃g,r=.sl g 0 (ks.length+1) (ks.length+1)/\L'[g]?=some (.cells 1 (Z8 (ins ks i x)))/\(g=kb\/g=L.length)/\Keep (fun t=>t=kb) L L'
 have hfin:∀(v:Value) (w':World),Post E ⟨w,φ,L,X⟩ R v w'->∃r L' φ' u,R r L'/\Ending.returned v=.returned u/\Wf E.g0 ⟨w',φ',L',X⟩/\Sim ⟨w',φ',L',X⟩/\Ext ⟨w,φ,L,X⟩ ⟨w',φ',L',X⟩/\VR ⟨w',φ',L',X⟩ r u:=fun v w' ⟨r,L',φ',h1,h2,h3,h4,h5⟩=>⟨r,L',φ',v,h1,rfl,h2,h3,h4,h5⟩
 have inplace:∀(C1:Ctx) (c':Array Value),Wf E.g0 C1->Sim C1->C1.L=L->C1.φ=φ->C1.w.heap=w.heap->c'.size=cA.size->ks.length+1<=c0->(∀(j:Nat) (k:List UInt8),(ins ks i x)[j]?=some k->c'[(φ kb).base+j]?=some (wK k))->
   Post E C1 R (.slice (some ⟨(φ kb).blk,(φ kb).base,none⟩) (ks.length+1) c0) (setW C1.w (φ kb).blk (.cells c' eA (0,0))):=by
  intro C1 c' wf1 sim1 hL1 hφ1 hw1 hc' hroom hget
  have hs1:C1.L[kb]?=some (.cells 1 (Z8 ks)):=by rw [hL1];exact hk
  have hh1:C1.w.heap[(C1.φ kb).blk]?=some (.cells cA eA (0,0)):=by rw [hφ1,hw1];exact hhA
  rw [<-hφ1]
  refine Wu (rows':=Z8 (ins ks i x)) (r:=.sl kb 0 (ks.length+1) (ks.length+1)) (c:=cA) wf1 sim1 hs1 hh1 (.inl rfl) hc' (z0G (by rw [hφ1];omega) (by rw [hφ1];exact hget)) ?_ ?_
  ·have e0:(C1.φ kb).base=(C1.φ kb).base+0*(C1.φ kb).sz:=by omega
   have:=VR.sl (C:=Vb C1 kb (.cells c' eA (0,0)) (.cells 1 (Z8 (ins ks i x)))) kb 0 (ks.length+1) (ks.length+1) (some ⟨(C1.φ kb).blk,(C1.φ kb).base+0*(C1.φ kb).sz,none⟩) c0 (VD (k:=.cells _ _) rfl ⟨_,hs1,rfl⟩) (Nat.le_refl _) hroom
    (.inr ⟨by simp [Vb],c',eA,(0,0),?_,?_⟩) hm0
   ·rw [<-e0] at this;exact this
   ·exact zo (Array.getElem?_eq_some_iff.1 hh1).1
   ·show (C1.φ kb).base+(0+c0)*(C1.φ kb).sz<=c'.size
    rw [hφ1,szA];omega
  ·rw [hL1]
   exact ⟨kb,rfl,List.getElem?_set_self (zk hk),.inl rfl,Keep.set Keep.refl fun _=>rfl⟩
 have anew:∀(C1:Ctx) (c':Array Value) (cap:Nat) (ty:TypeId),Wf E.g0 C1->Sim C1->C1.L=L->c'.size=cap->ks.length+1<=cap->cap<=9223372036854775807->(∀(j:Nat) (k:List UInt8),(ins ks i x)[j]?=some k->c'[j]?=some (wK k))->
   Post E C1 R (.slice (some ⟨C1.w.heap.size,0,none⟩) (ks.length+1) cap) (Zm C1.w (.cells c' ty)):=by
  intro C1 c' cap ty wf1 sim1 hL1 hc' hcap hcm hget
  refine YQ (g:=L.length) (r:=.sl L.length 0 (ks.length+1) (ks.length+1)) (rows:=Z8 (ins ks i x)) (sz:=1) (.inl (by rw [hL1])) wf1 sim1 (z0G od (fun j k hj=>by rw [Nat.zero_add];exact hget j k hj)) (YK (.inl (by rw [hL1])) (Nat.le_refl _) hcap od hcm) ?_
  rw [hL1,zB]
  exact ⟨L.length,rfl,by simp,.inr rfl,Keep.app Keep.refl⟩
 have hlm:(ks.map wK).length=ks.length:=by simp
 by_cases hin:i=ks.length
 ·subst hin
  by_cases hroom:ks.length+1<=c0
  ·refine (Any2.slices_Insert_string_end_room Tryz.laysNm222 (φ kb).blk (φ kb).base ks.length c0 (φ vb).blk (φ vb).base 1 c2 [wK x] w od hroom hm0 rfl (fun j hj=>hcell _ od) (fun j _=>hfrz _) g2 g4).mono fun e w' ⟨he,hw⟩=>?_
   subst he hw
   rw [ZB _ _ _ _ hhA]
   refine hfin _ _ (inplace ⟨w,φ,L,X⟩ _ wf sim rfl rfl rfl (y9 _ _ _) hroom fun j k hj=>?_)
   rw [YW _ _ _ _ (by simp;omega)]
   rw [JR hi] at hj
   by_cases hj1:j<ks.length
   ·rw [if_pos hj1] at hj
    rw [if_neg (by simp;omega)]
    exact hcs j k hj
   ·rw [if_neg hj1] at hj
    by_cases hj2:j=ks.length
    ·subst hj2
     rw [if_pos rfl] at hj
     cases hj
     rw [if_pos (by simp),Nat.sub_self]
     rfl
    ·rw [if_neg hj2,List.getElem?_eq_none od] at hj
     cases hj
  ·refine (Any2.slices_Insert_string_end_grow Tryz.laysNm222 (some ⟨(φ kb).blk,(φ kb).base,none⟩) ks.length c0 (φ vb).blk (φ vb).base 1 c2 (ks.map wK) [wK x] w od hc0 od od hlm rfl (fun h=>by cases h) (fun a ha j v hj=>by cases ha;rw [zbX];exact g1 j v hj) g2 g4).mono fun e w' ⟨he,hw⟩=>?_
   subst he hw
   refine hfin _ _ (Post.of_ext (zA ⟨w,φ,L,X⟩) rfl ?_)
   refine anew (ZZ ⟨w,φ,L,X⟩) _ _ _ (Zu wf) (Zc sim) rfl ?_ (grownCap_ge _ _ _ _) (grownCap_le_maxLen _ _ _ _ (by show _<=2^63 - 1;omega)) fun j k hj=>?_
   ·have:=grownCap_ge w (ks.length+1) c0 (Tryz.laysNm222_ren.t 9)
    rw [Array.size_append,size_zeroCells]
    simp [Value.cells]
    omega
   ·have hjl:=zk hj
    rw [hlins] at hjl
    rw [Array.getElem?_append_left (by simp;omega),List.getElem?_toArray]
    rw [JR hi] at hj
    by_cases hj1:j<ks.length
    ·rw [if_pos hj1] at hj
     rw [List.getElem?_append_left (by simp;omega),List.getElem?_map,hj];rfl
    ·have hj2:j=ks.length:=by omega
     rw [if_neg hj1,if_pos hj2] at hj
     cases hj
     rw [List.getElem?_append_right (by simp;omega),hlm,hj2,Nat.sub_self]
     rfl
 ·have hil:i<ks.length:=by omega
  have hdl:((ks.map wK).drop i).length=ks.length - i:=by simp
  by_cases hroom:ks.length+1<=c0
  ·refine (Any2.slices_Insert_string_shift Tryz.laysNm222 (φ kb).blk (φ kb).base ks.length c0 i (φ vb).blk (φ vb).base 1 c2 (ks.map wK) [wK x] w hil od hroom hm0 hbne hlm rfl g1 (fun j hj=>hcell _ od) (fun j _=>hfrz _) g2 g3 g4 eB eA cB.size cA.size (by simp [World.shape?,hhB]) (by simp [World.shape?,hhA]) od (hfrzB _) (hfrzB _)).mono fun e w' ⟨he,hw⟩=>?_
   subst he hw
   have hd:w.drew.heap[(φ kb).blk]?=some (.cells cA eA (0,0)):=hhA
   rw [ZB _ _ _ _ hd,ZB _ _ _ _ (zo (Array.getElem?_eq_some_iff.1 hd).1),z1g]
   refine hfin _ _ (Post.of_ext (zA ⟨w,φ,L,X⟩) rfl ?_)
   refine inplace (ZZ ⟨w,φ,L,X⟩) _ (Zu wf) (Zc sim) rfl rfl rfl (by rw [y9,y9]) hroom fun j k hj=>?_
   have hjl:=zk hj
   rw [hlins] at hjl
   rw [YW _ _ _ _ (by rw [y9];simp;omega),YW _ _ _ _ (by rw [hdl];omega)]
   rw [JR hi] at hj
   by_cases hj1:j<i
   ·rw [if_pos hj1] at hj
    rw [if_neg (by simp;omega),if_neg od]
    exact hcs j k hj
   ·rw [if_neg hj1] at hj
    by_cases hj2:j=i
    ·subst hj2
     rw [if_pos rfl] at hj
     cases hj
     rw [if_pos (by simp),Nat.sub_self]
     rfl
    ·rw [if_neg hj2] at hj
     rw [if_neg (by simp;omega),if_pos (by rw [hdl];omega),List.getElem?_drop,List.getElem?_map,show i+((φ kb).base+j - ((φ kb).base+(i+1)))=j - 1 by omega,hj]
     rfl
  ·refine (Any2.slices_Insert_string_grow Tryz.laysNm222 (φ kb).blk (φ kb).base ks.length c0 i (φ vb).blk (φ vb).base 1 c2 (ks.map wK) [wK x] w hil od hc0 od od hlm rfl g1 g2 g3 g4).mono fun e w' ⟨he,hw⟩=>?_
   obtain ⟨cap,hcap⟩:∃cap,grownCap w (ks.length+1) c0 (Tryz.laysNm222_ren.t 9)=cap:=⟨_,rfl⟩
   have hge:=grownCap_ge w (ks.length+1) c0 (Tryz.laysNm222_ren.t 9)
   have hle:grownCap w (ks.length+1) c0 (Tryz.laysNm222_ren.t 9)<=9223372036854775807:=grownCap_le_maxLen _ _ _ _ (by show _<=2^63 - 1;omega)
   rw [hcap] at hge hle he hw
   obtain ⟨big,hbig⟩:∃big,((ks.map wK).take i).toArray++Builtin.zeroCells (Value.string ⟨#[]⟩).cells (ks.length+1 - i)++Builtin.zeroCells (Value.string ⟨#[]⟩).cells (cap - (ks.length+1))=big:=⟨_,rfl⟩
   have hbs:big.size=cap:=by
    rw [<-hbig,Array.size_append,Array.size_append,size_zeroCells,size_zeroCells]
    simp [Value.cells]
    omega
   have hbg:∀j,j<i->big[j]?=(ks.map wK)[j]?:=fun j hj=>by
    rw [<-hbig,Array.getElem?_append_left (by simp;omega),Array.getElem?_append_left (by simp;omega),List.getElem?_toArray,List.getElem?_take,if_pos hj]
   rw [hbig] at hw
   have e1:((w.alloc (.cells big (Tryz.laysNm222_ren.t 9))).drew).heap[w.heap.size]?=some (.cells big (Tryz.laysNm222_ren.t 9) (0,0)):=by
    show (w.heap.push _)[w.heap.size]?=_
    rw [Array.getElem?_push,if_pos rfl]
   rw [ZB _ _ _ _ e1] at hw
   have e2:((setW (w.alloc (.cells big (Tryz.laysNm222_ren.t 9))).drew w.heap.size (.cells (z3j big i [wK x]) (Tryz.laysNm222_ren.t 9) (0,0))).drew).heap[w.heap.size]?=some (.cells (z3j big i [wK x]) (Tryz.laysNm222_ren.t 9) (0,0)):=zo (Array.getElem?_eq_some_iff.1 e1).1
   rw [ZB _ _ _ _ e2] at hw
   have e3:setW ((setW (w.alloc (.cells big (Tryz.laysNm222_ren.t 9))).drew w.heap.size (.cells (z3j big i [wK x]) (Tryz.laysNm222_ren.t 9) (0,0))).drew) w.heap.size (.cells (z3j (z3j big i [wK x]) (i+1) ((ks.map wK).drop i)) (Tryz.laysNm222_ren.t 9) (0,0))=Zm w.drew.drew (.cells (z3j (z3j big i [wK x]) (i+1) ((ks.map wK).drop i)) (Tryz.laysNm222_ren.t 9) (0,0)):=by
    simp only [setW,Zm,World.alloc,World.drew,z7z]
   rw [e3] at hw
   subst he hw
   refine hfin _ _ (Post.of_ext ((zA ⟨w,φ,L,X⟩).trans (zA (ZZ ⟨w,φ,L,X⟩))) rfl ?_)
   refine anew (ZZ (ZZ ⟨w,φ,L,X⟩)) _ cap _ (Zu (Zu wf)) (Zc (Zc sim)) rfl (by rw [y9,y9,hbs]) hge hle fun j k hj=>?_
   have hjl:=zk hj
   rw [hlins] at hjl
   rw [YW _ _ _ _ (by rw [y9,hdl,hbs];omega),YW _ _ _ _ (by rw [hbs];simp;omega),hdl]
   rw [JR hi] at hj
   by_cases hj1:j<i
   ·rw [if_pos hj1] at hj
    rw [if_neg od,if_neg (by simp;omega),hbg j hj1,List.getElem?_map,hj]
    rfl
   ·rw [if_neg hj1] at hj
    by_cases hj2:j=i
    ·subst hj2
     rw [if_pos rfl] at hj
     cases hj
     rw [if_neg od,if_pos (by simp),Nat.sub_self]
     rfl
    ·rw [if_neg hj2] at hj
     rw [if_pos od,List.getElem?_drop,List.getElem?_map,show i+(j - (i+1))=j - 1 by omega,hj]
     rfl
end
end Go.X.TryzW
end
