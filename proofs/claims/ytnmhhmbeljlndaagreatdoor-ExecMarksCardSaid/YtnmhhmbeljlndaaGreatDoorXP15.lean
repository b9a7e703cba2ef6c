/- Parts of the proof: Xhins, Xhkv2, Xhkv3, Xhkv4, Xhkv5, Xhkv6, Xhkv7, Xhkv8, Xhread1, Xhread2, Xhread3, Xhkvl. -/
import Derived.Test.YtnmhhmbeljlndaaGreatDoorXP14
import Derived.Shelf.Spec.SlicesInsert
import Derived.Shelf.Spec.SlicesInsertGrow
import Derived.Test.YtnmhhmbeljlndaaGreatDoorProg
import Derived.WalkKit
set_option linter.unusedVariables false
set_option linter.unusedSimpArgs false
set_option linter.unusedSectionVars false
section
namespace Go.Proofs
open Go.Shelf
def Tryz.laysNm222_ren:Go.Shelf.Ren:=⟨fun | 22=>153 | 29=>211 | 30=>212 | 36=>273 | 17=>313 | n=>n,fun | 24=>133 | 9=>9 | 3=>3 | 4=>4 | 0=>0 | n=>n,fun | n=>n⟩
theorem Tryz.laysNm222:Go.Proofs.Lays2.n22 Tryz.prog Tryz.laysNm222_ren:={
 mixed:=by kernel_rfl
 f17:=Tryz.func313.trans (congrArg some (by kernel_rfl))
 f22:=Tryz.func153.trans (congrArg some (by kernel_rfl))
 f29:=Tryz.func211.trans (congrArg some (by kernel_rfl))
 f30:=Tryz.func212.trans (congrArg some (by kernel_rfl))
 f36:=Tryz.func273.trans (congrArg some (by kernel_rfl))
 t0:=Tryz.underlying0
 a0:=Tryz.isAgg0
 z0:=Tryz.sizeOf0
 v0:=Tryz.zeroValue0
 t3:=Tryz.underlying3
 a3:=Tryz.isAgg3
 z3:=Tryz.sizeOf3
 v3:=Tryz.zeroValue3
 t4:=Tryz.underlying4
 a4:=Tryz.isAgg4
 z4:=Tryz.sizeOf4
 v4:=Tryz.zeroValue4
 t9:=Tryz.underlying9
 a9:=Tryz.isAgg9
 z9:=Tryz.sizeOf9
 v9:=Tryz.zeroValue9
 t24:=Tryz.underlying133
 a24:=Tryz.isAgg133
 z24:=Tryz.sizeOf133
 v24:=Tryz.zeroValue133
 i9:=by kernel_rfl }
end Go.Proofs
open Go Go.X Go.Proofs
set_option maxRecDepth 100000
set_option maxHeartbeats 4000000
namespace Go.X.TryzW
section
variable {E:Env} {ρ:Rho} {L:List Blk} {K:IV->List Blk->Prop}
def putA (c:Array Value):Nat->List Value->Array Value
 | _,[]=>c
 | o,v::r=>putA (c.setIfInBounds o v) (o+1) r
theorem yU:∀(vs:List Value) (c:Array Value) (o:Nat),(putA c o vs).size=c.size
 | [],_,_=>rfl
 | v::r,c,o=>by rw [putA,yU r];simp
theorem Wu:∀(vs:List Value) (c:Array Value) (o k:Nat),o+vs.length<=c.size->(putA c o vs)[k]?=if o<=k/\k<o+vs.length then vs[k - o]? else c[k]?
 | [],c,o,k,_=>by rw [putA,if_neg];simp
 | v::r,c,o,k,h=>by
  simp only [llc] at h
  rw [putA,Wu r _ _ _ (by simp;omega)]
  by_cases h1:o+1<=k/\k<o+1+r.length
  ·rw [if_pos h1,if_pos (by simp;omega),show k - o=(k - (o+1))+1 by omega,List.getElem?_cons_succ]
  ·rw [if_neg h1]
   by_cases h2:k=o
   ·subst h2
    rw [if_pos (by simp),Nat.sub_self,List.getElem?_cons_zero,Array.getElem?_setIfInBounds_self_of_lt (by omega)]
   ·rw [if_neg (by simp;omega),Array.getElem?_setIfInBounds_ne (Ne.symm h2)]
theorem z2G {w:World} {b:Nat} {x y:Obj}:setW (setW w b x) b y=setW w b y:=by
 simp [setW,Array.setIfInBounds_setIfInBounds]
theorem yh {b:Nat} {e:TypeId} {fr:Nat × Nat}:∀(vs:List Value) (o:Nat) (w:World) (c:Array Value),w.heap[b]?=some (.cells c e fr)->w.setCells b o vs=setW w b (.cells (putA c o vs) e fr)
 | [],o,w,c,h=>by
  show w=setW w b (.cells c e fr)
  have:w.heap.setIfInBounds b (.cells c e fr)=w.heap:=by
   apply Array.ext_getElem?
   intro j
   rw [Array.getElem?_setIfInBounds]
   by_cases hj:b=j
   ·subst hj;rw [if_pos rfl,if_pos (Array.getElem?_eq_some_iff.1 h).1,h]
   ·rw [if_neg hj]
  unfold setW
  rw [this]
 | v::r,o,w,c,h=>by
  have h1:w.setCell ⟨b,o,none⟩ v=setW w b (.cells (c.setIfInBounds o v) e fr):=by
   unfold World.setCell setW
   congr 1
   apply Array.ext_getElem?
   intro j
   rw [Array.getElem?_modify,Array.getElem?_setIfInBounds]
   by_cases hj:b=j
   ·subst hj
    rw [if_pos rfl,if_pos rfl,if_pos (Array.getElem?_eq_some_iff.1 h).1,h]
    rfl
   ·rw [if_neg hj,if_neg hj]
  show (w.setCell ⟨b,o,none⟩ v).setCells b (o+1) r=_
  rw [h1,yh r (o+1) _ (c.setIfInBounds o v) (zD (Array.getElem?_eq_some_iff.1 h).1),z2G]
  rfl
def strV (k:List UInt8):Value:=.string ⟨k.toArray⟩
def ins (ks:List (List UInt8)) (i:Nat) (x:List UInt8):List (List UInt8):=ks.take i++x::ks.drop i
theorem z1R {ks:List (List UInt8)} {i:Nat} {x:List UInt8} (hi:i<=ks.length) (j:Nat):(ins ks i x)[j]?=if j<i then ks[j]? else if j=i then some x else ks[j - 1]?:=by
 unfold ins
 have hl:(ks.take i).length=i:=by simp;omega
 by_cases h1:j<i
 ·rw [if_pos h1,List.getElem?_append_left (by omega),List.getElem?_take,if_pos h1]
 ·rw [if_neg h1,List.getElem?_append_right (by omega),hl]
  by_cases h2:j=i
  ·subst h2;simp
  ·rw [if_neg h2,show j - i=(j - i - 1)+1 by omega,List.getElem?_cons_succ,List.getElem?_drop]
   congr 1
   omega
theorem zbF {ks:List (List UInt8)} {i:Nat} {x:List UInt8} (hi:i<=ks.length):(ins ks i x).length=ks.length+1:=by unfold ins;simp;omega
theorem z0c {C:Ctx} {c:Array Value} {base:Nat} {ks:List (List UInt8)} (h1:base+ks.length<=c.size) (h2:∀(j:Nat) (k:List UInt8),ks[j]?=some k->c[base+j]?=some (strV k)):Flat C c base 1 (keyR ks):=by
 refine ⟨by rw [J7];omega,fun i row hi=>?_⟩
 simp only [keyR,List.getElem?_map,oms] at hi
 obtain ⟨k,hk,rfl⟩:=hi
 refine ⟨rfl,fun j x hj=>?_⟩
 cases j with
 | zero=>
  simp at hj;subst hj
  exact ⟨strV k,by rw [Nat.mul_one,Nat.add_zero];exact h2 i k hk,.str k⟩
 | succ j=>simp at hj
theorem YO {w:World} {b o:Nat} {c:Array Value} {e:TypeId} {fr:Nat × Nat} {v:Value} (h:w.heap[b]?=some (.cells c e fr)) (hv:c[o]?=some v):w.cell? ⟨b,o,none⟩=some v:=by
 simp only [World.cell?,h];exact hv
theorem zde {b o j:Nat}:(⟨b,o,none⟩:Addr).add j=⟨b,o+j,none⟩:=by
 unfold Addr.add
 split
 ·rename_i h;subst h;rfl
 ·rfl
theorem zb2 {a:Array Obj} {x y:Obj}:(a.push x).setIfInBounds a.size y=a.push y:=by
 apply Array.ext_getElem?
 intro j
 rw [Array.getElem?_setIfInBounds,Array.getElem?_push,Array.getElem?_push]
 by_cases hj:a.size=j
 ·subst hj;simp
 ·rw [if_neg hj]
  by_cases h2:j=a.size
  ·exact absurd h2.symm hj
  ·rw [if_neg h2,if_neg h2]
theorem z1B (k:List UInt8):(strV k).oneCell'=true:=rfl
theorem z97 (hP:E.P=Tryz.prog) {ks:List (List UInt8)} {x:List UInt8} {i kb vb:Nat} (hk:L[kb]?=some (.cells 1 (keyR ks))) (hv:L[vb]?=some (.cells 1 [[.str x]])) (hne:¬kb=vb) (hi:i<=ks.length) (h0:0<ks.length) (hN:ks.length<=1000000) :
  XT E 153 [.sl kb 0 ks.length ks.length,.int .i64 i,.sl vb 0 1 1] L fun r L'=>∃g,r=.sl g 0 (ks.length+1) (ks.length+1)/\L'[g]?=some (.cells 1 (keyR (ins ks i x)))/\(g=kb\/g=L.length)/\Keep (fun t=>t=kb) L L':=by
 refine ⟨⟨Tryz.f153,by rw [hP];rfl,by decide,by rfl⟩,fun w φ X vs wf sim hG hl hvs=>?_⟩
 match vs,hl with
 | [a0,a1,a2],_=>
 have hv0:=hvs 0 _ rfl
 have hv1:=hvs 1 _ rfl
 have hv2:=hvs 2 _ rfl
 change VR _ _ a0 at hv0
 change VR _ _ a1 at hv1
 change VR _ _ a2 at hv2
 cases hv1
 cases hv0 with
 | sl _ _ _ _ b0 c0 hs0 hl0 hc0 ha0 hm0=>
 cases hv2 with
 | sl _ _ _ _ b2 c2 hs2 hl2 hc2 ha2 hm2=>
 obtain ⟨rfl,cA,eA,frA,hhA,hleA⟩:=ha0.resolve_left (by omega)
 obtain ⟨rfl,cB,eB,frB,hhB,hleB⟩:=ha2.resolve_left (by omega)
 obtain ⟨szA,cA',eA',frA',hA1,hA2,hA3,hA4⟩:=sim kb _ hk
 obtain ⟨szB,cB',eB',frB',hB1,hB2,hB3,hB4⟩:=sim vb _ hv
 simp only at hhA hhB hA1 hB1 szA szB hleA hleB hA3 hB3 hA4 hB4
 rw [hhA] at hA1
 rw [hhB] at hB1
 obtain ⟨rfl,rfl,rfl⟩:cA=cA'/\eA=eA'/\frA=frA':=by simpa using hA1
 obtain ⟨rfl,rfl,rfl⟩:cB=cB'/\eB=eB'/\frB=frB':=by simpa using hB1
 obtain rfl:frA=(0,0):=by
  rcases hA2 with h | ⟨h,_⟩
  ·exact h
  ·cases h
 obtain rfl:frB=(0,0):=by
  rcases hB2 with h | ⟨h,_⟩
  ·exact h
  ·cases h
 rw [szA] at hleA ⊢
 rw [szB] at hleB ⊢
 have hbne:(φ vb).blk≠(φ kb).blk:=fun h=>hne (wf.inj kb vb _ _ hk hv rfl rfl h.symm)
 have eoA:(φ kb).base+0*1=(φ kb).base:=by omega
 have eoB:(φ vb).base+0*1=(φ vb).base:=by omega
 rw [eoA,eoB]
 have hcs:∀(j:Nat) (k:List UInt8),ks[j]?=some k->cA[(φ kb).base+j]?=some (strV k):=fun j k hj=>by
  have hrow:(keyR ks)[j]?=some [.str k]:=by simp [keyR,hj]
  obtain ⟨v,h1,h2⟩:=(hA4 j _ hrow).2 0 _ rfl
  cases h2
  rw [Nat.mul_one,Nat.add_zero] at h1
  exact h1
 have hx:cB[(φ vb).base]?=some (strV x):=by
  obtain ⟨v,h1,h2⟩:=(hB4 0 _ rfl).2 0 _ rfl
  cases h2
  have e9:(φ vb).base+0*1+0=(φ vb).base:=by omega
  rw [e9] at h1
  exact h1
 have g1:∀j v,(ks.map strV)[j]?=some v->w.cell? ⟨(φ kb).blk,(φ kb).base+j,none⟩=some v:=fun j v hj=>by
  rw [List.getElem?_map,oms] at hj
  obtain ⟨k,hk',rfl⟩:=hj
  exact YO hhA (hcs j k hk')
 have g2:∀j v,[strV x][j]?=some v->w.cell? ⟨(φ vb).blk,(φ vb).base+j,none⟩=some v:=fun j v hj=>by
  cases j with
  | zero=>simp at hj;subst hj;exact YO hhB hx
  | succ j=>simp at hj
 have g3:∀v∈ks.map strV,v.oneCell'=true:=fun v hv'=>by
  obtain ⟨k,_,rfl⟩:=List.mem_map.1 hv'
  exact z1B k
 have g4:∀v∈[strV x],v.oneCell'=true:=fun v hv'=>by
  rw [List.mem_singleton] at hv';subst hv';exact z1B x
 have hszA:(φ kb).base+c0<=cA.size:=by omega
 have hfrz:∀o,w.frozen? ⟨(φ kb).blk,o,none⟩=false:=fun o=>by simp [World.frozen?,hhA]
 have hfrzB:∀o,w.frozen? ⟨(φ vb).blk,o,none⟩=false:=fun o=>by simp [World.frozen?,hhB]
 have hcell:∀o,o<cA.size->(w.cell? ⟨(φ kb).blk,o,none⟩).isSome=true:=fun o ho=>by
  simp only [World.cell?,hhA]
  rw [Array.getElem?_eq_getElem ho];rfl
 have hlins:=zbF (x:=x) hi
 rw [hP]
 show Calls Tryz.prog 153 #[.slice (some ⟨(φ kb).blk,(φ kb).base,none⟩) ks.length c0,.int .i64 i,.slice (some ⟨(φ vb).blk,(φ vb).base,none⟩) 1 c2] w _
 let R:IV->List Blk->Prop:=fun r L'=>∃g,r=.sl g 0 (ks.length+1) (ks.length+1)/\L'[g]?=some (.cells 1 (keyR (ins ks i x)))/\(g=kb\/g=L.length)/\Keep (fun t=>t=kb) L L'
 have hfin:∀(v:Value) (w':World),Post E ⟨w,φ,L,X⟩ R v w'->∃r L' φ' u,R r L'/\Ending.returned v=.returned u/\Wf E.g0 ⟨w',φ',L',X⟩/\Sim ⟨w',φ',L',X⟩/\Ext ⟨w,φ,L,X⟩ ⟨w',φ',L',X⟩/\VR ⟨w',φ',L',X⟩ r u:=fun v w' ⟨r,L',φ',h1,h2,h3,h4,h5⟩=>⟨r,L',φ',v,h1,rfl,h2,h3,h4,h5⟩
 -- in place
 have inplace:∀(C1:Ctx) (c':Array Value),Wf E.g0 C1->Sim C1->C1.L=L->C1.φ=φ->C1.w.heap=w.heap->c'.size=cA.size->ks.length+1<=c0->(∀(j:Nat) (k:List UInt8),(ins ks i x)[j]?=some k->c'[(φ kb).base+j]?=some (strV k))->
   Post E C1 R (.slice (some ⟨(φ kb).blk,(φ kb).base,none⟩) (ks.length+1) c0) (setW C1.w (φ kb).blk (.cells c' eA (0,0))):=by
  intro C1 c' wf1 sim1 hL1 hφ1 hw1 hc' hroom hget
  have hs1:C1.L[kb]?=some (.cells 1 (keyR ks)):=by rw [hL1];exact hk
  have hh1:C1.w.heap[(C1.φ kb).blk]?=some (.cells cA eA (0,0)):=by rw [hφ1,hw1];exact hhA
  rw [<-hφ1]
  refine J6 (rows':=keyR (ins ks i x)) (r:=.sl kb 0 (ks.length+1) (ks.length+1)) (c:=cA) wf1 sim1 hs1 hh1 (.inl rfl) hc' (z0c (by rw [hφ1];omega) (by rw [hφ1];exact hget)) ?_ ?_
  ·have e0:(C1.φ kb).base=(C1.φ kb).base+0*(C1.φ kb).sz:=by omega
   have:=VR.sl (C:=setC C1 kb (.cells c' eA (0,0)) (.cells 1 (keyR (ins ks i x)))) kb 0 (ks.length+1) (ks.length+1) (some ⟨(C1.φ kb).blk,(C1.φ kb).base+0*(C1.φ kb).sz,none⟩) c0 (Jf (k:=.cells _ _) rfl ⟨_,hs1,rfl⟩) (Nat.le_refl _) hroom
    (.inr ⟨by simp [setC],c',eA,(0,0),?_,?_⟩) hm0
   ·rw [<-e0] at this;exact this
   ·exact zD (Array.getElem?_eq_some_iff.1 hh1).1
   ·show (C1.φ kb).base+(0+c0)*(C1.φ kb).sz<=c'.size
    rw [hφ1,szA];omega
  ·rw [hL1]
   exact ⟨kb,rfl,List.getElem?_set_self (zf hk),.inl rfl,Keep.set Keep.refl fun _=>rfl⟩
 -- a new block
 have anew:∀(C1:Ctx) (c':Array Value) (cap:Nat) (ty:TypeId),Wf E.g0 C1->Sim C1->C1.L=L->c'.size=cap->ks.length+1<=cap->cap<=9223372036854775807->(∀(j:Nat) (k:List UInt8),(ins ks i x)[j]?=some k->c'[j]?=some (strV k))->
   Post E C1 R (.slice (some ⟨C1.w.heap.size,0,none⟩) (ks.length+1) cap) (ZT C1.w (.cells c' ty)):=by
  intro C1 c' cap ty wf1 sim1 hL1 hc' hcap hcm hget
  refine YY (g:=L.length) (r:=.sl L.length 0 (ks.length+1) (ks.length+1)) (rows:=keyR (ins ks i x)) (sz:=1) (.inl (by rw [hL1])) wf1 sim1 (z0c (by omega) (fun j k hj=>by rw [Nat.zero_add];exact hget j k hj)) (YF (.inl (by rw [hL1])) (Nat.le_refl _) hcap (by omega) hcm) ?_
  rw [hL1,Zb]
  exact ⟨L.length,rfl,by simp,.inr rfl,Keep.app Keep.refl⟩
 have hlm:(ks.map strV).length=ks.length:=by simp
 by_cases hin:i=ks.length
 ·subst hin
  by_cases hroom:ks.length+1<=c0
  ·refine (Any2.slices_Insert_string_end_room Tryz.laysNm222 (φ kb).blk (φ kb).base ks.length c0 (φ vb).blk (φ vb).base 1 c2 [strV x] w (by omega) hroom hm0 rfl (fun j hj=>hcell _ (by omega)) (fun j _=>hfrz _) g2 g4).mono fun e w' ⟨he,hw⟩=>?_
   subst he hw
   rw [yh _ _ _ _ hhA]
   refine hfin _ _ (inplace ⟨w,φ,L,X⟩ _ wf sim rfl rfl rfl (yU _ _ _) hroom fun j k hj=>?_)
   rw [Wu _ _ _ _ (by simp;omega)]
   rw [z1R hi] at hj
   by_cases hj1:j<ks.length
   ·rw [if_pos hj1] at hj
    rw [if_neg (by simp;omega)]
    exact hcs j k hj
   ·rw [if_neg hj1] at hj
    by_cases hj2:j=ks.length
    ·subst hj2
     rw [if_pos rfl] at hj
     cases hj
     rw [if_pos (by simp),Nat.sub_self]
     rfl
    ·rw [if_neg hj2,List.getElem?_eq_none (by omega)] at hj
     cases hj
  ·refine (Any2.slices_Insert_string_end_grow Tryz.laysNm222 (some ⟨(φ kb).blk,(φ kb).base,none⟩) ks.length c0 (φ vb).blk (φ vb).base 1 c2 (ks.map strV) [strV x] w (by omega) hc0 (by omega) (by omega) hlm rfl (fun h=>by cases h) (fun a ha j v hj=>by cases ha;rw [zde];exact g1 j v hj) g2 g4).mono fun e w' ⟨he,hw⟩=>?_
   subst he hw
   refine hfin _ _ (Post.of_ext (Z8 ⟨w,φ,L,X⟩) rfl ?_)
   refine anew (yA ⟨w,φ,L,X⟩) _ _ _ (y8 wf) (Zv sim) rfl ?_ (grownCap_ge _ _ _ _) (grownCap_le_maxLen _ _ _ _ (by show _<=2^63 - 1;omega)) fun j k hj=>?_
   ·have:=grownCap_ge w (ks.length+1) c0 (Tryz.laysNm222_ren.t 9)
    rw [Array.size_append,size_zeroCells]
    simp [Value.cells]
    omega
   ·have hjl:=zf hj
    rw [hlins] at hjl
    rw [Array.getElem?_append_left (by simp;omega),List.getElem?_toArray]
    rw [z1R hi] at hj
    by_cases hj1:j<ks.length
    ·rw [if_pos hj1] at hj
     rw [List.getElem?_append_left (by simp;omega),List.getElem?_map,hj];rfl
    ·have hj2:j=ks.length:=by omega
     rw [if_neg hj1,if_pos hj2] at hj
     cases hj
     rw [List.getElem?_append_right (by simp;omega),hlm,hj2,Nat.sub_self]
     rfl
 ·have hil:i<ks.length:=by omega
  have hdl:((ks.map strV).drop i).length=ks.length - i:=by simp
  by_cases hroom:ks.length+1<=c0
  ·refine (Any2.slices_Insert_string_shift Tryz.laysNm222 (φ kb).blk (φ kb).base ks.length c0 i (φ vb).blk (φ vb).base 1 c2 (ks.map strV) [strV x] w hil (by omega) hroom hm0 hbne hlm rfl g1 (fun j hj=>hcell _ (by omega)) (fun j _=>hfrz _) g2 g3 g4 eB eA cB.size cA.size (by simp [World.shape?,hhB]) (by simp [World.shape?,hhA]) (by omega) (hfrzB _) (hfrzB _)).mono fun e w' ⟨he,hw⟩=>?_
   subst he hw
   have hd:w.drew.heap[(φ kb).blk]?=some (.cells cA eA (0,0)):=hhA
   rw [yh _ _ _ _ hd,yh _ _ _ _ (zD (Array.getElem?_eq_some_iff.1 hd).1),z2G]
   refine hfin _ _ (Post.of_ext (Z8 ⟨w,φ,L,X⟩) rfl ?_)
   refine inplace (yA ⟨w,φ,L,X⟩) _ (y8 wf) (Zv sim) rfl rfl rfl (by rw [yU,yU]) hroom fun j k hj=>?_
   have hjl:=zf hj
   rw [hlins] at hjl
   rw [Wu _ _ _ _ (by rw [yU];simp;omega),Wu _ _ _ _ (by rw [hdl];omega)]
   rw [z1R hi] at hj
   by_cases hj1:j<i
   ·rw [if_pos hj1] at hj
    rw [if_neg (by simp;omega),if_neg (by omega)]
    exact hcs j k hj
   ·rw [if_neg hj1] at hj
    by_cases hj2:j=i
    ·subst hj2
     rw [if_pos rfl] at hj
     cases hj
     rw [if_pos (by simp),Nat.sub_self]
     rfl
    ·rw [if_neg hj2] at hj
     rw [if_neg (by simp;omega),if_pos (by rw [hdl];omega),List.getElem?_drop,List.getElem?_map,show i+((φ kb).base+j - ((φ kb).base+(i+1)))=j - 1 by omega,hj]
     rfl
  ·refine (Any2.slices_Insert_string_grow Tryz.laysNm222 (φ kb).blk (φ kb).base ks.length c0 i (φ vb).blk (φ vb).base 1 c2 (ks.map strV) [strV x] w hil (by omega) hc0 (by omega) (by omega) hlm rfl g1 g2 g3 g4).mono fun e w' ⟨he,hw⟩=>?_
   obtain ⟨cap,hcap⟩:∃cap,grownCap w (ks.length+1) c0 (Tryz.laysNm222_ren.t 9)=cap:=⟨_,rfl⟩
   have hge:=grownCap_ge w (ks.length+1) c0 (Tryz.laysNm222_ren.t 9)
   have hle:grownCap w (ks.length+1) c0 (Tryz.laysNm222_ren.t 9)<=9223372036854775807:=grownCap_le_maxLen _ _ _ _ (by show _<=2^63 - 1;omega)
   rw [hcap] at hge hle he hw
   obtain ⟨big,hbig⟩:∃big,((ks.map strV).take i).toArray++Builtin.zeroCells (Value.string ⟨#[]⟩).cells (ks.length+1 - i)++Builtin.zeroCells (Value.string ⟨#[]⟩).cells (cap - (ks.length+1))=big:=⟨_,rfl⟩
   have hbs:big.size=cap:=by
    rw [<-hbig,Array.size_append,Array.size_append,size_zeroCells,size_zeroCells]
    simp [Value.cells]
    omega
   have hbg:∀j,j<i->big[j]?=(ks.map strV)[j]?:=fun j hj=>by
    rw [<-hbig,Array.getElem?_append_left (by simp;omega),Array.getElem?_append_left (by simp;omega),List.getElem?_toArray,List.getElem?_take,if_pos hj]
   rw [hbig] at hw
   have e1:((w.alloc (.cells big (Tryz.laysNm222_ren.t 9))).drew).heap[w.heap.size]?=some (.cells big (Tryz.laysNm222_ren.t 9) (0,0)):=by
    show (w.heap.push _)[w.heap.size]?=_
    rw [Array.getElem?_push,if_pos rfl]
   rw [yh _ _ _ _ e1] at hw
   have e2:((setW (w.alloc (.cells big (Tryz.laysNm222_ren.t 9))).drew w.heap.size (.cells (putA big i [strV x]) (Tryz.laysNm222_ren.t 9) (0,0))).drew).heap[w.heap.size]?=some (.cells (putA big i [strV x]) (Tryz.laysNm222_ren.t 9) (0,0)):=zD (Array.getElem?_eq_some_iff.1 e1).1
   rw [yh _ _ _ _ e2] at hw
   have e3:setW ((setW (w.alloc (.cells big (Tryz.laysNm222_ren.t 9))).drew w.heap.size (.cells (putA big i [strV x]) (Tryz.laysNm222_ren.t 9) (0,0))).drew) w.heap.size (.cells (putA (putA big i [strV x]) (i+1) ((ks.map strV).drop i)) (Tryz.laysNm222_ren.t 9) (0,0))=ZT w.drew.drew (.cells (putA (putA big i [strV x]) (i+1) ((ks.map strV).drop i)) (Tryz.laysNm222_ren.t 9) (0,0)):=by
    simp only [setW,ZT,World.alloc,World.drew,zb2]
   rw [e3] at hw
   subst he hw
   refine hfin _ _ (Post.of_ext ((Z8 ⟨w,φ,L,X⟩).trans (Z8 (yA ⟨w,φ,L,X⟩))) rfl ?_)
   refine anew (yA (yA ⟨w,φ,L,X⟩)) _ cap _ (y8 (y8 wf)) (Zv (Zv sim)) rfl (by rw [yU,yU,hbs]) hge hle fun j k hj=>?_
   have hjl:=zf hj
   rw [hlins] at hjl
   rw [Wu _ _ _ _ (by rw [yU,hdl,hbs];omega),Wu _ _ _ _ (by rw [hbs];simp;omega),hdl]
   rw [z1R hi] at hj
   by_cases hj1:j<i
   ·rw [if_pos hj1] at hj
    rw [if_neg (by omega),if_neg (by simp;omega),hbg j hj1,List.getElem?_map,hj]
    rfl
   ·rw [if_neg hj1] at hj
    by_cases hj2:j=i
    ·subst hj2
     rw [if_pos rfl] at hj
     cases hj
     rw [if_neg (by omega),if_pos (by simp),Nat.sub_self]
     rfl
    ·rw [if_neg hj2] at hj
     rw [if_pos (by omega),List.getElem?_drop,List.getElem?_map,show i+(j - (i+1))=j - 1 by omega,hj]
     rfl
theorem z6g (hP:E.P=Tryz.prog) {x:List UInt8} {vb:Nat} (hv:L[vb]?=some (.cells 1 [[.str x]])) :
  XT E 153 [.nsl,.int .i64 0,.sl vb 0 1 1] L fun r L'=>r=.sl L.length 0 1 1/\L'=L++[.cells 1 (keyR [x])]:=by
 refine ⟨⟨Tryz.f153,by rw [hP];rfl,by decide,by rfl⟩,fun w φ X vs wf sim hG hl hvs=>?_⟩
 match vs,hl with
 | [a0,a1,a2],_=>
 have hv0:=hvs 0 _ rfl
 have hv1:=hvs 1 _ rfl
 have hv2:=hvs 2 _ rfl
 change VR _ _ a0 at hv0
 change VR _ _ a1 at hv1
 change VR _ _ a2 at hv2
 cases hv1
 cases hv0
 cases hv2 with
 | sl _ _ _ _ b2 c2 hs2 hl2 hc2 ha2 hm2=>
 obtain ⟨rfl,cB,eB,frB,hhB,hleB⟩:=ha2.resolve_left (by omega)
 obtain ⟨szB,cB',eB',frB',hB1,hB2,hB3,hB4⟩:=sim vb _ hv
 simp only at hhB hB1 szB hleB hB3 hB4
 rw [hhB] at hB1
 obtain ⟨rfl,rfl,rfl⟩:cB=cB'/\eB=eB'/\frB=frB':=by simpa using hB1
 rw [szB] at hleB ⊢
 have eoB:(φ vb).base+0*1=(φ vb).base:=by omega
 rw [eoB]
 have hx:cB[(φ vb).base]?=some (strV x):=by
  obtain ⟨v,h1,h2⟩:=(hB4 0 _ rfl).2 0 _ rfl
  cases h2
  have e9:(φ vb).base+0*1+0=(φ vb).base:=by omega
  rw [e9] at h1
  exact h1
 rw [hP]
 show Calls Tryz.prog 153 #[.slice none 0 0,.int .i64 0,.slice (some ⟨(φ vb).blk,(φ vb).base,none⟩) 1 c2] w _
 refine (Any2.slices_Insert_string_end_grow Tryz.laysNm222 none 0 0 (φ vb).blk (φ vb).base 1 c2 [] [strV x] w (by omega) (by omega) (by omega) (by omega) rfl rfl (fun _=>rfl) (fun a ha=>by cases ha) (fun j v hj=>?_) (fun v hv'=>by rw [List.mem_singleton] at hv';subst hv';exact z1B x)).mono fun e w' ⟨he,hw⟩=>?_
 ·cases j with
  | zero=>simp at hj;subst hj;exact YO hhB hx
  | succ j=>simp at hj
 ·have hge:=grownCap_ge w (0+1) 0 (Tryz.laysNm222_ren.t 9)
  have hle:grownCap w (0+1) 0 (Tryz.laysNm222_ren.t 9)<=9223372036854775807:=grownCap_le_maxLen _ _ _ _ (by show _<=2^63 - 1;omega)
  generalize grownCap w (0+1) 0 (Tryz.laysNm222_ren.t 9)=cap at hge hle he hw
  subst he hw
  have hp:Post E (yA ⟨w,φ,L,X⟩) (fun r L'=>r=.sl L.length 0 1 1/\L'=L++[.cells 1 (keyR [x])]) (.slice (some ⟨w.heap.size,0,none⟩) (0+1) cap) (ZT (yA ⟨w,φ,L,X⟩).w (.cells (([]++[strV x]:List Value).toArray++Builtin.zeroCells (Value.string ⟨#[]⟩).cells (cap - (0+1))) (Tryz.laysNm222_ren.t 9))):=by
   have hsz:(([]++[strV x]:List Value).toArray++Builtin.zeroCells (Value.string ⟨#[]⟩).cells (cap - (0+1))).size=cap:=by
    rw [Array.size_append,size_zeroCells]
    simp [Value.cells]
    omega
   refine YY (C:=yA ⟨w,φ,L,X⟩) (g:=L.length) (r:=.sl L.length 0 1 1) (rows:=keyR [x]) (sz:=1) (.inl rfl) (y8 wf) (Zv sim) (z0c (by rw [hsz];simpa using hge) (fun j k hj=>?_)) (YF (.inl rfl) (Nat.le_refl _) hge (by rw [hsz];omega) hle) ?_
   ·cases j with
    | zero=>
     simp at hj;subst hj
     rw [Array.getElem?_append_left (by simp)]
     rfl
    | succ j=>simp at hj
   ·show _/\zK L L.length _=_
    rw [Zb]
    exact ⟨rfl,rfl⟩
  obtain ⟨r,L',φ',h1,h2,h3,h4,h5⟩:=Post.of_ext (Z8 ⟨w,φ,L,X⟩) rfl hp
  exact ⟨r,L',φ',_,h1,rfl,h2,h3,h4,h5⟩
end
end Go.X.TryzW
end
section
open Go Go.X Go.Proofs
set_option maxRecDepth 100000
set_option maxHeartbeats 4000000
namespace Go.X.TryzW
def q122 : XC :=(sO [oV 4 (.str []),oV 5 (.bool false)] (sO [oM 9 0,oN 10 9,oF 11 2 10,oF 12 1 11,oL 13 12,oM 14 1,oO 15 (.ex (.mlook true (.str []) true) [.t 13,.t 14]),oM 8 15,oX 16 0 8,oX 17 1 8,oM 6 16,oM 7 17] (sO [oM 18 6,oM 19 7,oM 4 18,oM 5 19] .ret)))
section
variable {E:Env} {ρ:Rho} {L:List Blk} {K:IV->List Blk->Prop}
def mval:List (IV × IV × Nat)->List UInt8->Option (List UInt8)
 | [],_=>none
 | (.str a,.str b,_)::r,k=>if a=k then some b else mval r k
 | _::r,k=>mval r k
def z1H (es:List (IV × IV × Nat)):Prop:=∀e∈es,∃a b n,e=(.str a,.str b,n)
theorem z1P:∀{es:List (IV × IV × Nat)} {k v:List UInt8},z1H es->mval es k=some v->∀j,∃i b,yc (.str k) es j=some (some (j+i))/\es[i]?=some (.str k,.str v,b)
 | [],_,_,_,h,_=>by cases h
 | e::r,k,v,hs,h,j=>by
  obtain ⟨a,b,n,rfl⟩:=hs e List.mem_cons_self
  simp only [mval] at h
  by_cases hk:a=k
  ·rw [if_pos hk] at h
   cases h
   subst hk
   exact ⟨0,n,by simp [yc,kEq],rfl⟩
  ·rw [if_neg hk] at h
   obtain ⟨i,b',h1,h2⟩:=z1P (fun e he=>hs e (List.mem_cons_of_mem _ he)) h (j+1)
   refine ⟨i+1,b',?_,by simpa using h2⟩
   simp only [yc,kEq,decide_eq_false (Ne.symm hk),h1]
   congr 2;omega
theorem z4U:∀{es:List (IV × IV × Nat)} {k:List UInt8},z1H es->mval es k=none->∀j,yc (.str k) es j=some none
 | [],_,_,_,_=>rfl
 | e::r,k,hs,h,j=>by
  obtain ⟨a,b,n,rfl⟩:=hs e List.mem_cons_self
  simp only [mval] at h
  by_cases hk:a=k
  ·rw [if_pos hk] at h;cases h
  ·rw [if_neg hk] at h
   simp only [yc,kEq,decide_eq_false (Ne.symm hk)]
   exact z4U (fun e he=>hs e (List.mem_cons_of_mem _ he)) h (j+1)
theorem z5A:∀{es:List (IV × IV × Nat)} {k v:List UInt8} {i n j:Nat},z1H es->yc (.str k) es j=some (some (j+i))->∀k',mval (es.set i (.str k,.str v,n)) k'=if k'=k then some v else mval es k'
 | [],_,_,_,_,_,_,h,_=>by simp [yc] at h
 | e::r,k,v,i,n,j,hs,h,k'=>by
  obtain ⟨a,b,m,rfl⟩:=hs e List.mem_cons_self
  by_cases hk:a=k
  ·subst hk
   simp [yc,kEq] at h
   subst h
   simp only [List.set_cons_zero,mval]
   by_cases h1:k'=a
   ·rw [if_pos h1,if_pos h1.symm]
   ·rw [if_neg h1,if_neg (Ne.symm h1),if_neg (Ne.symm h1)]
  ·simp only [yc,kEq,decide_eq_false (Ne.symm hk)] at h
   cases i with
   | zero=>
    exfalso
    have:∀(r:List (IV × IV × Nat)) (j' i':Nat),yc (.str k) r j'=some (some i')->j'<=i':=fun r=>by
     induction r with
     | nil=>intro j' i' h;simp [yc] at h
     | cons e r ih=>
      intro j' i' h
      simp only [yc] at h
      split at h
      ·simp at h;omega
      ·have:=ih _ _ h;omega
      ·cases h
    have:=this _ _ _ h
    omega
   | succ i=>
    have ih:=z5A (v:=v) (n:=n) (i:=i) (j:=j+1) (fun e he=>hs e (List.mem_cons_of_mem _ he)) (by rw [h];congr 2;omega) k'
    simp only [List.set_cons_succ,mval,ih]
    by_cases h1:a=k'
    ·rw [if_pos h1,if_pos h1,if_neg (fun h2=>hk (h1.trans h2))]
    ·rw [if_neg h1,if_neg h1]
theorem z5u:∀{es:List (IV × IV × Nat)} {k v:List UInt8} {n:Nat},z1H es->mval es k=none->∀k',mval (es++[(.str k,.str v,n)]) k'=if k'=k then some v else mval es k'
 | [],k,v,n,_,_,k'=>by
  simp only [List.nil_append,mval]
  by_cases h1:k'=k
  ·rw [if_pos h1,if_pos h1.symm]
  ·rw [if_neg h1,if_neg (Ne.symm h1)]
 | e::r,k,v,n,hs,h,k'=>by
  obtain ⟨a,b,m,rfl⟩:=hs e List.mem_cons_self
  simp only [mval] at h
  by_cases hk:a=k
  ·rw [if_pos hk] at h;cases h
  ·rw [if_neg hk] at h
   have ih:=z5u (v:=v) (n:=n) (fun e he=>hs e (List.mem_cons_of_mem _ he)) h k'
   simp only [List.cons_append,mval,ih]
   by_cases h1:a=k'
   ·rw [if_pos h1,if_pos h1,if_neg (fun h2=>hk (h1.trans h2))]
   ·rw [if_neg h1,if_neg h1]
theorem z81 {es:List (IV × IV × Nat)} {i n:Nat} {k v:List UInt8} (h:z1H es):z1H (es.set i (.str k,.str v,n)):=fun e he=>by
 rcases List.mem_or_eq_of_mem_set he with h1 | rfl
 ·exact h e h1
 ·exact ⟨_,_,_,rfl⟩
theorem z9a {es:List (IV × IV × Nat)} {n:Nat} {k v:List UInt8} (h:z1H es):z1H (es++[(.str k,.str v,n)]):=fun e he=>by
 rcases List.mem_append.1 he with h1 | h1
 ·exact h e h1
 ·rw [List.mem_singleton] at h1;exact ⟨_,_,_,h1⟩
def MapOf (L:List Blk) (m:Nat) (d:KV):Prop:=∃es c,L[m]?=some (.map es c)/\z1H es/\∀k,mval es k=d.get k
def WP (L:List Blk) (v:IV) (F:Nat->Prop) (d:KV):Prop:=(v=.nsl/\d=[]/\F=none')\/∃kb,v=.sl kb 0 d.keys.length d.keys.length/\L[kb]?=some (.cells 1 (keyR d.keys))/\d≠[]/\F=fun t=>t=kb
def zt (L:List Blk) (s:Nat) (F:Nat->Prop) (N:Nat) (fence:Int) (d:KV):Prop:=∃lg m FL FK,∃keys:IV,∃sz cm:Int,L[s]?=some (.cells 6 [[.ptr lg 0 0,.int .i64 fence,keys,.mp m,.int .i64 sz,.int .i64 cm]])/\
 WE L lg FL N/\¬FL s/\¬FL m/\MapOf L m d/\WP L keys FK d/\(∀t,FK t->¬FL t)/\d.sorted/\F=fun t=>t=s\/t=m\/FK t\/FL t
theorem WP.lt {v:IV} {F:Nat->Prop} {d:KV} (h:WP L v F d):∀t,F t->t<L.length:=by
 rcases h with ⟨_,_,rfl⟩ | ⟨kb,_,h,_,rfl⟩
 ·intro t ht;exact ht.elim
 ·rintro t rfl;exact zf h
theorem WP.keep {v:IV} {F G:Nat->Prop} {d:KV} {L':List Blk} (h:WP L v F d) (hk:Keep G L L') (hn:∀t,F t->¬G t):WP L' v F d:=by
 rcases h with h | ⟨kb,h1,h2,h3,rfl⟩
 ·exact .inl h
 ·exact .inr ⟨kb,h1,hk.get h2 (hn _ rfl),h3,rfl⟩
theorem MapOf.keep {m:Nat} {G:Nat->Prop} {d:KV} {L':List Blk} (h:MapOf L m d) (hk:Keep G L L') (hn:¬G m):MapOf L' m d:=by
 obtain ⟨es,c,h1,h2⟩:=h
 exact ⟨es,c,hk.get h1 hn,h2⟩
theorem zt.lt {s N:Nat} {F:Nat->Prop} {fence:Int} {d:KV} (h:zt L s F N fence d):s<L.length/\F s/\∀t,F t->t<L.length:=by
 obtain ⟨lg,m,FL,FK,keys,sz,cm,h1,h2,h3,h4,⟨es,c,h5,_⟩,h6,h7,h8,rfl⟩:=h
 refine ⟨zf h1,.inl rfl,?_⟩
 rintro t (rfl | rfl | h | h)
 ·exact zf h1
 ·exact zf h5
 ·exact h6.lt t h
 ·exact h2.lt.2.2 t h
theorem zt.keep {s N:Nat} {F G:Nat->Prop} {fence:Int} {d:KV} {L':List Blk} (h:zt L s F N fence d) (hk:Keep G L L') (hn:∀t,F t->¬G t):zt L' s F N fence d:=by
 obtain ⟨lg,m,FL,FK,keys,sz,cm,h1,h2,h3,h4,h5,h6,h7,h8,rfl⟩:=h
 exact ⟨lg,m,FL,FK,keys,sz,cm,hk.get h1 (hn _ (.inl rfl)),h2.keep hk fun t ht=>hn t (.inr (.inr (.inr ht))),h3,h4,h5.keep hk (hn _ (.inr (.inl rfl))),h6.keep hk fun t ht=>hn t (.inr (.inr (.inl ht))),h7,h8,rfl⟩
def getR (d:KV) (k:List UInt8):IV:=.tup [.str ((d.get k).getD []),.bool (d.get k).isSome]
theorem z8c (hP:E.P=Tryz.prog) {s N:Nat} {F:Nat->Prop} {fence:Int} {d:KV} (h:zt L s F N fence d) (k:List UInt8):XT E 122 [.ptr s 0 0,.str k] L fun r L'=>r=getR d k/\L'=L:=by
 obtain ⟨lg,m,FL,FK,keys,sz,cm,hs,_,_,_,⟨es,c,hm,hst,hmv⟩,_,_,_,rfl⟩:=h
 have ls:=zg hs
 have lm:=zg hm
 have hg:=hmv k
 cases hd:d.get k with
 | none=>
  rw [hd] at hg
  have hf:=z4U hst hg 0
  refine xt2 (fn:=Tryz.f122) (rs:=[.tmp 4,.tmp 5]) (c:=q122) hP fun ρ h0 h1=>?_
  unfold q122
  simp only [h0,h1,hs,hm,hf,mapB,WH,YT,isKey,go_sem,Nat.reduceEqDiff,reduceIte,Nat.reduceAdd,Nat.reduceLT]
  simp [getR,hd]
 | some v=>
  rw [hd] at hg
  obtain ⟨i,b,hf,hi⟩:=z1P hst hg 0
  rw [Nat.zero_add] at hf
  have hgd:es.getD i default=(.str k,.str v,b):=by rw [List.getD_eq_getElem?_getD,hi];rfl
  refine xt2 (fn:=Tryz.f122) (rs:=[.tmp 4,.tmp 5]) (c:=q122) hP fun ρ h0 h1=>?_
  unfold q122
  simp only [h0,h1,hs,hm,hf,hgd,mapB,WH,YT,isKey,go_sem,Nat.reduceEqDiff,reduceIte,Nat.reduceAdd,Nat.reduceLT]
  simp [getR,hd]
end
end Go.X.TryzW
end
section
open Go Go.X Go.Proofs
set_option maxRecDepth 100000
set_option maxHeartbeats 4000000
namespace Go.X.TryzW
def q79 : XC :=(sO [oO 3 (.box (.t 1))] (.seq (.drawE [oM 9 0,oN 10 9,oF 11 1 10,oL 12 11,oF 13 0 3,oL 14 13,oO 15 (.ex (.mlook true (.str []) true) [.t 12,.t 14]),oM 8 15,oX 16 0 8,oX 17 1 8,oM 4 16,oM 5 17]) (.seq (.drawE [oM 19 0,oN 20 19,oF 21 0 20,oL 22 21,oF 23 0 3,oL 24 23,oQ 25 151 [.t 22,.t 24],oM 18 25,oX 26 0 18,oX 27 1 18,oM 6 26,oM 7 27]) (.seq (sO [oM 28 5] (cT 28 (.drawE [oM 29 0,oN 30 29,oF 31 2 30,oL 32 31,oF 33 0 3,oL 34 33,oO 35 (.lenS (.t 34)),oM 36 4,oO 37 (.lenS (.t 36)),oB 38 .add 35 37,oB 39 .sub 32 38,oN 40 29,oF 41 2 40,oS 41 39]) .skip)) (.block 0 (sO [oF 79 2 3,oL 80 79,oM 81 80,oG 82 81 true (.mov (.t 5)),oO 83 (.pick (.t 81) (.t 82) (.c (.bool false))),oM 78 83] (cT 78 (sO [oM 84 0,oM 85 0,oN 86 85,oF 87 0 86,oL 88 87,oM 89 6,oM 90 6,oK 91 .add 90 1,oC 92 152 [.t 88,.t 89,.t 91],oN 93 84,oF 94 0 93,oS 94 92] (.drawE [oM 95 0,oN 96 95,oF 97 1 96,oL 98 97,oF 99 0 3,oL 100 99,oU (.ex (.mdel true) [.t 98,.t 100])])) (sO [oF 102 2 3,oL 103 102,oM 101 103] (cT 101 .skip (.seq (sO [oM 42 5,oO 43 (.un .not (.t 42))] (cT 43 (.drawE [oM 44 0,oM 45 0,oN 46 45,oF 47 0 46,oL 48 47,oM 49 6,oF 50 0 3,oL 51 50,oO 52 (.bslice 1 [(.str [])] 1 [(0,(.t 51))]),oC 53 153 [.t 48,.t 49,.t 52],oN 54 44,oF 55 0 54,oS 55 53]) .skip)) (.seq (.drawE [oM 56 0,oN 57 56,oF 58 1 57,oL 59 58,oF 60 0 3,oL 61 60,oF 62 1 3,oL 63 62,oU (.ex (.mset true) [.t 59,.t 61,.t 63])]) (.drawE [oM 64 0,oN 65 64,oF 66 2 65,oL 67 66,oF 68 0 3,oL 69 68,oO 70 (.lenS (.t 69)),oF 71 1 3,oL 72 71,oO 73 (.lenS (.t 72)),oB 74 .add 70 73,oB 75 .add 67 74,oN 76 64,oF 77 2 76,oS 77 75]))))))))))))
section
variable {E:Env} {ρ:Rho} {L:List Blk} {K:IV->List Blk->Prop}
theorem z8y {L:List Blk} {n:Nat} {m:Ren} (ks:List (List UInt8)):mapO (mapO (conv L (n+1) m)) (keyR ks)=some (keyR ks):=by
 refine Yf fun r hr=>?_
 obtain ⟨k,_,rfl⟩:=List.mem_map.1 hr
 rfl
theorem jB (hP:E.P=Tryz.prog) {keys:IV} {FK:Nat->Prop} {d:KV} {k:List UInt8} (hk:WP L keys FK d) (hs:d.sorted) (hN:d.length<=900000) {KV':IV->List Blk->Prop} (h:KV' (.tup [.int .i64 (d.rank k),.bool (d.get k).isSome]) L) :
  xop E (.pcall (.c (.fn (.func 151) [] [])) [.c keys,.c (.str k)]) cev L KV':=by
 have hkl:d.keys.length=d.length:=by simp [KV.keys]
 have hb:=z2D (E:=E) hP (ks:=d.keys) (t:=k) (i:=d.rank k) (by rw [hkl];exact d.rank_le k) (d.rank_lt k) (d.rank_ge k hs) (by omega)
 have he:decide (d.keys[d.rank k]?=some k)=(d.get k).isSome:=by
  have:=d.rank_get k hs
  cases hg:(d.get k).isSome with
  | true=>rw [hg] at this;exact decide_eq_true (this.2 rfl)
  | false=>rw [hg] at this;exact decide_eq_false fun h=>by have:=this.1 h;cases this
 rw [he] at hb
 rcases hk with ⟨rfl,rfl,_⟩ | ⟨kb,rfl,hkb,_,_⟩
 ·exact jG (args':=[.isl [],.str k]) rfl hb rfl (fun _=>rfl) h
 ·refine jG (args':=[.isl (keyR d.keys),.str k]) ?_ hb rfl (fun _=>rfl) h
  have h1:(keyR d.keys).take d.keys.length=keyR d.keys:=List.take_of_length_le (by rw [J7];exact Nat.le_refl _)
  have e1:conv L fuel zy (.sl kb 0 d.keys.length d.keys.length)=some (.isl (keyR d.keys)):=by
   simp [fuel,conv,zy,hkb,J7,h1,z8y]
  have e2:conv L fuel zy (.str k)=some (.str k):=rfl
  simp only [List.nil_append,List.map_cons,List.map_nil,List.append_nil,zU,mapO,e1,e2]
theorem zau (hP:E.P=Tryz.prog) {keys:IV} {FK:Nat->Prop} {d:KV} {k v:List UInt8} {vb:Nat} (hk:WP L keys FK d) (hs:d.sorted) (hg:d.get k=none) (hv:L[vb]?=some (.cells 1 [[.str k]])) (hne:¬FK vb) (hN:d.length<=900000) :
  XT E 153 [keys,.int .i64 (d.rank k),.sl vb 0 1 1] L fun r L'=>(cellsOf r=[r]/\zJ r=true)/\(∃FK',WP L' r FK' (d.put k v)/\Grown FK FK' L L')/\Keep FK L L':=by
 have hkp:=d.keys_put_new k v hg
 have hpne:d.put k v≠[]:=by
  intro h
  rw [h] at hkp
  simp [KV.keys] at hkp
 have hlen:(d.put k v).keys.length=d.keys.length+1:=by
  rw [hkp]
  have:=d.rank_le k
  have e1:d.keys.length=d.length:=by simp [KV.keys]
  simp
  omega
 rcases hk with ⟨rfl,rfl,rfl⟩ | ⟨kb,rfl,hkb,hdn,rfl⟩
 ·refine (z6g hP hv).mono ?_
  rintro r L' ⟨rfl,rfl⟩
  refine ⟨⟨rfl,rfl⟩,⟨fun t=>t=L.length,.inr ⟨L.length,rfl,?_,hpne,rfl⟩,fun t ht=>.inr ?_⟩,Keep.app Keep.refl⟩
  ·rw [hkp];simp [KV.keys,KV.rank]
  ·subst ht;exact ⟨Nat.le_refl _,by simp⟩
 ·have e1:d.keys.length=d.length:=by simp [KV.keys]
  have hpos:0<d.keys.length:=by rw [e1];exact List.length_pos_iff.2 hdn
  refine (z97 hP hkb hv (fun h=>hne h.symm) (by rw [e1];exact d.rank_le k) hpos (by omega)).mono ?_
  rintro r L' ⟨g,rfl,hg1,hg2,hg3⟩
  have hi:ins d.keys (d.rank k) k=(d.put k v).keys:=by rw [hkp];rfl
  rw [hi] at hg1
  refine ⟨⟨rfl,rfl⟩,⟨fun t=>t=g,.inr ⟨g,by rw [hlen],hg1,hpne,rfl⟩,fun t ht=>?_⟩,hg3⟩
  subst ht
  rcases hg2 with h | h
  ·exact .inl h
  ·right;exact ⟨by omega,zf hg1⟩
theorem zdO (hP:E.P=Tryz.prog) {s N:Nat} {F:Nat->Prop} {fence:Int} {d:KV} (h:zt L s F N fence d) (k v:List UInt8) (hN:d.length<=900000) :
  XT E 79 [.ptr s 0 2,.agg [.str k,.str v,.bool false]] L fun r L'=>r=.tup []/\(∃F',zt L' s F' N fence (d.put k v)/\Grown F F' L L')/\Keep F L L':=by
 have hlt:=h.lt
 obtain ⟨lg,m,FL,FK,keys,sz,cm,hs,hlog,hFs,hFm,⟨es,c,hm,hst,hmv⟩,hkeys,hKL,hsrt,rfl⟩:=h
 have ls:=zg hs
 have lm:=zg hm
 have lo:(L.length<(L++[Blk.cells 3 [[.str k,.str v,.bool false]]]).length)=True:=eq_true (by simp)
 have q1:=zo hs hm (by simp)
 have q2:=zo hm hs (by simp)
 have p1:(s=L.length)=False:=eq_false (by have:=zf hs;omega)
 have p2:(L.length=s)=False:=eq_false (by have:=zf hs;omega)
 have p3:(m=L.length)=False:=eq_false (by have:=zf hm;omega)
 have p4:(L.length=m)=False:=eq_false (by have:=zf hm;omega)
 have hFKs:¬FK s:=by
  rcases hkeys with ⟨_,_,rfl⟩ | ⟨kb,_,hkb,_,rfl⟩
  ·exact fun h=>h
  ·exact of_eq_false (zo hs hkb (by simp))
 have hFKm:¬FK m:=by
  rcases hkeys with ⟨_,_,rfl⟩ | ⟨kb,_,hkb,_,rfl⟩
  ·exact fun h=>h
  ·exact of_eq_false (zo hm hkb (by simp))
 have hk1:WP (L++[Blk.cells 3 [[.str k,.str v,.bool false]]]) keys FK d:=hkeys.keep (G:=none') (by (repeat' first | exact Keep.refl | apply Keep.app | apply Keep.set)<;>(intro hh;first | rfl | (exfalso;first | omega | (simp only [lla,lls,llc,lln] at hh;omega)))) fun _ _ h=>h
 have hg:=hmv k
 cases hd:d.get k with
 | none=>
  rw [hd] at hg
  have hf:=z4U hst hg 0
  refine xt2 (fn:=Tryz.f79) (rs:=[]) (c:=q79) hP fun ρ h0 h1=>?_
  unfold q79
  simp only [h0,h1,hs,ls,hm,lm,hf,mapB,WH,YT,isKey,go_sem,Nat.reduceEqDiff,reduceIte,Nat.reduceAdd,Nat.reduceLT]
  refine jB (E:=E.noPan) hP hk1 hsrt hN ?_
  simp only [h0,hs,ls,YT,hd,go_sem,Nat.reduceEqDiff,reduceIte,Nat.reduceAdd,Nat.reduceLT]
  refine zh (zau (E:=E.noPan) (v:=v) hP (hk1.keep (G:=none') (by (repeat' first | exact Keep.refl | apply Keep.app | apply Keep.set)<;>(intro hh;first | rfl | (exfalso;first | omega | (simp only [lla,lls,llc,lln] at hh;omega)))) fun _ _ h=>h) hsrt hd (by simp only [go_sem]<;>rfl) (fun h=>by have:=hkeys.lt _ h;simp at this;omega) hN) ?_
  rintro r L2 ⟨⟨cr1,cr2⟩,⟨FK',hk2,hg2⟩,hK2⟩
  have cr3:(([r]:List IV).all zJ=true)=True:=by simp [cr2]
  have hs2:L2[s]?=some (.cells 6 [[.ptr lg 0 0,.int .i64 fence,keys,.mp m,.int .i64 sz,.int .i64 cm]]):=hK2.get (by simp only [hs,ls,go_sem]) hFKs
  have hm2:L2[m]?=some (.map es c):=hK2.get (by simp only [hm,lm,go_sem]) hFKm
  have ho2:L2[L.length]?=some (.cells 3 [[.str k,.str v,.bool false]]):=hK2.get (by simp only [go_sem]<;>rfl) (fun h=>by have:=hkeys.lt _ h;omega)
  have ls2:=zg hs2
  have lm2:=zg hm2
  have lo2:=zg ho2
  simp only [h0,hs2,ls2,hm2,ho2,hf,mapB,WH,isKey,p1,p3,q1,q2,cr1,List.drop,go_sem,Nat.reduceEqDiff,reduceIte,Nat.reduceAdd,Nat.reduceLT,Nat.reduceLeDiff]
  have hsl:=zf hs
  have hml:=zf hm
  have hll:=hlog.lt
  have kL2:Keep FK L L2:=Keep.trans (Keep.app (Keep.app Keep.refl)) hK2 fun _ _ h=>h
  have hnew:∀t,FK' t->FK t\/L.length<=t:=fun t ht=>by
   rcases hg2 t ht with h | ⟨h,_⟩
   ·exact .inl h
   ·right;simp only [lla,llc,lln] at h;omega
  have hlt2:∀t,FK' t->t<L2.length:=hk2.lt
  obtain ⟨L3,hL3⟩:∃L3,((L2.set s (Blk.cells 6 [[.ptr lg 0 0,.int .i64 fence,r,.mp m,.int .i64 sz,.int .i64 cm]])).set m (Blk.map (es++[(.str k,.str v,c)]) (c+1))).set s (Blk.cells 6 [[.ptr lg 0 0,.int .i64 fence,r,.mp m,.int .i64 (IntKind.i64.wrap (sz+IntKind.i64.wrap (k.length+v.length))),.int .i64 cm]])=L3:=⟨_,rfl⟩
  have k23:Keep (fun t=>t=s\/t=m) L2 L3:=by rw [<-hL3];(repeat' first | exact Keep.refl | apply Keep.app | apply Keep.set)<;>(intro hh;first | rfl | exact .inl rfl | exact .inr rfl | exact .inr (.inl rfl) | exact .inr (.inr rfl) | exact .inr (.inr (.inl rfl)) | exact .inr (.inr (.inr rfl)) | (exfalso;first | omega | (simp only [lla,lls,llc,lln] at hh;omega)))
  have k3:Keep (fun t=>t=s\/t=m\/FK t) L L3:=(kL2.mono fun t _ h=>.inr (.inr h)).trans k23 fun t _ h=>by rcases h with h | h;exact .inl h;exact .inr (.inl h)
  have hs3:L3[s]?=some (.cells 6 [[.ptr lg 0 0,.int .i64 fence,r,.mp m,.int .i64 (IntKind.i64.wrap (sz+IntKind.i64.wrap (k.length+v.length))),.int .i64 cm]]):=by rw [<-hL3];simp only [ls2,go_sem]
  have hm3:L3[m]?=some (.map (es++[(.str k,.str v,c)]) (c+1)):=by rw [<-hL3];simp only [lm2,q1,go_sem]
  have hl3:L2.length=L3.length:=by rw [<-hL3];simp
  rw [hL3]
  refine ⟨cr2,⟨fun t=>t=s\/t=m\/FK' t\/FL t,⟨lg,m,FL,FK',r,_,cm,hs3,hlog.keep k3 ?_,hFs,hFm,⟨_,_,hm3,z9a hst,fun k'=>?_⟩,hk2.keep k23 ?_,?_,d.sorted_put k v hsrt,rfl⟩,?_⟩,?_⟩
  ·rintro t ht (rfl | rfl | h)
   ·exact hFs ht
   ·exact hFm ht
   ·exact hKL t h ht
  ·rw [z5u hst hg,d.get_put,hmv]
  ·rintro t ht h
   rcases hnew t ht with h1 | h1
   ·rcases h with rfl | rfl
    ·exact hFKs h1
    ·exact hFKm h1
   ·omega
  ·intro t ht h
   rcases hnew t ht with h1 | h1
   ·exact hKL t h1 h
   ·have:=hll.2.2 t h;omega
  ·rintro t (h | h | h | h)
   ·exact .inl (.inl h)
   ·exact .inl (.inr (.inl h))
   ·rcases hnew t h with h1 | h1
    ·exact .inl (.inr (.inr (.inl h1)))
    ·right;have:=hlt2 t h;omega
   ·exact .inl (.inr (.inr (.inr h)))
  ·exact k3.mono fun t _ h=>by rcases h with h | h | h;exact .inl h;exact .inr (.inl h);exact .inr (.inr (.inl h))
 | some v0=>
  rw [hd] at hg
  obtain ⟨i,b,hf,hi⟩:=z1P hst hg 0
  rw [Nat.zero_add] at hf
  have hgd:es.getD i default=(.str k,.str v0,b):=by rw [List.getD_eq_getElem?_getD,hi];rfl
  refine xt2 (fn:=Tryz.f79) (rs:=[]) (c:=q79) hP fun ρ h0 h1=>?_
  unfold q79
  simp only [h0,h1,hs,ls,hm,lm,hf,hgd,mapB,WH,YT,isKey,go_sem,Nat.reduceEqDiff,reduceIte,Nat.reduceAdd,Nat.reduceLT]
  refine jB (E:=E.noPan) hP hk1 hsrt hN ?_
  simp only [h0,hs,ls,hm,lm,hf,hgd,mapB,WH,YT,isKey,p1,p3,q1,q2,hd,go_sem,Nat.reduceEqDiff,reduceIte,Nat.reduceAdd,Nat.reduceLT,Nat.reduceLeDiff]
  have hkp:=d.keys_put_old k v hsrt (by rw [hd];rfl)
  have hdne:d≠[]:=by rintro rfl;simp [KV.get] at hd
  have hpne:d.put k v≠[]:=by
   intro h
   rw [h] at hkp
   have e1:d.keys.length=d.length:=by simp [KV.keys]
   rw [<-hkp] at e1
   have:=List.length_pos_iff.2 hdne
   simp [KV.keys] at e1
   omega
  obtain ⟨L3,hL3⟩:∃L3,(((L++[Blk.cells 3 [[.str k,.str v,.bool false]]]).set s (Blk.cells 6 [[.ptr lg 0 0,.int .i64 fence,keys,.mp m,.int .i64 (IntKind.i64.wrap (sz - IntKind.i64.wrap (k.length+v0.length))),.int .i64 cm]])).set m (Blk.map (es.set i (.str k,.str v,b)) c)).set s
   (Blk.cells 6 [[.ptr lg 0 0,.int .i64 fence,keys,.mp m,.int .i64 (IntKind.i64.wrap (IntKind.i64.wrap (sz - IntKind.i64.wrap (k.length+v0.length))+IntKind.i64.wrap (k.length+v.length))),.int .i64 cm]])=L3:=⟨_,rfl⟩
  have k3:Keep (fun t=>t=s\/t=m) L L3:=by rw [<-hL3];(repeat' first | exact Keep.refl | apply Keep.app | apply Keep.set)<;>(intro hh;first | rfl | exact .inl rfl | exact .inr rfl | exact .inr (.inl rfl) | exact .inr (.inr rfl) | exact .inr (.inr (.inl rfl)) | exact .inr (.inr (.inr rfl)) | (exfalso;first | omega | (simp only [lla,lls,llc,lln] at hh;omega)))
  have hs3:L3[s]?=some (.cells 6 [[.ptr lg 0 0,.int .i64 fence,keys,.mp m,.int .i64 (IntKind.i64.wrap (IntKind.i64.wrap (sz - IntKind.i64.wrap (k.length+v0.length))+IntKind.i64.wrap (k.length+v.length))),.int .i64 cm]]):=by rw [<-hL3];simp only [ls,go_sem]
  have hm3:L3[m]?=some (.map (es.set i (.str k,.str v,b)) c):=by rw [<-hL3];simp only [lm,q1,go_sem]
  rw [hL3]
  refine ⟨⟨fun t=>t=s\/t=m\/FK t\/FL t,⟨lg,m,FL,FK,keys,_,cm,hs3,hlog.keep k3 ?_,hFs,hFm,⟨_,_,hm3,z81 hst,fun k'=>?_⟩,?_,hKL,d.sorted_put k v hsrt,rfl⟩,Grown.refl⟩,?_⟩
  ·rintro t ht (rfl | rfl)
   ·exact hFs ht
   ·exact hFm ht
  ·rw [z5A (j:=0) hst (by rw [Nat.zero_add];exact hf),d.get_put,hmv]
  ·have hk3:=hkeys.keep k3 (by rintro t ht (rfl | rfl);exact hFKs ht;exact hFKm ht)
   rcases hk3 with ⟨_,h2,_⟩ | ⟨kb,h1,h2,h3,h4⟩
   ·exact absurd h2 hdne
   ·exact .inr ⟨kb,by rw [hkp];exact h1,by rw [hkp];exact h2,hpne,h4⟩
  ·exact k3.mono fun t _ h=>by rcases h with h | h;exact .inl h;exact .inr (.inl h)
end
end Go.X.TryzW
end
section
open Go Go.X Go.Proofs
set_option maxRecDepth 100000
set_option maxHeartbeats 4000000
namespace Go.X.TryzW
def q78 : XC :=(sO [oM 6 1,oY 7 6,oI 8 0] (.block 0 (.loop (sO [oB 9 .lss 8 7] (.seq (cT 9 .skip (.exit 0)) (.seq (.block 1 (sO [oO 10 (.idxS 3 (.t 6) (.t 8)),oO 11 (.loadN 3 (.t 10)),oO 5 (.alloc [(.str []),(.str []),(.bool false)]),oU (.store 3 (.t 5) (.t 11))] (.drawE [oM 12 0,oN 13 12,oF 14 2 13,oO 15 (.loadN 3 (.t 5)),oC 16 79 [.t 14,.t 15]]))) (.ops [oK 17 .add 8 1,oM 8 17])))))))
def q89 : XC :=(sO [oI 6 0] (.seq (sO [oM 11 1,oM 12 0,oN 13 12,oF 14 1 13,oL 15 14,oB 16 .neq 11 15] (cT 16 (sO [oI 6 5] .ret) .skip)) (.seq (sO [oM 17 2,oC 18 161 [.t 17,(.f 162)]] (cT 18 (sO [oI 6 2] .ret) .skip)) (.seq (sO [oM 19 2,oC 20 164 [.t 19]] (cT 20 (sO [oI 6 9] .ret) .skip)) (.seq (sO [oM 21 2,oY 22 21,oK 23 .eql 22 0] (cT 23 (sO [oI 6 0] .ret) .skip)) (sO [oM 25 2,oC 26 120 [.t 25],oM 24 26,oX 27 0 24,oX 28 1 24,oM 7 27,oM 8 28] (.seq (.seq (.drawE [oM 30 0,oN 31 30,oF 32 0 31,oL 33 32,oM 34 7,oQ 35 166 [(.c (.int .u8 111)),.t 34],oC 36 165 [.t 33,.t 35],oM 29 36,oX 37 0 29,oX 38 1 29,oM 9 37,oM 10 38]) (sO [oM 39 10,oK 40 .neq 39 0] (cT 40 (sO [oM 41 10,oM 6 41] .ret) .skip))) (sO [oM 42 0,oM 43 2,oC 44 167 [.t 43],oC 45 78 [.t 42,.t 44]] (sO [oM 46 0,oN 47 46,oF 48 5 47,oL 49 48,oK 50 .add 49 1,oN 51 46,oF 52 5 51,oS 52 50] (sO [oI 6 0] .ret))))))))))
def q156 : XC :=(sO [oI 4 0] (.seq (sO [oM 7 1,oM 8 0,oN 9 8,oF 10 1 9,oL 11 10,oB 12 .leq 7 11] (cT 12 (sO [oI 4 5] .ret) .skip)) (.seq (sO [oM 13 1,oK 14 .gtr 13 4503599627370496] (cT 14 (sO [oI 4 1] .ret) .skip)) (.seq (.seq (.drawE [oM 16 0,oN 17 16,oF 18 0 17,oL 19 18,oM 20 1,oQ 21 216 [(.c (.int .u8 102)),.t 20],oC 22 165 [.t 19,.t 21],oM 15 22,oX 23 0 15,oX 24 1 15,oM 5 23,oM 6 24]) (sO [oM 25 6,oK 26 .neq 25 0] (cT 26 (sO [oM 27 6,oM 4 27] .ret) .skip))) (sO [oM 28 0,oM 29 1,oN 30 28,oF 31 1 30,oS 31 29] (sO [oM 32 0,oN 33 32,oF 34 5 33,oL 35 34,oK 36 .add 35 1,oN 37 32,oF 38 5 37,oS 38 36] (sO [oI 4 0] .ret)))))))
section
variable {E:Env} {ρ:Rho} {L:List Blk} {K:IV->List Blk->Prop}
theorem _root_.Go.X.KV.put_len:∀(d:KV) (k v:List UInt8),(d.put k v).length<=d.length+1
 | [],k,v=>by simp [KV.put]
 | p::r,k,v=>by
  unfold KV.put
  have:=KV.put_len r k v
  split
  ·simp;omega
  ·split<;>simp
def _root_.Go.X.KV.puts (d:KV) (l:List OpV):KV:=l.foldl (fun d o=>d.put o.key o.val) d
theorem _root_.Go.X.KV.puts_snoc (d:KV) (l:List OpV) (o:OpV):d.puts (l++[o])=(d.puts l).put o.key o.val:=by simp [KV.puts]
theorem _root_.Go.X.KV.puts_len (d:KV):∀(l:List OpV),(d.puts l).length<=d.length+l.length:=by
 intro l
 induction l generalizing d with
 | nil=>exact Nat.le_refl _
 | cons o l ih=>
  have h1:=ih (d.put o.key o.val)
  have h2:=d.put_len o.key o.val
  have e:d.puts (o::l)=(d.put o.key o.val).puts l:=rfl
  rw [e]
  simp only [llc]
  omega
theorem zha (hP:E.P=Tryz.prog) {s N:Nat} {F:Nat->Prop} {fence:Int} {d:KV} {l:List OpV} (h:zt L s F N fence d) (hg:∀o∈l,o.gone=false) (hN:d.length+l.length<=900000) :
  XT E 78 [.ptr s 0 0,.isl (zA l)] L fun r L'=>r=.tup []/\(∃F',zt L' s F' N fence (d.puts l)/\Grown F F' L L')/\Keep F L L':=by
 have hrl:(zA l).length=l.length:=by simp [zA]
 have lx:lenOf (.isl (zA l))=some l.length:=by show some _=_;rw [hrl]
 have hR3:Rows 3 (zA l)=True:=eq_true fun r hr=>by obtain ⟨o,_,rfl⟩:=List.mem_map.1 hr;rfl
 refine xt2 (fn:=Tryz.f78) (rs:=[]) (c:=q78) hP fun ρ h0 h1=>?_
 unfold q78
 simp only [h1,zC lx,go_sem,reduceIte]
 refine zT (fun n ρ L1=>∃i:Nat,i<=l.length/\n=l.length - i/\ρ 0=.ptr s 0 0/\ρ 6=.isl (zA l)/\ρ 7=.int .i64 l.length/\ρ 8=.int .i64 i/\∃F',zt L1 s F' N fence (d.puts (l.take i))/\Grown F F' L L1/\Keep F L L1)
  ⟨0,Nat.zero_le _,rfl,by simp only [h0,go_sem,Nat.reduceEqDiff,reduceIte],by simp only [go_sem,Nat.reduceEqDiff,reduceIte],by simp only [go_sem,Nat.reduceEqDiff,reduceIte],by simp only [go_sem,Nat.reduceEqDiff,reduceIte]<;>rfl,F,h,Grown.refl,Keep.refl⟩ ?_
 clear h0 h1 ρ
 rintro n ρ L1 ⟨i,hi,rfl,h0,h6,h7,h8,F1,hS1,hG1,hK1⟩
 by_cases hc:i<l.length
 ·have e1:((i:Int)<(l.length:Int))=True:=eq_true (by omega)
  have e0:((0:Int)<=(i:Int))=True:=eq_true (by omega)
  obtain ⟨o,hoe⟩:∃o,o=l[i]:=⟨_,rfl⟩
  have hog:l[i]?=some o:=by rw [hoe];exact List.getElem?_eq_getElem hc
  have hom:o∈l:=List.mem_of_getElem? hog
  have hgo:=hg o hom
  have hgr:(zA l)[i]?=some o.row:=by simp [zA,hog]
  have hgd:(zA l).getD i []=[.str o.key,.str o.val,.bool false]:=by rw [List.getD_eq_getElem?_getD,hgr];simp [OpV.row,hgo]
  have hic:(i<(zA l).length)=True:=eq_true (by omega)
  have hic2:((i:Int)<((zA l).length:Int))=True:=eq_true (by omega)
  have hw:IntKind.i64.wrap ((i:Int)+1)=((i+1:Nat):Int):=by rw [wrap64 (by omega) (by omega)];rfl
  have hp:=hS1.lt
  obtain ⟨lg,m,FL,FK,keys,sz,cm,hs,_⟩:=id hS1
  have ls:=zg hs
  simp only [h0,h6,h7,h8,e1,e0,hR3,hgd,hic,hic2,Int.toNat_natCast,go_sem,Nat.reduceEqDiff,reduceIte,Nat.reduceAdd]
  have hpl:=d.puts_len (l.take i)
  have htl:(l.take i).length=i:=by simp;omega
  refine zh (zdO (E:=E.noPan) hP (hS1.keep (G:=none') (by (repeat' first | exact Keep.refl | apply Keep.app | apply Keep.set)<;>(intro hh;first | rfl | (exfalso;first | omega | (simp only [lla,lls,llc,lln] at hh;omega)))) fun _ _ h=>h) o.key o.val (by omega)) ?_
  rintro r L2 ⟨rfl,⟨F2,hS2,hG2⟩,hK2⟩
  simp only [h0,h6,h7,h8,hw,go_sem,Nat.reduceEqDiff,reduceIte]
  have ht:l.take (i+1)=l.take i++[o]:=by rw [List.take_add_one,hog];rfl
  have k12:Keep none' L1 (L1++[Blk.cells 3 [[.str o.key,.str o.val,.bool false]]]):=by (repeat' first | exact Keep.refl | apply Keep.app | apply Keep.set)<;>(intro hh;first | rfl | (exfalso;first | omega | (simp only [lla,lls,llc,lln] at hh;omega)))
  refine ⟨l.length - (i+1),by omega,i+1,by omega,rfl,rfl,F2,by rw [ht,KV.puts_snoc];exact hS2,fun t ht=>?_,?_⟩
  ·rcases hG2 t ht with h | ⟨h,h'⟩
   ·rcases hG1 t h with h | h
    ·exact .inl h
    ·right;have:=hK2.1;have:=k12.1;omega
   ·right;have:=hK1.1;have:=k12.1;omega
  ·refine (hK1.trans k12 fun _ _ h=>h.elim).trans hK2 fun t htl h=>?_
   rcases hG1 t h with h | h
   ·exact h
   ·omega
 ·have e1:((i:Int)<(l.length:Int))=False:=eq_false (by omega)
  simp only [h7,h8,e1,go_sem,reduceIte]
  have hil:i=l.length:=by omega
  subst hil
  rw [List.take_length] at hS1
  exact ⟨⟨F1,hS1,hG1⟩,hK1⟩
theorem WE.mono {lg N N':Nat} {F:Nat->Prop} (h:WE L lg F N) (hn:N<=N'):WE L lg F N':=by
 obtain ⟨d,h | ⟨sb,rb,k,FD,rows,s0,s1,s2,s3,sz,la,h1,h2,h3,h4,h5,h6,h7,h8⟩⟩:=h
 ·exact ⟨d,.inl h⟩
 ·exact ⟨d,.inr ⟨sb,rb,k,FD,rows,s0,s1,s2,s3,sz,la,h1,h2,h3,h4,h5,Nat.le_trans h6 hn,h7.mono hn,h8⟩⟩
theorem zt.nums {s N:Nat} {F:Nat->Prop} {fence:Int} {d:KV} (h:zt L s F N fence d):∃lgp keys mp:IV,∃sz cm:Int,L[s]?=some (.cells 6 [[lgp,.int .i64 fence,keys,mp,.int .i64 sz,.int .i64 cm]])/\
  ∀(fence' cm':Int),zt (L.set s (.cells 6 [[lgp,.int .i64 fence',keys,mp,.int .i64 sz,.int .i64 cm']])) s F N fence' d:=by
 obtain ⟨lg,m,FL,FK,keys,sz,cm,hs,hlog,hFs,hFm,hmp,hkeys,hKL,hsrt,rfl⟩:=h
 refine ⟨_,keys,_,sz,cm,hs,fun fence' cm'=>?_⟩
 have hk:Keep (fun t=>t=s) L (L.set s (.cells 6 [[.ptr lg 0 0,.int .i64 fence',keys,.mp m,.int .i64 sz,.int .i64 cm']])):=Keep.set Keep.refl fun _=>rfl
 have hFKs:¬FK s:=by
  rcases hkeys with ⟨_,_,rfl⟩ | ⟨kb,_,hkb,_,rfl⟩
  ·exact fun h=>h
  ·exact of_eq_false (zo hs hkb (by simp))
 refine ⟨lg,m,FL,FK,keys,sz,cm',List.getElem?_set_self (zf hs),hlog.keep hk fun t ht h=>hFs (h▸ht),hFs,hFm,hmp.keep hk ?_,hkeys.keep hk fun t ht h=>hFKs (h▸ht),hKL,hsrt,rfl⟩
 obtain ⟨es,c,hm,_⟩:=hmp
 exact of_eq_false (zo hm hs (by simp))
theorem zt.log {s N:Nat} {F:Nat->Prop} {fence:Int} {d:KV} (h:zt L s F N fence d):∃lg FL,∃c1 c2 c3 c4 c5:IV,L[s]?=some (.cells 6 [[.ptr lg 0 0,c1,c2,c3,c4,c5]])/\WE L lg FL N/\(∀t,FL t->F t)/\∀L' FL' N',WE L' lg FL' N'->Grown FL FL' L L'->Keep FL L L'->
  ∃F',zt L' s F' N' fence d/\Grown F F' L L':=by
 have hlt:=h.lt
 obtain ⟨lg,m,FL,FK,keys,sz,cm,hs,hlog,hFs,hFm,hmp,hkeys,hKL,hsrt,rfl⟩:=h
 refine ⟨lg,FL,_,_,_,_,_,hs,hlog,fun t ht=>.inr (.inr (.inr ht)),fun L' FL' N' hl hg hk=>?_⟩
 have hml:m<L.length:=hlt.2.2 m (.inr (.inl rfl))
 refine ⟨fun t=>t=s\/t=m\/FK t\/FL' t,⟨lg,m,FL',FK,keys,sz,cm,hk.get hs hFs,hl,hg.out hlt.1 hFs,hg.out hml hFm,hmp.keep hk hFm,hkeys.keep hk hKL,fun t ht h=>?_,hsrt,rfl⟩,fun t ht=>?_⟩
 ·exact hg.out (hkeys.lt t ht) (hKL t ht) h
 ·rcases ht with h | h | h | h
  ·exact .inl (.inl h)
  ·exact .inl (.inr (.inl h))
  ·exact .inl (.inr (.inr (.inl h)))
  ·rcases hg t h with h | h
   ·exact .inl (.inr (.inr (.inr h)))
   ·exact .inr h
theorem z3i (hP:E.P=Tryz.prog) {s N ob:Nat} {F:Nat->Prop} {fence:Int} {d:KV} {l:List OpV} (h:zt L s F N fence d) (hob:L[ob]?=some (.cells 3 (zA l))) (hF:¬F ob) (hne:l≠[]) (hl:l.length<=100000) (ho:∀o∈l,o.fit) (hg:∀o∈l,o.gone=false) (hb:(opsR l).length<=1048512)
  (hN:d.length+l.length<=900000) (hN2:N+(opsR l).length+300<=1099511627776) :
  XT E 89 [.ptr s 0 0,.int .i64 fence,.sl ob 0 l.length l.length] L fun r L'=>r=.int .i64 0/\(∃F',zt L' s F' (N+(opsR l).length+300) fence (d.puts l)/\Grown F F' L L')/\Keep F L L':=by
 have hlt:=h.lt
 have hok:∀o∈l,o.ok:=fun o h=>(ho o h).ok
 have hpos:=List.length_pos_iff.2 hne
 have e0:((l.length:Int)=0)=False:=eq_false (by omega)
 obtain ⟨lg,FL,c1,c2,c3,c4,c5,hs,hlog,hFL,hlg⟩:=h.log
 obtain ⟨_,_,_,_,_,hs',_⟩:=h.nums
 have hc1:c1=.int .i64 fence:=by
  rw [hs] at hs';simp at hs';exact hs'.2.1
 subst hc1
 clear hs'
 have ls:=zg hs
 refine xt3 (fn:=Tryz.f89) (rs:=[.tmp 6]) (c:=q89) hP fun ρ h0 h1 h2=>?_
 unfold q89
 simp only [h0,h1,h2,hs,go_sem,Nat.reduceEqDiff,reduceIte,Nat.reduceAdd,Nat.reduceLT]
 refine zh (z4n (E:=E.noPan) hP hob hl ho) ?_
 rintro r L1 ⟨rfl,rfl⟩
 simp only [h2,go_sem,Nat.reduceEqDiff,reduceIte]
 refine zh (zc4 (E:=E.noPan) hP hob hl hok hb) ?_
 rintro r L2 ⟨rfl,rfl⟩
 simp only [h2,e0,go_sem,Nat.reduceEqDiff,reduceIte]
 refine zh (zbk (E:=E.noPan) hP hob hl hok) ?_
 rintro r L3 ⟨rfl,rfl⟩
 simp only [h0,hs,go_sem,Nat.reduceEqDiff,reduceIte,Nat.reduceAdd,Nat.reduceLT]
 have hrb:zx (opsR l):=by
  unfold opsR
  refine (zH _).app ?_
  intro r hr
  obtain ⟨o,_,hr⟩:=List.mem_flatMap.1 hr
  unfold OpV.bytes at hr
  have ht:∀t,zx (txtR t):=fun t=>(zH _).app (Zh t)
  rcases List.mem_append.1 hr with hr | hr
  ·exact ht _ r hr
  ·split at hr
   ·simp at hr;exact ⟨_,hr⟩
   ·rcases List.mem_append.1 hr with hr | hr
    ·simp at hr;exact ⟨_,hr⟩
    ·exact ht _ r hr
 refine Zt (E:=E.noPan) (args':=[.int .u8 111,.isl (opsR l)]) rfl (z0m (E:=E.noPan) hP hrb (by simp [opsR,numR]) (by omega)) (fun _=>rfl) ?_
 simp only [go_sem,Nat.reduceEqDiff,reduceIte]
 refine zh (jA (E:=E.noPan) hP hlog (rs:=[.int .u8 111]::opsR l) (fun r hr=>by rcases List.mem_cons.1 hr with rfl | hr;exact ⟨_,rfl⟩;exact hrb r hr) (by simp) (by simp;omega) (by simp;omega)) ?_
 rintro r L4 ⟨⟨n,rfl⟩,⟨FL',hlog4,hg4⟩,hk4⟩
 simp only [h0,h2,go_sem,Nat.reduceEqDiff,reduceIte,Nat.reduceAdd,Nat.reduceLT]
 obtain ⟨F4,hS4,hG4⟩:=hlg L4 FL' (N+(opsR l).length+300) (hlog4.mono (by simp;omega)) hg4 hk4
 have hob4:=hk4.get hob fun h=>hF (hFL _ h)
 refine zh (z4p (E:=E.noPan) hP hob4 hl hne) ?_
 rintro r L5 ⟨rfl,rfl⟩
 simp only [go_sem,Nat.reduceEqDiff,reduceIte]
 refine zh (zha (E:=E.noPan) hP hS4 hg hN) ?_
 rintro r L6 ⟨rfl,⟨F6,hS6,hG6⟩,hK6⟩
 obtain ⟨lgp,keys6,mp6,sz6,cm6,hs6,hup⟩:=hS6.nums
 have ls6:=zg hs6
 simp only [h0,hs6,go_sem,Nat.reduceEqDiff,reduceIte,Nat.reduceAdd,Nat.reduceLT]
 have hKL:Keep F L3 L5:=hk4.mono fun t _ h=>hFL t h
 refine ⟨⟨F6,hup _ _,fun t ht=>?_⟩,?_⟩
 ·rcases hG6 t ht with h | ⟨h,h'⟩
  ·rcases hG4 t h with h | ⟨h,h'⟩
   ·exact .inl h
   ·right;rw [lls];have:=hK6.1;omega
  ·right;rw [lls];have:=hk4.1;omega
 ·refine Keep.set (hKL.trans hK6 fun t htl h=>?_) fun _=>hlt.2.1
  rcases hG4 t h with h | h
  ·exact h
  ·omega
theorem za0 (hP:E.P=Tryz.prog) {s N n:Nat} {F:Nat->Prop} {fence:Int} {d:KV} (h:zt L s F N fence d) (hf:fence<(n:Int)) (hn:n<=4503599627370496) (hN2:N+300<=1099511627776) :
  XT E 156 [.ptr s 0 0,.int .i64 n] L fun r L'=>r=.int .i64 0/\(∃F',zt L' s F' (N+300) n d/\Grown F F' L L')/\Keep F L L':=by
 have hlt:=h.lt
 have e0:((n:Int)<=fence)=False:=eq_false (by omega)
 have e1:((4503599627370496:Int)<(n:Int))=False:=eq_false (by omega)
 obtain ⟨lg,FL,c1,c2,c3,c4,c5,hs,hlog,hFL,hlg⟩:=h.log
 obtain ⟨_,_,_,_,_,hs',_⟩:=h.nums
 have hc1:c1=.int .i64 fence:=by
  rw [hs] at hs';simp at hs';exact hs'.2.1
 subst hc1
 clear hs'
 have ls:=zg hs
 refine xt2 (fn:=Tryz.f156) (rs:=[.tmp 4]) (c:=q156) hP fun ρ h0 h1=>?_
 unfold q156
 simp only [h0,h1,hs,e0,e1,go_sem,Nat.reduceEqDiff,reduceIte,Nat.reduceAdd,Nat.reduceLT]
 refine Zt (E:=E.noPan) (args':=[.int .u8 102,.int .i64 n]) rfl (z4T (E:=E.noPan) hP hn) (fun _=>rfl) ?_
 simp only [go_sem,Nat.reduceEqDiff,reduceIte]
 have hnl:=zF n
 have hns:=Za (n:=n) (k:=7) (by omega)
 refine zh (jA (E:=E.noPan) hP hlog (rs:=[.int .u8 102]::numR n) (fun r hr=>by rcases List.mem_cons.1 hr with rfl | hr;exact ⟨_,rfl⟩;exact zH n r hr) (by simp) (by simp;omega) (by simp;omega)) ?_
 rintro r L4 ⟨⟨n',rfl⟩,⟨FL',hlog4,hg4⟩,hk4⟩
 obtain ⟨F4,hS4,hG4⟩:=hlg L4 FL' (N+300) (hlog4.mono (by simp;omega)) hg4 hk4
 obtain ⟨lgp,keys6,mp6,sz6,cm6,hs6,hup⟩:=hS4.nums
 have ls6:=zg hs6
 simp only [h0,h1,hs6,ls6,go_sem,Nat.reduceEqDiff,reduceIte,Nat.reduceAdd,Nat.reduceLT,Nat.reduceLeDiff]
 simp only [List.set_set]
 refine ⟨⟨F4,hup _ _,fun t ht=>?_⟩,?_⟩
 ·rcases hG4 t ht with h | ⟨h,h'⟩
  ·exact .inl h
  ·right;rw [lls];omega
 ·exact Keep.set (hk4.mono fun t _ h=>hFL t h) fun _=>hlt.2.1
end
end Go.X.TryzW
end
section
open Go Go.X Go.Proofs
set_option maxRecDepth 100000
set_option maxHeartbeats 4000000
namespace Go.X.TryzW
def q20 : XC :=(sO [oO 4 (.mov oz),oI 5 0] (sO [oM 21 0,oM 22 1,oC 23 73 [.t 21,.t 22],oM 20 23,oX 24 0 20,oX 25 1 20,oM 6 24,oM 7 25] (.seq (sO [oM 26 7,oK 27 .neq 26 0] (cT 27 (sO [oM 28 7,oO 4 (.mov oz),oM 5 28] .ret) .skip)) (sO [oM 29 6,oC 30 74 [],oO 31 (.build [(.raw (.pointer none)),(.int .i64 0),.nsl,(.raw (.map none)),(.int .i64 0),(.int .i64 0)] [(0,(1,(.t 29))),(2,(3,(.t 30)))]),oO 32 (.box (.t 31)),oO 8 (.alloc [(.raw (.pointer none))]),oS 8 32] (sO [oO 9 (.alloc [.nsl,(.raw (.map none)),(.int .i64 0)])] (.seq (sO [oM 33 6,oC 34 75 [.t 33]] (.block 0 (.rngF (.t 34) 94 [35,36] (.ops [oM 11 36]) (.block 1 (.seq (sO [oM 37 11,oY 38 37,oK 39 .eql 38 0] (cT 39 (.exit 1) .skip)) (sO [oM 41 11,oO 42 (.slice 1 (.t 41) (some (oi 1)) none),oC 43 76 [.t 42],oM 40 43,oX 44 0 40,oX 45 1 40,oX 46 2 40,oM 12 44,oM 13 45,oM 14 46] (sO [oM 48 11,oO 49 (.slice 1 (.t 48) (some (oi 1)) none),oC 50 77 [.t 49],oM 47 50,oX 51 0 47,oX 52 1 47,oX 53 2 47,oM 15 51,oM 16 52,oM 17 53] (sO [oM 54 11,oO 55 (.idxS 1 (.t 54) (oi 0)),oL 56 55] (.block 2 (sO [oO 58 (.bin .eql (.t 56) (.c (.int .u8 111))),oM 57 58] (cT 57 (.ops [oL 59 8,oM 60 12,oC 61 78 [.t 59,.t 60]]) (sO [oO 63 (.bin .eql (.t 56) (.c (.int .u8 102))),oM 62 63] (cT 62 (.ops [oL 64 8,oM 65 15,oN 66 64,oF 67 1 66,oS 67 65]) (sO [oO 69 (.bin .eql (.t 56) (.c (.int .u8 98))),oM 68 69] (cT 68 (.ops [oC 70 74 [],oU (.store 3 (.t 9) (.t 70))]) (sO [oO 72 (.bin .eql (.t 56) (.c (.int .u8 112))),oM 71 72] (cT 71 (sO [oM 73 12,oY 74 73,oI 75 0] (.block 3 (.loop (sO [oB 76 .lss 75 74] (.seq (cT 76 .skip (.exit 3)) (.seq (.block 4 (sO [oO 77 (.idxS 3 (.t 73) (.t 75)),oO 78 (.loadN 3 (.t 77)),oO 19 (.alloc [(.str []),(.str []),(.bool false)]),oU (.store 3 (.t 19) (.t 78))] (.ops [oO 79 (.loadN 3 (.t 19)),oC 80 79 [.t 9,.t 79]]))) (.ops [oK 81 .add 75 1,oM 75 81]))))))) (sO [oO 83 (.bin .eql (.t 56) (.c (.int .u8 101))),oM 82 83] (cT 82 (.drawR [(oL 84 8,([],false)),(oL 85 8,([],true)),(oM 86 15,([],false)),(oO 87 (.loadN 3 (.t 9)),([],false)),(oQ 88 74 [],([],false)),(oN 89 84,([],false)),(oF 90 1 89,([],false)),(oS 90 86,([1],false)),(oN 91 85,([],false)),(oF 92 2 91,([],false)),(oU (.store 3 (.t 92) (.t 87)),([],false)),(oU (.store 3 (.t 9) (.t 88)),([],false))]) .skip))))))))))))))))))) (sO [oL 93 8,oM 4 93,oI 5 0] .ret)))))))
def q74 : XC :=(sO [oO 0 (.alloc [.nsl,(.raw (.map none)),(.int .i64 0)])] (sO [oO 1 (.ex .mmake []),oO 2 (.build [.nsl,(.raw (.map none)),(.int .i64 0)] [(1,(1,(.t 1)))]),oU (.store 3 (.t 0) (.t 2))] .ret))
def q75 : XC :=(sO [oO 1 (.box (.t 0)),oV 2 (.raw .nilFunc)] (sO [oO 3 (.mkfn (.func 142) [] [.t 1]),oM 2 3] .ret))
def q142 : XC :=(.seq (.drawE [oL 7 1,oN 8 7,oF 9 3 8,oL 10 9,oL 11 1,oN 12 11,oF 13 4 12,oL 14 13,oQ 15 143 [.t 14],oM 3 10,oM 4 15]) (sO [oM 16 4,oY 17 16,oI 18 0] (.block 0 (.loop (sO [oB 19 .lss 18 17] (.seq (cT 19 .skip (.exit 0)) (.seq (.block 1 (sO [oM 20 18,oO 21 (.idxS 1 (.t 16) (.t 18)),oL 22 21,oM 5 20,oM 6 22] (sO [oM 23 0,oM 24 3,oM 25 5,oB 26 .add 24 25,oM 27 6,oC 28 144 [.t 27],oO 29 (.call (.t 23) [.t 26,.t 28]),oO 30 (.un .not (.t 29))] (cT 30 .ret .skip)))) (.ops [oK 31 .add 18 1,oM 18 31]))))))))
def q143 : XC :=(sO [oV 2 .nsl] (.seq (sO [oM 3 0,oO 4 (.isNil 0 false (.t 3))] (cT 4 (sO [oV 2 .nsl] .ret) .skip)) (sO [oO 5 (.bslice 1 [.nsl] 0 []),oM 6 0,oO 7 (.append 1 24 (.t 5) (.t 6)),oM 2 7] .ret)))
section
variable {E:Env} {ρ:Rho} {L:List Blk} {K:IV->List Blk->Prop}
theorem z2H {sz by_ t n:Nat} {x:IV} {rows:List (List IV)} {KV:IV->List Blk->Prop} (hL:L[t]?=some (.cells sz rows)) (hn:rows.length=n) (hr:rowsOf L x=some []) (hk:KV (.sl t 0 n n) L):xop E (.append sz by_ (.c (.sl t 0 n n)) (.c x)) cev L KV:=by
 subst hn
 show ZA sz by_ (.sl t 0 _ _) x L KV
 unfold ZA
 simp only [hr,hL]
 refine ⟨(fun r hr=>nomatch hr),trivial,by omega,?_⟩
 rw [if_pos (by simp)]
 have e1:splice rows (0+rows.length) []=rows:=by simp [splice]
 rw [e1,Ji hL]
 exact hk
theorem z4s (hP:E.P=Tryz.prog):zI E 143 [.isl []] (.isl []):=by
 refine yu (n:=Tryz.f143.ntmps) (c:=q143) (t:=2) (by rw [hP];rfl) (by rw [hP];kernel_rfl) (by decide) (Nat.le_of_ble_eq_true rfl) ?_
 generalize hρ:entry _=ρ
 have h0:ρ 0=.isl []:=by rw [<-hρ];rfl
 clear hρ
 unfold q143
 simp only [h0,go_sem,Nat.reduceEqDiff,reduceIte]
 refine ⟨?_,fun _=>rfl⟩
 refine z2H (rows:=[]) rfl rfl rfl ?_
 simp only [go_sem,Nat.reduceEqDiff,reduceIte]
 rfl
theorem zaf (hP:E.P=Tryz.prog):XT E 74 [] L fun r L'=>∃b,r=.agg [.nsl,.mp (L++[b]).length,.int .i64 0]/\L'=L++[b]++[.map [] 0]:=by
 refine xtl' (n:=Tryz.f74.ntmps) (rs:=[.cellN 0 3]) (c:=q74) (by rw [hP];rfl) (by rw [hP];kernel_rfl) (by decide) (by decide) ?_
 generalize hρ:entry _=ρ
 clear hρ
 unfold q74
 simp (maxDischargeDepth:=12) only [Y4,Zw,ZO,go_sem,Nat.reduceEqDiff,reduceIte,Nat.reduceAdd,Nat.reduceLeDiff]
 refine ⟨rfl,.cells 3 [[.nsl,.mp (L++[Blk.cells 3 [[IV.nsl,IV.raw (Value.map none),IV.int .i64 0]]]).length,.int .i64 0]],by simp [je],?_⟩
 rw [List.append_assoc,List.set_append_right _ _ (Nat.le_refl _),Nat.sub_self]
 simp
theorem zcB (hP:E.P=Tryz.prog) {y b lg:Nat} {c0 c1 c2 c3 c5 c6:IV} (hb:L[b]?=some (.cells 1 [[.ptr lg 0 0]])) (hlg:L[lg]?=some (.cells 7 [[c0,c1,c2,c3,.nsl,c5,c6]])):XT E 142 [.yld y,.ptr b 0 0] L fun r L'=>r=.tup []/\L'=L:=by
 have lb:=zg hb
 have ll:=zg hlg
 refine xt2 (fn:=Tryz.f142) (rs:=[]) (c:=q142) hP fun ρ h0 h1=>?_
 unfold q142
 simp only [h1,hb,hlg,go_sem,Nat.reduceEqDiff,reduceIte,Nat.reduceAdd,Nat.reduceLT]
 refine Zt (E:=E.noPan) (args':=[.isl []]) rfl (z4s (E:=E.noPan) hP) (fun _=>rfl) ?_
 have l0:lenOf (.isl [])=some 0:=rfl
 simp only [zC l0,go_sem,Nat.reduceEqDiff,reduceIte]
 refine ZV ?_
 simp only [go_sem,Nat.reduceEqDiff,reduceIte,Int.reduceLT]
theorem zdk (hP:E.P=Tryz.prog) {lg:Nat}:XT E 75 [.ptr lg 0 0] L fun r L'=>r=.fn (.func 142) [] [.ptr L.length 0 0]/\L'=L++[.cells 1 [[.ptr lg 0 0]]]:=by
 refine xt1 (fn:=Tryz.f75) (rs:=[.tmp 2]) (c:=q75) hP fun ρ h0=>?_
 unfold q75
 simp only [h0,go_sem,Nat.reduceEqDiff,reduceIte]
theorem z7J (hP:E.P=Tryz.prog) {d m:Nat} {o st:Int} (hD:L[d]?=some (dskB m o st)) (hm:L[m]?=some (.map [] 0)):XT E 20 [.ptr d 0 0,.int .i64 0] L fun r L'=>
  ∃s,r=.tup [.ptr s 0 0,.int .i64 0]/\(∃F',zt L' s F' 0 0 []/\Grown (fun t=>t=d\/t=m) F' L L')/\L.length<=s/\Keep none' L L':=by
 have ld:=zg hD
 have lm:=zg hm
 refine xt2 (fn:=Tryz.f20) (rs:=[.tmp 4,.tmp 5]) (c:=q20) hP fun ρ h0 h1=>?_
 unfold q20
 simp (maxDischargeDepth:=12) only [h0,h1,go_sem,Nat.reduceEqDiff,reduceIte]
 refine zh (zco (E:=E.noPan) hP hD hm) ?_
 rintro r L1 ⟨lg,rfl,hlgL,hlg1,hk1⟩
 simp (maxDischargeDepth:=12) only [go_sem,Nat.reduceEqDiff,reduceIte,Nat.reduceAdd,Nat.reduceLT]
 refine zh (zaf (E:=E.noPan) hP) ?_
 rintro r L2 ⟨b,rfl,rfl⟩
 have lg1:=zg hlg1
 simp (maxDischargeDepth:=12) only [go_sem,Nat.reduceEqDiff,reduceIte,Nat.reduceAdd,Nat.reduceLeDiff]
 obtain ⟨s,hs⟩:∃s,(L1++[b]++[Blk.map [] 0]).length=s:=⟨_,rfl⟩
 obtain ⟨m',hm'⟩:∃m',(L1++[b]).length=m':=⟨_,rfl⟩
 rw [hs,hm']
 obtain ⟨L3,hL3⟩:∃L3,L1++[b]++[Blk.map [] 0]++[Blk.cells 6 [[.ptr lg 0 0,.int .i64 0,.nsl,.mp m',.int .i64 0,.int .i64 0]]]++[Blk.cells 1 [[.ptr s 0 0]]]++[Blk.cells 3 [[.nsl,.raw (Value.map none),.int .i64 0]]]=L3:=⟨_,rfl⟩
 have k13:Keep none' L1 L3:=by rw [<-hL3];(repeat' first | exact Keep.refl | apply Keep.app | apply Keep.set)<;>(intro hh;first | rfl | (exfalso;first | omega | (simp only [lla,lls,llc,lln] at hh;omega)))
 have hs3:L3[s]?=some (.cells 6 [[.ptr lg 0 0,.int .i64 0,.nsl,.mp m',.int .i64 0,.int .i64 0]]):=by rw [<-hL3,<-hs];simp (maxDischargeDepth:=12) only [go_sem]<;>rfl
 have hm3:L3[m']?=some (.map [] 0):=by rw [<-hL3,<-hm'];simp (maxDischargeDepth:=12) only [go_sem]<;>rfl
 obtain ⟨t8,ht8⟩:∃t8,(L1++[b]++[Blk.map [] 0]++[Blk.cells 6 [[IV.ptr lg 0 0,.int .i64 0,.nsl,.mp m',.int .i64 0,.int .i64 0]]]).length=t8:=⟨_,rfl⟩
 have h83:L3[t8]?=some (.cells 1 [[.ptr s 0 0]]):=by rw [<-hL3,<-ht8];simp (maxDischargeDepth:=12) only [go_sem]<;>rfl
 rw [ht8,hL3]
 have hlg3:=k13.get hlg1 fun h=>h
 have ls3:=zg hs3
 have l83:=zg h83
 have hsl:L1.length<=s:=by rw [<-hs];simp only [lla,llc,lln];omega
 have hml:L1.length<=m':=by rw [<-hm'];simp only [lla,llc,lln];omega
 have hsm:¬s=m':=by rw [<-hs,<-hm'];simp
 refine zh (zdk (E:=E.noPan) hP (lg:=lg)) ?_
 rintro r L4 ⟨rfl,rfl⟩
 simp (maxDischargeDepth:=12) only [go_sem]
 refine z4Z (gf:=142) (caps:=[.ptr L3.length 0 0]) (by simp (maxDischargeDepth:=12) only [go_sem,Nat.reduceEqDiff,reduceIte]) ?_
 intro r0 a1 a2 a3
 refine (zcB (E:=E.noPan) hP (lg:=lg) (b:=L3.length) (c0:=.ptr d 0 0) (c1:=.int .i64 0) (c2:=.nsl) (c3:=.int .i64 0) (c5:=.bool false) (c6:=.bool false) (by simp (maxDischargeDepth:=12) only [go_sem]<;>rfl) (by simp (maxDischargeDepth:=12) only [zg hlg3,hlg3,go_sem])).mono ?_
 rintro r L5 ⟨rfl,rfl⟩
 refine ⟨r0,by simp (maxDischargeDepth:=12) only [go_sem]<;>rfl,by rw [a1];decide,?_⟩
 rw [a2]
 have n8:((L3++[Blk.cells 1 [[IV.ptr lg 0 0]]]).length=t8)=False:=eq_false (by have:=zf h83;simp only [lla,llc,lln];omega)
 simp (maxDischargeDepth:=12) only [h83,l83,go_sem,Nat.reduceEqDiff,reduceIte]
 have k34:Keep none' L3 (L3++[Blk.cells 1 [[IV.ptr lg 0 0]]]++[Blk.dead]):=Keep.app (Keep.app Keep.refl)
 have k14:=k13.trans (F:=none') k34 fun _ _ h=>h
 have k04:=hk1.trans (F:=none') k14 fun _ _ h=>h
 have hll1:=zf hlg1
 have hdl:=zf hD
 have hml0:=zf hm
 have h01:=hk1.1
 have hs4:=zf hs3
 have hm4:=zf hm3
 have h34:L3.length<=(L3++[Blk.cells 1 [[IV.ptr lg 0 0]]]++[Blk.dead]).length:=k34.1
 have h14:L1.length<=(L3++[Blk.cells 1 [[IV.ptr lg 0 0]]]++[Blk.dead]).length:=k14.1
 refine ⟨s,rfl,⟨fun t=>t=s\/t=m'\/none' t\/(t=lg\/t=d\/t=m),⟨lg,m',fun t=>t=lg\/t=d\/t=m,none',.nsl,0,0,k34.get hs3 fun h=>h,⟨d,.inl ⟨m,o,st,k14.get hlg1 fun h=>h,k04.get hD fun h=>h,k04.get hm fun h=>h,rfl⟩⟩,by omega,by omega,
  ⟨[],0,k34.get hm3 fun h=>h,(fun e he=>nomatch he),fun k=>rfl⟩,.inl ⟨rfl,rfl,rfl⟩,fun t h=>h.elim,List.Pairwise.nil,rfl⟩,?_⟩,by omega,k04⟩
 rintro t (rfl | rfl | h | rfl | rfl | rfl)
 ·right;omega
 ·right;omega
 ·exact h.elim
 ·right;omega
 ·exact .inl (.inl rfl)
 ·exact .inl (.inr rfl)
end
end Go.X.TryzW
end
section
open Go Go.X Go.Proofs
set_option maxRecDepth 100000
set_option maxHeartbeats 4000000
namespace Go.X.TryzW
def q91 : XC :=(sO [oO 3 (.box (.t 0)),oO 4 (.box (.t 1)),oO 5 (.box (.t 2)),oV 6 (.raw .nilFunc)] (sO [oO 7 (.mkfn (.func 169) [] [.t 3,.t 4,.t 5]),oM 6 7] .ret))
def zbu : XC :=(sO [oM 54 7,oY 55 54,oI 56 0] (.block 2 (.loop (sO [oB 57 .lss 56 55] (.seq (cT 57 .skip (.exit 2)) (.seq (.block 3 (sO [oO 58 (.idxS 2 (.t 54) (.t 56)),oO 59 (.loadN 2 (.t 58)),oO 11 (.alloc [(.str []),(.str [])]),oU (.store 2 (.t 11) (.t 59))] (sO [oM 60 0,oF 61 0 11,oL 62 61,oF 63 1 11,oL 64 63,oO 65 (.call (.t 60) [.t 62,.t 64]),oO 66 (.un .not (.t 65))] (cT 66 .ret .skip)))) (.ops [oK 67 .add 56 1,oM 56 67])))))))
def q169 : XC :=(.seq (.drawE [oL 13 1,oN 14 13,oF 15 2 14,oF 16 0 15,oL 17 16,oL 18 2,oQ 19 151 [.t 17,.t 18],oM 12 19,oX 20 0 12,oX 21 1 12,oM 5 20,oM 6 21]) (sO [oV 7 .nsl] (.seq (sO [oL 22 1,oN 23 22,oF 24 2 23,oF 25 0 24,oL 26 25,oM 27 5,oO 28 (.slice 1 (.t 26) (some (.t 27)) none),oY 29 28,oI 30 0] (.block 0 (.loop (sO [oB 31 .lss 30 29] (.seq (cT 31 .skip (.exit 0)) (.seq (.block 1 (sO [oO 32 (.idxS 1 (.t 28) (.t 30)),oL 33 32,oM 9 33] (.seq (sO [oL 34 3,oO 35 (.bin .neq (.t 34) (.c (.str []))),oM 36 35,oG 37 36 true (.mov (.t 9)),oG 38 36 true (.load1 (.t 3)),oG 39 36 true (.bin .geq (.t 37) (.t 38)),oO 40 (.pick (.t 36) (.t 39) (.c (.bool false)))] (cT 40 (.exit 0) .skip)) (.ops [oM 41 7,oM 42 9,oL 43 1,oN 44 43,oF 45 2 44,oF 46 1 45,oL 47 46,oM 48 9,oO 49 (.ex (.mlook true (.str []) false) [.t 47,.t 48]),oO 50 (.build [(.str []),(.str [])] [(0,(1,(.t 42))),(1,(1,(.t 49)))]),oO 51 (.bslice 2 [(.str []),(.str [])] 1 [(0,(.t 50))]),oO 52 (.append 2 32 (.t 41) (.t 51)),oM 7 52])))) (.ops [oK 53 .add 30 1,oM 30 53]))))))) zbu)))
section
variable {E:Env} {ρ:Rho} {L:List Blk} {K:IV->List Blk->Prop}
theorem _root_.Go.X.KV.get_mem:∀(d:KV) (p:List UInt8 × List UInt8),d.sorted->p∈d->d.get p.1=some p.2
 | [],_,_,h=>nomatch h
 | q::r,p,hs,h=>by
  have hs':=List.pairwise_cons.1 hs
  unfold KV.get
  rcases List.mem_cons.1 h with rfl | h
  ·rw [if_pos rfl]
  ·have h1:=hs'.1 p h
   have hne:q.1≠p.1:=fun h2=>by rw [h2,jU] at h1;cases h1
   rw [if_neg hne]
   exact KV.get_mem r p hs'.2 h
def inTo (to:List UInt8) (k:List UInt8):Bool:=decide (to=[])||Op.bytesLess k to
def _root_.Go.X.KV.scan (d:KV) (fr to:List UInt8):KV:=(d.drop (d.rank fr)).takeWhile fun p=>inTo to p.1
def ZZ (d:KV):List (List IV):=d.map fun p=>[.str p.1,.str p.2]
theorem W9 (d:KV):(ZZ d).length=d.length:=by simp [ZZ]
def Ym (L0 L:List Blk) (v:IV) (d:KV):Prop:=(v=.nsl/\d=[])\/∃rb,v=.sl rb 0 d.length d.length/\L[rb]?=some (.cells 2 (ZZ d))/\L0.length<=rb/\d≠[]
theorem Ym.len {L0:List Blk} {v:IV} {d:KV} (h:Ym L0 L v d):lenOf v=some d.length:=by
 rcases h with ⟨rfl,rfl⟩ | ⟨rb,rfl,_⟩<;>rfl
theorem yL {P:(List UInt8 × List UInt8)->Bool}:∀(l:KV) (j:Nat),(∀(i:Nat) (p:List UInt8 × List UInt8),i<j->l[i]?=some p->P p=true)->(∀p,l[j]?=some p->P p=false)->j<=l.length->l.takeWhile P=l.take j
 | [],j,_,_,h=>by simp
 | p::r,0,_,h,_=>by
  have:=h p rfl
  simp [List.takeWhile,this]
 | p::r,j+1,h1,h2,h3=>by
  have hp:=h1 0 p (by omega) rfl
  rw [List.takeWhile_cons,if_pos hp,List.take_succ_cons,yL r j (fun i q hi hq=>h1 (i+1) q (by omega) (by simpa using hq)) (fun q hq=>h2 q (by simpa using hq)) (by simpa using h3)]
@[go_sem] theorem zj6 {a b:List UInt8} {KV':IV->List Blk->Prop}:xop E (.bin .geq (.c (.str a)) (.c (.str b))) cev L KV'=KV' (.bool (!Op.bytesLess a b)) L:=nr rfl
@[go_sem] theorem zfk {m:Nat} {k:IntKind} {KV':IV->List Blk->Prop}:xop E (.slice m (.c .nsl) (some (.c (.int k 0))) none) cev L KV'=KV' .nsl L:=by
 simp [xop,zU,bnd]
theorem z3y {L1:List Blk} {v:IV} {ps:KV} {p:List UInt8 × List UInt8} {KV':IV->List Blk->Prop} (h:Ym L L1 v ps) (hk:Keep none' L L1) (hN:ps.length<=1000000) (hK:∀(w:IV) (M:List Blk),Keep none' L M->Ym L M w (ps++[p])->KV' w M) :
  xop E (.append 2 32 (.c v) (.c (.sl L1.length 0 1 1))) cev (L1++[.cells 2 [[.str p.1,.str p.2]]]) KV':=by
 have hrc:yj 2 [[IV.str p.1,IV.str p.2]]:=fun r hr=>by simp at hr;subst hr;exact ⟨rfl,rfl⟩
 have hx:rowsOf (L1++[Blk.cells 2 [[IV.str p.1,IV.str p.2]]]) (.sl L1.length 0 1 1)=some [[.str p.1,.str p.2]]:=Zz (sz:=2) (by simp) rfl
 have k2:Keep none' L (L1++[Blk.cells 2 [[IV.str p.1,IV.str p.2]]]):=Keep.app hk
 rcases h with ⟨rfl,rfl⟩ | ⟨rb,rfl,hrb,hge,hne⟩
 ·refine YM hx hrc (by simp) (by simp) (hK _ _ (Keep.app k2) (.inr ⟨_,rfl,?_,k2.1,by simp⟩))
  simp [ZZ]
 ·refine Yg (yM hrb) (W9 ps) hx hrc (by simp) (by simp;omega) (hK _ _ (Keep.app (Keep.set k2 fun h=>by omega)) (.inr ⟨(L1++[Blk.cells 2 [[IV.str p.1,IV.str p.2]]]).length,by simp,?_,k2.1,by simp⟩))
  have e1:((L1++[Blk.cells 2 [[IV.str p.1,IV.str p.2]]]).set rb .dead).length=(L1++[Blk.cells 2 [[IV.str p.1,IV.str p.2]]]).length:=lls
  rw [<-e1,List.getElem?_append_right (Nat.le_refl _),Nat.sub_self]
  simp [ZZ]
theorem z9z (hP:E.P=Tryz.prog) {b1 b2 b3 s N:Nat} {y:IV} {F:Nat->Prop} {fence:Int} {d:KV} {fr to:List UInt8} (hb1:L[b1]?=some (.cells 1 [[.ptr s 0 0]])) (hb2:L[b2]?=some (.cells 1 [[.str fr]])) (hb3:L[b3]?=some (.cells 1 [[.str to]])) (h:zt L s F N fence d) (hN:d.length<=900000)
  {KX:XE->Rho->List Blk->Prop} (hy:ρ 0=y) (h1:ρ 1=.ptr b1 0 0) (h2:ρ 2=.ptr b2 0 0) (h3:ρ 3=.ptr b3 0 0) (hK:∀(ρ':Rho) (L':List Blk),ρ' 0=y->Keep none' L L'->Ym L L' (ρ' 7) (d.scan fr to)->xrun E zbu ρ' L' KX):xrun E q169 ρ L KX:=by
 obtain ⟨lg,m,FL,FK,keys,sz,cm,hs,hlog,hFs,hFm,⟨es,c,hm,hst,hmv⟩,hkeys,hKL,hsrt,hFe⟩:=id h
 have lb1:=zg hb1
 have lb2:=zg hb2
 have lb3:=zg hb3
 have ls:=zg hs
 have lm:=zg hm
 unfold q169
 simp only [h1,h2,hb1,hb2,hs,go_sem,Nat.reduceEqDiff,reduceIte,Nat.reduceAdd,Nat.reduceLT]
 refine jB (E:=E) hP hkeys hsrt hN ?_
 simp only [h1,hb1,hs,go_sem,Nat.reduceEqDiff,reduceIte,Nat.reduceAdd,Nat.reduceLT]
 rcases hkeys with ⟨rfl,rfl,_⟩ | ⟨kb,rfl,hkb,hdn,_⟩
 ·simp only [KV.rank,go_sem,Nat.reduceEqDiff,reduceIte,Nat.reduceAdd]
  refine ZV ?_
  simp only [go_sem,Nat.reduceEqDiff,reduceIte,Int.reduceLT]
  exact hK _ _ (by simp only [hy,go_sem,Nat.reduceEqDiff,reduceIte]) Keep.refl (.inl ⟨by simp only [go_sem,Nat.reduceEqDiff,reduceIte],rfl⟩)
 ·have hkl:d.keys.length=d.length:=by simp [KV.keys]
  have hrk:=d.rank_le fr
  have lkb:=zg hkb
  have e0:((0:Int)<=(d.rank fr:Int))=True:=eq_true (by omega)
  have e1:(d.rank fr<=d.keys.length)=True:=eq_true (by omega)
  rw [hkl] at *
  simp only [hkb,szOf,e0,e1,Int.toNat_natCast,Nat.le_refl,Nat.zero_add,go_sem,Nat.reduceEqDiff,reduceIte,Nat.reduceAdd]
  have hdk:(d.drop (d.rank fr)).length=d.length - d.rank fr:=by simp
  refine zT (fun n' ρ L1=>∃j:Nat,j<=d.length - d.rank fr/\n'=d.length - d.rank fr - j/\Keep none' L L1/\ρ 0=y/\ρ 1=.ptr b1 0 0/\ρ 3=.ptr b3 0 0/\ρ 28=.sl kb (d.rank fr) (d.length - d.rank fr) (d.length - d.rank fr)/\ρ 29=.int .i64 (d.length - d.rank fr:Nat)/\ρ 30=.int .i64 j/\
   Ym L L1 (ρ 7) ((d.drop (d.rank fr)).take j)/\∀(q:Nat) (p:List UInt8 × List UInt8),q<j->(d.drop (d.rank fr))[q]?=some p->inTo to p.1=true)
   ⟨0,Nat.zero_le _,rfl,Keep.refl,by simp only [hy,go_sem,Nat.reduceEqDiff,reduceIte],by simp only [h1,go_sem,Nat.reduceEqDiff,reduceIte],by simp only [h3,go_sem,Nat.reduceEqDiff,reduceIte],by simp only [go_sem,Nat.reduceEqDiff,reduceIte],by simp only [go_sem,Nat.reduceEqDiff,reduceIte]<;>rfl,by simp only [go_sem,Nat.reduceEqDiff,reduceIte]<;>rfl,.inl ⟨by simp only [go_sem,Nat.reduceEqDiff,reduceIte],rfl⟩,fun q p hq=>by omega⟩ ?_
  clear hy h1 h2 h3
  rintro n' ρ L1 ⟨j,hj,rfl,hk1,hy,h1,h3,h28,h29,h30,h7,hto⟩
  have hkb1:=hk1.get hkb fun h=>h
  have hb11:=hk1.get hb1 fun h=>h
  have hb31:=hk1.get hb3 fun h=>h
  have hs1:=hk1.get hs fun h=>h
  have hm1:=hk1.get hm fun h=>h
  have lkb1:=zg hkb1
  have lb11:=zg hb11
  have lb31:=zg hb31
  have ls1:=zg hs1
  have lm1:=zg hm1
  by_cases hc:j<d.length - d.rank fr
  ·have f1:((j:Int)<((d.length - d.rank fr:Nat):Int))=True:=eq_true (by omega)
   have f0:((0:Int)<=(j:Int))=True:=eq_true (by omega)
   obtain ⟨p,hp⟩:∃p,(d.drop (d.rank fr))[j]?=some p:=⟨_,List.getElem?_eq_getElem (by omega)⟩
   have hp':d[d.rank fr+j]?=some p:=by rw [List.getElem?_drop] at hp;exact hp
   have hkr:(keyR d.keys)[d.rank fr+j]?=some [.str p.1]:=by simp [keyR,KV.keys,hp']
   have hkd:(keyR d.keys).getD (d.rank fr+j) []=[.str p.1]:=by rw [List.getD_eq_getElem?_getD,hkr];rfl
   have hkl2:(d.rank fr+j<(keyR d.keys).length)=True:=eq_true (zf hkr)
   have hpm:p∈d:=List.mem_of_getElem? hp'
   have hg:=hmv p.1
   rw [d.get_mem p hsrt hpm] at hg
   obtain ⟨i,b,hf,hi⟩:=z1P hst hg 0
   rw [Nat.zero_add] at hf
   have hgd:es.getD i default=(.str p.1,.str p.2,b):=by rw [List.getD_eq_getElem?_getD,hi];rfl
   have hw:IntKind.i64.wrap ((j:Int)+1)=((j+1:Nat):Int):=by rw [wrap64 (by omega) (by omega)];rfl
   cases hin:inTo to p.1 with
   | false=>
    have hto0:¬to=[]:=fun h=>by simp [inTo,h] at hin
    have hlt0:Op.bytesLess p.1 to=false:=by
     simp only [inTo,hto0,decide_false,Bool.false_or] at hin
     exact hin
    have f2:(to=[])=False:=eq_false hto0
    simp only [h3,h28,h29,h30,hkb1,hb31,szOf,f0,f1,f2,hkd,hkl2,hlt0,Int.toNat_natCast,Nat.zero_add,go_sem,Nat.reduceEqDiff,reduceIte]
    refine hK _ _ (by simp only [hy,go_sem,Nat.reduceEqDiff,reduceIte]) hk1 ?_
    have e5:d.scan fr to=(d.drop (d.rank fr)).take j:=yL _ j hto (fun p' hp2=>by rw [hp] at hp2;cases hp2;exact hin) (by omega)
    rw [e5]
    simp only [go_sem,Nat.reduceEqDiff,reduceIte]
    exact h7
   | true=>
    have ht:(d.drop (d.rank fr)).take (j+1)=(d.drop (d.rank fr)).take j++[p]:=by rw [List.take_add_one,hp];rfl
    have htl:((d.drop (d.rank fr)).take j).length=j:=by simp;omega
    have hto':∀(q:Nat) (p':List UInt8 × List UInt8),q<j+1->(d.drop (d.rank fr))[q]?=some p'->inTo to p'.1=true:=fun q p' hq hp2=>by
     by_cases hqj:q<j
     ·exact hto q p' hqj hp2
     ·have:q=j:=by omega
      subst this
      rw [hp] at hp2;cases hp2;exact hin
    by_cases hto0:to=[]
    ·have f2:(to=[])=True:=eq_true hto0
     simp only [h1,h3,h28,h29,h30,hkb1,hb11,hb31,hs1,hm1,szOf,f0,f1,f2,hkd,hkl2,hf,hgd,mapB,WH,YT,isKey,Int.toNat_natCast,Nat.zero_add,go_sem,Nat.reduceEqDiff,reduceIte,Nat.reduceAdd,Nat.reduceLT,Nat.reduceLeDiff]
     refine z3y (p:=p) h7 hk1 (by omega) ?_
     intro w M hkM hpw
     simp only [hy,h1,h3,h28,h29,h30,hw,go_sem,Nat.reduceEqDiff,reduceIte,Nat.reduceAdd]
     exact ⟨d.length - d.rank fr - (j+1),by omega,j+1,by omega,rfl,hkM,rfl,by rw [ht];exact hpw,hto'⟩
    ·have f2:(to=[])=False:=eq_false hto0
     have hlt0:Op.bytesLess p.1 to=true:=by
      simp only [inTo,hto0,decide_false,Bool.false_or] at hin
      exact hin
     simp only [h1,h3,h28,h29,h30,hkb1,hb11,hb31,hs1,hm1,szOf,f0,f1,f2,hlt0,hkd,hkl2,hf,hgd,mapB,WH,YT,isKey,Int.toNat_natCast,Nat.zero_add,go_sem,Nat.reduceEqDiff,reduceIte,Nat.reduceAdd,Nat.reduceLT,Nat.reduceLeDiff]
     refine z3y (p:=p) h7 hk1 (by omega) ?_
     intro w M hkM hpw
     simp only [hy,h1,h3,h28,h29,h30,hw,go_sem,Nat.reduceEqDiff,reduceIte,Nat.reduceAdd]
     exact ⟨d.length - d.rank fr - (j+1),by omega,j+1,by omega,rfl,hkM,rfl,by rw [ht];exact hpw,hto'⟩
  ·have f1:((j:Int)<((d.length - d.rank fr:Nat):Int))=False:=eq_false (by omega)
   simp only [h29,h30,f1,go_sem,reduceIte]
   refine hK _ _ (by simp only [hy,go_sem,Nat.reduceEqDiff,reduceIte]) hk1 ?_
   have hje:j=d.length - d.rank fr:=by omega
   have e5:d.scan fr to=(d.drop (d.rank fr)).take j:=yL _ j hto (fun p' hp2=>by rw [List.getElem?_eq_none (by omega)] at hp2;cases hp2) (by omega)
   rw [e5]
   simp only [go_sem,Nat.reduceEqDiff,reduceIte]
   exact h7
end
end Go.X.TryzW
end
section
open Go Go.X Go.Proofs
set_option maxRecDepth 100000
set_option maxHeartbeats 4000000
namespace Go.X.TryzW
section
variable {E:Env} {ρ:Rho} {L:List Blk} {K:IV->List Blk->Prop}
theorem z3v (hP:E.P=Tryz.prog) {yb b1 b2 b3 s N:Nat} {F:Nat->Prop} {fence:Int} {d:KV} {fr to:List UInt8} (hb1:L[b1]?=some (.cells 1 [[.ptr s 0 0]])) (hb2:L[b2]?=some (.cells 1 [[.str fr]])) (hb3:L[b3]?=some (.cells 1 [[.str to]])) (h:zt L s F N fence d) (hN:d.length<=900000)
  {Inv:Nat->(Nat->Prop)->List Blk->Prop} {Stop:List Blk->Prop} {G0:Nat->Prop} (hI:Inv 0 G0 L) (hst:∀(i:Nat) (G H:Nat->Prop) (L1 L2:List Blk),Inv i G L1->Keep H L1 L2->(∀t,G t->¬H t)->Inv i G L2) (hlt:∀(i:Nat) (G:Nat->Prop) (L1:List Blk),Inv i G L1->∀t,G t->t<L1.length)
  (hstep:∀(i:Nat) (G:Nat->Prop) (L1:List Blk) (p:List UInt8 × List UInt8),(d.scan fr to)[i]?=some p->Inv i G L1->Keep G0 L L1->Grown G0 G L L1->E.yl yb [.str p.1,.str p.2] L1 fun r L2=>(r=.bool true/\∃G',Inv (i+1) G' L2/\Grown G G' L1 L2/\Keep G L1 L2)\/(r=.bool false/\Stop L2)) :
  XT E 169 [.yld yb,.ptr b1 0 0,.ptr b2 0 0,.ptr b3 0 0] L fun _ L'=>(∃G',Inv (d.scan fr to).length G' L'/\Grown G0 G' L L'/\Keep G0 L L')\/Stop L':=by
 refine xt4 (fn:=Tryz.f169) (rs:=[]) (c:=q169) hP fun ρ h0 h1 h2 h3=>?_
 refine z9z (E:=E.noPan) hP hb1 hb2 hb3 h hN h0 h1 h2 h3 ?_
 intro ρ' L1 h0' hk1 h7
 have hsl:(d.scan fr to).length<=900000:=Nat.le_trans (Nat.le_trans (List.takeWhile_sublist _).length_le (by simp)) hN
 generalize d.scan fr to=ps at *
 clear h0 h1 h2 h3
 unfold zbu
 rcases h7 with ⟨h7,rfl⟩ | ⟨rb,h7,hrb,hge,hne⟩
 ·simp only [h7,go_sem,reduceIte]
  refine ZV ?_
  simp only [go_sem,Nat.reduceEqDiff,reduceIte,Int.reduceLT]
  exact .inl ⟨G0,hst 0 G0 none' L L1 hI hk1 fun _ _ h=>h,Grown.refl,hk1.mono fun _ _ h=>h.elim⟩
 ·simp only [h7,go_sem,reduceIte]
  have hpl:=W9 ps
  refine zT (fun n ρ L2=>∃j:Nat,j<=ps.length/\n=ps.length - j/\ρ 0=.yld yb/\ρ 54=.sl rb 0 ps.length ps.length/\ρ 55=.int .i64 ps.length/\ρ 56=.int .i64 j/\L2[rb]?=some (.cells 2 (ZZ ps))/\∃G,Inv j G L2/\Grown G0 G L L2/\Keep G0 L L2/\¬G rb)
   ⟨0,Nat.zero_le _,rfl,by simp only [h0',go_sem,Nat.reduceEqDiff,reduceIte],by simp only [go_sem,Nat.reduceEqDiff,reduceIte],by simp only [go_sem,Nat.reduceEqDiff,reduceIte],by simp only [go_sem,Nat.reduceEqDiff,reduceIte]<;>rfl,hrb,G0,hst 0 G0 none' L L1 hI hk1 (fun _ _ h=>h),Grown.refl,hk1.mono (fun _ _ h=>h.elim),fun h=>by have:=hlt 0 G0 L hI rb h;omega⟩ ?_
  clear h0' h7 hrb hk1
  rintro n ρ L2 ⟨j,hj,rfl,h0,h54,h55,h56,hrb2,G,hIj,hGj,hKj,hGrb⟩
  have lrb2:=zg hrb2
  by_cases hc:j<ps.length
  ·have f1:((j:Int)<(ps.length:Int))=True:=eq_true (by omega)
   have f0:((0:Int)<=(j:Int))=True:=eq_true (by omega)
   obtain ⟨p,hp⟩:∃p,ps[j]?=some p:=⟨_,List.getElem?_eq_getElem hc⟩
   have hpr:(ZZ ps)[j]?=some [.str p.1,.str p.2]:=by simp [ZZ,hp]
   have hpd:(ZZ ps).getD j []=[.str p.1,.str p.2]:=by rw [List.getD_eq_getElem?_getD,hpr];rfl
   have hpj:(j<(ZZ ps).length)=True:=eq_true (by omega)
   have hw:IntKind.i64.wrap ((j:Int)+1)=((j+1:Nat):Int):=by rw [wrap64 (by omega) (by omega)];rfl
   simp only [h0,h54,h55,h56,hrb2,szOf,f0,f1,hpd,hpj,Int.toNat_natCast,Nat.zero_add,go_sem,Nat.reduceEqDiff,reduceIte,Nat.reduceAdd,Nat.reduceLT]
   have k23:Keep none' L2 (L2++[Blk.cells 2 [[.str p.1,.str p.2]]]):=Keep.app Keep.refl
   have hI3:=hst j G none' _ _ hIj k23 fun _ _ h=>h
   have hK3:Keep G0 L (L2++[Blk.cells 2 [[.str p.1,.str p.2]]]):=hKj.trans k23 fun _ _ h=>h.elim
   have hG3:Grown G0 G L (L2++[Blk.cells 2 [[.str p.1,.str p.2]]]):=fun t ht=>(hGj t ht).imp id fun h=>⟨h.1,by simp;omega⟩
   refine E.hylm _ _ _ _ _ ?_ (hstep j G _ p hp hI3 hK3 hG3)
   rintro r L4 (⟨rfl,G',hI4,hG4,hK4⟩ | ⟨rfl,hS⟩)
   ·have hrb4:=hK4.get (k23.get hrb2 fun h=>h) hGrb
    simp only [h0,h54,h55,h56,hw,go_sem,Nat.reduceEqDiff,reduceIte]
    refine ⟨ps.length - (j+1),by omega,j+1,by omega,rfl,rfl,hrb4,G',hI4,fun t ht=>?_,?_,?_⟩
    ·rcases hG4 t ht with h | h
     ·rcases hGj t h with h | h
      ·exact .inl h
      ·right;have:=hK4.1;have:=k23.1;omega
     ·right;have:=hKj.1;have:=k23.1;omega
    ·refine hK3.trans hK4 fun t htl h=>?_
     rcases hGj t h with h | h
     ·exact h
     ·omega
    ·exact hG4.out (by have:=zf hrb2;simp;omega) hGrb
   ·simp only [go_sem,Nat.reduceEqDiff,reduceIte]
    exact .inr hS
  ·have f1:((j:Int)<(ps.length:Int))=False:=eq_false (by omega)
   simp only [h55,h56,f1,go_sem,reduceIte]
   have hje:j=ps.length:=by omega
   subst hje
   exact .inl ⟨G,hIj,hGj,hKj⟩
theorem z9c (hP:E.P=Tryz.prog) {s:Nat} {fr to:List UInt8}:XT E 91 [.ptr s 0 0,.str fr,.str to] L fun r L'=>r=.fn (.func 169) [] [.ptr L.length 0 0,.ptr (L.length+1) 0 0,.ptr (L.length+2) 0 0]/\L'=L++[.cells 1 [[.ptr s 0 0]],.cells 1 [[.str fr]],.cells 1 [[.str to]]]:=by
 refine xt3 (fn:=Tryz.f91) (rs:=[.tmp 6]) (c:=q91) hP fun ρ h0 h1 h2=>?_
 unfold q91
 simp only [h0,h1,h2,go_sem,Nat.reduceEqDiff,reduceIte]
 simp
end
end Go.X.TryzW
end
section
open Go Go.X Go.Proofs
set_option maxRecDepth 100000
set_option maxHeartbeats 4000000
namespace Go.X.TryzW
def q92 : XC :=(sO [oV 4 (.bool false)] (sO [oM 5 0,oM 6 1,oC 7 170 [.t 5,.t 6],oM 4 7] .ret))
def q170 : XC :=(sO [oV 4 (.bool false)] (sO [oM 5 0,oO 6 (.lenS (.t 5)),oM 7 1,oO 8 (.lenS (.t 7)),oB 9 .geq 6 8,oM 10 9,oG 11 10 true (.mov (.t 0)),oG 12 10 true (.mov (.t 1)),oG 13 10 true (.lenS (.t 12)),oG 14 10 true (.sliceS (.t 11) none (some (.t 13))),oG 15 10 true (.mov (.t 1)),oG 16 10 true (.bin .eql (.t 14) (.t 15)),oO 17 (.pick (.t 10) (.t 16) (.c (.bool false))),oM 4 17] .ret))
def q33a : XC :=(sO [oM 8 13] (.ops [oM 9 14]))
def q33b : XC :=(.block 1 (.seq (sO [oL 15 7,oY 16 15,oL 17 5,oB 18 .geq 16 17,oM 19 18,oG 20 19 false (.mov (.t 8)),oG 21 19 false (.load1 (.t 4)),oG 22 19 false (.call (.f 92) [.t 20,.t 21]),oG 23 19 false (.un .not (.t 22)),oO 24 (.pick (.t 19) (.c (.bool true)) (.t 23))] (cT 24 (.exit 0) .skip)) (.ops [oL 25 7,oM 26 8,oM 27 9,oO 28 (.build [(.str []),(.str [])] [(0,(1,(.t 26))),(1,(1,(.t 27)))]),oO 29 (.bslice 2 [(.str []),(.str [])] 1 [(0,(.t 28))]),oO 30 (.append 2 32 (.t 25) (.t 29)),oS 7 30])))
def q33 : XC :=(sO [oO 4 (.box (.t 1)),oO 5 (.box (.t 2)),oV 6 .nsl] (sO [oO 7 (.alloc [.nsl])] (.seq (sO [oM 10 0,oL 11 4,oO 12 (.call (.f 91) [.t 10,.t 11,(.c (.str []))])] (.block 0 (.rngF (.t 12) 32 [13,14] q33a q33b))) (sO [oL 31 7,oM 6 31] .ret))))
section
variable {E:Env} {ρ:Rho} {L:List Blk} {K:IV->List Blk->Prop}
theorem z6m (hP:E.P=Tryz.prog) (a b:List UInt8) (ha:a.length<=1099511627776) (hb:b.length<=1099511627776):zI E 170 [.str a,.str b] (.bool (decide (b.length<=a.length/\a.take b.length=b))):=by
 refine yu (n:=Tryz.f170.ntmps) (c:=q170) (t:=4) (by rw [hP];rfl) (by rw [hP];kernel_rfl) (by decide) (Nat.le_of_ble_eq_true rfl) ?_
 generalize hρ:entry _=ρ
 have h0:ρ 0=.str a:=by rw [<-hρ];rfl
 have h1:ρ 1=.str b:=by rw [<-hρ];rfl
 clear hρ
 unfold q170
 by_cases hl:b.length<=a.length
 ·have f1:((b.length:Int)<=(a.length:Int))=True:=eq_true (by omega)
  simp only [h0,h1,f1,go_sem,Nat.reduceEqDiff,reduceIte]
  refine ⟨hl,?_⟩
  rw [Yh rfl]
  simp [hl]
 ·have f1:((b.length:Int)<=(a.length:Int))=False:=eq_false (by omega)
  simp only [h0,h1,f1,go_sem,Nat.reduceEqDiff,reduceIte]
  rw [Yh rfl]
  simp [hl]
def pfx (k p:List UInt8):Bool:=decide (p.length<=k.length/\k.take p.length=p)
theorem zaq (hP:E.P=Tryz.prog) (a b:List UInt8) (ha:a.length<=1099511627776) (hb:b.length<=1099511627776):zI E 92 [.str a,.str b] (.bool (pfx a b)):=by
 refine yu (n:=Tryz.f92.ntmps) (c:=q92) (t:=4) (by rw [hP];rfl) (by rw [hP];kernel_rfl) (by decide) (Nat.le_of_ble_eq_true rfl) ?_
 generalize hρ:entry _=ρ
 have h0:ρ 0=.str a:=by rw [<-hρ];rfl
 have h1:ρ 1=.str b:=by rw [<-hρ];rfl
 clear hρ
 unfold q92
 simp only [h0,h1,go_sem,Nat.reduceEqDiff,reduceIte]
 refine zq (args':=[.str a,.str b]) rfl (z6m (E:=E.noPan) hP a b ha hb) rfl ?_
 simp only [go_sem,Nat.reduceEqDiff,reduceIte]
 rfl
def _root_.Go.X.KV.list (d:KV) (p:List UInt8):KV:=(d.scan p []).takeWhile fun q=>pfx q.1 p
theorem yS {l:List IV} {p n:Nat} {v:IV} (h:p<l.length):y9 (l.set p v) n=if n=p then v else y9 l n:=by
 unfold y9
 rw [List.getD_eq_getElem?_getD,List.getD_eq_getElem?_getD,List.getElem?_set]
 by_cases hn:p=n
 ·subst hn;rw [if_pos rfl,if_pos h,if_pos rfl];rfl
 ·rw [if_neg hn,if_neg (Ne.symm hn)]
theorem z3A {N n:Nat} (h:n<N):y9 ((List.range N).map ρ) n=ρ n:=by
 unfold y9
 rw [List.getD_eq_getElem?_getD,List.getElem?_map,List.getElem?_range h]
 rfl
def LInv (L0:List Blk) (yb t4 t5 t7:Nat) (lp:Blk) (pre:List UInt8) (ps:KV) (i:Nat) (G:Nat->Prop) (L1:List Blk):Prop:=∃lv,L1[yb]?=some lp/\L1[t4]?=some (.cells 1 [[.str pre]])/\L1[t5]?=some (.cells 1 [[.int .i64 2147483648]])/\L1[t7]?=some (.cells 1 [[lv]])/\Ym L0 L1 lv (ps.take i)/\
 (∀(j:Nat) (p:List UInt8 × List UInt8),j<i->ps[j]?=some p->pfx p.1 pre=true)/\G=fun t=>t=yb\/t=t4\/t=t5\/t=t7\/∃n,lv=.sl t 0 n n
def zh3 (L0:List Blk) (yb t4 t5 t7:Nat) (r0:Loop) (l:List IV) (pre:List UInt8) (ps:KV) (L1:List Blk):Prop:=∃lv,L1[yb]?=some (.lp { r0 with state:=.done,pending:=some (.exit 0) } l)/\L1[t7]?=some (.cells 1 [[lv]])/\Ym L0 L1 lv (ps.takeWhile fun q=>pfx q.1 pre)/\Keep (fun t=>t=yb\/t=t4\/t=t5\/t=t7) L0 L1
theorem z0L {c:XC} {KX:XE->Rho->List Blk->Prop} (F:Rho->Prop) (h:F ρ) (hk:∀ρ',F ρ'->xrun E c ρ' L KX):xrun E c ρ L KX:=hk ρ h
theorem z6X {L0 L1:List Blk} {v:IV} {ps:KV} {p:List UInt8 × List UInt8} {KV':IV->List Blk->Prop} (h:Ym L0 L1 v ps) (hl:L0.length<=L1.length) (hN:ps.length<=1000000) (hK:∀(rb:Nat) (M:List Blk),Keep (fun t=>∃n,v=.sl t 0 n n) L1 M->M[rb]?=some (.cells 2 (ZZ (ps++[p])))->L1.length<=rb->KV' (.sl rb 0 (ps.length+1) (ps.length+1)) M) :
  xop E (.append 2 32 (.c v) (.c (.sl L1.length 0 1 1))) cev (L1++[.cells 2 [[.str p.1,.str p.2]]]) KV':=by
 have hrc:yj 2 [[IV.str p.1,IV.str p.2]]:=fun r hr=>by simp at hr;subst hr;exact ⟨rfl,rfl⟩
 have hx:rowsOf (L1++[Blk.cells 2 [[IV.str p.1,IV.str p.2]]]) (.sl L1.length 0 1 1)=some [[.str p.1,.str p.2]]:=Zz (sz:=2) (by simp) rfl
 rcases h with ⟨rfl,rfl⟩ | ⟨rb,rfl,hrb,hge,hne⟩
 ·refine YM hx hrc (by simp) (by simp) (hK _ _ (Keep.app (Keep.app Keep.refl)) ?_ (by simp))
  simp [ZZ]
 ·refine Yg (yM hrb) (W9 ps) hx hrc (by simp) (by simp;omega) (hK (L1++[Blk.cells 2 [[IV.str p.1,IV.str p.2]]]).length _ (Keep.app (Keep.set (Keep.app Keep.refl) fun _=>⟨_,rfl⟩)) ?_ (by simp))
  have e1:((L1++[Blk.cells 2 [[IV.str p.1,IV.str p.2]]]).set rb .dead).length=(L1++[Blk.cells 2 [[IV.str p.1,IV.str p.2]]]).length:=lls
  rw [<-e1,List.getElem?_append_right (Nat.le_refl _),Nat.sub_self]
  simp [ZZ]
theorem zaD (hP:E.P=Tryz.prog) {s N:Nat} {F:Nat->Prop} {fence:Int} {d:KV} {pre:List UInt8} (h:zt L s F N fence d) (hN:d.length<=900000) (hpl:pre.length<=1000) (hkl:∀p∈d,p.1.length<=1000) :
  XT E 33 [.ptr s 0 0,.str pre,.int .i64 2147483648] L fun r L'=>Ym L L' r (d.list pre)/\Keep none' L L':=by
 refine xt3 (fn:=Tryz.f33) (rs:=[.tmp 6]) (c:=q33) hP fun ρ h0 h1 h2=>?_
 unfold q33
 simp (maxDischargeDepth:=12) only [h0,h1,h2,go_sem,Nat.reduceEqDiff,reduceIte]
 refine zh (z9c (E:=E.noPan) hP) ?_
 rintro r L1 ⟨rfl,rfl⟩
 simp (maxDischargeDepth:=12) only [go_sem]
 obtain ⟨t4,e4⟩:∃t4,L.length=t4:=⟨_,rfl⟩
 obtain ⟨t5,e5⟩:∃t5,(L++[Blk.cells 1 [[IV.str pre]]]).length=t5:=⟨_,rfl⟩
 obtain ⟨t7,e7⟩:∃t7,(L++[Blk.cells 1 [[IV.str pre]]]++[Blk.cells 1 [[IV.int .i64 2147483648]]]).length=t7:=⟨_,rfl⟩
 obtain ⟨B,eB⟩:∃B,(L++[Blk.cells 1 [[IV.str pre]]]++[Blk.cells 1 [[IV.int .i64 2147483648]]]++[Blk.cells 1 [[IV.nsl]]]).length=B:=⟨_,rfl⟩
 have n5:t5=t4+1:=by rw [<-e5,<-e4];simp
 have n7:t7=t4+2:=by rw [<-e7,<-e4];simp
 have nB:B=t4+3:=by rw [<-eB,<-e4];simp
 rw [e4,e5,e7,eB]
 obtain ⟨M,eM⟩:∃M,(L++[Blk.cells 1 [[IV.str pre]]]++[Blk.cells 1 [[IV.int .i64 2147483648]]]++[Blk.cells 1 [[IV.nsl]]]++[Blk.cells 1 [[IV.ptr s 0 0]],Blk.cells 1 [[IV.str pre]],Blk.cells 1 [[IV.str []]]])=M:=⟨_,rfl⟩
 have kM:Keep none' L M:=by
  rw [<-eM]
  refine ⟨by simp,fun t ht _=>?_⟩
  simp only [List.append_assoc]
  rw [List.getElem?_append_left ht]
 have lM:M.length=t4+6:=by rw [<-eM,<-e4];simp
 have gq:∀k,M[t4+k]?=[Blk.cells 1 [[IV.str pre]],Blk.cells 1 [[IV.int .i64 2147483648]],Blk.cells 1 [[IV.nsl]],Blk.cells 1 [[IV.ptr s 0 0]],Blk.cells 1 [[IV.str pre]],Blk.cells 1 [[IV.str []]]][k]?:=fun k=>by
  rw [<-eM,<-e4]
  simp only [List.append_assoc]
  rw [List.getElem?_append_right (by omega),Nat.add_sub_cancel_left]
  rfl
 have g4:M[t4]?=some (.cells 1 [[.str pre]]):=gq 0
 have g5:M[t5]?=some (.cells 1 [[.int .i64 2147483648]]):=by rw [n5];exact gq 1
 have g7:M[t7]?=some (.cells 1 [[.nsl]]):=by rw [n7];exact gq 2
 have gB0:M[B]?=some (.cells 1 [[.ptr s 0 0]]):=by rw [nB];exact gq 3
 have gB1:M[B+1]?=some (.cells 1 [[.str pre]]):=by rw [nB];exact gq 4
 have gB2:M[B+2]?=some (.cells 1 [[.str []]]):=by rw [nB];exact gq 5
 rw [eM]
 refine z0L (fun ρ=>ρ 4=.ptr t4 0 0/\ρ 5=.ptr t5 0 0/\ρ 7=.ptr t7 0 0/\ρ 12=.fn (.func 169) [] [.ptr B 0 0,.ptr (B+1) 0 0,.ptr (B+2) 0 0]) ⟨by simp (maxDischargeDepth:=12) only [go_sem,Nat.reduceEqDiff,reduceIte],by simp (maxDischargeDepth:=12) only [go_sem,Nat.reduceEqDiff,reduceIte],by simp (maxDischargeDepth:=12) only [go_sem,Nat.reduceEqDiff,reduceIte],by simp (maxDischargeDepth:=12) only [go_sem,Nat.reduceEqDiff,reduceIte]<;>rfl⟩ ?_
 clear h0 h1 h2
 rintro ρ1 ⟨h4,h5,h7,h12⟩
 refine z4Z (gf:=169) (caps:=[.ptr B 0 0,.ptr (B+1) 0 0,.ptr (B+2) 0 0]) h12 ?_
 intro r0 a1 a2 a3
 obtain ⟨yb,eyb⟩:∃yb,M.length=yb:=⟨_,rfl⟩
 obtain ⟨l,el⟩:∃l,(List.range 32).map ρ1=l:=⟨_,rfl⟩
 obtain ⟨L2,eL2⟩:∃L2,M++[Blk.lp r0 l]=L2:=⟨_,rfl⟩
 rw [eyb,el,eL2]
 have k2:Keep none' M L2:=by rw [<-eL2];exact Keep.app Keep.refl
 have l2:L2.length=t4+7:=by rw [<-eL2];simp [lM]
 have gy:L2[yb]?=some (.lp r0 l):=by rw [<-eL2,<-eyb];simp
 have hS2:zt L2 s F N fence d:=(h.keep kM fun _ _ h=>h).keep k2 fun _ _ h=>h
 have hll:l.length=32:=by rw [<-el];simp
 have hscan:∀p∈d.scan pre [],p∈d:=fun p hp=>List.mem_of_mem_drop ((List.takeWhile_sublist _).subset hp)
 have hsl:(d.scan pre []).length<=900000:=Nat.le_trans (Nat.le_trans (List.takeWhile_sublist _).length_le (by simp)) hN
 refine XT.mono (z3v (E:=E.noPan.withY 32 [13,14] q33a q33b) hP (k2.get gB0 fun h=>h) (k2.get gB1 fun h=>h) (k2.get gB2 fun h=>h) hS2 hN (Inv:=LInv L2 yb t4 t5 t7 (.lp r0 l) pre (d.scan pre [])) (Stop:=zh3 L2 yb t4 t5 t7 r0 l pre (d.scan pre [])) (G0:=fun t=>t=yb\/t=t4\/t=t5\/t=t7\/∃n,IV.nsl=.sl t 0 n n) ?_ ?_ ?_ ?_) ?_
 ·exact ⟨.nsl,gy,k2.get g4 fun h=>h,k2.get g5 fun h=>h,k2.get g7 fun h=>h,.inl ⟨rfl,rfl⟩,fun j p hj=>by omega,rfl⟩
 ·rintro i G H LA LB ⟨lv,i1,i2,i3,i4,i5,i6,rfl⟩ hk hn
  refine ⟨lv,hk.get i1 (hn _ (.inl rfl)),hk.get i2 (hn _ (.inr (.inl rfl))),hk.get i3 (hn _ (.inr (.inr (.inl rfl)))),hk.get i4 (hn _ (.inr (.inr (.inr (.inl rfl))))),?_,i6,rfl⟩
  rcases i5 with i5 | ⟨rb,j1,j2,j3,j4⟩
  ·exact .inl i5
  ·exact .inr ⟨rb,j1,hk.get j2 (hn _ (.inr (.inr (.inr (.inr ⟨_,j1⟩))))),j3,j4⟩
 ·rintro i G LA ⟨lv,i1,i2,i3,i4,i5,i6,rfl⟩ t ht
  rcases ht with rfl | rfl | rfl | rfl | ⟨n,ht⟩
  ·exact zf i1
  ·exact zf i2
  ·exact zf i3
  ·exact zf i4
  ·rcases i5 with ⟨i5,_⟩ | ⟨rb,j1,j2,j3,j4⟩
   ·rw [i5] at ht;cases ht
   ·rw [j1] at ht;cases ht;exact zf j2
 ·rintro i G LA p hp ⟨lv,i1,i2,i3,i4,i5,i6,rfl⟩ hkA hgA
  have hpm:=hscan p (List.mem_of_getElem? hp)
  have hpk:=hkl p hpm
  refine ⟨r0,l,i1,a1,a2,a3,rfl,by decide,by rfl,by rfl,hll,?_⟩
  have hps:vT l [13,14] [.str p.1,.str p.2]=(l.set 13 (.str p.1)).set 14 (.str p.2):=rfl
  have q14:y9 (vT l [13,14] [.str p.1,.str p.2]) 14=.str p.2:=by rw [hps,yS (by rw [lls];omega),if_pos rfl]
  have q13:y9 (vT l [13,14] [.str p.1,.str p.2]) 13=.str p.1:=by rw [hps,yS (by rw [lls];omega),if_neg (by decide),yS (by omega),if_pos rfl]
  have qn:∀n,n<13->y9 (vT l [13,14] [.str p.1,.str p.2]) n=ρ1 n:=fun n hn=>by rw [hps,yS (by rw [lls];omega),if_neg (by omega),yS (by omega),if_neg (by omega),<-el,z3A (by omega)]
  have q4:=(qn 4 (by omega)).trans h4
  have q5:=(qn 5 (by omega)).trans h5
  have q7:=(qn 7 (by omega)).trans h7
  generalize y9 (vT l [13,14] _)=ρ2 at *
  unfold q33a
  simp (maxDischargeDepth:=12) only [q13,q14,go_sem,Nat.reduceEqDiff,reduceIte]
  refine ⟨i1,?_⟩
  have m4:=zo i1 i2 (by simp)
  have m5:=zo i1 i3 (by simp)
  have m7:=zo i1 i4 (by simp)
  have m74:(t7=t4)=False:=eq_false (by omega)
  have m75:(t7=t5)=False:=eq_false (by omega)
  have m7y:(t7=yb)=False:=eq_false fun h=>of_eq_false m7 h.symm
  obtain ⟨lpB,elpB⟩:∃b,Blk.lp { state:=LoopState.busy,pending:=r0.pending,fn:=r0.fn,tmps:=r0.tmps,params:=r0.params,assign:=r0.assign,body:=r0.body,defers:=r0.defers } l=b:=⟨_,rfl⟩
  rw [elpB]
  obtain ⟨LB,eLB⟩:∃LB,LA.set yb lpB=LB:=⟨_,rfl⟩
  have kAB:Keep (fun t=>t=yb) LA LB:=by rw [<-eLB];exact Keep.set Keep.refl fun _=>rfl
  have lAB:LB.length=LA.length:=by rw [<-eLB,lls]
  have b1:LB[yb]?=some lpB:=by rw [<-eLB,List.getElem?_set_self (zf i1)]
  have b2:=kAB.get i2 fun h=>of_eq_false m4 h.symm
  have b3:=kAB.get i3 fun h=>of_eq_false m5 h.symm
  have b4:=kAB.get i4 fun h=>of_eq_false m7 h.symm
  have b5:Ym L2 LB lv ((d.scan pre []).take i):=by
   rcases i5 with i5 | ⟨rb,j1,j2,j3,j4⟩
   ·exact .inl i5
   ·exact .inr ⟨rb,j1,kAB.get j2 (by have:=zf gy;omega),j3,j4⟩
  have hil:i<(d.scan pre []).length:=zf hp
  have htk:((d.scan pre []).take i).length=i:=by simp;omega
  have b5l:=b5.len
  rw [htk] at b5l
  have l1:=zg b1
  have l2q:=zg b2
  have l3:=zg b3
  have l4:=zg b4
  have f1:((2147483648:Int)<=(i:Int))=False:=eq_false (by omega)
  have hk2B:Keep (fun t=>t=yb\/t=t4\/t=t5\/t=t7) L2 LA:=hkA.mono fun t _ h=>by
   rcases h with h | h | h | h | ⟨n,h⟩
   ·exact .inl h
   ·exact .inr (.inl h)
   ·exact .inr (.inr (.inl h))
   ·exact .inr (.inr (.inr h))
   ·cases h
  rw [eLB]
  unfold q33b
  simp (maxDischargeDepth:=12) only [q4,q5,q7,b2,b3,b4,zC b5l,f1,go_sem,Nat.reduceEqDiff,reduceIte]
  refine zq (args':=[.str p.1,.str pre]) rfl (zaq (E:=E.noPan) hP p.1 pre (by omega) (by omega)) rfl ?_
  cases hpf:pfx p.1 pre with
  | false=>
   simp (maxDischargeDepth:=12) only [b1,yEnd,go_sem,Nat.reduceEqDiff,reduceIte]
   right
   have e5:(d.scan pre []).takeWhile (fun q=>pfx q.1 pre)=(d.scan pre []).take i:=yL _ i i6 (fun p' hp2=>by rw [hp] at hp2;cases hp2;exact hpf) (by omega)
   refine ⟨lv,List.getElem?_set_self (zf b1),?_,?_,?_⟩
   ·rw [List.getElem?_set_ne (fun h=>of_eq_false m7 h)];exact b4
   ·rw [e5]
    rcases b5 with b5 | ⟨rb,j1,j2,j3,j4⟩
    ·exact .inl b5
    ·exact .inr ⟨rb,j1,by rw [List.getElem?_set_ne (by have:=zf gy;omega)];exact j2,j3,j4⟩
   ·refine Keep.set (hk2B.trans kAB fun t _ h=>.inl h) fun _=>.inl rfl
  | true=>
   simp (maxDischargeDepth:=12) only [q7,b4,go_sem,Nat.reduceEqDiff,reduceIte,Nat.reduceAdd,Nat.reduceLeDiff]
   refine z6X (p:=p) b5 (by have:=hk2B.1;omega) (by rw [htk];omega) ?_
   intro rb Mb hkM hrb hge
   rw [htk]
   have hlvn:∀t,(∃n,lv=.sl t 0 n n)->L2.length<=t:=by
    rintro t ⟨n,ht⟩
    rcases i5 with ⟨i5,_⟩ | ⟨rb',j1,j2,j3,j4⟩
    ·rw [i5] at ht;cases ht
    ·rw [j1] at ht;cases ht;exact j3
   have hly:yb<L2.length:=zf gy
   have c1:=hkM.get b1 (fun h=>by have:=hlvn _ h;omega)
   have c2:=hkM.get b2 (fun h=>by have:=hlvn _ h;omega)
   have c3:=hkM.get b3 (fun h=>by have:=hlvn _ h;omega)
   have c4:=hkM.get b4 (fun h=>by have:=hlvn _ h;omega)
   have lc4:=zg c4
   have hlM:LA.length<=Mb.length:=by have:=hkM.1;omega
   have hrbl:=zf hrb
   simp (maxDischargeDepth:=12) only [q7,c1,c4,m7y,yEnd,go_sem,Nat.reduceEqDiff,reduceIte]
   left
   have ht1:(d.scan pre []).take (i+1)=(d.scan pre []).take i++[p]:=by rw [List.take_add_one,hp];rfl
   have ht1l:((d.scan pre []).take (i+1)).length=i+1:=by simp;omega
   have nrb:∀u,u<L2.length->¬rb=u:=fun u hu=>by have:=hk2B.1;omega
   have h4l:=zf i2
   refine ⟨fun t=>t=yb\/t=t4\/t=t5\/t=t7\/∃n,IV.sl rb 0 (i+1) (i+1)=.sl t 0 n n,⟨_,?_,?_,?_,?_,.inr ⟨rb,by rw [ht1l],?_,?_,by rw [ht1];simp⟩,?_,rfl⟩,?_,?_⟩
   ·rw [List.getElem?_set_self (by rw [lls];exact zf c1)]
   ·rw [List.getElem?_set_ne (fun h=>of_eq_false m4 h),List.getElem?_set_ne (by omega)];exact c2
   ·rw [List.getElem?_set_ne (fun h=>of_eq_false m5 h),List.getElem?_set_ne (by omega)];exact c3
   ·rw [List.getElem?_set_ne (fun h=>of_eq_false m7 h),List.getElem?_set_self (zf c4)]
   ·rw [List.getElem?_set_ne (fun h=>nrb yb hly h.symm),List.getElem?_set_ne (fun h=>nrb t7 (by omega) h.symm),ht1];exact hrb
   ·have:=hk2B.1;omega
   ·intro q p' hq hp2
    by_cases hqi:q<i
    ·exact i6 q p' hqi hp2
    ·have:q=i:=by omega
     subst this
     rw [hp] at hp2;cases hp2;exact hpf
   ·rintro t (h | h | h | h | ⟨n,h⟩)
    ·exact .inl (.inl h)
    ·exact .inl (.inr (.inl h))
    ·exact .inl (.inr (.inr (.inl h)))
    ·exact .inl (.inr (.inr (.inr (.inl h))))
    ·right
     simp only [IV.sl.injEq] at h
     obtain ⟨rfl,_⟩:=h
     simp only [lls]
     omega
   ·have k1:Keep (fun t=>t=yb\/t=t4\/t=t5\/t=t7\/∃n,lv=.sl t 0 n n) LA Mb:=(kAB.mono fun t _ h=>.inl h).trans hkM fun t _ h=>.inr (.inr (.inr (.inr h)))
    exact Keep.set (Keep.set k1 fun _=>.inr (.inr (.inr (.inl rfl)))) fun _=>.inl rfl
 ·rintro r L3 (⟨G',⟨lv,i1,i2,i3,i4,i5,i6,rfl⟩,hg3,hk3⟩ | ⟨lv,i1,i4,i5,hk3⟩)
  ·refine ⟨r0,i1,by rw [a1];decide,?_⟩
   rw [a2]
   have m7:=zo i1 i4 (by simp)
   have l4:=zg i4
   simp (maxDischargeDepth:=12) only [h7,i4,m7,go_sem,Nat.reduceEqDiff,reduceIte]
   have hyl:t4+6=yb:=by rw [<-eyb,lM]
   have kL2:Keep none' L L2:=kM.trans k2 fun _ _ h=>h
   have e5:d.list pre=d.scan pre []:=by
    have:=yL (P:=fun q=>pfx q.1 pre) (d.scan pre []) (d.scan pre []).length (fun j p hj hp=>i6 j p hj hp) (fun p hp=>by rw [List.getElem?_eq_none (Nat.le_refl _)] at hp;cases hp) (Nat.le_refl _)
    rw [List.take_length] at this
    exact this
   rw [e5]
   rw [List.take_length] at i5
   refine ⟨?_,Keep.set (kL2.trans hk3 fun t ht h=>?_) fun h=>by omega⟩
   ·rcases i5 with i5 | ⟨rb,j1,j2,j3,j4⟩
    ·exact .inl i5
    ·refine .inr ⟨rb,j1,?_,by have:=kL2.1;omega,j4⟩
     have:=zf gy
     rw [List.getElem?_set_ne (by omega)];exact j2
   ·rcases h with h | h | h | h | ⟨n,h⟩
    ·omega
    ·omega
    ·omega
    ·omega
    ·cases h
  ·refine ⟨_,i1,by simp,?_⟩
   have m7:=zo i1 i4 (by simp)
   have l4:=zg i4
   simp (maxDischargeDepth:=12) only [h7,i4,m7,go_sem,Nat.reduceEqDiff,reduceIte]
   have hyl:t4+6=yb:=by rw [<-eyb,lM]
   have kL2:Keep none' L L2:=kM.trans k2 fun _ _ h=>h
   refine ⟨?_,Keep.set (kL2.trans hk3 fun t ht h=>by omega) fun h=>by omega⟩
   rcases i5 with i5 | ⟨rb,j1,j2,j3,j4⟩
   ·exact .inl i5
   ·refine .inr ⟨rb,j1,?_,by have:=kL2.1;omega,j4⟩
    have:=zf gy
    rw [List.getElem?_set_ne (by omega)];exact j2
theorem z6o {L:List Blk} {n:Nat} {m:Ren} (d:KV):mapO (mapO (conv L (n+1) m)) (ZZ d)=some (ZZ d):=by
 refine Yf fun r hr=>?_
 obtain ⟨k,_,rfl⟩:=List.mem_map.1 hr
 rfl
theorem z4c (hP:E.P=Tryz.prog) {s N:Nat} {F:Nat->Prop} {fence:Int} {d:KV} {pre:List UInt8} (h:zt L s F N fence d) (hN:d.length<=900000) (hpl:pre.length<=1000) (hkl:∀p∈d,p.1.length<=1000) :
  XT E 33 [.ptr s 0 0,.str pre,.int .i64 2147483648] L fun r L'=>r=.isl (ZZ (d.list pre))/\L'=L:=by
 refine Z7 (zaD hP h hN hpl hkl) ?_
 rintro r L' ⟨hp,hk⟩
 refine ⟨hk,_,?_,rfl⟩
 rcases hp with ⟨rfl,e⟩ | ⟨rb,rfl,j2,j3,j4⟩
 ·rw [e];rfl
 ·have h1:y7 L.length rb=some none:=by simp [y7];omega
  have h2:(ZZ (d.list pre)).take (d.list pre).length=ZZ (d.list pre):=List.take_of_length_le (by rw [W9];exact Nat.le_refl _)
  simp [fuel,conv,h1,j2,W9,h2,z6o]
end
end Go.X.TryzW
end
section
open Go Go.X Go.Proofs
set_option maxRecDepth 100000
set_option maxHeartbeats 4000000
namespace Go.X.TryzW
def q95 : XC :=(sO [oI 6 0] (.scope (sO [oM 12 0,oN 13 12,oF 14 1 13,oL 15 14,oM 7 15,oI 8 0] (.seq (sO [oM 16 7,oM 17 0,oN 18 17,oF 19 0 18,oL 20 19,oY 21 20,oB 22 .eql 16 21] (cT 22 (.ops [oM 23 0,oM 24 7,oC 25 172 [.t 23,.t 24]]) .skip)) (sO [oM 26 0,oN 27 26,oF 28 0 27,oL 29 28,oM 30 7,oO 31 (.idxS 1 (.t 29) (.t 30)),oL 32 31,oO 33 (.cvInt .i64 (.t 32)),oM 9 33] (.seq (sO [oM 34 9,oK 35 .gtr 34 7] (cT 35 (.goto 0) .skip)) (.seq (sO [oM 36 9,oM 37 0,oN 38 37,oF 39 0 38,oL 40 39,oY 41 40,oM 42 7,oB 43 .sub 41 42,oK 44 .sub 43 1,oB 45 .gtr 36 44] (cT 45 (.ops [oM 46 0,oM 47 0,oN 48 47,oF 49 0 48,oL 50 49,oY 51 50,oC 52 172 [.t 46,.t 51]]) .skip)) (sO [oM 53 0,oN 54 53,oF 55 1 54,oL 56 55,oM 57 9,oO 58 (.bin .add (oi 1) (.t 57)),oB 59 .add 56 58,oN 60 53,oF 61 1 60,oS 61 59] (.seq (.seq (.draw [oM 62 0,oN 63 62,oF 64 0 63,oL 65 64,oM 66 7,oK 67 .add 66 1,oM 68 0,oN 69 68,oF 70 1 69,oL 71 70,oO 72 (.slice 1 (.t 65) (some (.t 67)) (some (.t 71))),oY 73 72,oI 74 0]) (.block 0 (.loop (sO [oB 75 .lss 74 73] (.seq (cT 75 .skip (.exit 0)) (.seq (.block 1 (sO [oO 76 (.idxS 1 (.t 72) (.t 74)),oL 77 76,oM 11 77] (.ops [oM 78 8,oO 79 (.bin .shl (.t 78) (.c (.int .u64 8))),oM 80 11,oO 81 (.cvInt .i64 (.t 80)),oB 82 .or 79 81,oM 8 82]))) (.ops [oK 83 .add 74 1,oM 74 83]))))))) (.seq (sO [oM 84 9,oK 85 .gtr 84 0,oM 86 85,oG 87 86 true (.mov (.t 0)),oG 88 86 true (.nilck (.t 87)),oG 89 86 true (.fldA 0 (.t 88)),oG 90 86 true (.load1 (.t 89)),oG 91 86 true (.mov (.t 7)),oG 92 86 true (.bin .add (.t 91) (oi 1)),oG 93 86 true (.idxS 1 (.t 90) (.t 92)),oG 94 86 true (.load1 (.t 93)),oG 95 86 true (.bin .eql (.t 94) (.c (.int .u8 0))),oO 96 (.pick (.t 86) (.t 95) (.c (.bool false))),oM 97 96,oG 98 97 false (.mov (.t 8)),oG 99 97 false (.mov (.t 1)),oG 100 97 false (.bin .lss (.t 98) (.t 99)),oO 101 (.pick (.t 97) (.c (.bool true)) (.t 100)),oM 102 101,oG 103 102 false (.mov (.t 8)),oG 104 102 false (.mov (.t 2)),oG 105 102 false (.bin .gtr (.t 103) (.t 104)),oO 106 (.pick (.t 102) (.c (.bool true)) (.t 105))] (cT 106 (.goto 0) .skip)) (.seq (sO [oM 107 8,oM 6 107] .ret) (.seq (.label 0) (sO [oM 108 0,oM 109 7,oC 110 172 [.t 108,.t 109]] (sO [oI 6 0] .ret)))))))))))) (.cons 0 (.seq .skip (sO [oM 108 0,oM 109 7,oC 110 172 [.t 108,.t 109]] (sO [oI 6 0] .ret))) .nil)))
def q96 : XC :=(sO [oV 2 (.str [])] (sO [oM 4 0,oC 5 95 [.t 4,(oi 0),(oi 1048576)],oM 3 5] (.seq (.seq (.draw [oM 6 3,oM 7 0,oN 8 7,oF 9 0 8,oL 10 9,oY 11 10,oM 12 0,oN 13 12,oF 14 1 13,oL 15 14,oB 16 .sub 11 15,oB 17 .gtr 6 16]) (cT 17 (.ops [oM 18 0,oM 19 0,oN 20 19,oF 21 0 20,oL 22 21,oY 23 22,oC 24 172 [.t 18,.t 23]]) .skip)) (sO [oM 25 0,oN 26 25,oF 27 1 26,oL 28 27,oM 29 3,oB 30 .add 28 29,oN 31 25,oF 32 1 31,oS 32 30] (.seq (.drawE [oM 33 0,oN 34 33,oF 35 0 34,oL 36 35,oM 37 0,oN 38 37,oF 39 1 38,oL 40 39,oM 41 3,oB 42 .sub 40 41,oM 43 0,oN 44 43,oF 45 1 44,oL 46 45,oO 47 (.slice 1 (.t 36) (some (.t 42)) (some (.t 46))),oO 48 (.ex .bStr [.t 47]),oM 2 48]) .ret)))))
def q97 : XC :=(sO [oI 2 0] (sO [oM 4 0,oC 5 147 [.t 4],oM 3 5] (.seq (sO [oM 6 3,oK 7 .rem 6 2,oK 8 .eql 7 1] (cT 8 (sO [oM 9 3,oK 10 .add 9 1,oO 11 (.un .neg (.t 10)),oK 12 .quo 11 2,oM 2 12] .ret) .skip)) (sO [oM 13 3,oK 14 .quo 13 2,oM 2 14] .ret))))
def q147 : XC :=(sO [oI 2 0] (sO [oM 3 0,oC 4 95 [.t 3,(oi 0),(oi 4503599627370496)],oM 2 4] .ret))
def q148 : XC :=(sO [oV 2 (.bool false)] (.seq (.seq (.draw [oM 3 0,oN 4 3,oF 5 1 4,oL 6 5,oM 7 0,oN 8 7,oF 9 0 8,oL 10 9,oY 11 10,oB 12 .eql 6 11,oM 13 12,oG 14 13 false (.mov (.t 0)),oG 15 13 false (.nilck (.t 14)),oG 16 13 false (.fldA 0 (.t 15)),oG 17 13 false (.load1 (.t 16)),oG 18 13 false (.mov (.t 0)),oG 19 13 false (.nilck (.t 18)),oG 20 13 false (.fldA 1 (.t 19)),oG 21 13 false (.load1 (.t 20)),oG 22 13 false (.idxS 1 (.t 17) (.t 21)),oG 23 13 false (.load1 (.t 22)),oG 24 13 false (.bin .gtr (.t 23) (.c (.int .u8 1))),oO 25 (.pick (.t 13) (.c (.bool true)) (.t 24))]) (cT 25 (.ops [oM 26 0,oM 27 0,oN 28 27,oF 29 1 28,oL 30 29,oC 31 172 [.t 26,.t 30]]) .skip)) (sO [oM 32 0,oN 33 32,oF 34 1 33,oL 35 34,oK 36 .add 35 1,oN 37 32,oF 38 1 37,oS 38 36] (.seq (.draw [oM 39 0,oN 40 39,oF 41 0 40,oL 42 41,oM 43 0,oN 44 43,oF 45 1 44,oL 46 45,oK 47 .sub 46 1,oO 48 (.idxS 1 (.t 42) (.t 47)),oL 49 48,oO 50 (.bin .eql (.t 49) (.c (.int .u8 1))),oM 2 50]) .ret))))
def q172 : XC :=(.ops [oM 4 1,oO 5 (.build [(.int .i64 0)] [(0,(1,(.t 4)))]),oO 6 (.ex (.mkif 274) [.t 5]),oU (.ex .panic [.t 6])])
section
variable {E:Env} {ρ:Rho} {L:List Blk} {K:IV->List Blk->Prop}
def eyeB (bs:List (List IV)) (n:Nat):Blk:=.cells 2 [[.isl bs,.int .i64 n]]
theorem z9T {n j:Nat} (h:j<zl n):(numR n)[j+1]?=some [.int .u8 (n / 256^(zl n - 1 - j)%256:Nat)]:=by
 unfold numR
 rw [List.getElem?_cons_succ,List.getElem?_map,List.getElem?_reverse (by simpa using h)]
 rw [List.getElem?_range' (by simp;omega)]
 simp
theorem get_at {bs rs rest:List (List IV)} {a j:Nat} {x:List IV} (h:bs.drop a=rs++rest) (hx:rs[j]?=some x):bs[a+j]?=some x:=by
 have h1:(bs.drop a)[j]?=some x:=by rw [h,List.getElem?_append_left (zf hx)];exact hx
 rwa [List.getElem?_drop] at h1
theorem z9H {bs rs rest:List (List IV)} {a:Nat} (h:bs.drop a=rs++rest) (hne:rs≠[]):a+rs.length+rest.length=bs.length:=by
 have h1:=congrArg List.length h
 have h2:=List.length_pos_iff.2 hne
 rw [List.length_drop,lla] at h1
 omega
theorem drop_at {bs rs rest:List (List IV)} {a:Nat} (h:bs.drop a=rs++rest):bs.drop (a+rs.length)=rest:=by
 rw [<-List.drop_drop,h,List.drop_left]
theorem zaM {a:Nat} (h:a<36028797018963968):bshl .i64 (a:Int) 8=((a*256:Nat):Int):=by
 unfold bshl
 have e0:IntKind.i64.bits=64:=rfl
 have e1:(8:Int).toNat=8:=rfl
 rw [e0,e1]
 rw [show ((a:Int)*2^min 8 64)=((a*256:Nat):Int) by simp]
 rw [wrap64 (by omega) (by omega)]
theorem zbG {a b:Nat} (ha:a<36028797018963968) (hb:b<256):bor .i64 ((a*256:Nat):Int) (b:Int)=((a*256+b:Nat):Int):=by
 unfold bor
 have e0:IntKind.i64.bits=64:=rfl
 rw [e0]
 have e1:(BitVec.ofInt 64 ((a*256:Nat):Int)|||BitVec.ofInt 64 (b:Int)).toNat=a*256+b:=by
  rw [BitVec.toNat_or,BitVec.ofInt_natCast,BitVec.ofInt_natCast,BitVec.toNat_ofNat,BitVec.toNat_ofNat,Nat.mod_eq_of_lt (by omega),Nat.mod_eq_of_lt (by omega)]
  have:=Nat.shiftLeft_add_eq_or_of_lt (b:=b) (i:=8) (by omega) a
  rw [Nat.shiftLeft_eq] at this
  exact this.symm
 rw [e1,wrap64 (by omega) (by omega)]
theorem z5k {n s:Nat}:n / 256^(s+1)*256+n / 256^s%256=n / 256^s:=by
 rw [Nat.pow_succ,<-Nat.div_div_eq_div_mul]
 omega
theorem wU (hP:E.P=Tryz.prog) {p a n:Nat} {bs rest:List (List IV)} {least most:Int} (he:L[p]?=some (eyeB bs a)) (ha:bs.drop a=numR n++rest) (hr:zx bs) (hN:bs.length<=1099511627776) (hl1:least<=(n:Int)) (hl2:(n:Int)<=most) (hn:n<256^7) :
  XT E 95 [.ptr p 0 0,.int .i64 least,.int .i64 most] L fun r L'=>r=.int .i64 n/\L'=L.set p (eyeB bs (a+(zl n+1))):=by
 have hlen:=z9H ha (z3Z n)
 rw [zF] at hlen
 have hk7:=Za (n:=n) (k:=7) hn
 have hg0:=get_at ha (j:=0) (x:=[.int .u8 (zl n)]) rfl
 have hgj:∀j,j<zl n->bs[a+(j+1)]?=some [.int .u8 (n / 256^(zl n - 1 - j)%256:Nat)]:=fun j hj=>get_at ha (z9T hj)
 have hR1:Rows 1 bs=True:=eq_true (fun r hr1=>by obtain ⟨n,rfl⟩:=hr r hr1;rfl)
 have lp:=zg he
 unfold eyeB at he
 have lo:lenOf (.isl bs)=some bs.length:=rfl
 refine xt3 (fn:=Tryz.f95) (rs:=[.tmp 6]) (c:=q95) hP fun ρ h0 h1 h2=>?_
 unfold q95
 have f1:((a:Int)=(bs.length:Int))=False:=eq_false (by omega)
 have f2:((0:Int)<=(a:Int))=True:=eq_true (by omega)
 have f3:((a:Int)<(bs.length:Int))=True:=eq_true (by omega)
 have f4:((7:Int)<(zl n:Int))=False:=eq_false (by omega)
 have f5:((bs.length:Int) - (a:Int) - 1<(zl n:Int))=False:=eq_false (by omega)
 have w1:IntKind.i64.wrap ((bs.length:Int) - (a:Int))=(bs.length:Int) - (a:Int):=wrap64 (by omega) (by omega)
 have w2:IntKind.i64.wrap ((bs.length:Int) - (a:Int) - 1)=(bs.length:Int) - (a:Int) - 1:=wrap64 (by omega) (by omega)
 have w3:IntKind.i64.wrap (1+(zl n:Int))=((1+zl n:Nat):Int):=by rw [wrap64 (by omega) (by omega)];omega
 have w4:IntKind.i64.wrap ((a:Int)+((1+zl n:Nat):Int))=((a+(zl n+1):Nat):Int):=by rw [wrap64 (by omega) (by omega)];omega
 have w5:IntKind.i64.wrap ((a:Int)+1)=((a+1:Nat):Int):=by rw [wrap64 (by omega) (by omega)];rfl
 have w6:IntKind.i64.wrap (zl n:Int)=(zl n:Int):=wrap64 (by omega) (by omega)
 simp only [go_sem]
 refine z8A (fun _ _ _=>False) 0 ?_ (fun _ _ _ h=>h.elim)
 have f6:(a<bs.length)=True:=eq_true (by omega)
 have gd0:bs.getD a []=[.int .u8 (zl n)]:=by rw [List.getD_eq_getElem?_getD];simp only [Nat.add_zero] at hg0;rw [hg0];rfl
 have lr:[IV.int .u8 (zl n)].length=1:=rfl
 have lr0:[IV.int .u8 (zl n)].getD 0 IV.und=.int .u8 (zl n):=rfl
 simp only [h0,he,lp,zC lo,f1,f2,f3,f4,f5,f6,gd0,lr,lr0,hR1,Int.toNat_natCast,w1,w2,w3,w4,w5,w6,go_sem,Nat.reduceEqDiff,reduceIte,Nat.reduceAdd,Nat.reduceLT]
 refine ⟨rfl,by omega,by omega,?_⟩
 obtain ⟨L1,hL1⟩:∃L1,L.set p (.cells 2 [[.isl bs,.int .i64 ((a+(zl n+1):Nat):Int)]])=L1:=⟨_,rfl⟩
 have he1:L1[p]?=some (.cells 2 [[.isl bs,.int .i64 ((a+(zl n+1):Nat):Int)]]):=by rw [<-hL1,List.getElem?_set_self (zf he)]
 obtain ⟨sl,hsl⟩:∃sl,(bs.take (a+(zl n+1))).drop (a+1)=sl:=⟨_,rfl⟩
 have hsll:sl.length=zl n:=by rw [<-hsl];simp;omega
 have hslg:∀j,j<zl n->sl.getD j []=[.int .u8 (n / 256^(zl n - 1 - j)%256:Nat)]:=fun j hj=>by
  rw [List.getD_eq_getElem?_getD,<-hsl,List.getElem?_drop,List.getElem?_take_of_lt (by omega),show a+1+j=a+(j+1) by omega,hgj j hj]
  rfl
 have hz:n / 256^(zl n - 0)=0:=by
  rcases Nat.eq_zero_or_pos (n / 256^(zl n - 0)) with h | h
  ·exact h
  ·have:=(wR n _).1 h;omega
 refine zT (fun m ρ L'=>∃i:Nat,i<=zl n/\m=zl n - i/\L'=L1/\ρ 0=.ptr p 0 0/\ρ 1=.int .i64 least/\ρ 2=.int .i64 most/\ρ 7=.int .i64 a/\ρ 9=.int .i64 (zl n)/\ρ 72=.isl sl/\ρ 73=.int .i64 (zl n)/\ρ 74=.int .i64 i/\ρ 8=.int .i64 ((n / 256^(zl n - i):Nat):Int))
  ⟨0,Nat.zero_le _,rfl,by rw [<-hL1],by simp only [h0,go_sem,Nat.reduceEqDiff,reduceIte],by simp only [h1,go_sem,Nat.reduceEqDiff,reduceIte],by simp only [h2,go_sem,Nat.reduceEqDiff,reduceIte],by simp only [go_sem,Nat.reduceEqDiff,reduceIte],by simp only [go_sem,Nat.reduceEqDiff,reduceIte],by simp only [hsl,go_sem,Nat.reduceEqDiff,reduceIte],by simp only [hsl,hsll,go_sem,Nat.reduceEqDiff,reduceIte],by simp only [go_sem,Nat.reduceEqDiff,reduceIte],by simp only [go_sem,Nat.reduceEqDiff,reduceIte];rw [hz];rfl⟩ ?_
 clear h0 h1 h2 ρ
 rintro m ρ L' ⟨i,hi,rfl,rfl,h0,h1,h2,h7,h9,h72,h73,h74,h8⟩
 by_cases hc:i<zl n
 ·have e1:((i:Int)<(zl n:Int))=True:=eq_true (by omega)
  have e0:((0:Int)<=(i:Int))=True:=eq_true (by omega)
  have e2:(i<zl n)=True:=eq_true hc
  have hv:=hslg i hc
  obtain ⟨v,hvv⟩:∃v,n / 256^(zl n - 1 - i)%256=v:=⟨_,rfl⟩
  rw [hvv] at hv
  have hv8:v<256:=by rw [<-hvv];exact Nat.mod_lt _ (by decide)
  have hq:n / 256^(zl n - i)<36028797018963968:=by
   refine Nat.lt_of_le_of_lt (Nat.div_le_div_left (c:=256^1) (Nat.pow_le_pow_right (by decide) (by omega)) (by decide)) ?_
   omega
  have hR2:Rows 1 sl=True:=eq_true (fun r hr1=>by
   rw [<-hsl] at hr1
   obtain ⟨n,rfl⟩:=hr r (List.mem_of_mem_take (List.mem_of_mem_drop hr1));rfl)
  have e3:((i:Int)<(sl.length:Int))=True:=eq_true (by omega)
  have e4:(i<sl.length)=True:=eq_true (by omega)
  have lr2:[IV.int .u8 v].length=1:=rfl
  have lr3:[IV.int .u8 v].getD 0 IV.und=.int .u8 v:=rfl
  have fw:IntKind.i64.wrap ((i:Int)+1)=((i+1:Nat):Int):=by rw [wrap64 (by omega) (by omega)];rfl
  have fv:IntKind.i64.wrap (v:Int)=(v:Int):=wrap64 (by omega) (by omega)
  have fstep:n / 256^(zl n - i)*256+v=n / 256^(zl n - (i+1)):=by
   rw [<-hvv,show zl n - i=(zl n - 1 - i)+1 by omega,z5k,show zl n - (i+1)=zl n - 1 - i by omega]
  simp only [h0,h1,h2,h7,h8,h9,h72,h73,h74,e1,e0,e3,e4,hR2,hv,lr2,lr3,Int.toNat_natCast,fw,fv,zaM hq,zbG hq hv8,go_sem,Nat.reduceEqDiff,reduceIte,Int.reduceLE]
  exact ⟨zl n - (i+1),by omega,i+1,by omega,rfl,rfl,by rw [fstep]⟩
 ·have e1:((i:Int)<(zl n:Int))=False:=eq_false (by omega)
  have hik:i=zl n:=by omega
  subst hik
  have ez:n / 256^(zl n - zl n)=n:=by simp
  rw [ez] at h8
  have g1:((n:Int)<least)=False:=eq_false (by omega)
  have g2:(most<(n:Int))=False:=eq_false (by omega)
  by_cases hk0:zl n=0
  ·have g0:((0:Int)<(zl n:Int))=False:=eq_false (by omega)
   simp only [h1,h2,h8,h9,h73,h74,e1,g0,g1,g2,go_sem,Nat.reduceEqDiff,reduceIte]
   exact hL1.symm
  ·have g0:((0:Int)<(zl n:Int))=True:=eq_true (by omega)
   have hgt:bs.getD (a+1) []=[.int .u8 (n / 256^(zl n - 1)%256:Nat)]:=by
    rw [List.getD_eq_getElem?_getD]
    have:=hgj 0 (by omega)
    simp only [Nat.zero_add,Nat.sub_zero] at this
    rw [this];rfl
   have hpos:=(wR n (zl n - 1)).2 (by omega)
   have hnz:n / 256^zl n=0:=by simpa using hz
   have hds:=z5k (n:=n) (s:=zl n - 1)
   rw [show zl n - 1+1=zl n by omega] at hds
   obtain ⟨v,hvv⟩:∃v,n / 256^(zl n - 1)%256=v:=⟨_,rfl⟩
   rw [hvv] at hds hgt
   have g3:((v:Int)=0)=False:=eq_false (by omega)
   have g4:((0:Int)<=((a+1:Nat):Int))=True:=eq_true (by omega)
   have g5:(((a+1:Nat):Int)<(bs.length:Int))=True:=eq_true (by omega)
   have g6:(a+1<bs.length)=True:=eq_true (by omega)
   have lr2:[IV.int .u8 v].length=1:=rfl
   have lr3:[IV.int .u8 v].getD 0 IV.und=.int .u8 v:=rfl
   have lp1:=zg he1
   simp only [h0,h1,h2,h7,h8,h9,h73,h74,he1,e1,g0,g1,g2,w5,hR1,g3,g4,g5,g6,lr2,lr3,hgt,Int.toNat_natCast,go_sem,Nat.reduceEqDiff,reduceIte,Nat.reduceAdd]
   exact hL1.symm
theorem yK (hP:E.P=Tryz.prog) {p a n:Nat} {bs rest:List (List IV)} (he:L[p]?=some (eyeB bs a)) (ha:bs.drop a=numR n++rest) (hr:zx bs) (hN:bs.length<=1099511627776) (hn:n<=4503599627370496) :
  XT E 147 [.ptr p 0 0] L fun r L'=>r=.int .i64 n/\L'=L.set p (eyeB bs (a+(zl n+1))):=by
 refine xt1 (fn:=Tryz.f147) (rs:=[.tmp 2]) (c:=q147) hP fun ρ h0=>?_
 unfold q147
 simp only [h0,go_sem,Nat.reduceEqDiff,reduceIte]
 refine zh (wU (E:=E.noPan) hP he ha hr hN (by omega) (by omega) (by omega)) ?_
 rintro r L' ⟨rfl,rfl⟩
 simp only [go_sem,Nat.reduceEqDiff,reduceIte]
def sgnN (v:Int):Nat:=if v<0 then (-2*v - 1).toNat else (2*v).toNat
theorem z8f (hP:E.P=Tryz.prog) {p a:Nat} {v:Int} {bs rest:List (List IV)} (he:L[p]?=some (eyeB bs a)) (ha:bs.drop a=numR (sgnN v)++rest) (hr:zx bs) (hN:bs.length<=1099511627776) (hv1 : -2251799813685248<=v) (hv2:v<=2251799813685248) :
  XT E 97 [.ptr p 0 0] L fun r L'=>r=.int .i64 v/\L'=L.set p (eyeB bs (a+(zl (sgnN v)+1))):=by
 refine xt1 (fn:=Tryz.f97) (rs:=[.tmp 2]) (c:=q97) hP fun ρ h0=>?_
 unfold q97
 simp only [h0,go_sem,Nat.reduceEqDiff,reduceIte]
 refine zh (yK (E:=E.noPan) hP he ha hr hN (by unfold sgnN;split<;>omega)) ?_
 rintro r L' ⟨rfl,rfl⟩
 by_cases hc:v<0
 ·have e1:(sgnN v:Int) = -2*v - 1:=by unfold sgnN;rw [if_pos hc];omega
  have e2:(sgnN v:Int).tmod 2=1:=by rw [Int.tmod_eq_emod_of_nonneg (by omega)];omega
  have e3:IntKind.i64.wrap ((sgnN v:Int)+1) = -2*v:=by rw [e1,wrap64 (by omega) (by omega)];omega
  have e4:IntKind.i64.wrap (0 - -2*v)=2*v:=by rw [wrap64 (by omega) (by omega)];omega
  have e5:(2*v).tdiv 2=v:=Int.mul_tdiv_cancel_left _ (by decide)
  have e6:IntKind.i64.wrap v=v:=by rw [wrap64 (by omega) (by omega)]
  have e7:IntKind.i64.wrap 1=1:=by rw [wrap64 (by omega) (by omega)]
  simp only [e2,e3,e4,e5,e6,go_sem,Nat.reduceEqDiff,reduceIte,Int.reduceNeg]
  decide
 ·have e1:(sgnN v:Int)=2*v:=by unfold sgnN;rw [if_neg hc];omega
  have e2:(sgnN v:Int).tmod 2=0:=by rw [Int.tmod_eq_emod_of_nonneg (by omega)];omega
  have e5:(sgnN v:Int).tdiv 2=v:=by rw [e1];exact Int.mul_tdiv_cancel_left _ (by decide)
  have e6:IntKind.i64.wrap v=v:=by rw [wrap64 (by omega) (by omega)]
  have e7:IntKind.i64.wrap 0=0:=by rw [wrap64 (by omega) (by omega)]
  simp only [e2,e5,e6,go_sem,Nat.reduceEqDiff,reduceIte,Int.reduceEq]
  decide
theorem YP (hP:E.P=Tryz.prog) {p a:Nat} {s:List UInt8} {bs rest:List (List IV)} (he:L[p]?=some (eyeB bs a)) (ha:bs.drop a=txtR s++rest) (hr:zx bs) (hN:bs.length<=1099511627776) (hs:s.length<=1048576) :
  XT E 96 [.ptr p 0 0] L fun r L'=>r=.str s/\L'=L.set p (eyeB bs (a+(txtR s).length)):=by
 have hrl:(zi s).length=s.length:=by simp [zi]
 have htl:(txtR s).length=zl s.length+1+s.length:=by unfold txtR;rw [lla,zF,hrl]
 have hlen:=z9H ha (by intro h;rw [h] at htl;simp only [lln] at htl;omega)
 rw [htl] at hlen
 have lp:=zg he
 have lo:lenOf (.isl bs)=some bs.length:=rfl
 refine xt1 (fn:=Tryz.f96) (rs:=[.tmp 2]) (c:=q96) hP fun ρ h0=>?_
 unfold q96
 simp only [h0,go_sem,Nat.reduceEqDiff,reduceIte]
 refine zh (wU (E:=E.noPan) (n:=s.length) (rest:=zi s++rest) hP he (by rw [ha,txtR,List.append_assoc]) hr hN (by omega) (by omega) (by omega)) ?_
 rintro r L' ⟨rfl,rfl⟩
 obtain ⟨a1,ha1⟩:∃a1,a+(zl s.length+1)=a1:=⟨_,rfl⟩
 rw [ha1]
 obtain ⟨L1,hL1⟩:∃L1,L.set p (eyeB bs a1)=L1:=⟨_,rfl⟩
 have he1:L1[p]?=some (.cells 2 [[.isl bs,.int .i64 a1]]):=by rw [<-hL1,List.getElem?_set_self (zf he)];rfl
 have lp1:=zg he1
 rw [hL1]
 have hR1:Rows 1 bs=True:=eq_true (fun r hr1=>by obtain ⟨n,rfl⟩:=hr r hr1;rfl)
 have w1:IntKind.i64.wrap ((bs.length:Int) - (a1:Int))=(bs.length:Int) - (a1:Int):=wrap64 (by omega) (by omega)
 have f1:((bs.length:Int) - (a1:Int)<(s.length:Int))=False:=eq_false (by omega)
 have w2:IntKind.i64.wrap ((a1:Int)+(s.length:Int))=((a1+s.length:Nat):Int):=by rw [wrap64 (by omega) (by omega)];rfl
 have w3:IntKind.i64.wrap (((a1+s.length:Nat):Int) - (s.length:Int))=(a1:Int):=by rw [wrap64 (by omega) (by omega)];omega
 simp only [h0,he1,lp1,zC lo,w1,w2,w3,f1,hR1,Int.toNat_natCast,go_sem,Nat.reduceEqDiff,reduceIte,Nat.reduceAdd,Nat.reduceLT]
 refine ⟨rfl,by omega,by omega,?_⟩
 have hd1:bs.drop a1=zi s++rest:=by
  have:=drop_at (rs:=numR s.length) (rest:=zi s++rest) (by rw [ha,txtR,List.append_assoc])
  rwa [zF,ha1] at this
 have hsl:(bs.take (a1+s.length)).drop a1=zi s:=by
  rw [List.drop_take,Nat.add_sub_cancel_left,hd1,<-hrl,List.take_left]
 rw [hsl]
 have hb:∀M:List Blk,(yx M (.isl (zi s))).bind (mapO byteOf)=some s:=fun M=>by
  show mapO byteOf (zi s)=some s
  exact Yr s
 rw [hb]
 simp only [go_sem,Nat.reduceEqDiff,reduceIte]
 rw [<-hL1,List.set_set,<-ha1,htl,<-Nat.add_assoc,<-Nat.add_assoc]
 rfl
theorem zbT (hP:E.P=Tryz.prog) {p a:Nat} {b:Bool} {bs rest:List (List IV)} (he:L[p]?=some (eyeB bs a)) (ha:bs.drop a=[.int .u8 (if b then 1 else 0)]::rest) (hr:zx bs) (hN:bs.length<=1099511627776) :
  XT E 148 [.ptr p 0 0] L fun r L'=>r=.bool b/\L'=L.set p (eyeB bs (a+1)):=by
 have hlen:=z9H (rs:=[[.int .u8 (if b then 1 else 0)]]) ha (by simp)
 simp only [llc,lln] at hlen
 have lp:=zg he
 have lo:lenOf (.isl bs)=some bs.length:=rfl
 have hg0:=get_at (rs:=[[.int .u8 (if b then 1 else 0)]]) ha (j:=0) (x:=[.int .u8 (if b then 1 else 0)]) rfl
 have gd0:bs.getD a []=[.int .u8 (if b then 1 else 0)]:=by rw [List.getD_eq_getElem?_getD];simp only [Nat.add_zero] at hg0;rw [hg0];rfl
 have hR1:Rows 1 bs=True:=eq_true (fun r hr1=>by obtain ⟨n,rfl⟩:=hr r hr1;rfl)
 obtain ⟨v,hv⟩:∃v:Int,(if b then 1 else 0)=v:=⟨_,rfl⟩
 have hv1:((1:Int)<v)=False:=eq_false (by rw [<-hv];split<;>decide)
 have hv2:(decide (v=1))=b:=by rw [<-hv];cases b<;>rfl
 rw [hv] at gd0
 unfold eyeB at he
 refine xt1 (fn:=Tryz.f148) (rs:=[.tmp 2]) (c:=q148) hP fun ρ h0=>?_
 unfold q148
 have f1:((a:Int)=(bs.length:Int))=False:=eq_false (by omega)
 have f2:((0:Int)<=(a:Int))=True:=eq_true (by omega)
 have f3:((a:Int)<(bs.length:Int))=True:=eq_true (by omega)
 have f6:(a<bs.length)=True:=eq_true (by omega)
 have lr:[IV.int .u8 v].length=1:=rfl
 have lr0:[IV.int .u8 v].getD 0 IV.und=.int .u8 v:=rfl
 have w5:IntKind.i64.wrap ((a:Int)+1)=((a+1:Nat):Int):=by rw [wrap64 (by omega) (by omega)];rfl
 have w7:IntKind.i64.wrap (((a+1:Nat):Int) - 1)=(a:Int):=by rw [wrap64 (by omega) (by omega)];omega
 simp only [h0,he,lp,zC lo,f1,f2,f3,f6,gd0,lr,lr0,hR1,hv1,w5,w7,Int.toNat_natCast,go_sem,Nat.reduceEqDiff,reduceIte,Nat.reduceAdd,Nat.reduceLT]
 refine ⟨rfl,rfl,?_⟩
 rw [hv2]
 exact ⟨rfl,rfl⟩
def z4O (n:Int):IV:=.iface 274 (.agg [.int .i64 n])
theorem zch (hP:E.P=Tryz.prog) {e:IV} {n:Int}:XTP E 172 [e,.int .i64 n] L (fun _ _=>False) fun x L'=>x=z4O n/\L'=L:=by
 refine xtl (n:=Tryz.f172.ntmps) (rs:=[]) (c:=q172) (by rw [hP];rfl) (by rw [hP];kernel_rfl) (by decide) (Nat.le_of_ble_eq_true rfl) ?_
 generalize hρ:entry _=ρ
 have h0:ρ 0=e:=by rw [<-hρ];rfl
 have h1:ρ 1=.int .i64 n:=by rw [<-hρ];rfl
 clear hρ
 unfold q172
 simp only [h1,go_sem,Nat.reduceEqDiff,reduceIte]
 exact ⟨rfl,rfl⟩
theorem z7f (hP:E.P=Tryz.prog) {p:Nat} {least most:Int} (he:L[p]?=some (eyeB [] 0)) :
  XTP E 95 [.ptr p 0 0,.int .i64 least,.int .i64 most] L (fun _ _=>False) fun x L'=>x=z4O 0/\L'=L:=by
 have lp:=zg he
 have lo:lenOf (.isl [])=some 0:=rfl
 unfold eyeB at he
 refine xtl (n:=Tryz.f95.ntmps) (rs:=[.tmp 6]) (c:=q95) (by rw [hP];rfl) (by rw [hP];kernel_rfl) (by decide) (Nat.le_of_ble_eq_true rfl) ?_
 generalize hρ:entry _=ρ
 have h0:ρ 0=.ptr p 0 0:=by rw [<-hρ];rfl
 have h1:ρ 1=.int .i64 least:=by rw [<-hρ];rfl
 have h2:ρ 2=.int .i64 most:=by rw [<-hρ];rfl
 clear hρ
 unfold q95
 simp only [go_sem]
 refine z8A (fun _ _ _=>False) 0 ?_ (fun _ _ _ h=>h.elim)
 have f1:(((0:Nat):Int)=((0:Nat):Int))=True:=eq_true rfl
 simp only [h0,he,zC lo,go_sem,Nat.reduceEqDiff,reduceIte,Nat.reduceAdd,Nat.reduceLT]
 exact J9 (zch (by exact hP)) (fun _ _ h=>h.elim) fun _ _ h=>h
theorem zat (hP:E.P=Tryz.prog) {p:Nat} (he:L[p]?=some (eyeB [] 0)):XTP E 147 [.ptr p 0 0] L (fun _ _=>False) fun x L'=>x=z4O 0/\L'=L:=by
 refine xtl (n:=Tryz.f147.ntmps) (rs:=[.tmp 2]) (c:=q147) (by rw [hP];rfl) (by rw [hP];kernel_rfl) (by decide) (Nat.le_of_ble_eq_true rfl) ?_
 generalize hρ:entry _=ρ
 have h0:ρ 0=.ptr p 0 0:=by rw [<-hρ];rfl
 clear hρ
 unfold q147
 simp only [h0,go_sem,Nat.reduceEqDiff,reduceIte]
 exact J9 (z7f (by exact hP) he) (fun _ _ h=>h.elim) fun _ _ h=>h
end
end Go.X.TryzW
end
section
open Go Go.X Go.Proofs
set_option maxRecDepth 100000
set_option maxHeartbeats 4000000
namespace Go.X.TryzW
section
variable {E:Env} {ρ:Rho} {L:List Blk} {K:IV->List Blk->Prop}
def Reads (E:Env) (L:List Blk) (k:FuncId) (caps:List IV) (bs:List (List IV)) (G:Nat->Prop) (R:IV->List Blk->Prop):Prop:=∀(L1:List Blk) (p:Nat),Keep none' L L1->L.length+3=p->L1.length=p+1->L1[p]?=some (eyeB bs 0)->
 XT E k (.ptr p 0 0::caps) L1 fun r L2=>R r L2/\L2[p]?=some (eyeB bs bs.length)/\Keep (fun t=>t=p\/G t) L1 L2
def jV (n:Nat) (R:IV->List Blk->Prop):Prop:=∀r M M',Keep (fun t=>n<=t/\t<n+4) M M'->R r M->R r M'
theorem z3h {L L0 L2 M:List Blk} {G:Nat->Prop} {R:IV->List Blk->Prop} {r:IV} {p:Nat} {b:Blk} (k0:Keep none' L L0) (hl0:L0.length=L.length+3) (hp:L0.length=p) (hK:Keep (fun t=>t=p\/G t) (L0++[b]) L2)
  (kM:Keep (fun t=>t=L.length\/t=L.length+1\/t=L.length+2) L2 M) (hAb:jV L.length R) (hR:R r L2):R r M/\Keep G L M:=by
 refine ⟨hAb _ _ _ (kM.mono fun t _ h=>by omega) hR,?_⟩
 have k1:Keep none' L (L0++[b]):=Keep.app k0
 have k2:Keep G L L2:=(k1.mono (F':=G) fun t _ h=>h.elim).trans hK fun t ht h=>(by rcases h with h | h<;>first | omega | exact h)
 exact k2.trans kM fun t ht h=>by omega
def zdA : XC :=(.ops [oO 4 (.alloc [(.int .i64 0),(.int .i64 0)]),oO 5 (.alloc [(.int .i64 0)]),oO 6 (.alloc [(.int .i64 0)])])
def zcf : XC :=(sO [oM 9 0,oO 10 (.build [.nsl,(.int .i64 0)] [(0,(1,(.t 9)))]),oO 11 (.box (.t 10)),oM 7 11] (sO [oM 12 1,oM 13 7,oO 14 (.call (.t 12) [.t 13]),oU (.store 2 (.t 4) (.t 14))] (.seq (sO [oM 15 7,oN 16 15,oF 17 1 16,oL 18 17,oM 19 0,oY 20 19,oB 21 .lss 18 20] (cT 21 (.ops [oM 22 7,oM 23 7,oN 24 23,oF 25 1 24,oL 26 25,oC 27 172 [.t 22,.t 26]]) .skip)) (sO [oO 28 (.loadN 2 (.t 4)),oU (.store 2 (.t 4) (.t 28)),oU (.store 1 (.t 5) (oi 0)),oU (.store 1 (.t 6) (oi 0))] .ret))))
theorem z4A:z2k Tryz.prog 350 3:=by
 intro vs w hv
 match vs,hv with
 | [p,q,r],_=>
 have hnil:∀w:World,(binOp BinOp.eql 20 .nilIface .nilIface).run Tryz.prog w=.ok (.bool true) w:=fun _=>by kernel_rfl
 refine callsD_of_wpS Tryz.func350 rfl fun c₀ cs hu=>?_
 apply wpS_seq
 apply wpS_region
 simp [wpOpsS,go_sem,recoverD,hu,Tryz.ntmps350,Exit.thenS]
 refine wpS_of_wp ?_
 go_wp
 cases c₀
 simp_all [bodyPostS,results,Tryz.results350]
theorem za8 {k : FuncId} {caps : List IV} {bs : List (List IV)} {G : Nat -> Prop} {R : IV -> List Blk -> Prop} (hc : Reads E L k caps bs G R) (hAb : jV L.length R) (hG : ∀ t, G t -> t < L.length) (hsh : ∀ r M, R r M -> ∃ cs, r = .agg cs /\ cs.length = 2 /\ cs.all zJ = true) (lo : Nat) (kept : Nat -> Value) (B : List Deferred) (Q : IV -> List Blk -> Prop)
    (h0 : ρ 0 = .isl bs) (h1 : ρ 1 = .fn (.func k) [] caps) (h4 : ρ 4 = .ptr L.length 0 0) (h5 : ρ 5 = .ptr (L.length + 1) 0 0) (h6 : ρ 6 = .ptr (L.length + 2) 0 0) :
    xrun (E.defr Q lo kept B) zcf ρ (L ++ [.cells 2 [[(.int .i64 0), (.int .i64 0)]]] ++ [.cells 1 [[.int .i64 0]]] ++ [.cells 1 [[.int .i64 0]]]) fun e ρ' L' => (e = .ret \/ e = .normal) /\ ρ' 4 = .ptr L.length 0 0 /\ ρ' 5 = .ptr (L.length + 1) 0 0 /\ ρ' 6 = .ptr (L.length + 2) 0 0 /\
      ∃ r, R r L' /\ L'[L.length]? = some (.cells 2 [cellsOf r]) /\ L'[L.length + 1]? = some (.cells 1 [[.int .i64 0]]) /\ L'[L.length + 2]? = some (.cells 1 [[.int .i64 0]]) /\ Keep G L L' := by
  unfold zcf
  simp (maxDischargeDepth := 12) only [h0, h1, go_sem, Nat.reduceEqDiff, reduceIte, Nat.reduceAdd, Nat.reduceLeDiff]
  obtain ⟨L0, hL0⟩ : ∃ L0, L ++ [Blk.cells 2 [[(.int .i64 0), (.int .i64 0)]]] ++ [.cells 1 [[.int .i64 0]]] ++ [.cells 1 [[.int .i64 0]]] = L0 := ⟨_, rfl⟩
  have hl0 : L0.length = L.length + 3 := by rw [<- hL0]; simp
  have k0 : Keep none' L L0 := by rw [<- hL0]; (repeat' first | exact Keep.refl | apply Keep.app | apply Keep.set) <;> (intro hh; first | rfl | (exfalso; first | omega | (simp only [lla,lls,llc,lln] at hh; omega)))
  have g0 : L0[L.length]? = some (.cells 2 [[(.int .i64 0), (.int .i64 0)]]) := by rw [<- hL0]; simp []
  have g1 : L0[L.length + 1]? = some (.cells 1 [[.int .i64 0]]) := by rw [<- hL0]; simp []
  have g2 : L0[L.length + 2]? = some (.cells 1 [[.int .i64 0]]) := by rw [<- hL0]; simp []
  rw [hL0]
  refine zh (hc (L0 ++ [eyeB bs 0]) L0.length (Keep.app k0) (by omega) (by simp) (by simp)) ?_
  rintro r L2 ⟨hR, hE, hK⟩
  obtain ⟨p, hp⟩ : ∃ p, L0.length = p := ⟨_, rfl⟩
  rw [hp] at hE hK ⊢
  unfold eyeB at hE
  have e0 := hK.get (Zl g0) (fun h => by rcases h with h | h; omega; have := hG _ h; omega)
  have e1 := hK.get (Zl g1) (fun h => by rcases h with h | h; omega; have := hG _ h; omega)
  have e2 := hK.get (Zl g2) (fun h => by rcases h with h | h; omega; have := hG _ h; omega)
  have l0 := zg e0
  have l1 := zg e1
  have l2 := zg e2
  have lp := zg hE
  have q1 : (L.length = L.length + 1) = False := eq_false (by omega)
  have q2 : (L.length + 1 = L.length) = False := eq_false (by omega)
  have q3 : (L.length = p) = False := eq_false (by omega)
  have q4 : (L.length + 1 = p) = False := eq_false (by omega)
  have q5 : (L.length = L.length + 2) = False := eq_false (by omega)
  have q6 : (L.length + 2 = L.length) = False := eq_false (by omega)
  have q7 : (L.length + 2 = p) = False := eq_false (by omega)
  have q8 : (L.length + 1 = L.length + 2) = False := eq_false (by omega)
  have q9 : (L.length + 2 = L.length + 1) = False := eq_false (by omega)
  have lo1 : lenOf (.isl bs) = some bs.length := rfl
  have f1 : ((bs.length : Int) < (bs.length : Int)) = False := eq_false (by omega)
  obtain ⟨cs, rfl, hv1, hv2⟩ := hsh _ _ hR
  have hv3 : cellsOf (.agg cs) = cs := rfl
  simp (maxDischargeDepth := 12) only [decide_false, h0, h4, h5, h6, e0, e1, e2, l0, l1, l2, hE, q1, q2, q3, q5, q6, q8, q9, zC lo1, f1, hv1, hv2, hv3, go_sem, Nat.reduceEqDiff, reduceIte, Nat.reduceAdd, Nat.reduceLT]
  have ht : cs.take 2 = cs := List.take_of_length_le (by omega)
  have hd : cs.drop cs.length = [] := by simp
  simp only [ht,hd,List.append_nil]
  refine ⟨hv1, hv2, ?_⟩
  have kM := z3h k0 hl0 hp hK (M := ((((L2.set L.length (Blk.cells 2 [cs])).set L.length (Blk.cells 2 [cs])).set (L.length + 1) (Blk.cells 1 [[IV.int IntKind.i64 0]])).set (L.length + 2) (Blk.cells 1 [[IV.int IntKind.i64 0]]))) (by (repeat' first | exact Keep.refl | apply Keep.app | apply Keep.set) <;> (intro hh; first | rfl | exact .inl rfl | exact .inr rfl | exact .inr (.inl rfl) | exact .inr (.inr rfl) | exact .inr (.inr (.inl rfl)) | exact .inr (.inr (.inr rfl)) | (exfalso; first | omega | (simp only [lla,lls,llc,lln] at hh; omega)))) hAb hR
  exact ⟨.inl trivial, _, kM.1, rfl, kM.2⟩
theorem z9y (hP:E.P=Tryz.prog) {k:FuncId} {caps:List IV} {bs:List (List IV)} {G:Nat->Prop} {R:IV->List Blk->Prop} (hc:Reads E L k caps bs G R) (hAb:jV L.length R) (hG:∀t,G t->t<L.length) (hsh:∀r M,R r M->∃cs,r=.agg cs/\cs.length=2/\cs.all zJ=true) :
  XT E 314 [.isl bs,.fn (.func k) [] caps] L fun r L'=>∃v,r=.tup [v,.int .i64 0,.int .i64 0]/\R v L'/\Keep G L L':=by
 refine Yi (fn:=Tryz.f314) (x1:=zdA) (x3:=zcf) (rs:=[.cellN 4 2,.cell1 5,.cell1 6]) (d:=8) (k:=350) (lo:=7) (caps:=[4,5,6])
  (M:=fun ρ1 L1=>ρ1 0=.isl bs/\ρ1 1=.fn (.func k) [] caps/\ρ1 4=.ptr L.length 0 0/\ρ1 5=.ptr (L.length+1) 0 0/\ρ1 6=.ptr (L.length+2) 0 0/\L1=L++[.cells 2 [[(.int .i64 0),(.int .i64 0)]]]++[.cells 1 [[.int .i64 0]]]++[.cells 1 [[.int .i64 0]]]) (PQ:=fun _ _ _=>False)
  (by rw [hP];rfl) rfl (by decide) (Nat.le_of_ble_eq_true rfl) (by decide) (by rw [hP];kernel_rfl) (by rw [hP];kernel_rfl) (by rw [hP];kernel_rfl) (by rfl) ⟨Tryz.f350,by rw [hP];rfl,by decide,by rfl⟩ ?_ (by rfl) ?_ ?_ ?_ (by rw [hP];exact z4A)
 ·intro Q a w hd hN h
  apply wp_region
  obtain ⟨tm,df⟩:=a
  simp only at hd hN
  subst hd
  have h5:8<tm.size:=by rw [hN];decide
  have hg5:∀v:Value,(tm.setIfInBounds 8 v).getD 8 undef=v:=fun v=>by rw [yf h5,if_pos rfl]
  have hmf:∀(fn:Fn) (first cap:Array Value) (w:World),(Instr.makeFunc fn first cap).run E.P w=.ok (.func fn first cap) w:=fun _ _ _ _=>rfl
  have hr2:(List.range 2)=[0,1]:=rfl
  show wpOps E.P _ Q [0,1] _ w
  simp [wpOps,Oper.wp,Oper.upon,Region.wanted,go_sem,Act.eval,Act.put,hg5,execOp,resolve,Deferred.ofValue]
  refine .inl (.inl ?_)
  simpa using h
 ·generalize hρ:entry _=ρ
  have h0:ρ 0=.isl bs:=by rw [<-hρ];rfl
  have h1:ρ 1=.fn (.func k) [] caps:=by rw [<-hρ];rfl
  clear hρ
  unfold zdA
  simp only [go_sem,Nat.reduceAdd]
  refine ⟨h0,h1,?_,?_,?_⟩<;>simp [put]
 ·rintro ρ1 L1 ⟨h0,h1,h4,h5,h6,rfl⟩ kept B
  refine zB _ (fun e ρ' L' h=>?_) (za8 hc hAb hG hsh 7 kept B (fun _ _=>False) (by simp only [h0,go_sem,Nat.reduceEqDiff,reduceIte]) (by simp only [h1,go_sem,Nat.reduceEqDiff,reduceIte]) (by simp only [h4,go_sem,Nat.reduceEqDiff,reduceIte]) (by simp only [h5,go_sem,Nat.reduceEqDiff,reduceIte]) (by simp only [h6,go_sem,Nat.reduceEqDiff,reduceIte]))
  obtain ⟨he,g4,g5,g6,v,hR,hl0,hl1,hl2,hk⟩:=h
  refine ⟨he,?_⟩
  have l0:=zg hl0
  have l1:=zg hl1
  have l2:=zg hl2
  obtain ⟨cs,rfl,hv1,hv2⟩:=hsh _ _ hR
  have hv3:cellsOf (.agg cs)=cs:=rfl
  simp only [Y4,Yt,Zw,ZO,g4,g5,g6,hl0,hl1,hl2,hv1,hv3,go_sem]
  have ht:cs.take 2=cs:=List.take_of_length_le (by omega)
  simp only [ht]
  exact ⟨_,rfl,hR,hk⟩
 ·rintro ρ1 L1 x L' _ h
  exact h.elim
def zaU : XC :=(.ops [oO 4 (.alloc [(.int .i64 0)]),oO 5 (.alloc [(.int .i64 0)]),oO 6 (.alloc [(.int .i64 0)])])
def z8Q : XC :=(sO [oM 9 0,oO 10 (.build [.nsl,(.int .i64 0)] [(0,(1,(.t 9)))]),oO 11 (.box (.t 10)),oM 7 11] (sO [oM 12 1,oM 13 7,oO 14 (.call (.t 12) [.t 13]),oS 4 14] (.seq (sO [oM 15 7,oN 16 15,oF 17 1 16,oL 18 17,oM 19 0,oY 20 19,oB 21 .lss 18 20] (cT 21 (.ops [oM 22 7,oM 23 7,oN 24 23,oF 25 1 24,oL 26 25,oC 27 172 [.t 22,.t 26]]) .skip)) (sO [oL 28 4,oS 4 28,oU (.store 1 (.t 5) (oi 0)),oU (.store 1 (.t 6) (oi 0))] .ret))))
theorem JO:z2k Tryz.prog 208 3:=by
 intro vs w hv
 match vs,hv with
 | [p,q,r],_=>
 have hnil:∀w:World,(binOp BinOp.eql 20 .nilIface .nilIface).run Tryz.prog w=.ok (.bool true) w:=fun _=>by kernel_rfl
 refine callsD_of_wpS Tryz.func208 rfl fun c₀ cs hu=>?_
 apply wpS_seq
 apply wpS_region
 simp [wpOpsS,go_sem,recoverD,hu,Tryz.ntmps208,Exit.thenS]
 refine wpS_of_wp ?_
 go_wp
 cases c₀
 simp_all [bodyPostS,results,Tryz.results208]
theorem z9Q {k : FuncId} {caps : List IV} {bs : List (List IV)} {G : Nat -> Prop} {R : IV -> List Blk -> Prop} (hc : Reads E L k caps bs G R) (hAb : jV L.length R) (hG : ∀ t, G t -> t < L.length) (hsh : ∀ r M, R r M -> ∃ v, r = v /\ cellsOf v = [v] /\ zJ v = true) (lo : Nat) (kept : Nat -> Value) (B : List Deferred) (Q : IV -> List Blk -> Prop)
    (h0 : ρ 0 = .isl bs) (h1 : ρ 1 = .fn (.func k) [] caps) (h4 : ρ 4 = .ptr L.length 0 0) (h5 : ρ 5 = .ptr (L.length + 1) 0 0) (h6 : ρ 6 = .ptr (L.length + 2) 0 0) :
    xrun (E.defr Q lo kept B) z8Q ρ (L ++ [.cells 1 [[(.int .i64 0)]]] ++ [.cells 1 [[.int .i64 0]]] ++ [.cells 1 [[.int .i64 0]]]) fun e ρ' L' => (e = .ret \/ e = .normal) /\ ρ' 4 = .ptr L.length 0 0 /\ ρ' 5 = .ptr (L.length + 1) 0 0 /\ ρ' 6 = .ptr (L.length + 2) 0 0 /\
      ∃ r, R r L' /\ L'[L.length]? = some (.cells 1 [cellsOf r]) /\ L'[L.length + 1]? = some (.cells 1 [[.int .i64 0]]) /\ L'[L.length + 2]? = some (.cells 1 [[.int .i64 0]]) /\ Keep G L L' := by
  unfold z8Q
  simp (maxDischargeDepth := 12) only [h0, h1, go_sem, Nat.reduceEqDiff, reduceIte, Nat.reduceAdd, Nat.reduceLeDiff]
  obtain ⟨L0, hL0⟩ : ∃ L0, L ++ [Blk.cells 1 [[(.int .i64 0)]]] ++ [.cells 1 [[.int .i64 0]]] ++ [.cells 1 [[.int .i64 0]]] = L0 := ⟨_, rfl⟩
  have hl0 : L0.length = L.length + 3 := by rw [<- hL0]; simp
  have k0 : Keep none' L L0 := by rw [<- hL0]; (repeat' first | exact Keep.refl | apply Keep.app | apply Keep.set) <;> (intro hh; first | rfl | (exfalso; first | omega | (simp only [lla,lls,llc,lln] at hh; omega)))
  have g0 : L0[L.length]? = some (.cells 1 [[(.int .i64 0)]]) := by rw [<- hL0]; simp []
  have g1 : L0[L.length + 1]? = some (.cells 1 [[.int .i64 0]]) := by rw [<- hL0]; simp []
  have g2 : L0[L.length + 2]? = some (.cells 1 [[.int .i64 0]]) := by rw [<- hL0]; simp []
  rw [hL0]
  refine zh (hc (L0 ++ [eyeB bs 0]) L0.length (Keep.app k0) (by omega) (by simp) (by simp)) ?_
  rintro r L2 ⟨hR, hE, hK⟩
  obtain ⟨p, hp⟩ : ∃ p, L0.length = p := ⟨_, rfl⟩
  rw [hp] at hE hK ⊢
  unfold eyeB at hE
  have e0 := hK.get (Zl g0) (fun h => by rcases h with h | h; omega; have := hG _ h; omega)
  have e1 := hK.get (Zl g1) (fun h => by rcases h with h | h; omega; have := hG _ h; omega)
  have e2 := hK.get (Zl g2) (fun h => by rcases h with h | h; omega; have := hG _ h; omega)
  have l0 := zg e0
  have l1 := zg e1
  have l2 := zg e2
  have lp := zg hE
  have q1 : (L.length = L.length + 1) = False := eq_false (by omega)
  have q2 : (L.length + 1 = L.length) = False := eq_false (by omega)
  have q3 : (L.length = p) = False := eq_false (by omega)
  have q4 : (L.length + 1 = p) = False := eq_false (by omega)
  have q5 : (L.length = L.length + 2) = False := eq_false (by omega)
  have q6 : (L.length + 2 = L.length) = False := eq_false (by omega)
  have q7 : (L.length + 2 = p) = False := eq_false (by omega)
  have q8 : (L.length + 1 = L.length + 2) = False := eq_false (by omega)
  have q9 : (L.length + 2 = L.length + 1) = False := eq_false (by omega)
  have lo1 : lenOf (.isl bs) = some bs.length := rfl
  have f1 : ((bs.length : Int) < (bs.length : Int)) = False := eq_false (by omega)
  obtain ⟨v, rfl, hv1, hv2⟩ := hsh _ _ hR
  simp (maxDischargeDepth := 12) only [decide_false, h0, h4, h5, h6, e0, e1, e2, l0, l1, l2, hE, q1, q2, q3, q5, q6, q8, q9, zC lo1, f1, hv1, hv2, go_sem, Nat.reduceEqDiff, reduceIte, Nat.reduceAdd, Nat.reduceLT]
  have kM := z3h k0 hl0 hp hK (M := ((((L2.set L.length (Blk.cells 1 [[r]])).set L.length (Blk.cells 1 [[r]])).set (L.length + 1) (Blk.cells 1 [[IV.int IntKind.i64 0]])).set (L.length + 2) (Blk.cells 1 [[IV.int IntKind.i64 0]]))) (by (repeat' first | exact Keep.refl | apply Keep.app | apply Keep.set) <;> (intro hh; first | rfl | exact .inl rfl | exact .inr rfl | exact .inr (.inl rfl) | exact .inr (.inr rfl) | exact .inr (.inr (.inl rfl)) | exact .inr (.inr (.inr rfl)) | (exfalso; first | omega | (simp only [lla,lls,llc,lln] at hh; omega)))) hAb hR
  exact ⟨.inl trivial, _, kM.1, by rw [hv1], kM.2⟩
theorem z7x (hP:E.P=Tryz.prog) {k:FuncId} {caps:List IV} {bs:List (List IV)} {G:Nat->Prop} {R:IV->List Blk->Prop} (hc:Reads E L k caps bs G R) (hAb:jV L.length R) (hG:∀t,G t->t<L.length) (hsh:∀r M,R r M->∃v,r=v/\cellsOf v=[v]/\zJ v=true) :
  XT E 149 [.isl bs,.fn (.func k) [] caps] L fun r L'=>∃v,r=.tup [v,.int .i64 0,.int .i64 0]/\R v L'/\Keep G L L':=by
 refine Yi (fn:=Tryz.f149) (x1:=zaU) (x3:=z8Q) (rs:=[.cell1 4,.cell1 5,.cell1 6]) (d:=8) (k:=208) (lo:=7) (caps:=[4,5,6])
  (M:=fun ρ1 L1=>ρ1 0=.isl bs/\ρ1 1=.fn (.func k) [] caps/\ρ1 4=.ptr L.length 0 0/\ρ1 5=.ptr (L.length+1) 0 0/\ρ1 6=.ptr (L.length+2) 0 0/\L1=L++[.cells 1 [[(.int .i64 0)]]]++[.cells 1 [[.int .i64 0]]]++[.cells 1 [[.int .i64 0]]]) (PQ:=fun _ _ _=>False)
  (by rw [hP];rfl) rfl (by decide) (Nat.le_of_ble_eq_true rfl) (by decide) (by rw [hP];kernel_rfl) (by rw [hP];kernel_rfl) (by rw [hP];kernel_rfl) (by rfl) ⟨Tryz.f208,by rw [hP];rfl,by decide,by rfl⟩ ?_ (by rfl) ?_ ?_ ?_ (by rw [hP];exact JO)
 ·intro Q a w hd hN h
  apply wp_region
  obtain ⟨tm,df⟩:=a
  simp only at hd hN
  subst hd
  have h5:8<tm.size:=by rw [hN];decide
  have hg5:∀v:Value,(tm.setIfInBounds 8 v).getD 8 undef=v:=fun v=>by rw [yf h5,if_pos rfl]
  have hmf:∀(fn:Fn) (first cap:Array Value) (w:World),(Instr.makeFunc fn first cap).run E.P w=.ok (.func fn first cap) w:=fun _ _ _ _=>rfl
  have hr2:(List.range 2)=[0,1]:=rfl
  show wpOps E.P _ Q [0,1] _ w
  simp [wpOps,Oper.wp,Oper.upon,Region.wanted,go_sem,Act.eval,Act.put,hg5,execOp,resolve,Deferred.ofValue]
  refine .inl (.inl ?_)
  simpa using h
 ·generalize hρ:entry _=ρ
  have h0:ρ 0=.isl bs:=by rw [<-hρ];rfl
  have h1:ρ 1=.fn (.func k) [] caps:=by rw [<-hρ];rfl
  clear hρ
  unfold zaU
  simp only [go_sem]
  refine ⟨h0,h1,?_,?_,?_⟩<;>simp [put]
 ·rintro ρ1 L1 ⟨h0,h1,h4,h5,h6,rfl⟩ kept B
  refine zB _ (fun e ρ' L' h=>?_) (z9Q hc hAb hG hsh 7 kept B (fun _ _=>False) (by simp only [h0,go_sem,Nat.reduceEqDiff,reduceIte]) (by simp only [h1,go_sem,Nat.reduceEqDiff,reduceIte]) (by simp only [h4,go_sem,Nat.reduceEqDiff,reduceIte]) (by simp only [h5,go_sem,Nat.reduceEqDiff,reduceIte]) (by simp only [h6,go_sem,Nat.reduceEqDiff,reduceIte]))
  obtain ⟨he,g4,g5,g6,v,hR,hl0,hl1,hl2,hk⟩:=h
  refine ⟨he,?_⟩
  have l0:=zg hl0
  have l1:=zg hl1
  have l2:=zg hl2
  obtain ⟨v,rfl,hv1,hv2⟩:=hsh _ _ hR
  simp only [Y4,Yt,ZO,g4,g5,g6,hl0,hl1,hl2,hv1,go_sem]
  exact ⟨_,rfl,hR,hk⟩
 ·rintro ρ1 L1 x L' _ h
  exact h.elim
def zdf : XC :=(.ops [oO 4 (.alloc [(.str []),(.str []),(.str []),(.str []),(.int .i64 0),(.str []),.nsl,.nsl,(.int .i64 0)]),oO 5 (.alloc [(.int .i64 0)]),oO 6 (.alloc [(.int .i64 0)])])
def zcw : XC :=(sO [oM 9 0,oO 10 (.build [.nsl,(.int .i64 0)] [(0,(1,(.t 9)))]),oO 11 (.box (.t 10)),oM 7 11] (sO [oM 12 1,oM 13 7,oO 14 (.call (.t 12) [.t 13]),oU (.store 9 (.t 4) (.t 14))] (.seq (sO [oM 15 7,oN 16 15,oF 17 1 16,oL 18 17,oM 19 0,oY 20 19,oB 21 .lss 18 20] (cT 21 (.ops [oM 22 7,oM 23 7,oN 24 23,oF 25 1 24,oL 26 25,oC 27 172 [.t 22,.t 26]]) .skip)) (sO [oO 28 (.loadN 9 (.t 4)),oU (.store 9 (.t 4) (.t 28)),oU (.store 1 (.t 5) (oi 0)),oU (.store 1 (.t 6) (oi 0))] .ret))))
theorem z3V:z2k Tryz.prog 257 3:=by
 intro vs w hv
 match vs,hv with
 | [p,q,r],_=>
 have hnil:∀w:World,(binOp BinOp.eql 20 .nilIface .nilIface).run Tryz.prog w=.ok (.bool true) w:=fun _=>by kernel_rfl
 refine callsD_of_wpS Tryz.func257 rfl fun c₀ cs hu=>?_
 apply wpS_seq
 apply wpS_region
 simp [wpOpsS,go_sem,recoverD,hu,Tryz.ntmps257,Exit.thenS]
 refine wpS_of_wp ?_
 go_wp
 cases c₀
 simp_all [bodyPostS,results,Tryz.results257]
theorem zaV {k : FuncId} {caps : List IV} {bs : List (List IV)} {G : Nat -> Prop} {R : IV -> List Blk -> Prop} (hc : Reads E L k caps bs G R) (hAb : jV L.length R) (hG : ∀ t, G t -> t < L.length) (hsh : ∀ r M, R r M -> ∃ cs, r = .agg cs /\ cs.length = 9 /\ cs.all zJ = true) (lo : Nat) (kept : Nat -> Value) (B : List Deferred) (Q : IV -> List Blk -> Prop)
    (h0 : ρ 0 = .isl bs) (h1 : ρ 1 = .fn (.func k) [] caps) (h4 : ρ 4 = .ptr L.length 0 0) (h5 : ρ 5 = .ptr (L.length + 1) 0 0) (h6 : ρ 6 = .ptr (L.length + 2) 0 0) :
    xrun (E.defr Q lo kept B) zcw ρ (L ++ [.cells 9 [[(.str []), (.str []), (.str []), (.str []), (.int .i64 0), (.str []), .nsl, .nsl, (.int .i64 0)]]] ++ [.cells 1 [[.int .i64 0]]] ++ [.cells 1 [[.int .i64 0]]]) fun e ρ' L' => (e = .ret \/ e = .normal) /\ ρ' 4 = .ptr L.length 0 0 /\ ρ' 5 = .ptr (L.length + 1) 0 0 /\ ρ' 6 = .ptr (L.length + 2) 0 0 /\
      ∃ r, R r L' /\ L'[L.length]? = some (.cells 9 [cellsOf r]) /\ L'[L.length + 1]? = some (.cells 1 [[.int .i64 0]]) /\ L'[L.length + 2]? = some (.cells 1 [[.int .i64 0]]) /\ Keep G L L' := by
  unfold zcw
  simp (maxDischargeDepth := 12) only [h0, h1, go_sem, Nat.reduceEqDiff, reduceIte, Nat.reduceAdd, Nat.reduceLeDiff]
  obtain ⟨L0, hL0⟩ : ∃ L0, L ++ [Blk.cells 9 [[(.str []), (.str []), (.str []), (.str []), (.int .i64 0), (.str []), .nsl, .nsl, (.int .i64 0)]]] ++ [.cells 1 [[.int .i64 0]]] ++ [.cells 1 [[.int .i64 0]]] = L0 := ⟨_, rfl⟩
  have hl0 : L0.length = L.length + 3 := by rw [<- hL0]; simp
  have k0 : Keep none' L L0 := by rw [<- hL0]; (repeat' first | exact Keep.refl | apply Keep.app | apply Keep.set) <;> (intro hh; first | rfl | (exfalso; first | omega | (simp only [lla,lls,llc,lln] at hh; omega)))
  have g0 : L0[L.length]? = some (.cells 9 [[(.str []), (.str []), (.str []), (.str []), (.int .i64 0), (.str []), .nsl, .nsl, (.int .i64 0)]]) := by rw [<- hL0]; simp []
  have g1 : L0[L.length + 1]? = some (.cells 1 [[.int .i64 0]]) := by rw [<- hL0]; simp []
  have g2 : L0[L.length + 2]? = some (.cells 1 [[.int .i64 0]]) := by rw [<- hL0]; simp []
  rw [hL0]
  refine zh (hc (L0 ++ [eyeB bs 0]) L0.length (Keep.app k0) (by omega) (by simp) (by simp)) ?_
  rintro r L2 ⟨hR, hE, hK⟩
  obtain ⟨p, hp⟩ : ∃ p, L0.length = p := ⟨_, rfl⟩
  rw [hp] at hE hK ⊢
  unfold eyeB at hE
  have e0 := hK.get (Zl g0) (fun h => by rcases h with h | h; omega; have := hG _ h; omega)
  have e1 := hK.get (Zl g1) (fun h => by rcases h with h | h; omega; have := hG _ h; omega)
  have e2 := hK.get (Zl g2) (fun h => by rcases h with h | h; omega; have := hG _ h; omega)
  have l0 := zg e0
  have l1 := zg e1
  have l2 := zg e2
  have lp := zg hE
  have q1 : (L.length = L.length + 1) = False := eq_false (by omega)
  have q2 : (L.length + 1 = L.length) = False := eq_false (by omega)
  have q3 : (L.length = p) = False := eq_false (by omega)
  have q4 : (L.length + 1 = p) = False := eq_false (by omega)
  have q5 : (L.length = L.length + 2) = False := eq_false (by omega)
  have q6 : (L.length + 2 = L.length) = False := eq_false (by omega)
  have q7 : (L.length + 2 = p) = False := eq_false (by omega)
  have q8 : (L.length + 1 = L.length + 2) = False := eq_false (by omega)
  have q9 : (L.length + 2 = L.length + 1) = False := eq_false (by omega)
  have lo1 : lenOf (.isl bs) = some bs.length := rfl
  have f1 : ((bs.length : Int) < (bs.length : Int)) = False := eq_false (by omega)
  obtain ⟨cs, rfl, hv1, hv2⟩ := hsh _ _ hR
  have hv3 : cellsOf (.agg cs) = cs := rfl
  simp (maxDischargeDepth := 12) only [decide_false, h0, h4, h5, h6, e0, e1, e2, l0, l1, l2, hE, q1, q2, q3, q5, q6, q8, q9, zC lo1, f1, hv1, hv2, hv3, go_sem, Nat.reduceEqDiff, reduceIte, Nat.reduceAdd, Nat.reduceLT]
  have ht : cs.take 9 = cs := List.take_of_length_le (by omega)
  have hd : cs.drop cs.length = [] := by simp
  simp only [ht,hd,List.append_nil]
  refine ⟨hv1, hv2, ?_⟩
  have kM := z3h k0 hl0 hp hK (M := ((((L2.set L.length (Blk.cells 9 [cs])).set L.length (Blk.cells 9 [cs])).set (L.length + 1) (Blk.cells 1 [[IV.int IntKind.i64 0]])).set (L.length + 2) (Blk.cells 1 [[IV.int IntKind.i64 0]]))) (by (repeat' first | exact Keep.refl | apply Keep.app | apply Keep.set) <;> (intro hh; first | rfl | exact .inl rfl | exact .inr rfl | exact .inr (.inl rfl) | exact .inr (.inr rfl) | exact .inr (.inr (.inl rfl)) | exact .inr (.inr (.inr rfl)) | (exfalso; first | omega | (simp only [lla,lls,llc,lln] at hh; omega)))) hAb hR
  exact ⟨.inl trivial, _, kM.1, rfl, kM.2⟩
theorem z7h (hP:E.P=Tryz.prog) {k:FuncId} {caps:List IV} {bs:List (List IV)} {G:Nat->Prop} {R:IV->List Blk->Prop} (hc:Reads E L k caps bs G R) (hAb:jV L.length R) (hG:∀t,G t->t<L.length) (hsh:∀r M,R r M->∃cs,r=.agg cs/\cs.length=9/\cs.all zJ=true) :
  XT E 192 [.isl bs,.fn (.func k) [] caps] L fun r L'=>∃v,r=.tup [v,.int .i64 0,.int .i64 0]/\R v L'/\Keep G L L':=by
 refine Yi (fn:=Tryz.f192) (x1:=zdf) (x3:=zcw) (rs:=[.cellN 4 9,.cell1 5,.cell1 6]) (d:=8) (k:=257) (lo:=7) (caps:=[4,5,6])
  (M:=fun ρ1 L1=>ρ1 0=.isl bs/\ρ1 1=.fn (.func k) [] caps/\ρ1 4=.ptr L.length 0 0/\ρ1 5=.ptr (L.length+1) 0 0/\ρ1 6=.ptr (L.length+2) 0 0/\L1=L++[.cells 9 [[(.str []),(.str []),(.str []),(.str []),(.int .i64 0),(.str []),.nsl,.nsl,(.int .i64 0)]]]++[.cells 1 [[.int .i64 0]]]++[.cells 1 [[.int .i64 0]]]) (PQ:=fun _ _ _=>False)
  (by rw [hP];rfl) rfl (by decide) (Nat.le_of_ble_eq_true rfl) (by decide) (by rw [hP];kernel_rfl) (by rw [hP];kernel_rfl) (by rw [hP];kernel_rfl) (by rfl) ⟨Tryz.f257,by rw [hP];rfl,by decide,by rfl⟩ ?_ (by rfl) ?_ ?_ ?_ (by rw [hP];exact z3V)
 ·intro Q a w hd hN h
  apply wp_region
  obtain ⟨tm,df⟩:=a
  simp only at hd hN
  subst hd
  have h5:8<tm.size:=by rw [hN];decide
  have hg5:∀v:Value,(tm.setIfInBounds 8 v).getD 8 undef=v:=fun v=>by rw [yf h5,if_pos rfl]
  have hmf:∀(fn:Fn) (first cap:Array Value) (w:World),(Instr.makeFunc fn first cap).run E.P w=.ok (.func fn first cap) w:=fun _ _ _ _=>rfl
  have hr2:(List.range 2)=[0,1]:=rfl
  show wpOps E.P _ Q [0,1] _ w
  simp [wpOps,Oper.wp,Oper.upon,Region.wanted,go_sem,Act.eval,Act.put,hg5,execOp,resolve,Deferred.ofValue]
  refine .inl (.inl ?_)
  simpa using h
 ·generalize hρ:entry _=ρ
  have h0:ρ 0=.isl bs:=by rw [<-hρ];rfl
  have h1:ρ 1=.fn (.func k) [] caps:=by rw [<-hρ];rfl
  clear hρ
  unfold zdf
  simp only [go_sem,Nat.reduceAdd]
  refine ⟨h0,h1,?_,?_,?_⟩<;>simp [put]
 ·rintro ρ1 L1 ⟨h0,h1,h4,h5,h6,rfl⟩ kept B
  refine zB _ (fun e ρ' L' h=>?_) (zaV hc hAb hG hsh 7 kept B (fun _ _=>False) (by simp only [h0,go_sem,Nat.reduceEqDiff,reduceIte]) (by simp only [h1,go_sem,Nat.reduceEqDiff,reduceIte]) (by simp only [h4,go_sem,Nat.reduceEqDiff,reduceIte]) (by simp only [h5,go_sem,Nat.reduceEqDiff,reduceIte]) (by simp only [h6,go_sem,Nat.reduceEqDiff,reduceIte]))
  obtain ⟨he,g4,g5,g6,v,hR,hl0,hl1,hl2,hk⟩:=h
  refine ⟨he,?_⟩
  have l0:=zg hl0
  have l1:=zg hl1
  have l2:=zg hl2
  obtain ⟨cs,rfl,hv1,hv2⟩:=hsh _ _ hR
  have hv3:cellsOf (.agg cs)=cs:=rfl
  simp only [Y4,Yt,Zw,ZO,g4,g5,g6,hl0,hl1,hl2,hv1,hv3,go_sem]
  have ht:cs.take 9=cs:=List.take_of_length_le (by omega)
  simp only [ht]
  exact ⟨_,rfl,hR,hk⟩
 ·rintro ρ1 L1 x L' _ h
  exact h.elim
def zdD : XC :=(.ops [oO 4 (.alloc [(.int .i64 0),(.raw (.complex .f64 0 0)),(.str []),(.str []),(.int .i64 0),(.int .i64 0),(.int .i64 0),(.str []),(.str []),(.str []),(.str []),(.str []),(.int .i64 0)]),oO 5 (.alloc [(.int .i64 0)]),oO 6 (.alloc [(.int .i64 0)])])
def zca : XC :=(sO [oM 9 0,oO 10 (.build [.nsl,(.int .i64 0)] [(0,(1,(.t 9)))]),oO 11 (.box (.t 10)),oM 7 11] (sO [oM 12 1,oM 13 7,oO 14 (.call (.t 12) [.t 13]),oU (.store 13 (.t 4) (.t 14))] (.seq (sO [oM 15 7,oN 16 15,oF 17 1 16,oL 18 17,oM 19 0,oY 20 19,oB 21 .lss 18 20] (cT 21 (.ops [oM 22 7,oM 23 7,oN 24 23,oF 25 1 24,oL 26 25,oC 27 172 [.t 22,.t 26]]) .skip)) (sO [oO 28 (.loadN 13 (.t 4)),oU (.store 13 (.t 4) (.t 28)),oU (.store 1 (.t 5) (oi 0)),oU (.store 1 (.t 6) (oi 0))] .ret))))
theorem z4D:z2k Tryz.prog 300 3:=by
 intro vs w hv
 match vs,hv with
 | [p,q,r],_=>
 have hnil:∀w:World,(binOp BinOp.eql 20 .nilIface .nilIface).run Tryz.prog w=.ok (.bool true) w:=fun _=>by kernel_rfl
 refine callsD_of_wpS Tryz.func300 rfl fun c₀ cs hu=>?_
 apply wpS_seq
 apply wpS_region
 simp [wpOpsS,go_sem,recoverD,hu,Tryz.ntmps300,Exit.thenS]
 refine wpS_of_wp ?_
 go_wp
 cases c₀
 simp_all [bodyPostS,results,Tryz.results300]
theorem zao {k : FuncId} {caps : List IV} {bs : List (List IV)} {G : Nat -> Prop} {R : IV -> List Blk -> Prop} (hc : Reads E L k caps bs G R) (hAb : jV L.length R) (hG : ∀ t, G t -> t < L.length) (hsh : ∀ r M, R r M -> ∃ cs, r = .agg cs /\ cs.length = 13 /\ cs.all zJ = true) (lo : Nat) (kept : Nat -> Value) (B : List Deferred) (Q : IV -> List Blk -> Prop)
    (h0 : ρ 0 = .isl bs) (h1 : ρ 1 = .fn (.func k) [] caps) (h4 : ρ 4 = .ptr L.length 0 0) (h5 : ρ 5 = .ptr (L.length + 1) 0 0) (h6 : ρ 6 = .ptr (L.length + 2) 0 0) :
    xrun (E.defr Q lo kept B) zca ρ (L ++ [.cells 13 [[(.int .i64 0), (.raw (.complex .f64 0 0)), (.str []), (.str []), (.int .i64 0), (.int .i64 0), (.int .i64 0), (.str []), (.str []), (.str []), (.str []), (.str []), (.int .i64 0)]]] ++ [.cells 1 [[.int .i64 0]]] ++ [.cells 1 [[.int .i64 0]]]) fun e ρ' L' => (e = .ret \/ e = .normal) /\ ρ' 4 = .ptr L.length 0 0 /\ ρ' 5 = .ptr (L.length + 1) 0 0 /\ ρ' 6 = .ptr (L.length + 2) 0 0 /\
      ∃ r, R r L' /\ L'[L.length]? = some (.cells 13 [cellsOf r]) /\ L'[L.length + 1]? = some (.cells 1 [[.int .i64 0]]) /\ L'[L.length + 2]? = some (.cells 1 [[.int .i64 0]]) /\ Keep G L L' := by
  unfold zca
  simp (maxDischargeDepth := 12) only [h0, h1, go_sem, Nat.reduceEqDiff, reduceIte, Nat.reduceAdd, Nat.reduceLeDiff]
  obtain ⟨L0, hL0⟩ : ∃ L0, L ++ [Blk.cells 13 [[(.int .i64 0), (.raw (.complex .f64 0 0)), (.str []), (.str []), (.int .i64 0), (.int .i64 0), (.int .i64 0), (.str []), (.str []), (.str []), (.str []), (.str []), (.int .i64 0)]]] ++ [.cells 1 [[.int .i64 0]]] ++ [.cells 1 [[.int .i64 0]]] = L0 := ⟨_, rfl⟩
  have hl0 : L0.length = L.length + 3 := by rw [<- hL0]; simp
  have k0 : Keep none' L L0 := by rw [<- hL0]; (repeat' first | exact Keep.refl | apply Keep.app | apply Keep.set) <;> (intro hh; first | rfl | (exfalso; first | omega | (simp only [lla,lls,llc,lln] at hh; omega)))
  have g0 : L0[L.length]? = some (.cells 13 [[(.int .i64 0), (.raw (.complex .f64 0 0)), (.str []), (.str []), (.int .i64 0), (.int .i64 0), (.int .i64 0), (.str []), (.str []), (.str []), (.str []), (.str []), (.int .i64 0)]]) := by rw [<- hL0]; simp []
  have g1 : L0[L.length + 1]? = some (.cells 1 [[.int .i64 0]]) := by rw [<- hL0]; simp []
  have g2 : L0[L.length + 2]? = some (.cells 1 [[.int .i64 0]]) := by rw [<- hL0]; simp []
  rw [hL0]
  refine zh (hc (L0 ++ [eyeB bs 0]) L0.length (Keep.app k0) (by omega) (by simp) (by simp)) ?_
  rintro r L2 ⟨hR, hE, hK⟩
  obtain ⟨p, hp⟩ : ∃ p, L0.length = p := ⟨_, rfl⟩
  rw [hp] at hE hK ⊢
  unfold eyeB at hE
  have e0 := hK.get (Zl g0) (fun h => by rcases h with h | h; omega; have := hG _ h; omega)
  have e1 := hK.get (Zl g1) (fun h => by rcases h with h | h; omega; have := hG _ h; omega)
  have e2 := hK.get (Zl g2) (fun h => by rcases h with h | h; omega; have := hG _ h; omega)
  have l0 := zg e0
  have l1 := zg e1
  have l2 := zg e2
  have lp := zg hE
  have q1 : (L.length = L.length + 1) = False := eq_false (by omega)
  have q2 : (L.length + 1 = L.length) = False := eq_false (by omega)
  have q3 : (L.length = p) = False := eq_false (by omega)
  have q4 : (L.length + 1 = p) = False := eq_false (by omega)
  have q5 : (L.length = L.length + 2) = False := eq_false (by omega)
  have q6 : (L.length + 2 = L.length) = False := eq_false (by omega)
  have q7 : (L.length + 2 = p) = False := eq_false (by omega)
  have q8 : (L.length + 1 = L.length + 2) = False := eq_false (by omega)
  have q9 : (L.length + 2 = L.length + 1) = False := eq_false (by omega)
  have lo1 : lenOf (.isl bs) = some bs.length := rfl
  have f1 : ((bs.length : Int) < (bs.length : Int)) = False := eq_false (by omega)
  obtain ⟨cs, rfl, hv1, hv2⟩ := hsh _ _ hR
  have hv3 : cellsOf (.agg cs) = cs := rfl
  simp (maxDischargeDepth := 12) only [decide_false, h0, h4, h5, h6, e0, e1, e2, l0, l1, l2, hE, q1, q2, q3, q5, q6, q8, q9, zC lo1, f1, hv1, hv2, hv3, go_sem, Nat.reduceEqDiff, reduceIte, Nat.reduceAdd, Nat.reduceLT]
  have ht : cs.take 13 = cs := List.take_of_length_le (by omega)
  have hd : cs.drop cs.length = [] := by simp
  simp only [ht,hd,List.append_nil]
  refine ⟨hv1, hv2, ?_⟩
  have kM := z3h k0 hl0 hp hK (M := ((((L2.set L.length (Blk.cells 13 [cs])).set L.length (Blk.cells 13 [cs])).set (L.length + 1) (Blk.cells 1 [[IV.int IntKind.i64 0]])).set (L.length + 2) (Blk.cells 1 [[IV.int IntKind.i64 0]]))) (by (repeat' first | exact Keep.refl | apply Keep.app | apply Keep.set) <;> (intro hh; first | rfl | exact .inl rfl | exact .inr rfl | exact .inr (.inl rfl) | exact .inr (.inr rfl) | exact .inr (.inr (.inl rfl)) | exact .inr (.inr (.inr rfl)) | (exfalso; first | omega | (simp only [lla,lls,llc,lln] at hh; omega)))) hAb hR
  exact ⟨.inl trivial, _, kM.1, rfl, kM.2⟩
theorem z8L (hP:E.P=Tryz.prog) {k:FuncId} {caps:List IV} {bs:List (List IV)} {G:Nat->Prop} {R:IV->List Blk->Prop} (hc:Reads E L k caps bs G R) (hAb:jV L.length R) (hG:∀t,G t->t<L.length) (hsh:∀r M,R r M->∃cs,r=.agg cs/\cs.length=13/\cs.all zJ=true) :
  XT E 237 [.isl bs,.fn (.func k) [] caps] L fun r L'=>∃v,r=.tup [v,.int .i64 0,.int .i64 0]/\R v L'/\Keep G L L':=by
 refine Yi (fn:=Tryz.f237) (x1:=zdD) (x3:=zca) (rs:=[.cellN 4 13,.cell1 5,.cell1 6]) (d:=8) (k:=300) (lo:=7) (caps:=[4,5,6])
  (M:=fun ρ1 L1=>ρ1 0=.isl bs/\ρ1 1=.fn (.func k) [] caps/\ρ1 4=.ptr L.length 0 0/\ρ1 5=.ptr (L.length+1) 0 0/\ρ1 6=.ptr (L.length+2) 0 0/\L1=L++[.cells 13 [[(.int .i64 0),(.raw (.complex .f64 0 0)),(.str []),(.str []),(.int .i64 0),(.int .i64 0),(.int .i64 0),(.str []),(.str []),(.str []),(.str []),(.str []),(.int .i64 0)]]]++[.cells 1 [[.int .i64 0]]]++[.cells 1 [[.int .i64 0]]]) (PQ:=fun _ _ _=>False)
  (by rw [hP];rfl) rfl (by decide) (Nat.le_of_ble_eq_true rfl) (by decide) (by rw [hP];kernel_rfl) (by rw [hP];kernel_rfl) (by rw [hP];kernel_rfl) (by rfl) ⟨Tryz.f300,by rw [hP];rfl,by decide,by rfl⟩ ?_ (by rfl) ?_ ?_ ?_ (by rw [hP];exact z4D)
 ·intro Q a w hd hN h
  apply wp_region
  obtain ⟨tm,df⟩:=a
  simp only at hd hN
  subst hd
  have h5:8<tm.size:=by rw [hN];decide
  have hg5:∀v:Value,(tm.setIfInBounds 8 v).getD 8 undef=v:=fun v=>by rw [yf h5,if_pos rfl]
  have hmf:∀(fn:Fn) (first cap:Array Value) (w:World),(Instr.makeFunc fn first cap).run E.P w=.ok (.func fn first cap) w:=fun _ _ _ _=>rfl
  have hr2:(List.range 2)=[0,1]:=rfl
  show wpOps E.P _ Q [0,1] _ w
  simp [wpOps,Oper.wp,Oper.upon,Region.wanted,go_sem,Act.eval,Act.put,hg5,execOp,resolve,Deferred.ofValue]
  refine .inl (.inl ?_)
  simpa using h
 ·generalize hρ:entry _=ρ
  have h0:ρ 0=.isl bs:=by rw [<-hρ];rfl
  have h1:ρ 1=.fn (.func k) [] caps:=by rw [<-hρ];rfl
  clear hρ
  unfold zdD
  simp only [go_sem,Nat.reduceAdd]
  refine ⟨h0,h1,?_,?_,?_⟩<;>simp [put]
 ·rintro ρ1 L1 ⟨h0,h1,h4,h5,h6,rfl⟩ kept B
  refine zB _ (fun e ρ' L' h=>?_) (zao hc hAb hG hsh 7 kept B (fun _ _=>False) (by simp only [h0,go_sem,Nat.reduceEqDiff,reduceIte]) (by simp only [h1,go_sem,Nat.reduceEqDiff,reduceIte]) (by simp only [h4,go_sem,Nat.reduceEqDiff,reduceIte]) (by simp only [h5,go_sem,Nat.reduceEqDiff,reduceIte]) (by simp only [h6,go_sem,Nat.reduceEqDiff,reduceIte]))
  obtain ⟨he,g4,g5,g6,v,hR,hl0,hl1,hl2,hk⟩:=h
  refine ⟨he,?_⟩
  have l0:=zg hl0
  have l1:=zg hl1
  have l2:=zg hl2
  obtain ⟨cs,rfl,hv1,hv2⟩:=hsh _ _ hR
  have hv3:cellsOf (.agg cs)=cs:=rfl
  simp only [Y4,Yt,Zw,ZO,g4,g5,g6,hl0,hl1,hl2,hv1,hv3,go_sem]
  have ht:cs.take 13=cs:=List.take_of_length_le (by omega)
  simp only [ht]
  exact ⟨_,rfl,hR,hk⟩
 ·rintro ρ1 L1 x L' _ h
  exact h.elim
def zer : XC :=(.ops [oO 4 (.alloc [.nsl]),oO 5 (.alloc [(.int .i64 0)]),oO 6 (.alloc [(.int .i64 0)])])
def zbK : XC :=(sO [oM 9 0,oO 10 (.build [.nsl,(.int .i64 0)] [(0,(1,(.t 9)))]),oO 11 (.box (.t 10)),oM 7 11] (sO [oM 12 1,oM 13 7,oO 14 (.call (.t 12) [.t 13]),oS 4 14] (.seq (sO [oM 15 7,oN 16 15,oF 17 1 16,oL 18 17,oM 19 0,oY 20 19,oB 21 .lss 18 20] (cT 21 (.ops [oM 22 7,oM 23 7,oN 24 23,oF 25 1 24,oL 26 25,oC 27 172 [.t 22,.t 26]]) .skip)) (sO [oL 28 4,oS 4 28,oU (.store 1 (.t 5) (oi 0)),oU (.store 1 (.t 6) (oi 0))] .ret))))
theorem z4R:z2k Tryz.prog 207 3:=by
 intro vs w hv
 match vs,hv with
 | [p,q,r],_=>
 have hnil:∀w:World,(binOp BinOp.eql 20 .nilIface .nilIface).run Tryz.prog w=.ok (.bool true) w:=fun _=>by kernel_rfl
 refine callsD_of_wpS Tryz.func207 rfl fun c₀ cs hu=>?_
 apply wpS_seq
 apply wpS_region
 simp [wpOpsS,go_sem,recoverD,hu,Tryz.ntmps207,Exit.thenS]
 refine wpS_of_wp ?_
 go_wp
 cases c₀
 simp_all [bodyPostS,results,Tryz.results207]
theorem zae {k : FuncId} {caps : List IV} {bs : List (List IV)} {G : Nat -> Prop} {R : IV -> List Blk -> Prop} (hc : Reads E L k caps bs G R) (hAb : jV L.length R) (hG : ∀ t, G t -> t < L.length) (hsh : ∀ r M, R r M -> ∃ v, r = v /\ cellsOf v = [v] /\ zJ v = true) (lo : Nat) (kept : Nat -> Value) (B : List Deferred) (Q : IV -> List Blk -> Prop)
    (h0 : ρ 0 = .isl bs) (h1 : ρ 1 = .fn (.func k) [] caps) (h4 : ρ 4 = .ptr L.length 0 0) (h5 : ρ 5 = .ptr (L.length + 1) 0 0) (h6 : ρ 6 = .ptr (L.length + 2) 0 0) :
    xrun (E.defr Q lo kept B) zbK ρ (L ++ [.cells 1 [[.nsl]]] ++ [.cells 1 [[.int .i64 0]]] ++ [.cells 1 [[.int .i64 0]]]) fun e ρ' L' => (e = .ret \/ e = .normal) /\ ρ' 4 = .ptr L.length 0 0 /\ ρ' 5 = .ptr (L.length + 1) 0 0 /\ ρ' 6 = .ptr (L.length + 2) 0 0 /\
      ∃ r, R r L' /\ L'[L.length]? = some (.cells 1 [cellsOf r]) /\ L'[L.length + 1]? = some (.cells 1 [[.int .i64 0]]) /\ L'[L.length + 2]? = some (.cells 1 [[.int .i64 0]]) /\ Keep G L L' := by
  unfold zbK
  simp (maxDischargeDepth := 12) only [h0, h1, go_sem, Nat.reduceEqDiff, reduceIte, Nat.reduceAdd, Nat.reduceLeDiff]
  obtain ⟨L0, hL0⟩ : ∃ L0, L ++ [Blk.cells 1 [[.nsl]]] ++ [.cells 1 [[.int .i64 0]]] ++ [.cells 1 [[.int .i64 0]]] = L0 := ⟨_, rfl⟩
  have hl0 : L0.length = L.length + 3 := by rw [<- hL0]; simp
  have k0 : Keep none' L L0 := by rw [<- hL0]; (repeat' first | exact Keep.refl | apply Keep.app | apply Keep.set) <;> (intro hh; first | rfl | (exfalso; first | omega | (simp only [lla,lls,llc,lln] at hh; omega)))
  have g0 : L0[L.length]? = some (.cells 1 [[.nsl]]) := by rw [<- hL0]; simp []
  have g1 : L0[L.length + 1]? = some (.cells 1 [[.int .i64 0]]) := by rw [<- hL0]; simp []
  have g2 : L0[L.length + 2]? = some (.cells 1 [[.int .i64 0]]) := by rw [<- hL0]; simp []
  rw [hL0]
  refine zh (hc (L0 ++ [eyeB bs 0]) L0.length (Keep.app k0) (by omega) (by simp) (by simp)) ?_
  rintro r L2 ⟨hR, hE, hK⟩
  obtain ⟨p, hp⟩ : ∃ p, L0.length = p := ⟨_, rfl⟩
  rw [hp] at hE hK ⊢
  unfold eyeB at hE
  have e0 := hK.get (Zl g0) (fun h => by rcases h with h | h; omega; have := hG _ h; omega)
  have e1 := hK.get (Zl g1) (fun h => by rcases h with h | h; omega; have := hG _ h; omega)
  have e2 := hK.get (Zl g2) (fun h => by rcases h with h | h; omega; have := hG _ h; omega)
  have l0 := zg e0
  have l1 := zg e1
  have l2 := zg e2
  have lp := zg hE
  have q1 : (L.length = L.length + 1) = False := eq_false (by omega)
  have q2 : (L.length + 1 = L.length) = False := eq_false (by omega)
  have q3 : (L.length = p) = False := eq_false (by omega)
  have q4 : (L.length + 1 = p) = False := eq_false (by omega)
  have q5 : (L.length = L.length + 2) = False := eq_false (by omega)
  have q6 : (L.length + 2 = L.length) = False := eq_false (by omega)
  have q7 : (L.length + 2 = p) = False := eq_false (by omega)
  have q8 : (L.length + 1 = L.length + 2) = False := eq_false (by omega)
  have q9 : (L.length + 2 = L.length + 1) = False := eq_false (by omega)
  have lo1 : lenOf (.isl bs) = some bs.length := rfl
  have f1 : ((bs.length : Int) < (bs.length : Int)) = False := eq_false (by omega)
  obtain ⟨v, rfl, hv1, hv2⟩ := hsh _ _ hR
  simp (maxDischargeDepth := 12) only [decide_false, h0, h4, h5, h6, e0, e1, e2, l0, l1, l2, hE, q1, q2, q3, q5, q6, q8, q9, zC lo1, f1, hv1, hv2, go_sem, Nat.reduceEqDiff, reduceIte, Nat.reduceAdd, Nat.reduceLT]
  have kM := z3h k0 hl0 hp hK (M := ((((L2.set L.length (Blk.cells 1 [[r]])).set L.length (Blk.cells 1 [[r]])).set (L.length + 1) (Blk.cells 1 [[IV.int IntKind.i64 0]])).set (L.length + 2) (Blk.cells 1 [[IV.int IntKind.i64 0]]))) (by (repeat' first | exact Keep.refl | apply Keep.app | apply Keep.set) <;> (intro hh; first | rfl | exact .inl rfl | exact .inr rfl | exact .inr (.inl rfl) | exact .inr (.inr rfl) | exact .inr (.inr (.inl rfl)) | exact .inr (.inr (.inr rfl)) | (exfalso; first | omega | (simp only [lla,lls,llc,lln] at hh; omega)))) hAb hR
  exact ⟨.inl trivial, _, kM.1, by rw [hv1], kM.2⟩
theorem z8X (hP:E.P=Tryz.prog) {k:FuncId} {caps:List IV} {bs:List (List IV)} {G:Nat->Prop} {R:IV->List Blk->Prop} (hc:Reads E L k caps bs G R) (hAb:jV L.length R) (hG:∀t,G t->t<L.length) (hsh:∀r M,R r M->∃v,r=v/\cellsOf v=[v]/\zJ v=true) :
  XT E 145 [.isl bs,.fn (.func k) [] caps] L fun r L'=>∃v,r=.tup [v,.int .i64 0,.int .i64 0]/\R v L'/\Keep G L L':=by
 refine Yi (fn:=Tryz.f145) (x1:=zer) (x3:=zbK) (rs:=[.cell1 4,.cell1 5,.cell1 6]) (d:=8) (k:=207) (lo:=7) (caps:=[4,5,6])
  (M:=fun ρ1 L1=>ρ1 0=.isl bs/\ρ1 1=.fn (.func k) [] caps/\ρ1 4=.ptr L.length 0 0/\ρ1 5=.ptr (L.length+1) 0 0/\ρ1 6=.ptr (L.length+2) 0 0/\L1=L++[.cells 1 [[.nsl]]]++[.cells 1 [[.int .i64 0]]]++[.cells 1 [[.int .i64 0]]]) (PQ:=fun _ _ _=>False)
  (by rw [hP];rfl) rfl (by decide) (Nat.le_of_ble_eq_true rfl) (by decide) (by rw [hP];kernel_rfl) (by rw [hP];kernel_rfl) (by rw [hP];kernel_rfl) (by rfl) ⟨Tryz.f207,by rw [hP];rfl,by decide,by rfl⟩ ?_ (by rfl) ?_ ?_ ?_ (by rw [hP];exact z4R)
 ·intro Q a w hd hN h
  apply wp_region
  obtain ⟨tm,df⟩:=a
  simp only at hd hN
  subst hd
  have h5:8<tm.size:=by rw [hN];decide
  have hg5:∀v:Value,(tm.setIfInBounds 8 v).getD 8 undef=v:=fun v=>by rw [yf h5,if_pos rfl]
  have hmf:∀(fn:Fn) (first cap:Array Value) (w:World),(Instr.makeFunc fn first cap).run E.P w=.ok (.func fn first cap) w:=fun _ _ _ _=>rfl
  have hr2:(List.range 2)=[0,1]:=rfl
  show wpOps E.P _ Q [0,1] _ w
  simp [wpOps,Oper.wp,Oper.upon,Region.wanted,go_sem,Act.eval,Act.put,hg5,execOp,resolve,Deferred.ofValue]
  refine .inl (.inl ?_)
  simpa using h
 ·generalize hρ:entry _=ρ
  have h0:ρ 0=.isl bs:=by rw [<-hρ];rfl
  have h1:ρ 1=.fn (.func k) [] caps:=by rw [<-hρ];rfl
  clear hρ
  unfold zer
  simp only [go_sem]
  refine ⟨h0,h1,?_,?_,?_⟩<;>simp [put]
 ·rintro ρ1 L1 ⟨h0,h1,h4,h5,h6,rfl⟩ kept B
  refine zB _ (fun e ρ' L' h=>?_) (zae hc hAb hG hsh 7 kept B (fun _ _=>False) (by simp only [h0,go_sem,Nat.reduceEqDiff,reduceIte]) (by simp only [h1,go_sem,Nat.reduceEqDiff,reduceIte]) (by simp only [h4,go_sem,Nat.reduceEqDiff,reduceIte]) (by simp only [h5,go_sem,Nat.reduceEqDiff,reduceIte]) (by simp only [h6,go_sem,Nat.reduceEqDiff,reduceIte]))
  obtain ⟨he,g4,g5,g6,v,hR,hl0,hl1,hl2,hk⟩:=h
  refine ⟨he,?_⟩
  have l0:=zg hl0
  have l1:=zg hl1
  have l2:=zg hl2
  obtain ⟨v,rfl,hv1,hv2⟩:=hsh _ _ hR
  simp only [Y4,Yt,ZO,g4,g5,g6,hl0,hl1,hl2,hv1,go_sem]
  exact ⟨_,rfl,hR,hk⟩
 ·rintro ρ1 L1 x L' _ h
  exact h.elim
def r208 : XC :=(.block 0 (sO [oO 9 (.isNil 1 false (.t 7))] (cT 9 (.ops [oM 3 7]) (sO [oO 10 (.ex (.tas 274) [.t 7]),oX 11 1 10,oX 12 0 10] (cT 11 (sO [oO 4 (.alloc [(.int .i64 0)]),oS 4 12] (sO [oI 5 0] (.drawR [(oM 13 5,([],false)),(oF 14 0 4,([],false)),(oL 15 14,([],true)),(oS 0 13,([2],false)),(oS 1 15,([],false)),(oU (.store 1 (.t 2) (oi 2)),([],false))]))) (sO [oM 6 7] (.ops [oM 8 6,oU (.ex .panic [.t 8])])))))))
theorem z9V {x y z n:Int} (M:List Blk) (p:Nat) (h4:M[p]?=some (.cells 1 [[.int .i64 x]])) (h5:M[p+1]?=some (.cells 1 [[.int .i64 y]])) (h6:M[p+2]?=some (.cells 1 [[.int .i64 z]])) :
  xrun (E.defr (fun _ _=>False) 0 (fun _=>undef) []) r208 (put (entry [.ptr p 0 0,.ptr (p+1) 0 0,.ptr (p+2) 0 0]) (some 7) (z4O n)) M
  fun e _ L'=>(e=.ret\/e=.normal)/\L'[p]?=some (.cells 1 [[.int .i64 0]])/\L'[p+1]?=some (.cells 1 [[.int .i64 n]])/\L'[p+2]?=some (.cells 1 [[.int .i64 2]])/\Keep (fun t=>t=p\/t=p+1\/t=p+2) M L':=by
 generalize hρ:entry [.ptr p 0 0,.ptr (p+1) 0 0,.ptr (p+2) 0 0]=ρ
 have h0:ρ 0=.ptr p 0 0:=by rw [<-hρ];rfl
 have h1:ρ 1=.ptr (p+1) 0 0:=by rw [<-hρ];rfl
 have h2:ρ 2=.ptr (p+2) 0 0:=by rw [<-hρ];rfl
 clear hρ
 have l4:=zg h4
 have l5:=zg h5
 have l6:=zg h6
 have q1:(p=p+1)=False:=eq_false (by omega)
 have q2:(p+1=p)=False:=eq_false (by omega)
 have q3:(p=p+2)=False:=eq_false (by omega)
 have q4:(p+2=p)=False:=eq_false (by omega)
 have q5:(p+1=p+2)=False:=eq_false (by omega)
 have q6:(p+2=p+1)=False:=eq_false (by omega)
 unfold r208 z4O
 simp only [h0,h1,h2,h4,h5,h6,l4,l5,l6,q1,q2,q3,q4,q5,q6,go_sem,Nat.reduceEqDiff,reduceIte,Nat.reduceAdd,Nat.reduceLT]
 exact ⟨.inr trivial,by (repeat' first | exact Keep.refl | apply Keep.app | apply Keep.set)<;>(intro hh;first | rfl | exact .inl rfl | exact .inr rfl | exact .inr (.inl rfl) | exact .inr (.inr rfl) | exact .inr (.inr (.inl rfl)) | exact .inr (.inr (.inr rfl)) | (exfalso;first | omega | (simp only [lla,lls,llc,lln] at hh;omega)))⟩
def Stops (E:Env) (L:List Blk) (k:FuncId) (caps:List IV) (bs:List (List IV)):Prop:=∀(L1:List Blk) (p:Nat),Keep none' L L1->L1[p]?=some (eyeB bs 0)->XTP E k (.ptr p 0 0::caps) L1 (fun _ _=>False) fun x L2=>x=z4O 0/\L2=L1
theorem z6D (hP:E.P=Tryz.prog) {k:FuncId} {caps:List IV} {bs:List (List IV)} (hc:Stops E L k caps bs) :
  XT E 149 [.isl bs,.fn (.func k) [] caps] L fun r L'=>r=.tup [.int .i64 0,.int .i64 0,.int .i64 2]/\Keep none' L L':=by
 let L0:=L++[Blk.cells 1 [[.int .i64 0]]]++[.cells 1 [[.int .i64 0]]]++[.cells 1 [[.int .i64 0]]]
 have k0:Keep none' L L0:=by show Keep none' L (L++[Blk.cells 1 [[.int .i64 0]]]++[.cells 1 [[.int .i64 0]]]++[.cells 1 [[.int .i64 0]]]);(repeat' first | exact Keep.refl | apply Keep.app | apply Keep.set)<;>(intro hh;first | rfl | (exfalso;first | omega | (simp only [lla,lls,llc,lln] at hh;omega)))
 have g0:L0[L.length]?=some (.cells 1 [[.int .i64 0]]):=by show (L++[Blk.cells 1 [[.int .i64 0]]]++[.cells 1 [[.int .i64 0]]]++[.cells 1 [[.int .i64 0]]])[L.length]?=_;simp []
 have g1:L0[L.length+1]?=some (.cells 1 [[.int .i64 0]]):=by show (L++[Blk.cells 1 [[.int .i64 0]]]++[.cells 1 [[.int .i64 0]]]++[.cells 1 [[.int .i64 0]]])[L.length+1]?=_;simp []
 have g2:L0[L.length+2]?=some (.cells 1 [[.int .i64 0]]):=by show (L++[Blk.cells 1 [[.int .i64 0]]]++[.cells 1 [[.int .i64 0]]]++[.cells 1 [[.int .i64 0]]])[L.length+2]?=_;simp []
 refine Yi (fn:=Tryz.f149) (x1:=zaU) (x3:=z8Q) (rs:=[.cell1 4,.cell1 5,.cell1 6]) (d:=8) (k:=208) (lo:=7) (caps:=[4,5,6])
  (M:=fun ρ1 L1=>ρ1 0=.isl bs/\ρ1 1=.fn (.func k) [] caps/\ρ1 4=.ptr L.length 0 0/\ρ1 5=.ptr (L.length+1) 0 0/\ρ1 6=.ptr (L.length+2) 0 0/\L1=L0) (PQ:=fun _ x M=>x=z4O 0/\M=L0++[eyeB bs 0])
  (by rw [hP];rfl) rfl (by decide) (Nat.le_of_ble_eq_true rfl) (by decide) (by rw [hP];kernel_rfl) (by rw [hP];kernel_rfl) (by rw [hP];kernel_rfl) (by rfl) ⟨Tryz.f208,by rw [hP];rfl,by decide,by rfl⟩ ?_ (by rfl) ?_ ?_ ?_ (by rw [hP];exact JO)
 ·intro Q a w hd hN h
  apply wp_region
  obtain ⟨tm,df⟩:=a
  simp only at hd hN
  subst hd
  have h5:8<tm.size:=by rw [hN];decide
  have hg5:∀v:Value,(tm.setIfInBounds 8 v).getD 8 undef=v:=fun v=>by rw [yf h5,if_pos rfl]
  have hmf:∀(fn:Fn) (first cap:Array Value) (w:World),(Instr.makeFunc fn first cap).run E.P w=.ok (.func fn first cap) w:=fun _ _ _ _=>rfl
  have hr2:(List.range 2)=[0,1]:=rfl
  show wpOps E.P _ Q [0,1] _ w
  simp [wpOps,Oper.wp,Oper.upon,Region.wanted,go_sem,Act.eval,Act.put,hg5,execOp,resolve,Deferred.ofValue]
  refine .inl (.inl ?_)
  simpa using h
 ·generalize hρ:entry _=ρ
  have h0:ρ 0=.isl bs:=by rw [<-hρ];rfl
  have h1:ρ 1=.fn (.func k) [] caps:=by rw [<-hρ];rfl
  clear hρ
  unfold zaU
  simp only [go_sem]
  refine ⟨h0,h1,?_,?_,?_,rfl⟩<;>simp [put]
 ·rintro ρ1 L1 ⟨h0,h1,h4,h5,h6,rfl⟩ kept B
  unfold z8Q
  simp only [h0,h1,h4,h5,h6,go_sem,Nat.reduceEqDiff,reduceIte,Nat.reduceAdd,Nat.reduceLeDiff]
  refine J9 (hc (L0++[eyeB bs 0]) L0.length (Keep.app k0) (by simp)) (fun _ _ h=>h.elim) ?_
  rintro x M ⟨rfl,rfl⟩
  exact ⟨rfl,rfl⟩
 ·rintro ρ1 L1 x L' ⟨h0,h1,h4,h5,h6,rfl⟩ ⟨rfl,rfl⟩
  have hcaps:([4,5,6]:List Nat).map ρ1=[.ptr L.length 0 0,.ptr (L.length+1) 0 0,.ptr (L.length+2) 0 0]:=by simp [h4,h5,h6]
  rw [hcaps]
  refine zcs (fn:=Tryz.f208) (r:=7) (x2:=r208) (by rw [hP];rfl) rfl rfl (Nat.le_of_ble_eq_true rfl) (by decide) (by rw [hP];kernel_rfl) (by rfl) (zB _ (fun e ρ' L' h=>?_) (z9V (L0++[eyeB bs 0]) L.length (Zl g0) (Zl g1) (Zl g2)))
  obtain ⟨he,e0,e1,e2,hk⟩:=h
  refine ⟨he,fun ρ hρ=>?_⟩
  have g4:ρ 4=.ptr L.length 0 0:=by rw [hρ 4 (by decide)];simp only [h4,go_sem,Nat.reduceEqDiff,reduceIte]
  have g5:ρ 5=.ptr (L.length+1) 0 0:=by rw [hρ 5 (by decide)];simp only [h5,go_sem,Nat.reduceEqDiff,reduceIte]
  have g6:ρ 6=.ptr (L.length+2) 0 0:=by rw [hρ 6 (by decide)];simp only [h6,go_sem,Nat.reduceEqDiff,reduceIte]
  have l0:=zg e0
  have l1:=zg e1
  have l2:=zg e2
  simp only [Y4,Yt,ZO,g4,g5,g6,e0,e1,e2,go_sem]
  refine ⟨rfl,?_⟩
  have k1:Keep none' L (L0++[eyeB bs 0]):=Keep.app k0
  exact k1.trans hk fun t ht h=>by omega
end
end Go.X.TryzW
end
section
open Go Go.X Go.Proofs
set_option maxRecDepth 100000
set_option maxHeartbeats 4000000
namespace Go.X.TryzW
def q77 : XC :=(sO [oI 2 0,oI 3 0,oI 4 0] (sO [oO 5 (.alloc [(.int .i64 0)]),oU (.store 1 (.t 5) (oi 0))] (sO [oM 10 0,oO 11 (.mkfn (.func 150) [] [.t 5]),oC 12 149 [.t 10,.t 11],oM 9 12,oX 13 0 9,oX 14 1 9,oX 15 2 9,oM 6 13,oM 7 14,oM 8 15] (.seq (sO [oM 16 8,oK 17 .neq 16 0] (cT 17 (sO [oM 18 7,oM 19 8,oI 2 0,oM 3 18,oM 4 19] .ret) .skip)) (.seq (.draw [oM 20 6,oL 21 5,oM 2 20,oM 3 21,oI 4 0]) .ret)))))
def q150 : XC :=(sO [oI 3 0] (sO [oM 5 0,oC 6 147 [.t 5],oM 4 6] (sO [oM 7 0,oN 8 7,oF 9 1 8,oL 10 9,oS 1 10] (sO [oM 11 0,oM 12 0,oN 13 12,oF 14 0 13,oL 15 14,oY 16 15,oN 17 11,oF 18 1 17,oS 18 16] (sO [oM 19 4,oM 3 19] .ret)))))
def q275 : XC :=(sO [oO 2 (.alloc [(.int .i64 0),(.int .i64 0)]),oI 3 0,oI 4 0] (sO [oM 5 0,oC 6 314 [.t 5,(.f 315)],oX 7 0 6,oX 8 1 6,oX 9 2 6,oU (.store 2 (.t 2) (.t 7)),oM 3 8,oM 4 9] .ret))
def q315 : XC :=(sO [oO 2 (.alloc [(.int .i64 0),(.int .i64 0)])] (sO [oM 3 0,oC 4 97 [.t 3],oF 5 0 2,oS 5 4] (sO [oM 6 0,oC 7 147 [.t 6],oF 8 1 2,oS 8 7] (sO [oO 9 (.loadN 2 (.t 2)),oU (.store 2 (.t 2) (.t 9))] .ret))))
def q104 : XC :=(.block 0 (sO [oM 9 1,oO 10 (.bin .lss (.t 9) (.c (.int .i64 (-2251799813685248)))),oM 11 10,oG 12 11 false (.mov (.t 1)),oG 13 11 false (.bin .gtr (.t 12) (oi 2251799813685248)),oO 14 (.pick (.t 11) (.c (.bool true)) (.t 13)),oM 8 14] (cT 8 (.ops [oO 15 (.build [(.int .i64 0)] []),oO 16 (.ex (.mkif 274) [.t 15]),oU (.ex .panic [.t 16])]) (sO [oM 18 1,oK 19 .lss 18 0,oM 17 19] (cT 17 (.ops [oM 20 0,oM 21 1,oO 22 (.bin .mul (.c (.int .i64 (-2))) (.t 21)),oK 23 .sub 22 1,oC 24 107 [.t 20,.t 23]]) (.ops [oM 4 0,oM 5 1,oO 6 (.bin .mul (oi 2) (.t 5)),oC 7 107 [.t 4,.t 6]]))))))
def q276 : XC :=(sO [oO 1 (.box (.t 0)),oV 2 .nsl,oI 3 0] (sO [oO 4 (.mkfn (.func 316) [] [.t 1]),oC 5 100 [.t 4],oX 6 0 5,oX 7 1 5,oM 2 6,oM 3 7] .ret))
def q316 : XC :=(sO [oM 3 0,oF 4 0 1,oL 5 4,oC 6 104 [.t 3,.t 5]] (.ops [oM 7 0,oF 8 1 1,oL 9 8,oC 10 107 [.t 7,.t 9]]))
section
variable {E:Env} {ρ:Rho} {L:List Blk} {K:IV->List Blk->Prop}
theorem z6P (hP:E.P=Tryz.prog) {b:Nat}:Stops E L 150 [.ptr b 0 0] []:=by
 intro L1 p hk he
 refine xtl (n:=Tryz.f150.ntmps) (rs:=[.tmp 3]) (c:=q150) (by rw [hP];rfl) (by rw [hP];kernel_rfl) (by decide) (Nat.le_of_ble_eq_true rfl) ?_
 generalize hρ:entry _=ρ
 have h0:ρ 0=.ptr p 0 0:=by rw [<-hρ];rfl
 have h1:ρ 1=.ptr b 0 0:=by rw [<-hρ];rfl
 clear hρ
 unfold q150
 simp only [h0,go_sem,Nat.reduceEqDiff,reduceIte]
 exact J9 (zat (by exact hP) he) (fun _ _ h=>h.elim) fun _ _ h=>h
theorem z6T (hP:E.P=Tryz.prog) {b n:Nat} {c:Int} (hb:L[b]?=some (.cells 1 [[.int .i64 c]])) (hn:n<=4503599627370496):Reads E L 150 [.ptr b 0 0] (numR n) (fun t=>t=b) fun r M=>r=.int .i64 n/\M[b]?=some (.cells 1 [[.int .i64 ((zl n+1:Nat):Int)]]):=by
 intro L1 p hk hp hl he
 have hb1:=hk.get hb fun h=>h
 have hbl:=zf hb
 have hbp:(b=p)=False:=eq_false (by omega)
 have hpb:(p=b)=False:=eq_false (by omega)
 have lb1:=zg hb1
 have lp:=zg he
 refine xt2 (fn:=Tryz.f150) (rs:=[.tmp 3]) (c:=q150) hP fun ρ h0 h1=>?_
 unfold q150
 simp only [h0,go_sem,Nat.reduceEqDiff,reduceIte]
 have hnl:=zF n
 have hsz:=Za (n:=n) (k:=7) (by omega)
 refine zh (yK (E:=E.noPan) (rest:=[]) hP he (by simp) (zH n) (by omega) hn) ?_
 rintro r L2 ⟨rfl,rfl⟩
 have lo:lenOf (.isl (numR n))=some (numR n).length:=rfl
 unfold eyeB
 simp only [h0,h1,hb1,lb1,lp,hbp,hpb,zC lo,go_sem,Nat.reduceEqDiff,reduceIte,Nat.reduceAdd,Nat.reduceLT]
 (repeat' first | exact Keep.refl | apply Keep.app | apply Keep.set)<;>(intro hh;first | rfl | exact .inl rfl | exact .inr rfl | exact .inr (.inl rfl) | exact .inr (.inr rfl) | exact .inr (.inr (.inl rfl)) | exact .inr (.inr (.inr rfl)) | (exfalso;first | omega | (simp only [lla,lls,llc,lln] at hh;omega)))
theorem z0p (hP:E.P=Tryz.prog) {n:Nat} (hn:n<=4503599627370496):XT E 77 [.isl (numR n)] L fun r L'=>r=.tup [.int .i64 n,.int .i64 ((zl n+1:Nat):Int),.int .i64 0]/\Keep none' L L':=by
 refine xt1 (fn:=Tryz.f77) (rs:=[.tmp 2,.tmp 3,.tmp 4]) (c:=q77) hP fun ρ h0=>?_
 unfold q77
 simp only [h0,go_sem,Nat.reduceEqDiff,reduceIte]
 refine zh (z7x (E:=E.noPan) hP (z6T hP (b:=L.length) (c:=0) (by simp only [go_sem]<;>rfl) hn) ?_ ?_ ?_) ?_
 ·rintro r M M' hk ⟨rfl,h⟩
  exact ⟨rfl,hk.get h (by simp;omega)⟩
 ·rintro t rfl;simp
 ·rintro r M ⟨rfl,_⟩;exact ⟨_,rfl,rfl,rfl⟩
 rintro r L2 ⟨v,rfl,⟨rfl,hb⟩,hk⟩
 have lb:=zg hb
 simp only [hb,go_sem,Nat.reduceEqDiff,reduceIte,Nat.reduceAdd,Nat.reduceLT]
 have k0:Keep none' L (L++[Blk.cells 1 [[IV.int IntKind.i64 0]]]):=Keep.app Keep.refl
 exact ⟨rfl,k0.trans hk fun t ht h=>by omega⟩
theorem z0n (hP:E.P=Tryz.prog) {n:Nat} (hn:n<=4503599627370496):zI E 77 [.isl (numR n)] (.tup [.int .i64 n,.int .i64 ((zl n+1:Nat):Int),.int .i64 0]):=by
 refine Z7 (z0p hP hn) ?_
 rintro r L' ⟨rfl,hk⟩
 exact ⟨hk,_,rfl,rfl⟩
theorem JA (hP:E.P=Tryz.prog):XT E 77 [.isl []] L fun r L'=>r=.tup [.int .i64 0,.int .i64 0,.int .i64 2]/\Keep none' L L':=by
 refine xt1 (fn:=Tryz.f77) (rs:=[.tmp 2,.tmp 3,.tmp 4]) (c:=q77) hP fun ρ h0=>?_
 unfold q77
 simp only [h0,go_sem,Nat.reduceEqDiff,reduceIte]
 refine zh (z6D (E:=E.noPan) hP (z6P hP (b:=L.length))) ?_
 rintro r L2 ⟨rfl,hk⟩
 simp only [go_sem,Nat.reduceEqDiff,reduceIte,Int.reduceEq,Nat.reduceAdd,Nat.reduceLT]
 exact (Keep.app (k:=Blk.cells 1 [[IV.int IntKind.i64 0]]) Keep.refl:Keep none' L _).trans hk fun _ _ h=>h
theorem jZ (hP:E.P=Tryz.prog):zI E 77 [.isl []] (.tup [.int .i64 0,.int .i64 0,.int .i64 2]):=by
 refine Z7 (JA hP) ?_
 rintro r L' ⟨rfl,hk⟩
 exact ⟨hk,_,rfl,rfl⟩
def Zo (o:Int) (n:Nat):List (List IV):=numR (sgnN o)++numR n
theorem jI {o:Int} {n:Nat}:zx (Zo o n):=(zH _).app (zH _)
theorem z4b (hP:E.P=Tryz.prog) {o:Int} {n:Nat} (h1 : -2251799813685248<=o) (h2:o<=2251799813685248) (hn:n<=4503599627370496):Reads E L 315 [] (Zo o n) none' fun r M=>r=.agg [.int .i64 o,.int .i64 n]:=by
 intro L1 p hk hp hl he
 have hnl:=zF n
 have hsz:=Za (n:=n) (k:=7) (by omega)
 have hnl2:=zF (sgnN o)
 have hsg:sgnN o<=4503599627370496:=by unfold sgnN;split<;>omega
 have hsz2:=Za (n:=sgnN o) (k:=7) (by omega)
 have lp:=zg he
 have hle:(Zo o n).length=(numR (sgnN o)).length+(numR n).length:=by simp [Zo]
 have lenp:(p=L1.length)=False:=eq_false (by omega)
 have lenp2:(L1.length=p)=False:=eq_false (by omega)
 have he2:=Zl (b:=.cells 2 [[.int .i64 0,.int .i64 0]]) he
 refine xt1 (fn:=Tryz.f315) (rs:=[.cellN 2 2]) (c:=q315) hP fun ρ h0=>?_
 unfold q315
 simp only [h0,go_sem,Nat.reduceEqDiff,reduceIte,Nat.reduceAdd]
 refine zh (z8f (E:=E.noPan) (v:=o) (rest:=numR n) hP he2 (by simp [Zo]) jI (by omega) h1 h2) ?_
 rintro r L2 ⟨rfl,rfl⟩
 simp only [h0,lenp,go_sem,Nat.reduceEqDiff,reduceIte,Nat.reduceAdd,Nat.reduceLeDiff]
 refine zh (yK (E:=E.noPan) (p:=p) (bs:=Zo o n) (a:=zl (sgnN o)+1) (n:=n) (rest:=[]) hP (by simp only [lp,lenp2,go_sem]) ?_ jI (by omega) hn) ?_
 ·have:=drop_at (bs:=Zo o n) (a:=0) (rs:=numR (sgnN o)) (rest:=numR n) (by simp [Zo])
  rw [Nat.zero_add,hnl2] at this
  rw [this];simp
 rintro r L2 ⟨rfl,rfl⟩
 simp only [lp,lenp,lenp2,Y4,Zw,ZO,go_sem,Nat.reduceEqDiff,reduceIte,Nat.reduceAdd]
 refine ⟨rfl,?_,by (repeat' first | exact Keep.refl | apply Keep.app | apply Keep.set)<;>(intro hh;first | rfl | exact .inl rfl | exact .inr rfl | exact .inr (.inl rfl) | exact .inr (.inr rfl) | exact .inr (.inr (.inl rfl)) | exact .inr (.inr (.inr rfl)) | (exfalso;first | omega | (simp only [lla,lls,llc,lln] at hh;omega)))⟩
 rw [hle,hnl,hnl2]
theorem z0q (hP:E.P=Tryz.prog) {o:Int} {n:Nat} (h1 : -2251799813685248<=o) (h2:o<=2251799813685248) (hn:n<=4503599627370496):zI E 275 [.isl (Zo o n)] (.tup [.agg [.int .i64 o,.int .i64 n],.int .i64 0,.int .i64 0]):=by
 refine Z7 (R:=fun r L'=>r=.tup [.agg [.int .i64 o,.int .i64 n],.int .i64 0,.int .i64 0]/\Keep none' [] L') ?_ ?_
 ·have hA:jV [Blk.cells 2 [[IV.int IntKind.i64 0,IV.int IntKind.i64 0]]].length (fun (r:IV) (_:List Blk)=>r=.agg [.int .i64 o,.int .i64 n]):=fun r M M' _ h=>h
  refine xt1 (fn:=Tryz.f275) (rs:=[.cellN 2 2,.tmp 3,.tmp 4]) (c:=q275) hP fun ρ h0=>?_
  unfold q275
  simp only [h0,go_sem,Nat.reduceEqDiff,reduceIte,Nat.reduceAdd]
  refine zh (z9y (E:=E.noPan) hP (z4b hP h1 h2 hn) (fun r M M' _ h=>h) (fun _ h=>h.elim) (fun r M h=>⟨_,h,rfl,rfl⟩)) ?_
  rintro r L2 ⟨v,rfl,rfl,hk⟩
  have hb:=hk.get (t:=0) (k:=Blk.cells 2 [[IV.int IntKind.i64 0,IV.int IntKind.i64 0]]) rfl (fun h=>h)
  have lb:=zg hb
  simp only [hb,lb,Y4,Zw,ZO,jE,go_sem,Nat.reduceEqDiff,reduceIte,Nat.reduceAdd,Nat.reduceLT]
  exact ⟨rfl,⟨Nat.zero_le _,fun t ht=>nomatch ht⟩⟩
 ·rintro r L' ⟨rfl,hk⟩
  exact ⟨hk,_,rfl,rfl⟩
theorem z3g (hP:E.P=Tryz.prog) {p:Nat} {v:Int} {F:Nat->Prop} {bs:List (List IV)} (h:yJ L p F bs) (hv1 : -2251799813685248<=v) (hv2:v<=2251799813685248) (hN:bs.length+100<=70368744177664) :
  XT E 104 [.ptr p 0 0,.int .i64 v] L fun r L'=>r=.tup []/\(∃F',yJ L' p F' (bs++numR (sgnN v))/\Grown F F' L L')/\Keep F L L':=by
 have hp:=Yq (E:=E.noPan) (n:=sgnN v) hP h (by unfold sgnN;split<;>omega) hN
 refine xt2 (fn:=Tryz.f104) (rs:=[]) (c:=q104) hP fun ρ h0 h1=>?_
 unfold q104
 have f1:(v < -2251799813685248)=False:=eq_false (by omega)
 have f2:((2251799813685248:Int)<v)=False:=eq_false (by omega)
 by_cases hc:v<0
 ·have f3:(v<0)=True:=eq_true hc
  have e1:(sgnN v:Int) = -2*v - 1:=by unfold sgnN;rw [if_pos hc];omega
  have w1:IntKind.i64.wrap (-2*v) = -2*v:=wrap64 (by omega) (by omega)
  have w2:IntKind.i64.wrap (-2*v - 1)=(sgnN v:Int):=by rw [wrap64 (by omega) (by omega),e1]
  simp only [h0,h1,f1,f2,f3,w1,w2,go_sem,Nat.reduceEqDiff,reduceIte,Int.reduceNeg]
  refine zh hp ?_
  rintro r L' ⟨rfl,h2,h3⟩
  simp only [go_sem,Int.reduceNeg]
  exact ⟨h2,h3⟩
 ·have f3:(v<0)=False:=eq_false hc
  have e1:(sgnN v:Int)=2*v:=by unfold sgnN;rw [if_neg hc];omega
  have w1:IntKind.i64.wrap (2*v)=(sgnN v:Int):=by rw [wrap64 (by omega) (by omega),e1]
  simp only [h0,h1,f1,f2,f3,w1,go_sem,Nat.reduceEqDiff,reduceIte,Int.reduceNeg]
  refine zh hp ?_
  rintro r L' ⟨rfl,h2,h3⟩
  simp only [go_sem,Int.reduceNeg]
  exact ⟨h2,h3⟩
theorem z2E (hP:E.P=Tryz.prog) {b n:Nat} {o:Int} (hb:L[b]?=some (.cells 2 [[.int .i64 o,.int .i64 n]])) (ho1 : -2251799813685248<=o) (ho2:o<=2251799813685248) (hn:n<=4503599627370496):Writes E L 316 [.ptr b 0 0] (Zo o n):=by
 intro L1 p hk hp hpen
 have hb1:=hk.get hb fun h=>h
 have lb1:=zg hb1
 have hbl:=zf hb
 refine xt2 (fn:=Tryz.f316) (rs:=[]) (c:=q316) hP fun ρ h0 h1=>?_
 unfold q316
 simp only [h0,h1,hb1,go_sem,Nat.reduceEqDiff,reduceIte,Nat.reduceAdd]
 refine zh (z3g (E:=E.noPan) hP hpen ho1 ho2 (by simp)) ?_
 rintro r L2 ⟨rfl,⟨F1,hP1,hG1⟩,hK1⟩
 have hb2:=hK1.get hb1 (by omega)
 have lb2:=zg hb2
 simp only [h0,h1,hb2,go_sem,Nat.reduceEqDiff,reduceIte,Nat.reduceAdd,Nat.reduceLT]
 have hl:=zF (sgnN o)
 have hsz2:=Za (n:=sgnN o) (k:=7) (by unfold sgnN;split<;>omega)
 refine zh (Yq (E:=E.noPan) hP hP1 hn (by simp;omega)) ?_
 rintro r L3 ⟨rfl,⟨F2,hP2,hG2⟩,hK2⟩
 simp only [go_sem]
 refine ⟨⟨F2,hP2,hG1.trans hG2 hK1.1 hK2.1⟩,hK1.trans hK2 fun t ht h=>?_⟩
 rcases hG1 t h with h | h
 ·exact h
 ·omega
theorem z6M (hP:E.P=Tryz.prog) {n:Nat} {o:Int} (h1 : -2251799813685248<=o) (h2:o<=2251799813685248) (hn:n<=4503599627370496):zI E 276 [.agg [.int .i64 o,.int .i64 n]] (.tup [.isl (Zo o n),.int .i64 0]):=by
 refine Z7 (R:=fun r L'=>∃v,r=.tup [v,.int .i64 0]/\NewB [] L' v (Zo o n)/\Keep none' [] L') ?_ ?_
 ·skip
  refine xt1 (fn:=Tryz.f276) (rs:=[.tmp 2,.tmp 3]) (c:=q276) hP fun ρ h0=>?_
  unfold q276
  simp only [h0,go_sem,Nat.reduceEqDiff,reduceIte,Nat.reduceAdd]
  refine zh (Y7 (E:=E.noPan) hP (z2E hP (b:=0) (n:=n) (o:=o) rfl h1 h2 hn) (by simp [Zo,numR])) ?_
  rintro r L' ⟨v,rfl,⟨g,rfl,hg,hb,hr⟩,hk⟩
  simp only [go_sem,Nat.reduceEqDiff,reduceIte,Nat.reduceAdd,Nat.reduceLT]
  exact ⟨_,rfl,⟨g,rfl,Nat.zero_le _,hb,hr⟩,Keep.trans (Keep.app Keep.refl) hk fun _ _ h=>h⟩
 ·rintro r L' ⟨v,rfl,hv,hk⟩
  exact ⟨hk,_,by simp only [fuel,conv,mapO,YB hv];rfl,rfl⟩
end
end Go.X.TryzW
end
section
open Go Go.X Go.Proofs
set_option maxRecDepth 100000
namespace Go.X
theorem z0k {α:Type} {P:α->Bool}:∀{l:List α},l.Pairwise (fun a b=>P b=true->P a=true)->l.takeWhile P=l.filter P
 | [],_=>rfl
 | a::r,h=>by
  have h':=List.pairwise_cons.1 h
  cases hp:P a with
  | true=>rw [List.takeWhile_cons_of_pos hp,List.filter_cons_of_pos hp,z0k h'.2]
  | false=>
   rw [List.takeWhile_cons_of_neg (by simp [hp]),List.filter_cons_of_neg (by simp [hp])]
   symm
   rw [List.filter_eq_nil_iff]
   intro b hb hpb
   rw [h'.1 b hb hpb] at hp
   cases hp
theorem KV.drop_rank:∀(d:KV) (k:List UInt8),d.sorted->d.drop (d.rank k)=d.filter fun p=>!Op.bytesLess p.1 k
 | [],k,_=>rfl
 | p::r,k,h=>by
  have h':=List.pairwise_cons.1 h
  unfold KV.rank
  cases hp:Op.bytesLess p.1 k with
  | true=>
   rw [if_pos rfl,List.drop_succ_cons,KV.drop_rank r k h'.2,List.filter_cons_of_neg (by simp [hp])]
  | false=>
   rw [if_neg (by simp),List.drop_zero,List.filter_cons_of_pos (by simp [hp])]
   congr 1
   symm
   rw [List.filter_eq_self]
   intro q hq
   have h1:=h'.1 q hq
   cases hq2:Op.bytesLess q.1 k with
   | false=>rfl
   | true=>rw [ww h1 hq2] at hp;cases hp
theorem KV.sorted_filter {d:KV} (h:d.sorted) (P:List UInt8 × List UInt8->Bool):KV.sorted (d.filter P):=List.Pairwise.filter _ h
theorem KV.scan_eq {d:KV} (h:d.sorted) {fr to:List UInt8} (ht:to≠[]):d.scan fr to=d.filter fun p=>!Op.bytesLess p.1 fr&&Op.bytesLess p.1 to:=by
 unfold KV.scan
 rw [KV.drop_rank d fr h,z0k]
 ·rw [List.filter_filter]
  congr 1
  funext p
  unfold TryzW.inTo
  rw [decide_eq_false ht,Bool.false_or,Bool.and_comm]
 ·refine List.Pairwise.imp ?_ (KV.sorted_filter h _)
  intro a b hab hb
  unfold TryzW.inTo at hb ⊢
  rw [decide_eq_false ht,Bool.false_or] at hb ⊢
  exact ww hab hb
theorem z3X {k p:List UInt8}:TryzW.pfx k p=true↔p <+: k:=by
 unfold TryzW.pfx
 rw [decide_eq_true_eq]
 constructor
 ·rintro ⟨_,h⟩
  rw [<-h]
  exact List.take_prefix _ _
 ·intro h
  exact ⟨h.length_le,(List.prefix_iff_eq_take.1 h).symm⟩
theorem ze4:∀{p k:List UInt8},p <+: k->Op.bytesLess k p=false
 | p,_,⟨t,rfl⟩=>by
  cases h:Op.bytesLess (p++t) p with
  | false=>rfl
  | true=>
   have h1:=vJ.1 h
   exfalso
   induction p with
   | nil=>exact List.not_lt_nil _ h1
   | cons a p ih=>
    simp only [List.cons_append,List.cons_lt_cons_iff] at h1
    rcases h1 with h1 | ⟨_,h1⟩
    ·exact absurd h1 (UInt8.lt_irrefl a)
    ·exact ih (vJ.2 h1) h1
theorem z5U:∀{p k k':List UInt8},Op.bytesLess k p=false->Op.bytesLess k k'=true->p <+: k'->p <+: k
 | [],k,k',_,_,_=>List.nil_prefix
 | a::p,k,k',h1,h2,⟨t,h3⟩=>by
  subst h3
  cases k with
  | nil=>
   exfalso
   have:Op.bytesLess [] (a::p)=true:=vJ.2 (List.nil_lt_cons a p)
   rw [this] at h1;cases h1
  | cons b k=>
   have h2':=vJ.1 h2
   simp only [List.cons_append,List.cons_lt_cons_iff] at h2'
   have h1':¬(b::k)<(a::p):=fun h=>by rw [vJ.2 h] at h1;cases h1
   simp only [List.cons_lt_cons_iff,not_or] at h1'
   rcases h2' with h | ⟨rfl,h⟩
   ·exact absurd h h1'.1
   ·have h4:Op.bytesLess k p=false:=by
     cases h5:Op.bytesLess k p with
     | false=>rfl
     | true=>exact absurd ⟨rfl,vJ.1 h5⟩ h1'.2
    rw [List.cons_prefix_cons]
    exact ⟨rfl,z5U h4 (vJ.2 h) ⟨t,rfl⟩⟩
theorem KV.list_eq {d:KV} (h:d.sorted) (p:List UInt8):d.list p=d.filter fun q=>TryzW.pfx q.1 p:=by
 unfold KV.list KV.scan
 have e0:(fun q:List UInt8 × List UInt8=>TryzW.inTo [] q.1)=fun _=>true:=by funext q;simp [TryzW.inTo]
 have e1:∀l:KV,l.takeWhile (fun q:List UInt8 × List UInt8=>TryzW.inTo [] q.1)=l:=fun l=>by
  rw [e0]
  induction l with
  | nil=>rfl
  | cons a l ih=>rw [List.takeWhile_cons_of_pos rfl,ih]
 rw [e1,KV.drop_rank d p h,z0k]
 ·rw [List.filter_filter]
  congr 1
  funext q
  cases hq:TryzW.pfx q.1 p with
  | false=>simp
  | true=>simp [ze4 (z3X.1 hq)]
 ·have h2:((d.filter fun q=>!Op.bytesLess q.1 p)).Pairwise fun a b=>Op.bytesLess a.1 b.1=true/\Op.bytesLess a.1 p=false:=by
   have h3:=KV.sorted_filter h fun q=>!Op.bytesLess q.1 p
   unfold KV.sorted at h3
   rw [List.pairwise_iff_getElem] at h3 ⊢
   intro i j hi hj hij
   refine ⟨h3 i j hi hj hij,?_⟩
   have:=(List.mem_filter.1 (List.getElem_mem hi)).2
   simpa using this
  refine List.Pairwise.imp ?_ h2
  rintro a b ⟨h5,h6⟩ h7
  exact z3X.2 (z5U h6 h5 (z3X.1 h7))
theorem KV.put_head {l:KV} {k v:List UInt8} (h:∀q∈l,Op.bytesLess k q.1=true):KV.put l k v=(k,v)::l:=by
 cases l with
 | nil=>rfl
 | cons p r=>
  have h1:=h p List.mem_cons_self
  unfold KV.put
  have h2:Op.bytesLess p.1 k=false:=by
   cases h3:Op.bytesLess p.1 k with
   | false=>rfl
   | true=>have:=ww h1 h3;rw [jU] at this;cases this
  have h4:¬p.1=k:=fun h=>by rw [h,jU] at h1;cases h1
  rw [h2,if_neg (by simp),if_neg h4]
theorem KV.put_cons {p:List UInt8 × List UInt8} {r:KV} {k v:List UInt8}:KV.put (p::r) k v=if Op.bytesLess p.1 k then p::KV.put r k v else if p.1=k then (k,v)::r else (k,v)::p::r:=rfl
theorem KV.filter_put (P:List UInt8->Bool):∀(d:KV) (k v:List UInt8),d.sorted->(d.put k v).filter (fun p=>P p.1)=if P k then KV.put (d.filter fun p=>P p.1) k v else d.filter fun p=>P p.1
 | [],k,v,_=>by
  show List.filter (fun p:List UInt8 × List UInt8=>P p.1) [(k,v)]=_
  cases hk:P k with
  | true=>rw [if_pos rfl,List.filter_cons_of_pos (by simpa using hk)];rfl
  | false=>rw [if_neg (by simp),List.filter_cons_of_neg (by simpa using hk)]
 | p::r,k,v,h=>by
  have h':=List.pairwise_cons.1 h
  have ih:=KV.filter_put P r k v h'.2
  rw [KV.put_cons]
  cases hl:Op.bytesLess p.1 k with
  | true=>
   rw [if_pos rfl]
   cases hp:P p.1 with
   | true=>
    simp only [List.filter_cons,hp,if_true,ih]
    split
    ·rw [KV.put_cons,hl,if_pos rfl]
    ·rfl
   | false=>
    simp only [List.filter_cons,hp,ih]
    rfl
  | false=>
   rw [if_neg (by simp)]
   by_cases he:p.1=k
   ·rw [if_pos he]
    subst he
    cases hp:P p.1 with
    | true=>
     simp only [List.filter_cons,hp,if_true]
     rw [KV.put_cons,jU,if_neg (by simp),if_pos rfl]
    | false=>
     simp only [List.filter_cons,hp]
     rfl
   ·rw [if_neg he]
    have hkp:=z1D hl he
    have hall:∀q∈p::r,Op.bytesLess k q.1=true:=fun q hq=>by
     rcases List.mem_cons.1 hq with rfl | hq
     ·exact hkp
     ·exact ww hkp (h'.1 q hq)
    rw [List.filter_cons]
    cases hk:P k with
    | true=>
     simp only [if_true]
     exact (KV.put_head fun q hq=>hall q (List.mem_filter.1 hq).1).symm
    | false=>simp
theorem KV.scan_put {d:KV} (h:d.sorted) {fr to k v:List UInt8} (ht:to≠[]):(d.put k v).scan fr to=if !Op.bytesLess k fr&&Op.bytesLess k to then (d.scan fr to).put k v else d.scan fr to:=by
 rw [KV.scan_eq (KV.sorted_put d k v h) ht,KV.scan_eq h ht]
 exact KV.filter_put (fun q=>!Op.bytesLess q fr&&Op.bytesLess q to) d k v h
theorem KV.list_put {d:KV} (h:d.sorted) {p k v:List UInt8}:(d.put k v).list p=if TryzW.pfx k p then (d.list p).put k v else d.list p:=by
 rw [KV.list_eq (KV.sorted_put d k v h),KV.list_eq h]
 exact KV.filter_put (fun q=>TryzW.pfx q p) d k v h
end Go.X
end
